/- Walks. -/
import Derived.Test.YtgmkibkmcohikaaFFT
set_option linter.all false
namespace Go.R
open Go Go.Proofs
set_option linter.unusedVariables false
set_option linter.unusedSimpArgs false
set_option maxHeartbeats 8000000
/- spec.l00Source -/
def c98_h0 : ACode :=
 (.seq (.reg (.q ⟨(some 2), none, .mov (.c .undef)⟩
 .done))
 (.seq (.reg (.q ⟨(some 3), none, .mov (.t 0)⟩
 (.q ⟨(some 4), none, .mov (.t 0)⟩
 (.q ⟨(some 5), none, .len (.t 4)⟩
 (.q ⟨(some 6), none, .bin .rem (.t 5) (.c (.int .i64 1000))⟩
 (.q ⟨(some 7), none, .build [.nil, (.int .i64 0), (.int .i64 0)] [(0, 1, (.t 3)), (2, 1, (.t 6))]⟩
 (.q ⟨(some 8), none, .box 3 (.t 7)⟩
 (.q ⟨(some 2), none, .mov (.t 8)⟩
 .done))))))))
 .ret))
theorem fc98_h0 : fcomp Try.prog Try.f98 = some (c98_h0.erase, [.mov (.t 2)], 9) := by kernel_rfl
def spec_l00Source (code_1 : (List Int)) : Option GL00Src :=
    some (⟨code_1, 0, (code_1.length : Int).tmod 1000⟩ : GL00Src)
theorem w_spec_l00Source (code_1 : (List Int)) (r : GL00Src) (hf : spec_l00Source code_1 = some r) : CallHeap Try.prog true 98 [(.lst 1 (code_1.map enc_u8))] [] (.ptr 0 0 0) [.box 3 (.agg [(.lst 1 (r.Code.map enc_u8)), (.int .i64 r.At), (.int .i64 r.Seed)])] := by
  refine CallHeap.of_awp mixed Try.func98 fc98_h0 nle ?_
  rw [argT_eq]
  unfold spec_l00Source at hf
  unfold c98_h0
  refine (show awp Try.prog true 0 _ (ofL [(0, (.lst 1 (code_1.map enc_u8)))]) [] _ from ?_)
  refine awp_seq ?_
  refine w_reg ?_
  refine s_do (o_mov .undef rfl) ?_
  refine w_done ?_
  refine k_seq ?_
  refine awp_seq ?_
  refine w_reg ?_
  refine s_do (o_mov (.lst 1 (code_1.map enc_u8)) rfl) ?_
  refine s_do (o_mov (.lst 1 (code_1.map enc_u8)) rfl) ?_
  refine s_dof (o_len (enc := enc_u8) rfl) fun hl2 => ?_
  refine s_do (o_q (.int .i64 ((code_1.length : Int).tmod 1000)) rfl ⟨rfl, by decide⟩ rfl) ?_
  refine s_do (o_q (.agg [(.lst 1 (code_1.map enc_u8)), (.int .i64 0), (.int .i64 ((code_1.length : Int).tmod 1000))]) rfl ⟨⟨rfl, nle, trivial⟩, ⟨⟨rfl, nle, trivial⟩, trivial⟩⟩ rfl) ?_
  refine s_do (o_box (j := 0) (c := (.agg [(.lst 1 (code_1.map enc_u8)), (.int .i64 0), (.int .i64 ((code_1.length : Int).tmod 1000))])) rfl trivial rfl rfl) ?_
  refine s_do (o_mov (.ptr 0 0 0) rfl) ?_
  refine w_done ?_
  refine k_seq ?_
  refine w_ret ?_
  obtain rfl := os hf
  exact r_heap [] [0] rfl ⟨trivial, trivial⟩ rfl (.refl _) (.refl _)

/- (*spec.l00Src).byte -/
def c211_h0 : ACode :=
 (.seq (.reg (.q ⟨(some 2), none, .mov (.c (.int .i64 0))⟩
 .done))
 (.seq (.reg (.q ⟨(some 3), none, .mov (.t 0)⟩
 (.q ⟨(some 4), none, .nilck (.t 3)⟩
 (.q ⟨(some 5), none, .faddr 1 (.t 4)⟩
 (.q ⟨(some 6), none, .load 1 false (.t 5)⟩
 (.q ⟨(some 7), none, .bin .add (.t 6) (.c (.int .i64 1))⟩
 (.q ⟨(some 8), none, .nilck (.t 3)⟩
 (.q ⟨(some 9), none, .faddr 1 (.t 8)⟩
 (.q ⟨none, none, .store 1 (.t 9) (.t 7)⟩
 .done)))))))))
 (.seq (.seq (.reg (.q ⟨(some 10), none, .mov (.t 0)⟩
 (.q ⟨(some 11), none, .nilck (.t 10)⟩
 (.q ⟨(some 12), none, .faddr 1 (.t 11)⟩
 (.q ⟨(some 13), none, .load 1 false (.t 12)⟩
 (.q ⟨(some 14), none, .mov (.t 0)⟩
 (.q ⟨(some 15), none, .nilck (.t 14)⟩
 (.q ⟨(some 16), none, .faddr 0 (.t 15)⟩
 (.q ⟨(some 17), none, .load 1 false (.t 16)⟩
 (.q ⟨(some 18), none, .len (.t 17)⟩
 (.q ⟨(some 19), none, .bin .leq (.t 13) (.t 18)⟩
 .done)))))))))))
 (.cond (.t 19) (.seq (.reg (.q ⟨(some 20), none, .mov (.t 0)⟩
 (.q ⟨(some 21), none, .mov (.t 0)⟩
 (.q ⟨(some 22), none, .nilck (.t 21)⟩
 (.q ⟨(some 23), none, .faddr 2 (.t 22)⟩
 (.q ⟨(some 24), none, .load 1 false (.t 23)⟩
 (.q ⟨(some 25), none, .bin .mul (.t 24) (.c (.int .i64 31))⟩
 (.q ⟨(some 26), none, .mov (.t 0)⟩
 (.q ⟨(some 27), none, .nilck (.t 26)⟩
 (.q ⟨(some 28), none, .faddr 0 (.t 27)⟩
 (.q ⟨(some 29), none, .load 1 false (.t 28)⟩
 (.q ⟨(some 30), none, .mov (.t 0)⟩
 (.q ⟨(some 31), none, .nilck (.t 30)⟩
 (.q ⟨(some 32), none, .faddr 1 (.t 31)⟩
 (.q ⟨(some 33), none, .load 1 false (.t 32)⟩
 (.q ⟨(some 34), none, .bin .sub (.t 33) (.c (.int .i64 1))⟩
 (.q ⟨(some 35), none, .iaddr 1 (.t 29) (.t 34)⟩
 (.q ⟨(some 36), none, .load 1 false (.t 35)⟩
 (.q ⟨(some 37), none, .convI .i64 (.t 36)⟩
 (.q ⟨(some 38), none, .bin .add (.t 25) (.t 37)⟩
 (.q ⟨(some 39), none, .bin .add (.t 38) (.c (.int .i64 7))⟩
 (.q ⟨(some 40), none, .bin .rem (.t 39) (.c (.int .i64 2147483648))⟩
 (.q ⟨(some 41), none, .nilck (.t 20)⟩
 (.q ⟨(some 42), none, .faddr 2 (.t 41)⟩
 (.l ⟨none, none, .store 1 (.t 42) (.t 40)⟩ []
 .done .non)))))))))))))))))))))))))
 (.seq (.reg (.q ⟨(some 43), none, .mov (.t 0)⟩
 (.q ⟨(some 44), none, .nilck (.t 43)⟩
 (.q ⟨(some 45), none, .faddr 0 (.t 44)⟩
 (.q ⟨(some 46), none, .load 1 false (.t 45)⟩
 (.q ⟨(some 47), none, .mov (.t 0)⟩
 (.q ⟨(some 48), none, .nilck (.t 47)⟩
 (.q ⟨(some 49), none, .faddr 1 (.t 48)⟩
 (.q ⟨(some 50), none, .load 1 false (.t 49)⟩
 (.q ⟨(some 51), none, .bin .sub (.t 50) (.c (.int .i64 1))⟩
 (.q ⟨(some 52), none, .iaddr 1 (.t 46) (.t 51)⟩
 (.q ⟨(some 53), none, .load 1 false (.t 52)⟩
 (.q ⟨(some 54), none, .convI .i64 (.t 53)⟩
 (.q ⟨(some 2), none, .mov (.t 54)⟩
 .done))))))))))))))
 .ret))
 .skip))
 (.seq (.seq (.reg (.q ⟨(some 55), none, .mov (.t 0)⟩
 (.q ⟨(some 56), none, .nilck (.t 55)⟩
 (.q ⟨(some 57), none, .faddr 1 (.t 56)⟩
 (.q ⟨(some 58), none, .load 1 false (.t 57)⟩
 (.q ⟨(some 59), none, .bin .gtr (.t 58) (.c (.int .i64 3000))⟩
 .done))))))
 (.cond (.t 59) (.seq (.reg (.q ⟨(some 2), none, .mov (.c (.int .i64 0))⟩
 .done))
 .ret)
 .skip))
 (.seq (.reg (.q ⟨(some 60), none, .mov (.t 0)⟩
 (.q ⟨(some 61), none, .mov (.t 0)⟩
 (.q ⟨(some 62), none, .nilck (.t 61)⟩
 (.q ⟨(some 63), none, .faddr 2 (.t 62)⟩
 (.q ⟨(some 64), none, .load 1 false (.t 63)⟩
 (.q ⟨(some 65), none, .bin .mul (.t 64) (.c (.int .i64 1103515245))⟩
 (.q ⟨(some 66), none, .bin .add (.t 65) (.c (.int .i64 12345))⟩
 (.q ⟨(some 67), none, .bin .rem (.t 66) (.c (.int .i64 2147483648))⟩
 (.q ⟨(some 68), none, .nilck (.t 60)⟩
 (.q ⟨(some 69), none, .faddr 2 (.t 68)⟩
 (.q ⟨none, none, .store 1 (.t 69) (.t 67)⟩
 .done))))))))))))
 (.seq (.reg (.q ⟨(some 70), none, .mov (.t 0)⟩
 (.q ⟨(some 71), none, .nilck (.t 70)⟩
 (.q ⟨(some 72), none, .faddr 2 (.t 71)⟩
 (.q ⟨(some 73), none, .load 1 false (.t 72)⟩
 (.q ⟨(some 74), none, .bin .quo (.t 73) (.c (.int .i64 65536))⟩
 (.q ⟨(some 75), none, .bin .rem (.t 74) (.c (.int .i64 256))⟩
 (.q ⟨(some 2), none, .mov (.t 75)⟩
 .done))))))))
 .ret))))))
theorem fc211_h0 : fcomp Try.prog Try.f211 = some (c211_h0.erase, [.mov (.t 2)], 76) := by kernel_rfl
def spec_l00Src_byte (s_1 : GL00Src) : Option (Int × GL00Src) :=
    if (decide (w64 (s_1.At + 1) ≤ (s_1.Code.length : Int))) then
    (idx s_1.Code (w64 ((w64 (s_1.At + 1)) - 1))).bind fun x_4 =>
    (idx s_1.Code (w64 ((w64 (s_1.At + 1)) - 1))).bind fun x_6 =>
    some (w64 x_6, (⟨s_1.Code, w64 (s_1.At + 1), (w64 ((w64 ((w64 (s_1.Seed * 31)) + (w64 x_4))) + 7)).tmod 2147483648⟩ : GL00Src))
    else
    if (decide (w64 (s_1.At + 1) > 3000)) then
    some (0, (⟨s_1.Code, w64 (s_1.At + 1), s_1.Seed⟩ : GL00Src))
    else
    some ((w64 (((w64 ((w64 (s_1.Seed * 1103515245)) + 12345)).tmod 2147483648).tdiv 65536)).tmod 256, (⟨s_1.Code, w64 (s_1.At + 1), (w64 ((w64 (s_1.Seed * 1103515245)) + 12345)).tmod 2147483648⟩ : GL00Src))
theorem w_spec_l00Src_byte (s_1 : GL00Src) (r : (Int × GL00Src)) (hf : spec_l00Src_byte s_1 = some r) : CallHeap Try.prog true 211 [(.ptr 0 0 0)] [.box 3 (.agg [(.lst 1 (s_1.Code.map enc_u8)), (.int .i64 s_1.At), (.int .i64 s_1.Seed)])] (.int .i64 r.1) [.box 3 (.agg [(.lst 1 (r.2.Code.map enc_u8)), (.int .i64 r.2.At), (.int .i64 r.2.Seed)])] := by
  refine CallHeap.of_awp mixed Try.func211 fc211_h0 nle ?_
  rw [argT_eq]
  unfold spec_l00Src_byte at hf
  unfold c211_h0
  refine (show awp Try.prog true 1 _ (ofL [(0, (.ptr 0 0 0))]) [.box 3 (.agg [(.lst 1 (s_1.Code.map enc_u8)), (.int .i64 s_1.At), (.int .i64 s_1.Seed)])] _ from ?_)
  refine awp_seq ?_
  refine w_reg ?_
  refine s_do (o_mov (.int .i64 0) rfl) ?_
  refine w_done ?_
  refine k_seq ?_
  refine awp_seq ?_
  refine w_reg ?_
  refine s_do (o_mov (.ptr 0 0 0) rfl) ?_
  refine s_do (o_q (.ptr 0 0 0) rfl trivial rfl) ?_
  refine s_do (o_q (.ptr 0 0 1) rfl trivial rfl) ?_
  refine s_do (o_q (.int .i64 s_1.At) rfl nle rfl) ?_
  refine s_do (o_q (.int .i64 (w64 (s_1.At + 1))) rfl rfl rfl) ?_
  refine s_do (o_q (.ptr 0 0 0) rfl trivial rfl) ?_
  refine s_do (o_q (.ptr 0 0 1) rfl trivial rfl) ?_
  refine s_do0 (o_storebox (v := (.int .i64 (w64 (s_1.At + 1)))) (y' := (.agg [(.lst 1 (s_1.Code.map enc_u8)), (.int .i64 (w64 (s_1.At + 1))), (.int .i64 s_1.Seed)])) rfl rfl rfl trivial ⟨rfl, nle⟩ ⟨⟨rfl, trivial⟩, trivial⟩ rfl) ?_
  refine w_done ?_
  refine k_seq ?_
  refine awp_seq ?_
  refine awp_seq ?_
  refine w_reg ?_
  refine s_do (o_mov (.ptr 0 0 0) rfl) ?_
  refine s_do (o_q (.ptr 0 0 0) rfl trivial rfl) ?_
  refine s_do (o_q (.ptr 0 0 1) rfl trivial rfl) ?_
  refine s_do (o_q (.int .i64 (w64 (s_1.At + 1))) rfl nle rfl) ?_
  refine s_do (o_mov (.ptr 0 0 0) rfl) ?_
  refine s_do (o_q (.ptr 0 0 0) rfl trivial rfl) ?_
  refine s_do (o_q (.ptr 0 0 0) rfl trivial rfl) ?_
  refine s_do (o_q (.lst 1 (s_1.Code.map enc_u8)) rfl nle rfl) ?_
  refine s_dof (o_len (enc := enc_u8) rfl) fun hl2 => ?_
  refine s_do (o_q (.bool (decide (w64 (s_1.At + 1) ≤ (s_1.Code.length : Int)))) rfl rfl rfl) ?_
  refine w_done ?_
  refine k_seq ?_
  rcases oi hf with ⟨c3, hf⟩ | ⟨c3, hf⟩
  · refine w_condt rfl c3 ?_
    refine awp_seq ?_
    refine w_reg ?_
    refine s_do (o_mov (.ptr 0 0 0) rfl) ?_
    refine s_do (o_mov (.ptr 0 0 0) rfl) ?_
    refine s_do (o_q (.ptr 0 0 0) rfl trivial rfl) ?_
    refine s_do (o_q (.ptr 0 0 2) rfl trivial rfl) ?_
    refine s_do (o_q (.int .i64 s_1.Seed) rfl nle rfl) ?_
    refine s_do (o_q (.int .i64 (w64 (s_1.Seed * 31))) rfl rfl rfl) ?_
    refine s_do (o_mov (.ptr 0 0 0) rfl) ?_
    refine s_do (o_q (.ptr 0 0 0) rfl trivial rfl) ?_
    refine s_do (o_q (.ptr 0 0 0) rfl trivial rfl) ?_
    refine s_do (o_q (.lst 1 (s_1.Code.map enc_u8)) rfl nle rfl) ?_
    refine s_do (o_mov (.ptr 0 0 0) rfl) ?_
    refine s_do (o_q (.ptr 0 0 0) rfl trivial rfl) ?_
    refine s_do (o_q (.ptr 0 0 1) rfl trivial rfl) ?_
    refine s_do (o_q (.int .i64 (w64 (s_1.At + 1))) rfl nle rfl) ?_
    refine s_do (o_q (.int .i64 (w64 ((w64 (s_1.At + 1)) - 1))) rfl rfl rfl) ?_
    obtain ⟨x_4, ex5, hf⟩ := ob hf
    refine s_do (o_iaddr (enc := enc_u8) rfl rfl (idx0 ex5) (idx1 ex5)) ?_
    refine s_do (o_q (.int .u8 x_4) rfl ⟨rfl, rfl⟩ rfl) ?_
    refine s_do (o_q (.int .i64 (w64 x_4)) rfl trivial rfl) ?_
    refine s_do (o_q (.int .i64 (w64 ((w64 (s_1.Seed * 31)) + (w64 x_4)))) rfl rfl rfl) ?_
    refine s_do (o_q (.int .i64 (w64 ((w64 ((w64 (s_1.Seed * 31)) + (w64 x_4))) + 7))) rfl rfl rfl) ?_
    refine s_do (o_q (.int .i64 ((w64 ((w64 ((w64 (s_1.Seed * 31)) + (w64 x_4))) + 7)).tmod 2147483648)) rfl ⟨rfl, by decide⟩ rfl) ?_
    refine s_do (o_q (.ptr 0 0 0) rfl trivial rfl) ?_
    refine s_do (o_q (.ptr 0 0 2) rfl trivial rfl) ?_
    refine s_dol0 (o_storebox (v := (.int .i64 ((w64 ((w64 ((w64 (s_1.Seed * 31)) + (w64 x_4))) + 7)).tmod 2147483648))) (y' := (.agg [(.lst 1 (s_1.Code.map enc_u8)), (.int .i64 (w64 (s_1.At + 1))), (.int .i64 ((w64 ((w64 ((w64 (s_1.Seed * 31)) + (w64 x_4))) + 7)).tmod 2147483648))])) rfl rfl rfl trivial ⟨rfl, nle⟩ ⟨⟨rfl, trivial⟩, trivial⟩ rfl) trivial trivial ?_
    refine w_done ?_
    refine k_seq ?_
    refine awp_seq ?_
    refine w_reg ?_
    refine s_do (o_mov (.ptr 0 0 0) rfl) ?_
    refine s_do (o_q (.ptr 0 0 0) rfl trivial rfl) ?_
    refine s_do (o_q (.ptr 0 0 0) rfl trivial rfl) ?_
    refine s_do (o_q (.lst 1 (s_1.Code.map enc_u8)) rfl nle rfl) ?_
    refine s_do (o_mov (.ptr 0 0 0) rfl) ?_
    refine s_do (o_q (.ptr 0 0 0) rfl trivial rfl) ?_
    refine s_do (o_q (.ptr 0 0 1) rfl trivial rfl) ?_
    refine s_do (o_q (.int .i64 (w64 (s_1.At + 1))) rfl nle rfl) ?_
    refine s_do (o_q (.int .i64 (w64 ((w64 (s_1.At + 1)) - 1))) rfl rfl rfl) ?_
    obtain ⟨x_6, ex7, hf⟩ := ob hf
    refine s_do (o_iaddr (enc := enc_u8) rfl rfl (idx0 ex7) (idx1 ex7)) ?_
    refine s_do (o_q (.int .u8 x_6) rfl ⟨rfl, rfl⟩ rfl) ?_
    refine s_do (o_q (.int .i64 (w64 x_6)) rfl trivial rfl) ?_
    refine s_do (o_mov (.int .i64 (w64 x_6)) rfl) ?_
    refine w_done ?_
    refine k_seq ?_
    refine w_ret ?_
    obtain rfl := os hf
    exact r_heap [] [0] rfl ⟨trivial, trivial⟩ rfl (.refl _) (.refl _)
  · refine w_condf rfl (bf c3) ?_
    refine w_skip ?_
    refine k_seq ?_
    refine awp_seq ?_
    refine awp_seq ?_
    refine w_reg ?_
    refine s_do (o_mov (.ptr 0 0 0) rfl) ?_
    refine s_do (o_q (.ptr 0 0 0) rfl trivial rfl) ?_
    refine s_do (o_q (.ptr 0 0 1) rfl trivial rfl) ?_
    refine s_do (o_q (.int .i64 (w64 (s_1.At + 1))) rfl nle rfl) ?_
    refine s_do (o_q (.bool (decide (w64 (s_1.At + 1) > 3000))) rfl rfl rfl) ?_
    refine w_done ?_
    refine k_seq ?_
    rcases oi hf with ⟨c8, hf⟩ | ⟨c8, hf⟩
    · refine w_condt rfl c8 ?_
      refine awp_seq ?_
      refine w_reg ?_
      refine s_do (o_mov (.int .i64 0) rfl) ?_
      refine w_done ?_
      refine k_seq ?_
      refine w_ret ?_
      obtain rfl := os hf
      exact r_heap [] [0] rfl ⟨trivial, trivial⟩ rfl (.refl _) (.refl _)
    · refine w_condf rfl (bf c8) ?_
      refine w_skip ?_
      refine k_seq ?_
      refine awp_seq ?_
      refine w_reg ?_
      refine s_do (o_mov (.ptr 0 0 0) rfl) ?_
      refine s_do (o_mov (.ptr 0 0 0) rfl) ?_
      refine s_do (o_q (.ptr 0 0 0) rfl trivial rfl) ?_
      refine s_do (o_q (.ptr 0 0 2) rfl trivial rfl) ?_
      refine s_do (o_q (.int .i64 s_1.Seed) rfl nle rfl) ?_
      refine s_do (o_q (.int .i64 (w64 (s_1.Seed * 1103515245))) rfl rfl rfl) ?_
      refine s_do (o_q (.int .i64 (w64 ((w64 (s_1.Seed * 1103515245)) + 12345))) rfl rfl rfl) ?_
      refine s_do (o_q (.int .i64 ((w64 ((w64 (s_1.Seed * 1103515245)) + 12345)).tmod 2147483648)) rfl ⟨rfl, by decide⟩ rfl) ?_
      refine s_do (o_q (.ptr 0 0 0) rfl trivial rfl) ?_
      refine s_do (o_q (.ptr 0 0 2) rfl trivial rfl) ?_
      refine s_do0 (o_storebox (v := (.int .i64 ((w64 ((w64 (s_1.Seed * 1103515245)) + 12345)).tmod 2147483648))) (y' := (.agg [(.lst 1 (s_1.Code.map enc_u8)), (.int .i64 (w64 (s_1.At + 1))), (.int .i64 ((w64 ((w64 (s_1.Seed * 1103515245)) + 12345)).tmod 2147483648))])) rfl rfl rfl trivial ⟨rfl, nle⟩ ⟨⟨rfl, trivial⟩, trivial⟩ rfl) ?_
      refine w_done ?_
      refine k_seq ?_
      refine awp_seq ?_
      refine w_reg ?_
      refine s_do (o_mov (.ptr 0 0 0) rfl) ?_
      refine s_do (o_q (.ptr 0 0 0) rfl trivial rfl) ?_
      refine s_do (o_q (.ptr 0 0 2) rfl trivial rfl) ?_
      refine s_do (o_q (.int .i64 ((w64 ((w64 (s_1.Seed * 1103515245)) + 12345)).tmod 2147483648)) rfl nle rfl) ?_
      refine s_do (o_q (.int .i64 (w64 (((w64 ((w64 (s_1.Seed * 1103515245)) + 12345)).tmod 2147483648).tdiv 65536))) rfl ⟨rfl, by decide⟩ rfl) ?_
      refine s_do (o_q (.int .i64 ((w64 (((w64 ((w64 (s_1.Seed * 1103515245)) + 12345)).tmod 2147483648).tdiv 65536)).tmod 256)) rfl ⟨rfl, by decide⟩ rfl) ?_
      refine s_do (o_mov (.int .i64 ((w64 (((w64 ((w64 (s_1.Seed * 1103515245)) + 12345)).tmod 2147483648).tdiv 65536)).tmod 256)) rfl) ?_
      refine w_done ?_
      refine k_seq ?_
      refine w_ret ?_
      obtain rfl := os hf
      exact r_heap [] [0] rfl ⟨trivial, trivial⟩ rfl (.refl _) (.refl _)

/- (*spec.l00Src).next -/
def c161_h0 : ACode :=
 (.seq (.reg (.q ⟨(some 4), none, .mov (.c (.int .i64 0))⟩
 .done))
 (.seq (.seq (.reg (.q ⟨(some 8), none, .mov (.t 1)⟩
 (.q ⟨(some 9), none, .bin .leq (.t 8) (.c (.int .i64 1))⟩
 .done)))
 (.cond (.t 9) (.seq (.reg (.q ⟨(some 4), none, .mov (.c (.int .i64 0))⟩
 .done))
 .ret)
 .skip))
 (.seq (.seq (.reg (.q ⟨(some 10), none, .mov (.t 1)⟩
 (.q ⟨(some 11), none, .bin .leq (.t 10) (.c (.int .i64 256))⟩
 .done)))
 (.cond (.t 11) (.seq (.reg (.q ⟨(some 12), none, .mov (.t 0)⟩
 (.q ⟨(some 13), none, .call 211 [(.t 12)]⟩
 (.q ⟨(some 14), none, .mov (.t 1)⟩
 (.q ⟨(some 15), none, .bin .rem (.t 13) (.t 14)⟩
 (.q ⟨(some 4), none, .mov (.t 15)⟩
 .done))))))
 .ret)
 .skip))
 (.seq (.reg (.q ⟨(some 16), none, .mov (.t 0)⟩
 (.q ⟨(some 17), none, .call 211 [(.t 16)]⟩
 (.q ⟨(some 5), none, .mov (.t 17)⟩
 .done))))
 (.seq (.reg (.q ⟨(some 18), none, .mov (.t 0)⟩
 (.q ⟨(some 19), none, .call 211 [(.t 18)]⟩
 (.q ⟨(some 6), none, .mov (.t 19)⟩
 .done))))
 (.seq (.reg (.q ⟨(some 20), none, .mov (.t 0)⟩
 (.q ⟨(some 21), none, .call 211 [(.t 20)]⟩
 (.q ⟨(some 7), none, .mov (.t 21)⟩
 .done))))
 (.seq (.reg (.q ⟨(some 22), none, .mov (.t 5)⟩
 (.q ⟨(some 23), none, .bin .mul (.t 22) (.c (.int .i64 65536))⟩
 (.q ⟨(some 24), none, .mov (.t 6)⟩
 (.q ⟨(some 25), none, .bin .mul (.t 24) (.c (.int .i64 256))⟩
 (.q ⟨(some 26), none, .bin .add (.t 23) (.t 25)⟩
 (.q ⟨(some 27), none, .mov (.t 7)⟩
 (.q ⟨(some 28), none, .bin .add (.t 26) (.t 27)⟩
 (.q ⟨(some 29), none, .mov (.t 1)⟩
 (.q ⟨(some 30), none, .bin .rem (.t 28) (.t 29)⟩
 (.q ⟨(some 4), none, .mov (.t 30)⟩
 .done)))))))))))
 .ret)))))))
theorem fc161_h0 : fcomp Try.prog Try.f161 = some (c161_h0.erase, [.mov (.t 4)], 31) := by kernel_rfl
def spec_l00Src_next (n_1 : Int) (s_2 : GL00Src) : Option (Int × GL00Src) :=
    if (decide (n_1 ≤ 1)) then
    some (0, s_2)
    else
    if (decide (n_1 ≤ 256)) then
    (spec_l00Src_byte s_2).bind fun r_5 =>
    if n_1 ≠ 0 then
    some (r_5.1.tmod n_1, r_5.2)
    else none
    else
    (spec_l00Src_byte s_2).bind fun r_8 =>
    (spec_l00Src_byte r_8.2).bind fun r_10 =>
    (spec_l00Src_byte r_10.2).bind fun r_12 =>
    if n_1 ≠ 0 then
    some ((w64 ((w64 ((w64 (r_8.1 * 65536)) + (w64 (r_10.1 * 256)))) + r_12.1)).tmod n_1, r_12.2)
    else none
theorem w_spec_l00Src_next (n_1 : Int) (s_2 : GL00Src) (r : (Int × GL00Src)) (hf : spec_l00Src_next n_1 s_2 = some r) : CallHeap Try.prog true 161 [(.ptr 0 0 0), (.int .i64 n_1)] [.box 3 (.agg [(.lst 1 (s_2.Code.map enc_u8)), (.int .i64 s_2.At), (.int .i64 s_2.Seed)])] (.int .i64 r.1) [.box 3 (.agg [(.lst 1 (r.2.Code.map enc_u8)), (.int .i64 r.2.At), (.int .i64 r.2.Seed)])] := by
  refine CallHeap.of_awp mixed Try.func161 fc161_h0 nle ?_
  rw [argT_eq]
  unfold spec_l00Src_next at hf
  unfold c161_h0
  refine (show awp Try.prog true 1 _ (ofL [(0, (.ptr 0 0 0)), (1, (.int .i64 n_1))]) [.box 3 (.agg [(.lst 1 (s_2.Code.map enc_u8)), (.int .i64 s_2.At), (.int .i64 s_2.Seed)])] _ from ?_)
  refine awp_seq ?_
  refine w_reg ?_
  refine s_do (o_mov (.int .i64 0) rfl) ?_
  refine w_done ?_
  refine k_seq ?_
  refine awp_seq ?_
  refine awp_seq ?_
  refine w_reg ?_
  refine s_do (o_mov (.int .i64 n_1) rfl) ?_
  refine s_do (o_q (.bool (decide (n_1 ≤ 1))) rfl rfl rfl) ?_
  refine w_done ?_
  refine k_seq ?_
  rcases oi hf with ⟨c3, hf⟩ | ⟨c3, hf⟩
  · refine w_condt rfl c3 ?_
    refine awp_seq ?_
    refine w_reg ?_
    refine s_do (o_mov (.int .i64 0) rfl) ?_
    refine w_done ?_
    refine k_seq ?_
    refine w_ret ?_
    obtain rfl := os hf
    exact r_heap [] [0] rfl ⟨trivial, trivial⟩ rfl (.refl _) (.refl _)
  · refine w_condf rfl (bf c3) ?_
    refine w_skip ?_
    refine k_seq ?_
    refine awp_seq ?_
    refine awp_seq ?_
    refine w_reg ?_
    refine s_do (o_mov (.int .i64 n_1) rfl) ?_
    refine s_do (o_q (.bool (decide (n_1 ≤ 256))) rfl rfl rfl) ?_
    refine w_done ?_
    refine k_seq ?_
    rcases oi hf with ⟨c4, hf⟩ | ⟨c4, hf⟩
    · refine w_condt rfl c4 ?_
      refine awp_seq ?_
      refine w_reg ?_
      obtain ⟨r_5, er6, hf⟩ := ob hf
      obtain ⟨g7, hf⟩ := og hf
      refine s_do (o_mov (.ptr 0 0 0) rfl) ?_
      refine s_do (o_callh (v := (.int .i64 r_5.1)) (h2 := [.box 3 (.agg [(.lst 1 (r_5.2.Code.map enc_u8)), (.int .i64 r_5.2.At), (.int .i64 r_5.2.Seed)])]) [] [0] (w_spec_l00Src_byte _ _ er6) rfl (.refl _) (.refl _) rfl rfl) ?_
      refine s_do (o_mov (.int .i64 n_1) rfl) ?_
      refine s_do (o_q (.int .i64 (r_5.1.tmod n_1)) rfl ⟨rfl, g7⟩ rfl) ?_
      refine s_do (o_mov (.int .i64 (r_5.1.tmod n_1)) rfl) ?_
      refine w_done ?_
      refine k_seq ?_
      refine w_ret ?_
      obtain rfl := os hf
      exact r_heap [] [0] rfl ⟨trivial, trivial⟩ rfl (.refl _) (.refl _)
    · refine w_condf rfl (bf c4) ?_
      refine w_skip ?_
      refine k_seq ?_
      refine awp_seq ?_
      refine w_reg ?_
      obtain ⟨r_8, er9, hf⟩ := ob hf
      refine s_do (o_mov (.ptr 0 0 0) rfl) ?_
      refine s_do (o_callh (v := (.int .i64 r_8.1)) (h2 := [.box 3 (.agg [(.lst 1 (r_8.2.Code.map enc_u8)), (.int .i64 r_8.2.At), (.int .i64 r_8.2.Seed)])]) [] [0] (w_spec_l00Src_byte _ _ er9) rfl (.refl _) (.refl _) rfl rfl) ?_
      refine s_do (o_mov (.int .i64 r_8.1) rfl) ?_
      refine w_done ?_
      refine k_seq ?_
      refine awp_seq ?_
      refine w_reg ?_
      obtain ⟨r_10, er11, hf⟩ := ob hf
      refine s_do (o_mov (.ptr 0 0 0) rfl) ?_
      refine s_do (o_callh (v := (.int .i64 r_10.1)) (h2 := [.box 3 (.agg [(.lst 1 (r_10.2.Code.map enc_u8)), (.int .i64 r_10.2.At), (.int .i64 r_10.2.Seed)])]) [] [0] (w_spec_l00Src_byte _ _ er11) rfl (.refl _) (.refl _) rfl rfl) ?_
      refine s_do (o_mov (.int .i64 r_10.1) rfl) ?_
      refine w_done ?_
      refine k_seq ?_
      refine awp_seq ?_
      refine w_reg ?_
      obtain ⟨r_12, er13, hf⟩ := ob hf
      refine s_do (o_mov (.ptr 0 0 0) rfl) ?_
      refine s_do (o_callh (v := (.int .i64 r_12.1)) (h2 := [.box 3 (.agg [(.lst 1 (r_12.2.Code.map enc_u8)), (.int .i64 r_12.2.At), (.int .i64 r_12.2.Seed)])]) [] [0] (w_spec_l00Src_byte _ _ er13) rfl (.refl _) (.refl _) rfl rfl) ?_
      refine s_do (o_mov (.int .i64 r_12.1) rfl) ?_
      refine w_done ?_
      refine k_seq ?_
      refine awp_seq ?_
      refine w_reg ?_
      obtain ⟨g14, hf⟩ := og hf
      refine s_do (o_mov (.int .i64 r_8.1) rfl) ?_
      refine s_do (o_q (.int .i64 (w64 (r_8.1 * 65536))) rfl rfl rfl) ?_
      refine s_do (o_mov (.int .i64 r_10.1) rfl) ?_
      refine s_do (o_q (.int .i64 (w64 (r_10.1 * 256))) rfl rfl rfl) ?_
      refine s_do (o_q (.int .i64 (w64 ((w64 (r_8.1 * 65536)) + (w64 (r_10.1 * 256))))) rfl rfl rfl) ?_
      refine s_do (o_mov (.int .i64 r_12.1) rfl) ?_
      refine s_do (o_q (.int .i64 (w64 ((w64 ((w64 (r_8.1 * 65536)) + (w64 (r_10.1 * 256)))) + r_12.1))) rfl rfl rfl) ?_
      refine s_do (o_mov (.int .i64 n_1) rfl) ?_
      refine s_do (o_q (.int .i64 ((w64 ((w64 ((w64 (r_8.1 * 65536)) + (w64 (r_10.1 * 256)))) + r_12.1)).tmod n_1)) rfl ⟨rfl, g14⟩ rfl) ?_
      refine s_do (o_mov (.int .i64 ((w64 ((w64 ((w64 (r_8.1 * 65536)) + (w64 (r_10.1 * 256)))) + r_12.1)).tmod n_1)) rfl) ?_
      refine w_done ?_
      refine k_seq ?_
      refine w_ret ?_
      obtain rfl := os hf
      exact r_heap [] [0] rfl ⟨trivial, trivial⟩ rfl (.refl _) (.refl _)

/- (*spec.l00Src).pick -/
def c184_h0 : ACode :=
 (.seq (.reg (.q ⟨(some 4), none, .mov (.c (.str []))⟩
 .done))
 (.seq (.seq (.reg (.q ⟨(some 5), none, .mov (.t 1)⟩
 (.q ⟨(some 6), none, .len (.t 5)⟩
 (.q ⟨(some 7), none, .bin .eql (.t 6) (.c (.int .i64 0))⟩
 .done))))
 (.cond (.t 7) (.seq (.reg (.q ⟨(some 4), none, .mov (.c (.str []))⟩
 .done))
 .ret)
 .skip))
 (.seq (.reg (.q ⟨(some 8), none, .mov (.t 1)⟩
 (.q ⟨(some 9), none, .mov (.t 0)⟩
 (.q ⟨(some 10), none, .mov (.t 1)⟩
 (.q ⟨(some 11), none, .len (.t 10)⟩
 (.q ⟨(some 12), none, .call 161 [(.t 9), (.t 11)]⟩
 (.q ⟨(some 13), none, .iaddr 1 (.t 8) (.t 12)⟩
 (.q ⟨(some 14), none, .load 1 false (.t 13)⟩
 (.q ⟨(some 4), none, .mov (.t 14)⟩
 .done)))))))))
 .ret)))
theorem fc184_h0 : fcomp Try.prog Try.f184 = some (c184_h0.erase, [.mov (.t 4)], 15) := by kernel_rfl
def spec_l00Src_pick (list_1 : (List Str)) (s_2 : GL00Src) : Option (Str × GL00Src) :=
    if ((list_1.length : Int) == 0) then
    some ([], s_2)
    else
    (spec_l00Src_next (list_1.length : Int) s_2).bind fun r_6 =>
    (idx list_1 r_6.1).bind fun x_8 =>
    some (x_8, r_6.2)
theorem w_spec_l00Src_pick (list_1 : (List Str)) (s_2 : GL00Src) (r : (Str × GL00Src)) (hf : spec_l00Src_pick list_1 s_2 = some r) : CallHeap Try.prog true 184 [(.ptr 0 0 0), (.lst 1 (list_1.map AV.str))] [.box 3 (.agg [(.lst 1 (s_2.Code.map enc_u8)), (.int .i64 s_2.At), (.int .i64 s_2.Seed)])] (.str r.1) [.box 3 (.agg [(.lst 1 (r.2.Code.map enc_u8)), (.int .i64 r.2.At), (.int .i64 r.2.Seed)])] := by
  refine CallHeap.of_awp mixed Try.func184 fc184_h0 nle ?_
  rw [argT_eq]
  unfold spec_l00Src_pick at hf
  unfold c184_h0
  refine (show awp Try.prog true 1 _ (ofL [(0, (.ptr 0 0 0)), (1, (.lst 1 (list_1.map AV.str)))]) [.box 3 (.agg [(.lst 1 (s_2.Code.map enc_u8)), (.int .i64 s_2.At), (.int .i64 s_2.Seed)])] _ from ?_)
  refine awp_seq ?_
  refine w_reg ?_
  refine s_do (o_mov (.str []) rfl) ?_
  refine w_done ?_
  refine k_seq ?_
  refine awp_seq ?_
  refine awp_seq ?_
  refine w_reg ?_
  refine s_do (o_mov (.lst 1 (list_1.map AV.str)) rfl) ?_
  refine s_dof (o_len (enc := AV.str) rfl) fun hl3 => ?_
  refine s_do (o_q (.bool ((list_1.length : Int) == 0)) rfl rfl rfl) ?_
  refine w_done ?_
  refine k_seq ?_
  rcases oi hf with ⟨c4, hf⟩ | ⟨c4, hf⟩
  · refine w_condt rfl c4 ?_
    refine awp_seq ?_
    refine w_reg ?_
    refine s_do (o_mov (.str []) rfl) ?_
    refine w_done ?_
    refine k_seq ?_
    refine w_ret ?_
    obtain rfl := os hf
    exact r_heap [] [0] rfl ⟨trivial, trivial⟩ rfl (.refl _) (.refl _)
  · refine w_condf rfl (bf c4) ?_
    refine w_skip ?_
    refine k_seq ?_
    refine awp_seq ?_
    refine w_reg ?_
    obtain ⟨r_6, er7, hf⟩ := ob hf
    obtain ⟨x_8, ex9, hf⟩ := ob hf
    refine s_do (o_mov (.lst 1 (list_1.map AV.str)) rfl) ?_
    refine s_do (o_mov (.ptr 0 0 0) rfl) ?_
    refine s_do (o_mov (.lst 1 (list_1.map AV.str)) rfl) ?_
    refine s_dof (o_len (enc := AV.str) rfl) fun hl5 => ?_
    refine s_do (o_callh (v := (.int .i64 r_6.1)) (h2 := [.box 3 (.agg [(.lst 1 (r_6.2.Code.map enc_u8)), (.int .i64 r_6.2.At), (.int .i64 r_6.2.Seed)])]) [] [0] (w_spec_l00Src_next _ _ _ er7) rfl (.refl _) (.refl _) rfl rfl) ?_
    refine s_do (o_iaddr (enc := AV.str) rfl rfl (idx0 ex9) (idx1 ex9)) ?_
    refine s_do (o_q (.str x_8) rfl ⟨rfl, rfl⟩ rfl) ?_
    refine s_do (o_mov (.str x_8) rfl) ?_
    refine w_done ?_
    refine k_seq ?_
    refine w_ret ?_
    obtain rfl := os hf
    exact r_heap [] [0] rfl ⟨trivial, trivial⟩ rfl (.refl _) (.refl _)

/- (*spec.l00Src).jsText -/
def c162_h0 : ACode :=
 (.seq (.reg (.q ⟨(some 2), none, .mov (.c (.str []))⟩
 .done))
 (.seq (.reg (.q ⟨(some 3), none, .mov (.t 0)⟩
 (.q ⟨(some 4), none, .bslice 1 [(.c (.str [])), (.c (.str [97])), (.c (.str [98])), (.c (.str [107])), (.c (.str [116, 119, 111, 32, 119, 111, 114, 100, 115])), (.c (.str [113, 34, 113])), (.c (.str [98, 92, 98])), (.c (.str [122, 122]))]⟩
 (.q ⟨(some 5), none, .call 184 [(.t 3), (.t 4)]⟩
 (.q ⟨(some 2), none, .mov (.t 5)⟩
 .done)))))
 .ret))
theorem fc162_h0 : fcomp Try.prog Try.f162 = some (c162_h0.erase, [.mov (.t 2)], 6) := by kernel_rfl
def spec_l00Src_jsText (s_1 : GL00Src) : Option (Str × GL00Src) :=
    (spec_l00Src_pick [[], [97], [98], [107], [116, 119, 111, 32, 119, 111, 114, 100, 115], [113, 34, 113], [98, 92, 98], [122, 122]] s_1).bind fun r_2 =>
    some (r_2.1, r_2.2)
theorem w_spec_l00Src_jsText (s_1 : GL00Src) (r : (Str × GL00Src)) (hf : spec_l00Src_jsText s_1 = some r) : CallHeap Try.prog true 162 [(.ptr 0 0 0)] [.box 3 (.agg [(.lst 1 (s_1.Code.map enc_u8)), (.int .i64 s_1.At), (.int .i64 s_1.Seed)])] (.str r.1) [.box 3 (.agg [(.lst 1 (r.2.Code.map enc_u8)), (.int .i64 r.2.At), (.int .i64 r.2.Seed)])] := by
  refine CallHeap.of_awp mixed Try.func162 fc162_h0 nle ?_
  rw [argT_eq]
  unfold spec_l00Src_jsText at hf
  unfold c162_h0
  refine (show awp Try.prog true 1 _ (ofL [(0, (.ptr 0 0 0))]) [.box 3 (.agg [(.lst 1 (s_1.Code.map enc_u8)), (.int .i64 s_1.At), (.int .i64 s_1.Seed)])] _ from ?_)
  refine awp_seq ?_
  refine w_reg ?_
  refine s_do (o_mov (.str []) rfl) ?_
  refine w_done ?_
  refine k_seq ?_
  refine awp_seq ?_
  refine w_reg ?_
  obtain ⟨r_2, er3, hf⟩ := ob hf
  refine s_do (o_mov (.ptr 0 0 0) rfl) ?_
  refine s_do (o_bslice (j := 1) (as' := [(.str []), (.str [97]), (.str [98]), (.str [107]), (.str [116, 119, 111, 32, 119, 111, 114, 100, 115]), (.str [113, 34, 113]), (.str [98, 92, 98]), (.str [122, 122])]) rfl (fun _ => by decide) ⟨rfl, ⟨rfl, ⟨rfl, ⟨rfl, ⟨rfl, ⟨rfl, ⟨rfl, ⟨rfl, trivial⟩⟩⟩⟩⟩⟩⟩⟩ (.refl _) rfl rfl rfl) ?_
  refine s_do (o_callh (v := (.str r_2.1)) (h2 := [.box 3 (.agg [(.lst 1 (r_2.2.Code.map enc_u8)), (.int .i64 r_2.2.At), (.int .i64 r_2.2.Seed)]), .dead]) [false, true] [0] (w_spec_l00Src_pick _ _ _ er3) rfl (.cons (.refl _) (.cons (.of_eq (congrArg (AV.lst _) (tko [[], [97], [98], [107], [116, 119, 111, 32, 119, 111, 114, 100, 115], [113, 34, 113], [98, 92, 98], [122, 122]]))) .nil)) (.refl _) rfl rfl) ?_
  refine s_do (o_mov (.str r_2.1) rfl) ?_
  refine w_done ?_
  refine k_seq ?_
  refine w_ret ?_
  obtain rfl := os hf
  exact r_heap [] [0] rfl ⟨trivial, trivial⟩ rfl (.refl _) (.refl _)

/- (*spec.l00Src).chance -/
def c163_h0 : ACode :=
 (.seq (.reg (.q ⟨(some 4), none, .mov (.c (.bool false))⟩
 .done))
 (.seq (.reg (.q ⟨(some 5), none, .mov (.t 0)⟩
 (.q ⟨(some 6), none, .mov (.t 1)⟩
 (.q ⟨(some 7), none, .call 161 [(.t 5), (.t 6)]⟩
 (.q ⟨(some 8), none, .mov (.t 1)⟩
 (.q ⟨(some 9), none, .bin .sub (.t 8) (.c (.int .i64 1))⟩
 (.q ⟨(some 10), none, .bin .eql (.t 7) (.t 9)⟩
 (.q ⟨(some 4), none, .mov (.t 10)⟩
 .done))))))))
 .ret))
theorem fc163_h0 : fcomp Try.prog Try.f163 = some (c163_h0.erase, [.mov (.t 4)], 11) := by kernel_rfl
def spec_l00Src_chance (n_1 : Int) (s_2 : GL00Src) : Option (Bool × GL00Src) :=
    (spec_l00Src_next n_1 s_2).bind fun r_3 =>
    some ((r_3.1 == w64 (n_1 - 1)), r_3.2)
theorem w_spec_l00Src_chance (n_1 : Int) (s_2 : GL00Src) (r : (Bool × GL00Src)) (hf : spec_l00Src_chance n_1 s_2 = some r) : CallHeap Try.prog true 163 [(.ptr 0 0 0), (.int .i64 n_1)] [.box 3 (.agg [(.lst 1 (s_2.Code.map enc_u8)), (.int .i64 s_2.At), (.int .i64 s_2.Seed)])] (.bool r.1) [.box 3 (.agg [(.lst 1 (r.2.Code.map enc_u8)), (.int .i64 r.2.At), (.int .i64 r.2.Seed)])] := by
  refine CallHeap.of_awp mixed Try.func163 fc163_h0 nle ?_
  rw [argT_eq]
  unfold spec_l00Src_chance at hf
  unfold c163_h0
  refine (show awp Try.prog true 1 _ (ofL [(0, (.ptr 0 0 0)), (1, (.int .i64 n_1))]) [.box 3 (.agg [(.lst 1 (s_2.Code.map enc_u8)), (.int .i64 s_2.At), (.int .i64 s_2.Seed)])] _ from ?_)
  refine awp_seq ?_
  refine w_reg ?_
  refine s_do (o_mov (.bool false) rfl) ?_
  refine w_done ?_
  refine k_seq ?_
  refine awp_seq ?_
  refine w_reg ?_
  obtain ⟨r_3, er4, hf⟩ := ob hf
  refine s_do (o_mov (.ptr 0 0 0) rfl) ?_
  refine s_do (o_mov (.int .i64 n_1) rfl) ?_
  refine s_do (o_callh (v := (.int .i64 r_3.1)) (h2 := [.box 3 (.agg [(.lst 1 (r_3.2.Code.map enc_u8)), (.int .i64 r_3.2.At), (.int .i64 r_3.2.Seed)])]) [] [0] (w_spec_l00Src_next _ _ _ er4) rfl (.refl _) (.refl _) rfl rfl) ?_
  refine s_do (o_mov (.int .i64 n_1) rfl) ?_
  refine s_do (o_q (.int .i64 (w64 (n_1 - 1))) rfl rfl rfl) ?_
  refine s_do (o_q (.bool (r_3.1 == w64 (n_1 - 1))) rfl rfl rfl) ?_
  refine s_do (o_mov (.bool (r_3.1 == w64 (n_1 - 1))) rfl) ?_
  refine w_done ?_
  refine k_seq ?_
  refine w_ret ?_
  obtain rfl := os hf
  exact r_heap [] [0] rfl ⟨trivial, trivial⟩ rfl (.refl _) (.refl _)

/- (*spec.l00Src).json -/
def c99_h0 : ACode :=
 (.seq (.reg (.q ⟨(some 4), none, .box 5 (.c (.agg [(.int .i64 0), (.int .i64 0), (.str []), .nil, .nil]))⟩
 .done))
 (.seq (.reg (.q ⟨(some 10), none, .mov (.t 0)⟩
 (.q ⟨(some 11), none, .call 161 [(.t 10), (.c (.int .i64 6))]⟩
 (.q ⟨(some 5), none, .mov (.t 11)⟩
 .done))))
 (.seq (.seq (.reg (.q ⟨(some 12), none, .mov (.t 1)⟩
 (.q ⟨(some 13), none, .bin .eql (.t 12) (.c (.int .i64 0))⟩
 .done)))
 (.cond (.t 13) (.reg (.q ⟨(some 14), none, .mov (.t 0)⟩
 (.q ⟨(some 15), none, .call 161 [(.t 14), (.c (.int .i64 4))]⟩
 (.q ⟨(some 5), none, .mov (.t 15)⟩
 .done))))
 .skip))
 (.cut (.seq (.seq (.reg (.q ⟨(some 16), none, .mov (.t 5)⟩
 .done))
 (.block 0 (.seq (.reg (.q ⟨(some 18), none, .bin .eql (.t 16) (.c (.int .i64 0))⟩
 (.q ⟨(some 17), none, .mov (.t 18)⟩
 .done)))
 (.cond (.t 17) (.seq (.reg (.q ⟨(some 19), none, .build [(.int .i64 0), (.int .i64 0), (.str []), .nil, .nil] []⟩
 (.q ⟨none, none, .store 5 (.t 4) (.t 19)⟩
 .done)))
 .ret)
 (.seq (.reg (.q ⟨(some 21), none, .bin .eql (.t 16) (.c (.int .i64 1))⟩
 (.q ⟨(some 20), none, .mov (.t 21)⟩
 .done)))
 (.cond (.t 20) (.seq (.reg (.q ⟨(some 22), none, .mov (.t 0)⟩
 (.q ⟨(some 23), none, .call 161 [(.t 22), (.c (.int .i64 2))]⟩
 (.q ⟨(some 24), none, .build [(.int .i64 0), (.int .i64 0), (.str []), .nil, .nil] [(0, 1, (.c (.int .i64 1))), (1, 1, (.t 23))]⟩
 (.q ⟨none, none, .store 5 (.t 4) (.t 24)⟩
 .done)))))
 .ret)
 (.seq (.reg (.q ⟨(some 26), none, .bin .eql (.t 16) (.c (.int .i64 2))⟩
 (.q ⟨(some 25), none, .mov (.t 26)⟩
 .done)))
 (.cond (.t 25) (.seq (.reg (.q ⟨(some 27), none, .mov (.t 0)⟩
 (.q ⟨(some 28), none, .call 161 [(.t 27), (.c (.int .i64 20))]⟩
 (.q ⟨(some 29), none, .bin .sub (.t 28) (.c (.int .i64 9))⟩
 (.q ⟨(some 30), none, .bslice 1 [(.t 29), (.c (.int .i64 1000000000))]⟩
 (.q ⟨(some 31), none, .mov (.t 0)⟩
 (.q ⟨(some 32), none, .call 161 [(.t 31), (.c (.int .i64 6))]⟩
 (.q ⟨(some 33), none, .bin .quo (.t 32) (.c (.int .i64 5))⟩
 (.q ⟨(some 34), none, .iaddr 1 (.t 30) (.t 33)⟩
 (.q ⟨(some 35), none, .load 1 false (.t 34)⟩
 (.q ⟨(some 36), none, .build [(.int .i64 0), (.int .i64 0), (.str []), .nil, .nil] [(0, 1, (.c (.int .i64 2))), (1, 1, (.t 35))]⟩
 (.q ⟨none, none, .store 5 (.t 4) (.t 36)⟩
 .done))))))))))))
 .ret)
 (.seq (.reg (.q ⟨(some 38), none, .bin .eql (.t 16) (.c (.int .i64 3))⟩
 (.q ⟨(some 37), none, .mov (.t 38)⟩
 .done)))
 (.cond (.t 37) (.seq (.reg (.q ⟨(some 39), none, .mov (.t 0)⟩
 (.q ⟨(some 40), none, .call 162 [(.t 39)]⟩
 (.q ⟨(some 41), none, .build [(.int .i64 0), (.int .i64 0), (.str []), .nil, .nil] [(0, 1, (.c (.int .i64 3))), (2, 1, (.t 40))]⟩
 (.q ⟨none, none, .store 5 (.t 4) (.t 41)⟩
 .done)))))
 .ret)
 (.seq (.reg (.q ⟨(some 43), none, .bin .eql (.t 16) (.c (.int .i64 4))⟩
 (.q ⟨(some 42), none, .mov (.t 43)⟩
 .done)))
 (.cond (.t 42) (.seq (.reg (.q ⟨(some 44), none, .build [(.int .i64 0), (.int .i64 0), (.str []), .nil, .nil] [(0, 1, (.c (.int .i64 4)))]⟩
 (.q ⟨(some 6), none, .box 5 (.c (.agg [(.int .i64 0), (.int .i64 0), (.str []), .nil, .nil]))⟩
 (.q ⟨none, none, .store 5 (.t 6) (.t 44)⟩
 .done))))
 (.seq (.seq (.reg (.q ⟨(some 45), none, .mov (.t 0)⟩
 (.q ⟨(some 46), none, .call 161 [(.t 45), (.c (.int .i64 4))]⟩
 (.q ⟨(some 7), none, .mov (.t 46)⟩
 .done))))
 (.block 1 (.loop (.seq (.seq (.reg (.q ⟨(some 47), none, .mov (.t 7)⟩
 (.q ⟨(some 48), none, .bin .gtr (.t 47) (.c (.int .i64 0))⟩
 .done)))
 (.cond (.t 48) .skip
 (.exit 1)))
 (.seq (.block 2 (.reg (.q ⟨(some 51), none, .faddr 4 (.t 6)⟩
 (.q ⟨(some 52), none, .load 1 false (.t 51)⟩
 (.q ⟨(some 53), none, .mov (.t 0)⟩
 (.q ⟨(some 54), none, .mov (.t 1)⟩
 (.q ⟨(some 55), none, .bin .sub (.t 54) (.c (.int .i64 1))⟩
 (.l ⟨(some 56), none, .call 99 [(.t 53), (.t 55)]⟩ [⟨(some 52), none, .load 1 false (.t 51)⟩, ⟨(some 51), none, .faddr 4 (.t 6)⟩]
 (.l ⟨(some 57), none, .bslice 5 [(.t 56)]⟩ [⟨(some 52), none, .load 1 false (.t 51)⟩, ⟨(some 51), none, .faddr 4 (.t 6)⟩]
 (.l ⟨(some 58), none, .append 5 80 (.t 52) (.t 57)⟩ []
 (.q ⟨(some 59), none, .faddr 4 (.t 6)⟩
 (.l ⟨none, none, .store 1 (.t 59) (.t 58)⟩ []
 .done .non)) .non) .non) .non))))))))
 (.reg (.q ⟨(some 49), none, .mov (.t 7)⟩
 (.q ⟨(some 50), none, .bin .sub (.t 49) (.c (.int .i64 1))⟩
 (.q ⟨(some 7), none, .mov (.t 50)⟩
 .done)))))))))
 (.cut (.seq (.reg (.q ⟨(some 60), none, .load 5 true (.t 6)⟩
 (.q ⟨none, none, .store 5 (.t 4) (.t 60)⟩
 .done)))
 .ret))))
 .skip))))))))))))
 (.seq (.reg (.q ⟨(some 61), none, .build [(.int .i64 0), (.int .i64 0), (.str []), .nil, .nil] [(0, 1, (.c (.int .i64 5)))]⟩
 (.q ⟨(some 8), none, .box 5 (.c (.agg [(.int .i64 0), (.int .i64 0), (.str []), .nil, .nil]))⟩
 (.q ⟨none, none, .store 5 (.t 8) (.t 61)⟩
 .done))))
 (.seq (.seq (.reg (.q ⟨(some 9), none, .mov (.c (.int .i64 0))⟩
 .done))
 (.block 3 (.loop (.seq (.seq (.reg (.q ⟨(some 62), none, .mov (.t 9)⟩
 (.q ⟨(some 63), none, .bin .lss (.t 62) (.c (.int .i64 4))⟩
 .done)))
 (.cond (.t 63) .skip
 (.exit 3)))
 (.seq (.block 4 (.seq (.reg (.q ⟨(some 66), none, .mov (.t 0)⟩
 (.q ⟨(some 67), none, .call 163 [(.t 66), (.c (.int .i64 2))]⟩
 .done)))
 (.cond (.t 67) (.seq (.reg (.q ⟨(some 68), none, .faddr 3 (.t 8)⟩
 (.q ⟨(some 69), none, .load 1 false (.t 68)⟩
 (.q ⟨(some 71), none, .mov (.t 9)⟩
 (.l ⟨(some 70), none, .bslice 1 [(.c (.str [97])), (.c (.str [98])), (.c (.str [107])), (.c (.str [122, 122]))]⟩ [⟨(some 69), none, .load 1 false (.t 68)⟩, ⟨(some 68), none, .faddr 3 (.t 8)⟩]
 (.q ⟨(some 72), none, .iaddr 1 (.t 70) (.t 71)⟩
 (.q ⟨(some 73), none, .load 1 false (.t 72)⟩
 (.l ⟨(some 74), none, .bslice 1 [(.t 73)]⟩ [⟨(some 69), none, .load 1 false (.t 68)⟩, ⟨(some 68), none, .faddr 3 (.t 8)⟩]
 (.l ⟨(some 75), none, .append 1 16 (.t 69) (.t 74)⟩ []
 (.q ⟨(some 76), none, .faddr 3 (.t 8)⟩
 (.l ⟨none, none, .store 1 (.t 76) (.t 75)⟩ []
 .done .non)) .non) .non))) .non)))))
 (.reg (.q ⟨(some 77), none, .faddr 4 (.t 8)⟩
 (.q ⟨(some 78), none, .load 1 false (.t 77)⟩
 (.q ⟨(some 79), none, .mov (.t 0)⟩
 (.q ⟨(some 80), none, .mov (.t 1)⟩
 (.q ⟨(some 81), none, .bin .sub (.t 80) (.c (.int .i64 1))⟩
 (.l ⟨(some 82), none, .call 99 [(.t 79), (.t 81)]⟩ [⟨(some 78), none, .load 1 false (.t 77)⟩, ⟨(some 77), none, .faddr 4 (.t 8)⟩]
 (.l ⟨(some 83), none, .bslice 5 [(.t 82)]⟩ [⟨(some 78), none, .load 1 false (.t 77)⟩, ⟨(some 77), none, .faddr 4 (.t 8)⟩]
 (.l ⟨(some 84), none, .append 5 80 (.t 78) (.t 83)⟩ []
 (.q ⟨(some 85), none, .faddr 4 (.t 8)⟩
 (.l ⟨none, none, .store 1 (.t 85) (.t 84)⟩ []
 .done .non)) .non) .non) .non))))))))
 .skip)))
 (.reg (.q ⟨(some 64), none, .mov (.t 9)⟩
 (.q ⟨(some 65), none, .bin .add (.t 64) (.c (.int .i64 1))⟩
 (.q ⟨(some 9), none, .mov (.t 65)⟩
 .done)))))))))
 (.cut (.seq (.reg (.q ⟨(some 86), none, .load 5 true (.t 8)⟩
 (.q ⟨none, none, .store 5 (.t 4) (.t 86)⟩
 .done)))
 .ret)))))))))
theorem fc99_h0 : fcomp Try.prog Try.f99 = some (c99_h0.erase, [.load 5 true (.t 4)], 87) := by kernel_rfl
def spec_l00Src_json_B_L1 (rec : (Int → GL00Src → Option (GJson × GL00Src))) (deep_1 : Int) : Nat → Int → (List Int) → Int → Int → (List GJson) → Option ((List Int) × Int × Int × (List GJson))
  | 0, _, _, _, _, _ => none
  | k + 1, i_47, x_48, x_49, x_50, x_51 =>
    if (decide (i_47 > 0)) then
    (rec (w64 (deep_1 - 1)) (⟨x_48, x_49, x_50⟩ : GL00Src)).bind fun r_62 =>
    if (x_51 ++ [r_62.1]).length ≤ 2 ^ 30 then
    spec_l00Src_json_B_L1 rec deep_1 k (w64 (i_47 - 1)) r_62.2.Code r_62.2.At r_62.2.Seed (x_51 ++ [r_62.1])
    else none
    else
    some (x_48, x_49, x_50, x_51)

def spec_l00Src_json_B_L2 (rec : (Int → GL00Src → Option (GJson × GL00Src))) (deep_1 : Int) : Nat → Int → (List Int) → Int → Int → (List Str) → (List GJson) → Option ((List Int) × Int × Int × (List Str) × (List GJson))
  | 0, _, _, _, _, _, _ => none
  | k + 1, i_138, x_139, x_140, x_141, x_142, x_143 =>
    if (decide (i_138 < 4)) then
    (spec_l00Src_chance 2 (⟨x_139, x_140, x_141⟩ : GL00Src)).bind fun r_162 =>
    if r_162.1 then
    if 0 ≤ i_138 ∧ i_138 < (4 : Int) then
    ([[97], [98], [107], [122, 122]][(0 + i_138.toNat)]?).bind fun x_166 =>
    if (x_142 ++ [x_166]).length ≤ 2 ^ 30 then
    (rec (w64 (deep_1 - 1)) r_162.2).bind fun r_169 =>
    if (x_143 ++ [r_169.1]).length ≤ 2 ^ 30 then
    spec_l00Src_json_B_L2 rec deep_1 k (w64 (i_138 + 1)) r_169.2.Code r_169.2.At r_169.2.Seed (x_142 ++ [x_166]) (x_143 ++ [r_169.1])
    else none
    else none
    else none
    else
    spec_l00Src_json_B_L2 rec deep_1 k (w64 (i_138 + 1)) r_162.2.Code r_162.2.At r_162.2.Seed x_142 x_143
    else
    some (x_139, x_140, x_141, x_142, x_143)

def spec_l00Src_json_B (rec : (Int → GL00Src → Option (GJson × GL00Src))) (deep_1 : Int) (s_2 : GL00Src) : Option (GJson × GL00Src) :=
    (spec_l00Src_next 6 s_2).bind fun r_3 =>
    ((if (deep_1 == 0) then
    (spec_l00Src_next 4 r_3.2).bind fun r_14 =>
    some (r_14.1, r_14.2.Code, r_14.2.At, r_14.2.Seed)
    else
    some (r_3.1, r_3.2.Code, r_3.2.At, r_3.2.Seed) : Option (Int × (List Int) × Int × Int))).bind fun p12 =>
    (match p12 with
    | (k_8, x_9, x_10, x_11) =>
    if (k_8 == 0) then
    some ((⟨0, 0, [], [], []⟩ : GJson), (⟨x_9, x_10, x_11⟩ : GL00Src))
    else
    if (k_8 == 1) then
    (spec_l00Src_next 2 (⟨x_9, x_10, x_11⟩ : GL00Src)).bind fun r_18 =>
    some ((⟨1, r_18.1, [], [], []⟩ : GJson), r_18.2)
    else
    if (k_8 == 2) then
    (spec_l00Src_next 20 (⟨x_9, x_10, x_11⟩ : GL00Src)).bind fun r_21 =>
    (spec_l00Src_next 6 r_21.2).bind fun r_23 =>
    if 0 ≤ w64 (r_23.1.tdiv 5) ∧ w64 (r_23.1.tdiv 5) < (2 : Int) then
    ([w64 (r_21.1 - 9), 1000000000][(0 + (w64 (r_23.1.tdiv 5)).toNat)]?).bind fun x_26 =>
    some ((⟨2, x_26, [], [], []⟩ : GJson), r_23.2)
    else none
    else
    if (k_8 == 3) then
    (spec_l00Src_jsText (⟨x_9, x_10, x_11⟩ : GL00Src)).bind fun r_29 =>
    some ((⟨3, 0, r_29.1, [], []⟩ : GJson), r_29.2)
    else
    if (k_8 == 4) then
    (spec_l00Src_next 4 (⟨x_9, x_10, x_11⟩ : GL00Src)).bind fun r_32 =>
    (spec_l00Src_json_B_L1 rec deep_1 FUEL r_32.1 r_32.2.Code r_32.2.At r_32.2.Seed []).bind fun p60 =>
    (match p60 with
    | (x_56, x_57, x_58, x_59) =>
    some ((⟨4, 0, [], [], x_59⟩ : GJson), (⟨x_56, x_57, x_58⟩ : GL00Src)))
    else
    (spec_l00Src_json_B_L2 rec deep_1 FUEL 0 x_9 x_10 x_11 [] []).bind fun p160 =>
    (match p160 with
    | (x_155, x_156, x_157, x_158, x_159) =>
    some ((⟨5, 0, [], x_158, x_159⟩ : GJson), (⟨x_155, x_156, x_157⟩ : GL00Src))))
theorem w_spec_l00Src_json_B (rec : (Int → GL00Src → Option (GJson × GL00Src))) (hrec : ∀ a0 a1 r, rec a0 a1 = some r → CallHeap Try.prog true 99 [(.ptr 0 0 0), (.int .i64 a0)] [.box 3 (.agg [(.lst 1 (a1.Code.map enc_u8)), (.int .i64 a1.At), (.int .i64 a1.Seed)])] (.agg [(.int .i64 r.1.Kind), (.int .i64 r.1.N), (.str r.1.T), (.own 1 0 r.1.Keys.length), (.own 2 0 r.1.Items.length)]) [.box 3 (.agg [(.lst 1 (r.2.Code.map enc_u8)), (.int .i64 r.2.At), (.int .i64 r.2.Seed)]), .row 1 (r.1.Keys.map AV.str), .row 5 (r.1.Items.map encGJson)]) (deep_1 : Int) (s_2 : GL00Src) (r : (GJson × GL00Src)) (hf : spec_l00Src_json_B rec deep_1 s_2 = some r) : CallHeap Try.prog true 99 [(.ptr 0 0 0), (.int .i64 deep_1)] [.box 3 (.agg [(.lst 1 (s_2.Code.map enc_u8)), (.int .i64 s_2.At), (.int .i64 s_2.Seed)])] (.agg [(.int .i64 r.1.Kind), (.int .i64 r.1.N), (.str r.1.T), (.own 1 0 r.1.Keys.length), (.own 2 0 r.1.Items.length)]) [.box 3 (.agg [(.lst 1 (r.2.Code.map enc_u8)), (.int .i64 r.2.At), (.int .i64 r.2.Seed)]), .row 1 (r.1.Keys.map AV.str), .row 5 (r.1.Items.map encGJson)] := by
  refine CallHeap.of_awp mixed Try.func99 fc99_h0 nle ?_
  rw [argT_eq]
  unfold spec_l00Src_json_B at hf
  unfold c99_h0
  refine (show awp Try.prog true 1 _ (ofL [(0, (.ptr 0 0 0)), (1, (.int .i64 deep_1))]) [.box 3 (.agg [(.lst 1 (s_2.Code.map enc_u8)), (.int .i64 s_2.At), (.int .i64 s_2.Seed)])] _ from ?_)
  refine awp_seq ?_
  refine w_reg ?_
  refine s_do (o_box (j := 1) (c := (.agg [(.int .i64 0), (.int .i64 0), (.str []), .nil, .nil])) rfl trivial rfl rfl) ?_
  refine w_done ?_
  refine k_seq ?_
  refine awp_seq ?_
  refine w_reg ?_
  obtain ⟨r_3, er4, hf⟩ := ob hf
  refine s_do (o_mov (.ptr 0 0 0) rfl) ?_
  refine s_do (o_callh (v := (.int .i64 r_3.1)) (h2 := [.box 3 (.agg [(.lst 1 (r_3.2.Code.map enc_u8)), (.int .i64 r_3.2.At), (.int .i64 r_3.2.Seed)]), .box 5 (.agg [(.int .i64 0), (.int .i64 0), (.str []), .nil, .nil])]) [] [0] (w_spec_l00Src_next _ _ _ er4) rfl (.refl _) (.refl _) rfl rfl) ?_
  refine s_do (o_mov (.int .i64 r_3.1) rfl) ?_
  refine w_done ?_
  refine k_seq ?_
  refine awp_seq ?_
  obtain ⟨p12, hb1, hf⟩ := ob hf
  refine awp_cut ([(0, (.ptr 0 0 0)), (1, (.int .i64 deep_1)), (4, (.ptr 1 0 0)), (5, (.int .i64 p12.1))], [.box 3 (.agg [(.lst 1 (p12.2.1.map enc_u8)), (.int .i64 p12.2.2.1), (.int .i64 p12.2.2.2)]), .box 5 (.agg [(.int .i64 0), (.int .i64 0), (.str []), .nil, .nil])]) ?_ ?_
  · refine awp_seq ?_
    refine w_reg ?_
    refine s_do (o_mov (.int .i64 deep_1) rfl) ?_
    refine s_do (o_q (.bool (deep_1 == 0)) rfl rfl rfl) ?_
    refine w_done ?_
    refine k_seq ?_
    rcases oi hb1 with ⟨c13, hb1⟩ | ⟨c13, hb1⟩
    · refine w_condt rfl c13 ?_
      refine w_reg ?_
      obtain ⟨r_14, er15, hb1⟩ := ob hb1
      refine s_do (o_mov (.ptr 0 0 0) rfl) ?_
      refine s_do (o_callh (v := (.int .i64 r_14.1)) (h2 := [.box 3 (.agg [(.lst 1 (r_14.2.Code.map enc_u8)), (.int .i64 r_14.2.At), (.int .i64 r_14.2.Seed)]), .box 5 (.agg [(.int .i64 0), (.int .i64 0), (.str []), .nil, .nil])]) [] [0] (w_spec_l00Src_next _ _ _ er15) rfl (.refl _) (.refl _) rfl rfl) ?_
      refine s_do (o_mov (.int .i64 r_14.1) rfl) ?_
      refine w_done ?_
      obtain rfl := os hb1
      exact ⟨[], [0, 1], _, _, rfl, rfl, ⟨.refl _, ⟨.refl _, ⟨.refl _, ⟨.refl _, trivial⟩⟩⟩⟩, (.refl _)⟩
    · refine w_condf rfl (bf c13) ?_
      refine w_skip ?_
      obtain rfl := os hb1
      exact ⟨[], [0, 1], _, _, rfl, rfl, ⟨.refl _, ⟨.refl _, ⟨.refl _, ⟨.refl _, trivial⟩⟩⟩⟩, (.refl _)⟩
  · obtain ⟨k_8, x_9, x_10, x_11⟩ := p12
    refine awp_seq ?_
    refine awp_seq ?_
    refine w_reg ?_
    refine s_do (o_mov (.int .i64 k_8) rfl) ?_
    refine w_done ?_
    refine k_seq ?_
    refine w_blk ?_
    refine awp_seq ?_
    refine w_reg ?_
    refine s_do (o_q (.bool (k_8 == 0)) rfl rfl rfl) ?_
    refine s_do (o_mov (.bool (k_8 == 0)) rfl) ?_
    refine w_done ?_
    refine k_seq ?_
    rcases oi hf with ⟨c16, hf⟩ | ⟨c16, hf⟩
    · refine w_condt rfl c16 ?_
      refine awp_seq ?_
      refine w_reg ?_
      refine s_do (o_q (.agg [(.int .i64 0), (.int .i64 0), (.str []), .nil, .nil]) rfl trivial rfl) ?_
      refine s_do0 (o_storebox (v := (.agg [(.int .i64 0), (.int .i64 0), (.str []), .nil, .nil])) (y' := (.agg [(.int .i64 0), (.int .i64 0), (.str []), .nil, .nil])) rfl rfl rfl trivial ⟨rfl, nle⟩ ⟨⟨rfl, trivial⟩, ⟨⟨rfl, trivial⟩, ⟨⟨rfl, trivial⟩, ⟨⟨rfl, trivial⟩, ⟨⟨rfl, trivial⟩, trivial⟩⟩⟩⟩⟩ rfl) ?_
      refine w_done ?_
      refine k_seq ?_
      refine w_ret ?_
      obtain rfl := os hf
      exact r_heap [.nilC 1 3 1, .nilC 1 4 5] [0, 2, 3] rfl ⟨nle, trivial⟩ rfl (.refl _) (.refl _)
    · refine w_condf rfl (bf c16) ?_
      refine awp_seq ?_
      refine w_reg ?_
      refine s_do (o_q (.bool (k_8 == 1)) rfl rfl rfl) ?_
      refine s_do (o_mov (.bool (k_8 == 1)) rfl) ?_
      refine w_done ?_
      refine k_seq ?_
      rcases oi hf with ⟨c17, hf⟩ | ⟨c17, hf⟩
      · refine w_condt rfl c17 ?_
        refine awp_seq ?_
        refine w_reg ?_
        obtain ⟨r_18, er19, hf⟩ := ob hf
        refine s_do (o_mov (.ptr 0 0 0) rfl) ?_
        refine s_do (o_callh (v := (.int .i64 r_18.1)) (h2 := [.box 3 (.agg [(.lst 1 (r_18.2.Code.map enc_u8)), (.int .i64 r_18.2.At), (.int .i64 r_18.2.Seed)]), .box 5 (.agg [(.int .i64 0), (.int .i64 0), (.str []), .nil, .nil])]) [] [0] (w_spec_l00Src_next _ _ _ er19) rfl (.refl _) (.refl _) rfl rfl) ?_
        refine s_do (o_q (.agg [(.int .i64 1), (.int .i64 r_18.1), (.str []), .nil, .nil]) rfl ⟨⟨rfl, nle, trivial⟩, ⟨⟨rfl, nle, trivial⟩, trivial⟩⟩ rfl) ?_
        refine s_do0 (o_storebox (v := (.agg [(.int .i64 1), (.int .i64 r_18.1), (.str []), .nil, .nil])) (y' := (.agg [(.int .i64 1), (.int .i64 r_18.1), (.str []), .nil, .nil])) rfl rfl rfl trivial ⟨rfl, nle⟩ ⟨⟨rfl, trivial⟩, ⟨⟨rfl, trivial⟩, ⟨⟨rfl, trivial⟩, ⟨⟨rfl, trivial⟩, ⟨⟨rfl, trivial⟩, trivial⟩⟩⟩⟩⟩ rfl) ?_
        refine w_done ?_
        refine k_seq ?_
        refine w_ret ?_
        obtain rfl := os hf
        exact r_heap [.nilC 1 3 1, .nilC 1 4 5] [0, 2, 3] rfl ⟨nle, trivial⟩ rfl (.refl _) (.refl _)
      · refine w_condf rfl (bf c17) ?_
        refine awp_seq ?_
        refine w_reg ?_
        refine s_do (o_q (.bool (k_8 == 2)) rfl rfl rfl) ?_
        refine s_do (o_mov (.bool (k_8 == 2)) rfl) ?_
        refine w_done ?_
        refine k_seq ?_
        rcases oi hf with ⟨c20, hf⟩ | ⟨c20, hf⟩
        · refine w_condt rfl c20 ?_
          refine awp_seq ?_
          refine w_reg ?_
          obtain ⟨r_21, er22, hf⟩ := ob hf
          obtain ⟨r_23, er24, hf⟩ := ob hf
          obtain ⟨g25, hf⟩ := og hf
          obtain ⟨x_26, ex27, hf⟩ := ob hf
          refine s_do (o_mov (.ptr 0 0 0) rfl) ?_
          refine s_do (o_callh (v := (.int .i64 r_21.1)) (h2 := [.box 3 (.agg [(.lst 1 (r_21.2.Code.map enc_u8)), (.int .i64 r_21.2.At), (.int .i64 r_21.2.Seed)]), .box 5 (.agg [(.int .i64 0), (.int .i64 0), (.str []), .nil, .nil])]) [] [0] (w_spec_l00Src_next _ _ _ er22) rfl (.refl _) (.refl _) rfl rfl) ?_
          refine s_do (o_q (.int .i64 (w64 (r_21.1 - 9))) rfl rfl rfl) ?_
          refine s_do (o_bslice (j := 2) (as' := [(.int .i64 (w64 (r_21.1 - 9))), (.int .i64 1000000000)]) rfl (fun _ => by decide) ⟨rfl, ⟨rfl, trivial⟩⟩ (.refl _) rfl rfl rfl) ?_
          refine s_do (o_mov (.ptr 0 0 0) rfl) ?_
          refine s_do (o_callh (v := (.int .i64 r_23.1)) (h2 := [.box 3 (.agg [(.lst 1 (r_23.2.Code.map enc_u8)), (.int .i64 r_23.2.At), (.int .i64 r_23.2.Seed)]), .box 5 (.agg [(.int .i64 0), (.int .i64 0), (.str []), .nil, .nil]), .row 1 ([w64 (r_21.1 - 9), 1000000000].map encI)]) [] [0] (w_spec_l00Src_next _ _ _ er24) rfl (.refl _) (.refl _) rfl rfl) ?_
          refine s_do (o_q (.int .i64 (w64 (r_23.1.tdiv 5))) rfl ⟨rfl, by decide⟩ rfl) ?_
          refine s_do (o_iaddrown rfl rfl g25.1 g25.2 rfl rfl) ?_
          refine s_do (o_loadrow (enc := encI) (v := (.int .i64 x_26)) rfl rfl ex27 ⟨rfl, rfl⟩ rfl) ?_
          refine s_do (o_q (.agg [(.int .i64 2), (.int .i64 x_26), (.str []), .nil, .nil]) rfl ⟨⟨rfl, nle, trivial⟩, ⟨⟨rfl, nle, trivial⟩, trivial⟩⟩ rfl) ?_
          refine s_do0 (o_storebox (v := (.agg [(.int .i64 2), (.int .i64 x_26), (.str []), .nil, .nil])) (y' := (.agg [(.int .i64 2), (.int .i64 x_26), (.str []), .nil, .nil])) rfl rfl rfl trivial ⟨rfl, nle⟩ ⟨⟨rfl, trivial⟩, ⟨⟨rfl, trivial⟩, ⟨⟨rfl, trivial⟩, ⟨⟨rfl, trivial⟩, ⟨⟨rfl, trivial⟩, trivial⟩⟩⟩⟩⟩ rfl) ?_
          refine w_done ?_
          refine k_seq ?_
          refine w_ret ?_
          obtain rfl := os hf
          exact r_heap [.nilC 1 3 1, .nilC 1 4 5] [0, 3, 4] rfl ⟨nle, trivial⟩ rfl (.refl _) (.refl _)
        · refine w_condf rfl (bf c20) ?_
          refine awp_seq ?_
          refine w_reg ?_
          refine s_do (o_q (.bool (k_8 == 3)) rfl rfl rfl) ?_
          refine s_do (o_mov (.bool (k_8 == 3)) rfl) ?_
          refine w_done ?_
          refine k_seq ?_
          rcases oi hf with ⟨c28, hf⟩ | ⟨c28, hf⟩
          · refine w_condt rfl c28 ?_
            refine awp_seq ?_
            refine w_reg ?_
            obtain ⟨r_29, er30, hf⟩ := ob hf
            refine s_do (o_mov (.ptr 0 0 0) rfl) ?_
            refine s_do (o_callh (v := (.str r_29.1)) (h2 := [.box 3 (.agg [(.lst 1 (r_29.2.Code.map enc_u8)), (.int .i64 r_29.2.At), (.int .i64 r_29.2.Seed)]), .box 5 (.agg [(.int .i64 0), (.int .i64 0), (.str []), .nil, .nil])]) [] [0] (w_spec_l00Src_jsText _ _ er30) rfl (.refl _) (.refl _) rfl rfl) ?_
            refine s_do (o_q (.agg [(.int .i64 3), (.int .i64 0), (.str r_29.1), .nil, .nil]) rfl ⟨⟨rfl, nle, trivial⟩, ⟨⟨rfl, nle, trivial⟩, trivial⟩⟩ rfl) ?_
            refine s_do0 (o_storebox (v := (.agg [(.int .i64 3), (.int .i64 0), (.str r_29.1), .nil, .nil])) (y' := (.agg [(.int .i64 3), (.int .i64 0), (.str r_29.1), .nil, .nil])) rfl rfl rfl trivial ⟨rfl, nle⟩ ⟨⟨rfl, trivial⟩, ⟨⟨rfl, trivial⟩, ⟨⟨rfl, trivial⟩, ⟨⟨rfl, trivial⟩, ⟨⟨rfl, trivial⟩, trivial⟩⟩⟩⟩⟩ rfl) ?_
            refine w_done ?_
            refine k_seq ?_
            refine w_ret ?_
            obtain rfl := os hf
            exact r_heap [.nilC 1 3 1, .nilC 1 4 5] [0, 2, 3] rfl ⟨nle, trivial⟩ rfl (.refl _) (.refl _)
          · refine w_condf rfl (bf c28) ?_
            refine awp_seq ?_
            refine w_reg ?_
            refine s_do (o_q (.bool (k_8 == 4)) rfl rfl rfl) ?_
            refine s_do (o_mov (.bool (k_8 == 4)) rfl) ?_
            refine w_done ?_
            refine k_seq ?_
            rcases oi hf with ⟨c31, hf⟩ | ⟨c31, hf⟩
            · refine w_condt rfl c31 ?_
              refine awp_seq ?_
              refine w_reg ?_
              refine s_do (o_q (.agg [(.int .i64 4), (.int .i64 0), (.str []), .nil, .nil]) rfl ⟨⟨rfl, nle, trivial⟩, trivial⟩ rfl) ?_
              refine s_do (o_box (j := 2) (c := (.agg [(.int .i64 0), (.int .i64 0), (.str []), .nil, .nil])) rfl trivial rfl rfl) ?_
              refine s_do0 (o_storebox (v := (.agg [(.int .i64 4), (.int .i64 0), (.str []), .nil, .nil])) (y' := (.agg [(.int .i64 4), (.int .i64 0), (.str []), .nil, .nil])) rfl rfl rfl trivial ⟨rfl, nle⟩ ⟨⟨rfl, trivial⟩, ⟨⟨rfl, trivial⟩, ⟨⟨rfl, trivial⟩, ⟨⟨rfl, trivial⟩, ⟨⟨rfl, trivial⟩, trivial⟩⟩⟩⟩⟩ rfl) ?_
              refine w_done ?_
              refine k_seq ?_
              refine awp_seq ?_
              refine awp_seq ?_
              refine w_reg ?_
              obtain ⟨r_32, er33, hf⟩ := ob hf
              refine s_do (o_mov (.ptr 0 0 0) rfl) ?_
              refine s_do (o_callh (v := (.int .i64 r_32.1)) (h2 := [.box 3 (.agg [(.lst 1 (r_32.2.Code.map enc_u8)), (.int .i64 r_32.2.At), (.int .i64 r_32.2.Seed)]), .box 5 (.agg [(.int .i64 0), (.int .i64 0), (.str []), .nil, .nil]), .box 5 (.agg [(.int .i64 4), (.int .i64 0), (.str []), .nil, .nil])]) [] [0] (w_spec_l00Src_next _ _ _ er33) rfl (.refl _) (.refl _) rfl rfl) ?_
              refine s_do (o_mov (.int .i64 r_32.1) rfl) ?_
              refine w_done ?_
              refine k_seq ?_
              obtain ⟨p60, hb1, hf⟩ := ob hf
              refine awp_cut ([(4, (.ptr 1 0 0)), (6, (.ptr 2 0 0))], [.box 3 (.agg [(.lst 1 (p60.1.map enc_u8)), (.int .i64 p60.2.1), (.int .i64 p60.2.2.1)]), .box 5 (.agg [(.int .i64 0), (.int .i64 0), (.str []), .nil, .nil]), .box 5 (.agg [(.int .i64 4), (.int .i64 0), (.str []), .nil, (.own 3 0 p60.2.2.2.length)]), .row 5 (p60.2.2.2.map encGJson)]) ?_ ?_
              · refine awp_loop (X := {q : (Nat × Int × (List Int) × Int × Int × (List GJson)) // spec_l00Src_json_B_L1 rec deep_1 q.1 q.2.1 q.2.2.1 q.2.2.2.1 q.2.2.2.2.1 q.2.2.2.2.2 = some p60}) (fun q => ([(0, (.ptr 0 0 0)), (1, (.int .i64 deep_1)), (4, (.ptr 1 0 0)), (6, (.ptr 2 0 0)), (7, (.int .i64 q.1.2.1))], [.box 3 (.agg [(.lst 1 (q.1.2.2.1.map enc_u8)), (.int .i64 q.1.2.2.2.1), (.int .i64 q.1.2.2.2.2.1)]), .box 5 (.agg [(.int .i64 0), (.int .i64 0), (.str []), .nil, .nil]), .box 5 (.agg [(.int .i64 4), (.int .i64 0), (.str []), .nil, (.own 3 0 q.1.2.2.2.2.2.length)]), .row 5 (q.1.2.2.2.2.2.map encGJson)])) (fun q => q.1.1) ⟨(FUEL, r_32.1, r_32.2.Code, r_32.2.At, r_32.2.Seed, []), hb1⟩ ⟨[.nilC 2 4 5], [0, 1, 2, 3], _, _, rfl, rfl, ⟨.refl _, ⟨.refl _, ⟨.refl _, ⟨.refl _, ⟨.refl _, trivial⟩⟩⟩⟩⟩, (.refl _)⟩ ?_
                rintro ⟨⟨k, i_47, x_48, x_49, x_50, x_51⟩, hc1⟩
                have hc1 : spec_l00Src_json_B_L1 rec deep_1 k i_47 x_48 x_49 x_50 x_51 = some p60 := hc1
                refine (show awp Try.prog true 1 _ (ofL [(0, (.ptr 0 0 0)), (1, (.int .i64 deep_1)), (4, (.ptr 1 0 0)), (6, (.ptr 2 0 0)), (7, (.int .i64 i_47))]) [.box 3 (.agg [(.lst 1 (x_48.map enc_u8)), (.int .i64 x_49), (.int .i64 x_50)]), .box 5 (.agg [(.int .i64 0), (.int .i64 0), (.str []), .nil, .nil]), .box 5 (.agg [(.int .i64 4), (.int .i64 0), (.str []), .nil, (.own 3 0 x_51.length)]), .row 5 (x_51.map encGJson)] _ from ?_)
                rcases k with _ | k
                · rw [spec_l00Src_json_B_L1.eq_1] at hc1
                  cases hc1
                · rw [spec_l00Src_json_B_L1.eq_2] at hc1
                  refine awp_seq ?_
                  refine awp_seq ?_
                  refine w_reg ?_
                  refine s_do (o_mov (.int .i64 i_47) rfl) ?_
                  refine s_do (o_q (.bool (decide (i_47 > 0))) rfl rfl rfl) ?_
                  refine w_done ?_
                  refine k_seq ?_
                  rcases oi hc1 with ⟨c61, hc1⟩ | ⟨c61, hc1⟩
                  · refine w_condt rfl c61 ?_
                    refine w_skip ?_
                    refine k_seq ?_
                    refine awp_seq ?_
                    refine w_blk ?_
                    refine w_reg ?_
                    obtain ⟨r_62, er63, hc1⟩ := ob hc1
                    obtain ⟨g64, hc1⟩ := og hc1
                    refine s_do (o_q (.ptr 2 0 4) rfl trivial rfl) ?_
                    refine s_do (o_q (.own 3 0 x_51.length) rfl nle rfl) ?_
                    refine s_do (o_mov (.ptr 0 0 0) rfl) ?_
                    refine s_do (o_mov (.int .i64 deep_1) rfl) ?_
                    refine s_do (o_q (.int .i64 (w64 (deep_1 - 1))) rfl rfl rfl) ?_
                    refine s_dol (o_callh (v := (.agg [(.int .i64 r_62.1.Kind), (.int .i64 r_62.1.N), (.str r_62.1.T), (.own 4 0 r_62.1.Keys.length), (.own 5 0 r_62.1.Items.length)])) (h2 := [.box 3 (.agg [(.lst 1 (r_62.2.Code.map enc_u8)), (.int .i64 r_62.2.At), (.int .i64 r_62.2.Seed)]), .box 5 (.agg [(.int .i64 0), (.int .i64 0), (.str []), .nil, .nil]), .box 5 (.agg [(.int .i64 4), (.int .i64 0), (.str []), .nil, (.own 3 0 x_51.length)]), .row 5 (x_51.map encGJson), .row 1 (r_62.1.Keys.map AV.str), .row 5 (r_62.1.Items.map encGJson)]) [] [0] (hrec _ _ _ er63) rfl (.refl _) (.refl _) rfl rfl) (.inr ⟨⟨nle, rfl⟩, ⟨⟨trivial, rfl⟩, trivial⟩⟩) trivial ?_
                    refine s_dol (o_bslice (j := 6) (as' := [(encGJson r_62.1)]) rfl (fun _ => by decide) ⟨rfl, trivial⟩ (.cons (leJ (x := r_62.1) (.agg (.cons (.refl _) (.cons (.refl _) (.cons (.refl _) (.cons (.of_eq (congrArg (AV.lst _) (tk (enc := AV.str) r_62.1.Keys))) (.cons (.of_eq (congrArg (AV.lst _) (tk (enc := encGJson) r_62.1.Items))) .nil))))))) .nil) rfl rfl rfl) (.inr ⟨⟨nle, rfl⟩, ⟨⟨trivial, rfl⟩, trivial⟩⟩) trivial ?_
                    refine s_dol (o_appendd (j := 7) (L := ((x_51 ++ [r_62.1]).map encGJson)) (len := (x_51 ++ [r_62.1]).length) true rfl rfl (fun h => Bool.noConfusion h) (fun _ _ h => (ownl (show AV.own _ _ _ = AV.lst _ _ from h)).elim) (by decide) (apo (enc := encGJson) x_51 [r_62.1]) (by simp <;> omega) g64 rfl rfl) trivial trivial ?_
                    refine s_do (o_q (.ptr 2 0 4) rfl trivial rfl) ?_
                    refine s_dol0 (o_storebox (v := (.own 7 0 ((x_51 ++ [r_62.1]).length))) (y' := (.agg [(.int .i64 4), (.int .i64 0), (.str []), .nil, (.own 7 0 ((x_51 ++ [r_62.1]).length))])) rfl rfl rfl trivial ⟨rfl, nle⟩ ⟨⟨rfl, trivial⟩, trivial⟩ rfl) trivial trivial ?_
                    refine w_done ?_
                    refine k_blk ?_
                    refine k_seq ?_
                    refine w_reg ?_
                    refine s_do (o_mov (.int .i64 i_47) rfl) ?_
                    refine s_do (o_q (.int .i64 (w64 (i_47 - 1))) rfl rfl rfl) ?_
                    refine s_do (o_mov (.int .i64 (w64 (i_47 - 1))) rfl) ?_
                    refine w_done ?_
                    exact k_loopn ⟨(k, w64 (i_47 - 1), r_62.2.Code, r_62.2.At, r_62.2.Seed, x_51 ++ [r_62.1]), hc1⟩ (Nat.lt_succ_self _) ⟨[], [0, 1, 2, 7], _, _, rfl, rfl, ⟨.refl _, ⟨.refl _, ⟨.refl _, ⟨.refl _, ⟨.refl _, trivial⟩⟩⟩⟩⟩, (.refl _)⟩
                  · refine w_condf rfl (bf c61) ?_
                    refine w_exit ?_
                    refine k_seqx ?_
                    refine k_loopx ?_
                    refine k_blkx ?_
                    obtain rfl := os hc1
                    exact ⟨[], [0, 1, 2, 3], _, _, rfl, rfl, ⟨.refl _, ⟨.refl _, trivial⟩⟩, (.refl _)⟩
              · obtain ⟨x_56, x_57, x_58, x_59⟩ := p60
                refine awp_seq ?_
                refine w_reg ?_
                refine s_do (o_q (.agg [(.int .i64 4), (.int .i64 0), (.str []), .nil, (.own 3 0 x_59.length)]) rfl nle rfl) ?_
                refine s_do0 (o_storebox (v := (.agg [(.int .i64 4), (.int .i64 0), (.str []), .nil, (.own 3 0 x_59.length)])) (y' := (.agg [(.int .i64 4), (.int .i64 0), (.str []), .nil, (.own 3 0 x_59.length)])) rfl rfl rfl trivial ⟨rfl, nle⟩ ⟨⟨rfl, trivial⟩, ⟨⟨rfl, trivial⟩, ⟨⟨rfl, trivial⟩, ⟨⟨rfl, trivial⟩, ⟨⟨rfl, trivial⟩, trivial⟩⟩⟩⟩⟩ rfl) ?_
                refine w_done ?_
                refine k_seq ?_
                refine w_ret ?_
                obtain rfl := os hf
                exact r_heap [.nilC 1 3 1] [0, 4, 3] rfl ⟨nle, trivial⟩ rfl (.refl _) (.refl _)
            · refine w_condf rfl (bf c31) ?_
              refine w_skip ?_
              refine k_blk ?_
              refine k_seq ?_
              refine awp_seq ?_
              refine w_reg ?_
              refine s_do (o_q (.agg [(.int .i64 5), (.int .i64 0), (.str []), .nil, .nil]) rfl ⟨⟨rfl, nle, trivial⟩, trivial⟩ rfl) ?_
              refine s_do (o_box (j := 2) (c := (.agg [(.int .i64 0), (.int .i64 0), (.str []), .nil, .nil])) rfl trivial rfl rfl) ?_
              refine s_do0 (o_storebox (v := (.agg [(.int .i64 5), (.int .i64 0), (.str []), .nil, .nil])) (y' := (.agg [(.int .i64 5), (.int .i64 0), (.str []), .nil, .nil])) rfl rfl rfl trivial ⟨rfl, nle⟩ ⟨⟨rfl, trivial⟩, ⟨⟨rfl, trivial⟩, ⟨⟨rfl, trivial⟩, ⟨⟨rfl, trivial⟩, ⟨⟨rfl, trivial⟩, trivial⟩⟩⟩⟩⟩ rfl) ?_
              refine w_done ?_
              refine k_seq ?_
              refine awp_seq ?_
              refine awp_seq ?_
              refine w_reg ?_
              refine s_do (o_mov (.int .i64 0) rfl) ?_
              refine w_done ?_
              refine k_seq ?_
              obtain ⟨p160, hb1, hf⟩ := ob hf
              refine awp_cut ([(4, (.ptr 1 0 0)), (8, (.ptr 2 0 0))], [.box 3 (.agg [(.lst 1 (p160.1.map enc_u8)), (.int .i64 p160.2.1), (.int .i64 p160.2.2.1)]), .box 5 (.agg [(.int .i64 0), (.int .i64 0), (.str []), .nil, .nil]), .box 5 (.agg [(.int .i64 5), (.int .i64 0), (.str []), (.own 3 0 p160.2.2.2.1.length), (.own 4 0 p160.2.2.2.2.length)]), .row 1 (p160.2.2.2.1.map AV.str), .row 5 (p160.2.2.2.2.map encGJson)]) ?_ ?_
              · refine awp_loop (X := {q : (Nat × Int × (List Int) × Int × Int × (List Str) × (List GJson)) // spec_l00Src_json_B_L2 rec deep_1 q.1 q.2.1 q.2.2.1 q.2.2.2.1 q.2.2.2.2.1 q.2.2.2.2.2.1 q.2.2.2.2.2.2 = some p160}) (fun q => ([(0, (.ptr 0 0 0)), (1, (.int .i64 deep_1)), (4, (.ptr 1 0 0)), (8, (.ptr 2 0 0)), (9, (.int .i64 q.1.2.1))], [.box 3 (.agg [(.lst 1 (q.1.2.2.1.map enc_u8)), (.int .i64 q.1.2.2.2.1), (.int .i64 q.1.2.2.2.2.1)]), .box 5 (.agg [(.int .i64 0), (.int .i64 0), (.str []), .nil, .nil]), .box 5 (.agg [(.int .i64 5), (.int .i64 0), (.str []), (.own 3 0 q.1.2.2.2.2.2.1.length), (.own 4 0 q.1.2.2.2.2.2.2.length)]), .row 1 (q.1.2.2.2.2.2.1.map AV.str), .row 5 (q.1.2.2.2.2.2.2.map encGJson)])) (fun q => q.1.1) ⟨(FUEL, 0, x_9, x_10, x_11, [], []), hb1⟩ ⟨[.nilC 2 3 1, .nilC 2 4 5], [0, 1, 2, 3, 4], _, _, rfl, rfl, ⟨.refl _, ⟨.refl _, ⟨.refl _, ⟨.refl _, ⟨.refl _, trivial⟩⟩⟩⟩⟩, (.refl _)⟩ ?_
                rintro ⟨⟨k, i_138, x_139, x_140, x_141, x_142, x_143⟩, hc1⟩
                have hc1 : spec_l00Src_json_B_L2 rec deep_1 k i_138 x_139 x_140 x_141 x_142 x_143 = some p160 := hc1
                refine (show awp Try.prog true 1 _ (ofL [(0, (.ptr 0 0 0)), (1, (.int .i64 deep_1)), (4, (.ptr 1 0 0)), (8, (.ptr 2 0 0)), (9, (.int .i64 i_138))]) [.box 3 (.agg [(.lst 1 (x_139.map enc_u8)), (.int .i64 x_140), (.int .i64 x_141)]), .box 5 (.agg [(.int .i64 0), (.int .i64 0), (.str []), .nil, .nil]), .box 5 (.agg [(.int .i64 5), (.int .i64 0), (.str []), (.own 3 0 x_142.length), (.own 4 0 x_143.length)]), .row 1 (x_142.map AV.str), .row 5 (x_143.map encGJson)] _ from ?_)
                rcases k with _ | k
                · rw [spec_l00Src_json_B_L2.eq_1] at hc1
                  cases hc1
                · rw [spec_l00Src_json_B_L2.eq_2] at hc1
                  refine awp_seq ?_
                  refine awp_seq ?_
                  refine w_reg ?_
                  refine s_do (o_mov (.int .i64 i_138) rfl) ?_
                  refine s_do (o_q (.bool (decide (i_138 < 4))) rfl rfl rfl) ?_
                  refine w_done ?_
                  refine k_seq ?_
                  rcases oi hc1 with ⟨c161, hc1⟩ | ⟨c161, hc1⟩
                  · refine w_condt rfl c161 ?_
                    refine w_skip ?_
                    refine k_seq ?_
                    refine awp_seq ?_
                    refine w_blk ?_
                    refine awp_seq ?_
                    refine w_reg ?_
                    obtain ⟨r_162, er163, hc1⟩ := ob hc1
                    refine s_do (o_mov (.ptr 0 0 0) rfl) ?_
                    refine s_do (o_callh (v := (.bool r_162.1)) (h2 := [.box 3 (.agg [(.lst 1 (r_162.2.Code.map enc_u8)), (.int .i64 r_162.2.At), (.int .i64 r_162.2.Seed)]), .box 5 (.agg [(.int .i64 0), (.int .i64 0), (.str []), .nil, .nil]), .box 5 (.agg [(.int .i64 5), (.int .i64 0), (.str []), (.own 3 0 x_142.length), (.own 4 0 x_143.length)]), .row 1 (x_142.map AV.str), .row 5 (x_143.map encGJson)]) [] [0] (w_spec_l00Src_chance _ _ _ er163) rfl (.refl _) (.refl _) rfl rfl) ?_
                    refine w_done ?_
                    refine k_seq ?_
                    rcases oi hc1 with ⟨c164, hc1⟩ | ⟨c164, hc1⟩
                    · refine w_condt rfl c164 ?_
                      refine awp_seq ?_
                      refine w_reg ?_
                      obtain ⟨g165, hc1⟩ := og hc1
                      obtain ⟨x_166, ex167, hc1⟩ := ob hc1
                      obtain ⟨g168, hc1⟩ := og hc1
                      refine s_do (o_q (.ptr 2 0 3) rfl trivial rfl) ?_
                      refine s_do (o_q (.own 3 0 x_142.length) rfl nle rfl) ?_
                      refine s_do (o_mov (.int .i64 i_138) rfl) ?_
                      refine s_dol (o_bslice (j := 5) (as' := [(.str [97]), (.str [98]), (.str [107]), (.str [122, 122])]) rfl (fun _ => by decide) ⟨rfl, ⟨rfl, ⟨rfl, ⟨rfl, trivial⟩⟩⟩⟩ (.refl _) rfl rfl rfl) (.inr ⟨⟨nle, rfl⟩, ⟨⟨trivial, rfl⟩, trivial⟩⟩) trivial ?_
                      refine s_do (o_iaddrown rfl rfl g165.1 g165.2 rfl rfl) ?_
                      refine s_do (o_loadrow (enc := AV.str) (v := (.str x_166)) rfl rfl ex167 ⟨rfl, rfl⟩ rfl) ?_
                      refine s_dol (o_bslice (j := 6) (as' := [(.str x_166)]) rfl (fun _ => by decide) ⟨rfl, trivial⟩ (.refl _) rfl rfl rfl) (.inr ⟨⟨nle, rfl⟩, ⟨⟨trivial, rfl⟩, trivial⟩⟩) trivial ?_
                      refine s_dol (o_appendd (j := 7) (L := ((x_142 ++ [x_166]).map AV.str)) (len := (x_142 ++ [x_166]).length) false rfl rfl (fun _ => flo (enc := AV.str) (fun _ => rfl) [x_166] _) (fun _ _ h => (ownl (show AV.own _ _ _ = AV.lst _ _ from h)).elim) (by decide) (apo (enc := AV.str) x_142 [x_166]) (by simp <;> omega) g168 rfl rfl) trivial trivial ?_
                      refine s_do (o_q (.ptr 2 0 3) rfl trivial rfl) ?_
                      refine s_dol0 (o_storebox (v := (.own 7 0 ((x_142 ++ [x_166]).length))) (y' := (.agg [(.int .i64 5), (.int .i64 0), (.str []), (.own 7 0 ((x_142 ++ [x_166]).length)), (.own 4 0 x_143.length)])) rfl rfl rfl trivial ⟨rfl, nle⟩ ⟨⟨rfl, trivial⟩, trivial⟩ rfl) trivial trivial ?_
                      refine w_done ?_
                      refine k_seq ?_
                      refine w_reg ?_
                      obtain ⟨r_169, er170, hc1⟩ := ob hc1
                      obtain ⟨g171, hc1⟩ := og hc1
                      refine s_do (o_q (.ptr 2 0 4) rfl trivial rfl) ?_
                      refine s_do (o_q (.own 4 0 x_143.length) rfl nle rfl) ?_
                      refine s_do (o_mov (.ptr 0 0 0) rfl) ?_
                      refine s_do (o_mov (.int .i64 deep_1) rfl) ?_
                      refine s_do (o_q (.int .i64 (w64 (deep_1 - 1))) rfl rfl rfl) ?_
                      refine s_dol (o_callh (v := (.agg [(.int .i64 r_169.1.Kind), (.int .i64 r_169.1.N), (.str r_169.1.T), (.own 8 0 r_169.1.Keys.length), (.own 9 0 r_169.1.Items.length)])) (h2 := [.box 3 (.agg [(.lst 1 (r_169.2.Code.map enc_u8)), (.int .i64 r_169.2.At), (.int .i64 r_169.2.Seed)]), .box 5 (.agg [(.int .i64 0), (.int .i64 0), (.str []), .nil, .nil]), .box 5 (.agg [(.int .i64 5), (.int .i64 0), (.str []), (.own 7 0 ((x_142 ++ [x_166]).length)), (.own 4 0 x_143.length)]), .dead, .row 5 (x_143.map encGJson), .row 1 ([[97], [98], [107], [122, 122]].map AV.str), .row 1 ([x_166].map AV.str), .row 1 ((x_142 ++ [x_166]).map AV.str), .row 1 (r_169.1.Keys.map AV.str), .row 5 (r_169.1.Items.map encGJson)]) [] [0] (hrec _ _ _ er170) rfl (.refl _) (.refl _) rfl rfl) (.inr ⟨⟨nle, rfl⟩, ⟨⟨trivial, rfl⟩, trivial⟩⟩) trivial ?_
                      refine s_dol (o_bslice (j := 10) (as' := [(encGJson r_169.1)]) rfl (fun _ => by decide) ⟨rfl, trivial⟩ (.cons (leJ (x := r_169.1) (.agg (.cons (.refl _) (.cons (.refl _) (.cons (.refl _) (.cons (.of_eq (congrArg (AV.lst _) (tk (enc := AV.str) r_169.1.Keys))) (.cons (.of_eq (congrArg (AV.lst _) (tk (enc := encGJson) r_169.1.Items))) .nil))))))) .nil) rfl rfl rfl) (.inr ⟨⟨nle, rfl⟩, ⟨⟨trivial, rfl⟩, trivial⟩⟩) trivial ?_
                      refine s_dol (o_appendd (j := 11) (L := ((x_143 ++ [r_169.1]).map encGJson)) (len := (x_143 ++ [r_169.1]).length) true rfl rfl (fun h => Bool.noConfusion h) (fun _ _ h => (ownl (show AV.own _ _ _ = AV.lst _ _ from h)).elim) (by decide) (apo (enc := encGJson) x_143 [r_169.1]) (by simp <;> omega) g171 rfl rfl) trivial trivial ?_
                      refine s_do (o_q (.ptr 2 0 4) rfl trivial rfl) ?_
                      refine s_dol0 (o_storebox (v := (.own 11 0 ((x_143 ++ [r_169.1]).length))) (y' := (.agg [(.int .i64 5), (.int .i64 0), (.str []), (.own 7 0 ((x_142 ++ [x_166]).length)), (.own 11 0 ((x_143 ++ [r_169.1]).length))])) rfl rfl rfl trivial ⟨rfl, nle⟩ ⟨⟨rfl, trivial⟩, trivial⟩ rfl) trivial trivial ?_
                      refine w_done ?_
                      refine k_blk ?_
                      refine k_seq ?_
                      refine w_reg ?_
                      refine s_do (o_mov (.int .i64 i_138) rfl) ?_
                      refine s_do (o_q (.int .i64 (w64 (i_138 + 1))) rfl rfl rfl) ?_
                      refine s_do (o_mov (.int .i64 (w64 (i_138 + 1))) rfl) ?_
                      refine w_done ?_
                      exact k_loopn ⟨(k, w64 (i_138 + 1), r_169.2.Code, r_169.2.At, r_169.2.Seed, x_142 ++ [x_166], x_143 ++ [r_169.1]), hc1⟩ (Nat.lt_succ_self _) ⟨[], [0, 1, 2, 7, 11], _, _, rfl, rfl, ⟨.refl _, ⟨.refl _, ⟨.refl _, ⟨.refl _, ⟨.refl _, trivial⟩⟩⟩⟩⟩, (.refl _)⟩
                    · refine w_condf rfl (bf c164) ?_
                      refine w_skip ?_
                      refine k_blk ?_
                      refine k_seq ?_
                      refine w_reg ?_
                      refine s_do (o_mov (.int .i64 i_138) rfl) ?_
                      refine s_do (o_q (.int .i64 (w64 (i_138 + 1))) rfl rfl rfl) ?_
                      refine s_do (o_mov (.int .i64 (w64 (i_138 + 1))) rfl) ?_
                      refine w_done ?_
                      exact k_loopn ⟨(k, w64 (i_138 + 1), r_162.2.Code, r_162.2.At, r_162.2.Seed, x_142, x_143), hc1⟩ (Nat.lt_succ_self _) ⟨[], [0, 1, 2, 3, 4], _, _, rfl, rfl, ⟨.refl _, ⟨.refl _, ⟨.refl _, ⟨.refl _, ⟨.refl _, trivial⟩⟩⟩⟩⟩, (.refl _)⟩
                  · refine w_condf rfl (bf c161) ?_
                    refine w_exit ?_
                    refine k_seqx ?_
                    refine k_loopx ?_
                    refine k_blkx ?_
                    obtain rfl := os hc1
                    exact ⟨[], [0, 1, 2, 3, 4], _, _, rfl, rfl, ⟨.refl _, ⟨.refl _, trivial⟩⟩, (.refl _)⟩
              · obtain ⟨x_155, x_156, x_157, x_158, x_159⟩ := p160
                refine awp_seq ?_
                refine w_reg ?_
                refine s_do (o_q (.agg [(.int .i64 5), (.int .i64 0), (.str []), (.own 3 0 x_158.length), (.own 4 0 x_159.length)]) rfl nle rfl) ?_
                refine s_do0 (o_storebox (v := (.agg [(.int .i64 5), (.int .i64 0), (.str []), (.own 3 0 x_158.length), (.own 4 0 x_159.length)])) (y' := (.agg [(.int .i64 5), (.int .i64 0), (.str []), (.own 3 0 x_158.length), (.own 4 0 x_159.length)])) rfl rfl rfl trivial ⟨rfl, nle⟩ ⟨⟨rfl, trivial⟩, ⟨⟨rfl, trivial⟩, ⟨⟨rfl, trivial⟩, ⟨⟨rfl, trivial⟩, ⟨⟨rfl, trivial⟩, trivial⟩⟩⟩⟩⟩ rfl) ?_
                refine w_done ?_
                refine k_seq ?_
                refine w_ret ?_
                obtain rfl := os hf
                exact r_heap [] [0, 3, 4] rfl ⟨nle, trivial⟩ rfl (.refl _) (.refl _)
def spec_l00Src_json : Nat → Int → GL00Src → Option (GJson × GL00Src)
  | 0, _, _ => none
  | k + 1, deep_1, s_2 => spec_l00Src_json_B (spec_l00Src_json k) deep_1 s_2
theorem w_spec_l00Src_json : ∀ (k : Nat) (deep_1 : Int) (s_2 : GL00Src) (r : (GJson × GL00Src)), spec_l00Src_json k deep_1 s_2 = some r → CallHeap Try.prog true 99 [(.ptr 0 0 0), (.int .i64 deep_1)] [.box 3 (.agg [(.lst 1 (s_2.Code.map enc_u8)), (.int .i64 s_2.At), (.int .i64 s_2.Seed)])] (.agg [(.int .i64 r.1.Kind), (.int .i64 r.1.N), (.str r.1.T), (.own 1 0 r.1.Keys.length), (.own 2 0 r.1.Items.length)]) [.box 3 (.agg [(.lst 1 (r.2.Code.map enc_u8)), (.int .i64 r.2.At), (.int .i64 r.2.Seed)]), .row 1 (r.1.Keys.map AV.str), .row 5 (r.1.Items.map encGJson)]
  | 0, deep_1, s_2, r, h => by rw [spec_l00Src_json.eq_1] at h; cases h
  | k + 1, deep_1, s_2, r, h => by
    rw [spec_l00Src_json.eq_2] at h
    exact w_spec_l00Src_json_B _ (w_spec_l00Src_json k) deep_1 s_2 r h

/- spec.JsonDrawn -/
def c30 : ACode :=
 (.seq (.reg (.q ⟨(some 2), none, .box 5 (.c (.agg [(.int .i64 0), (.int .i64 0), (.str []), .nil, .nil]))⟩
 .done))
 (.seq (.reg (.q ⟨(some 3), none, .mov (.t 0)⟩
 (.q ⟨(some 4), none, .call 98 [(.t 3)]⟩
 (.q ⟨(some 5), none, .call 99 [(.t 4), (.c (.int .i64 3))]⟩
 (.q ⟨none, none, .store 5 (.t 2) (.t 5)⟩
 .done)))))
 .ret))
theorem fc30 : fcomp Try.prog Try.f30 = some (c30.erase, [.load 5 true (.t 2)], 6) := by kernel_rfl
def spec_JsonDrawn (code_1 : (List Int)) : Option GJson :=
    (spec_l00Source code_1).bind fun r_2 =>
    (spec_l00Src_json FUEL 3 r_2).bind fun r_4 =>
    some r_4.1
theorem w_spec_JsonDrawn (code_1 : (List Int)) (r : GJson) (hf : spec_JsonDrawn code_1 = some r) : CallOK Try.prog 30 .fresh [(.lst 1 (code_1.map enc_u8))] (encGJson r) := by
  refine CallOK.of_awp mixed Try.func30 fc30 nle ?_
  rw [argT_eq]
  unfold spec_JsonDrawn at hf
  unfold c30
  refine (show awp Try.prog true 0 _ (ofL [(0, (.lst 1 (code_1.map enc_u8)))]) [] _ from ?_)
  refine awp_seq ?_
  refine w_reg ?_
  refine s_do (o_box (j := 0) (c := (.agg [(.int .i64 0), (.int .i64 0), (.str []), .nil, .nil])) rfl trivial rfl rfl) ?_
  refine w_done ?_
  refine k_seq ?_
  refine awp_seq ?_
  refine w_reg ?_
  obtain ⟨r_2, er3, hf⟩ := ob hf
  obtain ⟨r_4, er5, hf⟩ := ob hf
  refine s_do (o_mov (.lst 1 (code_1.map enc_u8)) rfl) ?_
  refine s_do (o_callh (v := (.ptr 1 0 0)) (h2 := [.box 5 (.agg [(.int .i64 0), (.int .i64 0), (.str []), .nil, .nil]), .box 3 (.agg [(.lst 1 (r_2.Code.map enc_u8)), (.int .i64 r_2.At), (.int .i64 r_2.Seed)])]) [] [] (w_spec_l00Source _ _ er3) rfl (.refl _) (.refl _) rfl rfl) ?_
  refine s_do (o_callh (v := (.agg [(.int .i64 r_4.1.Kind), (.int .i64 r_4.1.N), (.str r_4.1.T), (.own 2 0 r_4.1.Keys.length), (.own 3 0 r_4.1.Items.length)])) (h2 := [.box 5 (.agg [(.int .i64 0), (.int .i64 0), (.str []), .nil, .nil]), .box 3 (.agg [(.lst 1 (r_4.2.Code.map enc_u8)), (.int .i64 r_4.2.At), (.int .i64 r_4.2.Seed)]), .row 1 (r_4.1.Keys.map AV.str), .row 5 (r_4.1.Items.map encGJson)]) [] [1] (w_spec_l00Src_json FUEL _ _ _ er5) rfl (.refl _) (.refl _) rfl rfl) ?_
  refine s_do0 (o_storebox (v := (.agg [(.int .i64 r_4.1.Kind), (.int .i64 r_4.1.N), (.str r_4.1.T), (.own 2 0 r_4.1.Keys.length), (.own 3 0 r_4.1.Items.length)])) (y' := (.agg [(.int .i64 r_4.1.Kind), (.int .i64 r_4.1.N), (.str r_4.1.T), (.own 2 0 r_4.1.Keys.length), (.own 3 0 r_4.1.Items.length)])) rfl rfl rfl trivial ⟨rfl, nle⟩ ⟨⟨rfl, trivial⟩, ⟨⟨rfl, trivial⟩, ⟨⟨rfl, trivial⟩, ⟨⟨rfl, trivial⟩, ⟨⟨rfl, trivial⟩, trivial⟩⟩⟩⟩⟩ rfl) ?_
  refine w_done ?_
  refine k_seq ?_
  refine w_ret ?_
  obtain rfl := os hf
  exact r_fresh ⟨nle, trivial⟩ rfl (by decide) (leJ (x := r_4.1) (.agg (.cons (.refl _) (.cons (.refl _) (.cons (.refl _) (.cons (.of_eq (congrArg (AV.lst _) (tk (enc := AV.str) r_4.1.Keys))) (.cons (.of_eq (congrArg (AV.lst _) (tk (enc := encGJson) r_4.1.Items))) .nil)))))))

/- impl.isText -/
def c100 : ACode :=
 (.seq (.reg (.q ⟨(some 2), none, .mov (.c (.bool false))⟩
 .done))
 (.seq (.reg (.q ⟨(some 3), none, .mov (.t 0)⟩
 (.q ⟨(some 4), none, .lenS (.t 3)⟩
 (.q ⟨(some 5), none, .bin .leq (.t 4) (.c (.int .i64 65536))⟩
 (.q ⟨(some 2), none, .mov (.t 5)⟩
 .done)))))
 .ret))
theorem fc100 : fcomp Try.prog Try.f100 = some (c100.erase, [.mov (.t 2)], 6) := by kernel_rfl
def impl_isText (t_1 : Str) : Option Bool :=
    some (decide ((t_1.length : Int) ≤ 65536))
theorem w_impl_isText (t_1 : Str) (r : Bool) (hf : impl_isText t_1 = some r) : CallOK Try.prog 100 .flat [(.str t_1)] (.bool r) := by
  refine CallOK.of_awp mixed Try.func100 fc100 nle ?_
  rw [argT_eq]
  unfold impl_isText at hf
  unfold c100
  refine (show awp Try.prog false 0 _ (ofL [(0, (.str t_1))]) [] _ from ?_)
  refine awp_seq ?_
  refine w_reg ?_
  refine s_do (o_mov (.bool false) rfl) ?_
  refine w_done ?_
  refine k_seq ?_
  refine awp_seq ?_
  refine w_reg ?_
  refine s_do (o_mov (.str t_1) rfl) ?_
  refine s_dof (o_lenS rfl) fun hl2 => ?_
  refine s_do (o_q (.bool (decide ((t_1.length : Int) ≤ 65536))) rfl rfl rfl) ?_
  refine s_do (o_mov (.bool (decide ((t_1.length : Int) ≤ 65536))) rfl) ?_
  refine w_done ?_
  refine k_seq ?_
  refine w_ret ?_
  obtain rfl := os hf
  exact r_flat ⟨trivial, trivial⟩ rfl (.refl _)

/- impl.within -/
def c86 : ACode :=
 (.seq (.reg (.q ⟨(some 6), none, .mov (.c (.bool false))⟩
 .done))
 (.seq (.reg (.q ⟨(some 7), none, .mov (.t 0)⟩
 (.q ⟨(some 8), none, .mov (.t 1)⟩
 (.q ⟨(some 9), none, .bin .geq (.t 7) (.t 8)⟩
 (.q ⟨(some 10), none, .mov (.t 9)⟩
 (.q ⟨(some 11), (some (10, true)), .mov (.t 0)⟩
 (.q ⟨(some 12), (some (10, true)), .mov (.t 2)⟩
 (.q ⟨(some 13), (some (10, true)), .bin .leq (.t 11) (.t 12)⟩
 (.q ⟨(some 14), none, .pick (.t 10) (.t 13) (.c (.bool false))⟩
 (.q ⟨(some 6), none, .mov (.t 14)⟩
 .done))))))))))
 .ret))
theorem fc86 : fcomp Try.prog Try.f86 = some (c86.erase, [.mov (.t 6)], 15) := by kernel_rfl
def impl_within (n_1 : Int) (low_2 : Int) (high_3 : Int) : Option Bool :=
    if (decide (n_1 ≥ low_2)) then
    some (decide (n_1 ≤ high_3))
    else
    some false
theorem w_impl_within (n_1 : Int) (low_2 : Int) (high_3 : Int) (r : Bool) (hf : impl_within n_1 low_2 high_3 = some r) : CallOK Try.prog 86 .flat [(.int .i64 n_1), (.int .i64 low_2), (.int .i64 high_3)] (.bool r) := by
  refine CallOK.of_awp mixed Try.func86 fc86 nle ?_
  rw [argT_eq]
  unfold impl_within at hf
  unfold c86
  refine (show awp Try.prog false 0 _ (ofL [(0, (.int .i64 n_1)), (1, (.int .i64 low_2)), (2, (.int .i64 high_3))]) [] _ from ?_)
  refine awp_seq ?_
  refine w_reg ?_
  refine s_do (o_mov (.bool false) rfl) ?_
  refine w_done ?_
  refine k_seq ?_
  refine awp_seq ?_
  refine w_reg ?_
  rcases oi hf with ⟨c4, hf⟩ | ⟨c4, hf⟩
  · refine s_do (o_mov (.int .i64 n_1) rfl) ?_
    refine s_do (o_mov (.int .i64 low_2) rfl) ?_
    refine s_do (o_q (.bool (decide (n_1 ≥ low_2))) rfl rfl rfl) ?_
    refine s_do (o_mov (.bool (decide (n_1 ≥ low_2))) rfl) ?_
    refine s_lit (s := 10) (b := true) rfl c4 ?_
    refine s_on rfl ?_
    refine s_do (o_mov (.int .i64 n_1) rfl) ?_
    refine s_on rfl ?_
    refine s_do (o_mov (.int .i64 high_3) rfl) ?_
    refine s_on rfl ?_
    refine s_do (o_q (.bool (decide (n_1 ≤ high_3))) rfl rfl rfl) ?_
    refine s_do (o_q (.bool (decide (n_1 ≤ high_3))) rfl trivial rfl) ?_
    refine s_do (o_mov (.bool (decide (n_1 ≤ high_3))) rfl) ?_
    refine w_done ?_
    refine k_seq ?_
    refine w_ret ?_
    obtain rfl := os hf
    exact r_flat ⟨trivial, trivial⟩ rfl (.refl _)
  · refine s_do (o_mov (.int .i64 n_1) rfl) ?_
    refine s_do (o_mov (.int .i64 low_2) rfl) ?_
    refine s_do (o_q (.bool (decide (n_1 ≥ low_2))) rfl rfl rfl) ?_
    refine s_do (o_mov (.bool (decide (n_1 ≥ low_2))) rfl) ?_
    refine s_lit (s := 10) (b := false) rfl (bf c4) ?_
    refine s_off rfl rfl ?_
    refine s_off rfl rfl ?_
    refine s_off rfl rfl ?_
    refine s_do (o_q (.bool false) rfl trivial rfl) ?_
    refine s_do (o_mov (.bool false) rfl) ?_
    refine w_done ?_
    refine k_seq ?_
    refine w_ret ?_
    obtain rfl := os hf
    exact r_flat ⟨trivial, trivial⟩ rfl (.refl _)

/- impl.isNumber -/
def c136 : ACode :=
 (.seq (.reg (.q ⟨(some 2), none, .mov (.c (.bool false))⟩
 .done))
 (.seq (.reg (.q ⟨(some 3), none, .mov (.t 0)⟩
 (.q ⟨(some 4), none, .call 86 [(.t 3), (.c (.int .i64 (-1000000000))), (.c (.int .i64 1000000000))]⟩
 (.q ⟨(some 2), none, .mov (.t 4)⟩
 .done))))
 .ret))
theorem fc136 : fcomp Try.prog Try.f136 = some (c136.erase, [.mov (.t 2)], 5) := by kernel_rfl
def impl_isNumber (n_1 : Int) : Option Bool :=
    (impl_within n_1 (-1000000000) 1000000000).bind fun r_2 =>
    some r_2
theorem w_impl_isNumber (n_1 : Int) (r : Bool) (hf : impl_isNumber n_1 = some r) : CallOK Try.prog 136 .flat [(.int .i64 n_1)] (.bool r) := by
  refine CallOK.of_awp mixed Try.func136 fc136 nle ?_
  rw [argT_eq]
  unfold impl_isNumber at hf
  unfold c136
  refine (show awp Try.prog false 0 _ (ofL [(0, (.int .i64 n_1))]) [] _ from ?_)
  refine awp_seq ?_
  refine w_reg ?_
  refine s_do (o_mov (.bool false) rfl) ?_
  refine w_done ?_
  refine k_seq ?_
  refine awp_seq ?_
  refine w_reg ?_
  obtain ⟨r_2, er3, hf⟩ := ob hf
  refine s_do (o_mov (.int .i64 n_1) rfl) ?_
  refine s_do (o_call (w_impl_within _ _ _ _ er3) rfl (.refl _) rfl) ?_
  refine s_do (o_mov (.bool r_2) rfl) ?_
  refine w_done ?_
  refine k_seq ?_
  refine w_ret ?_
  obtain rfl := os hf
  exact r_flat ⟨trivial, trivial⟩ rfl (.refl _)

/- impl.isPlain -/
def c174 : ACode :=
 (.seq (.reg (.q ⟨(some 2), none, .mov (.c (.bool false))⟩
 .done))
 (.seq (.seq (.reg (.q ⟨(some 4), none, .mov (.t 0)⟩
 (.q ⟨(some 5), none, .lenS (.t 4)⟩
 (.q ⟨(some 6), none, .mov (.c (.int .i64 0))⟩
 .done))))
 (.block 0 (.loop (.seq (.reg (.q ⟨(some 7), none, .bin .lss (.t 6) (.t 5)⟩
 .done))
 (.seq (.cond (.t 7) .skip
 (.exit 0))
 (.seq (.block 1 (.seq (.reg (.q ⟨(some 8), none, .mov (.t 6)⟩
 (.q ⟨(some 3), none, .mov (.t 8)⟩
 .done)))
 (.seq (.reg (.q ⟨(some 9), none, .mov (.t 0)⟩
 (.q ⟨(some 10), none, .mov (.t 3)⟩
 (.q ⟨(some 11), none, .idxs (.t 9) (.t 10)⟩
 (.q ⟨(some 12), none, .bin .lss (.t 11) (.c (.int .u8 32))⟩
 (.q ⟨(some 13), none, .mov (.t 12)⟩
 (.q ⟨(some 14), (some (13, false)), .mov (.t 0)⟩
 (.q ⟨(some 15), (some (13, false)), .mov (.t 3)⟩
 (.q ⟨(some 16), (some (13, false)), .idxs (.t 14) (.t 15)⟩
 (.q ⟨(some 17), (some (13, false)), .bin .gtr (.t 16) (.c (.int .u8 126))⟩
 (.q ⟨(some 18), none, .pick (.t 13) (.c (.bool true)) (.t 17)⟩
 .done)))))))))))
 (.cut (.cond (.t 18) (.seq (.reg (.q ⟨(some 2), none, .mov (.c (.bool false))⟩
 .done))
 .ret)
 .skip)))))
 (.reg (.q ⟨(some 19), none, .bin .add (.t 6) (.c (.int .i64 1))⟩
 (.q ⟨(some 6), none, .mov (.t 19)⟩
 .done)))))))))
 (.cut (.seq (.reg (.q ⟨(some 20), none, .mov (.t 0)⟩
 (.q ⟨(some 21), none, .lenS (.t 20)⟩
 (.q ⟨(some 22), none, .bin .leq (.t 21) (.c (.int .i64 200))⟩
 (.q ⟨(some 2), none, .mov (.t 22)⟩
 .done)))))
 .ret))))
theorem fc174 : fcomp Try.prog Try.f174 = some (c174.erase, [.mov (.t 2)], 23) := by kernel_rfl
def impl_isPlain_L1  : List UInt8 → Option (Fl Bool Unit)
  | [] =>
    some (.go ())
  | x_54 :: xs =>
    ((if (decide ((x_54.toNat : Int) < 32)) then
    some true
    else
    some (decide ((x_54.toNat : Int) > 126)) : Option Bool)).bind fun s18_56 =>
    if s18_56 then
    some (.ret false)
    else
    impl_isPlain_L1 xs 

def impl_isPlain (t_1 : Str) : Option Bool :=
    (impl_isPlain_L1 t_1 ).bind fun q => (match q with
    | .ret r => some r
    | .go _ =>
    some (decide ((t_1.length : Int) ≤ 200)))
theorem w_impl_isPlain (t_1 : Str) (r : Bool) (hf : impl_isPlain t_1 = some r) : CallOK Try.prog 174 .flat [(.str t_1)] (.bool r) := by
  refine CallOK.of_awp mixed Try.func174 fc174 nle ?_
  rw [argT_eq]
  unfold impl_isPlain at hf
  unfold c174
  refine (show awp Try.prog false 0 _ (ofL [(0, (.str t_1))]) [] _ from ?_)
  refine awp_seq ?_
  refine w_reg ?_
  refine s_do (o_mov (.bool false) rfl) ?_
  refine w_done ?_
  refine k_seq ?_
  refine awp_seq ?_
  refine awp_seq ?_
  refine w_reg ?_
  refine s_do (o_mov (.str t_1) rfl) ?_
  refine s_dof (o_lenS rfl) fun hl2 => ?_
  refine s_do (o_mov (.int .i64 0) rfl) ?_
  refine w_done ?_
  refine k_seq ?_
  obtain ⟨p47, hb1, hf⟩ := ob hf
  refine awp_cutx (X := {q : Unit // p47 = .go q}) (fun q => ([(0, (.str t_1))], [])) ?_ ?_
  · refine awp_loop (X := {q : Nat // impl_isPlain_L1 (t_1.drop q)  = some p47}) (fun q => ([(0, (.str t_1)), (5, (.int .i64 (t_1.length : Int))), (6, (.int .i64 (q.1 : Int)))], [])) (fun q => t_1.length - q.1) ⟨0, hb1⟩ ⟨[], [], _, _, rfl, rfl, ⟨.refl _, ⟨.refl _, ⟨.refl _, trivial⟩⟩⟩, (.refl _)⟩ ?_
    rintro ⟨s6_32, hc1⟩
    have hc1 : impl_isPlain_L1 (t_1.drop s6_32)  = some p47 := hc1
    refine (show awp Try.prog false 0 _ (ofL [(0, (.str t_1)), (5, (.int .i64 (t_1.length : Int))), (6, (.int .i64 (s6_32 : Int)))]) [] _ from ?_)
    rcases dropc t_1 s6_32 with ⟨hie50, hd53⟩ | ⟨hlt48, x_54, hx49, hd53⟩
    · rw [hd53, impl_isPlain_L1.eq_1] at hc1
      have hq52 := dlf hie50
      refine awp_seq ?_
      refine w_reg ?_
      refine s_do (o_q (.bool (decide ((s6_32 : Int) < (t_1.length : Int)))) rfl rfl rfl) ?_
      refine w_done ?_
      refine k_seq ?_
      refine awp_seq ?_
      refine w_condf rfl hq52 ?_
      refine w_exit ?_
      refine k_seqx ?_
      refine k_loopx ?_
      refine k_blkx ?_
      obtain rfl := os hc1
      exact k_cutn ⟨_, rfl⟩ ⟨[], [], _, _, rfl, rfl, ⟨.refl _, trivial⟩, (.refl _)⟩
    · rw [hd53, impl_isPlain_L1.eq_2] at hc1
      have hq52 := dlt hlt48
      refine awp_seq ?_
      refine w_reg ?_
      refine s_do (o_q (.bool (decide ((s6_32 : Int) < (t_1.length : Int)))) rfl rfl rfl) ?_
      refine w_done ?_
      refine k_seq ?_
      refine awp_seq ?_
      refine w_condt rfl hq52 ?_
      refine w_skip ?_
      refine k_seq ?_
      refine awp_seq ?_
      refine w_blk ?_
      refine awp_seq ?_
      refine w_reg ?_
      refine s_do (o_mov (.int .i64 (s6_32 : Int)) rfl) ?_
      refine s_do (o_mov (.int .i64 (s6_32 : Int)) rfl) ?_
      refine w_done ?_
      refine k_seq ?_
      refine awp_seq ?_
      obtain ⟨s18_56, hb2, hc1⟩ := ob hc1
      refine awp_cut ([(0, (.str t_1)), (5, (.int .i64 (t_1.length : Int))), (6, (.int .i64 (s6_32 : Int))), (18, (.bool s18_56))], []) ?_ ?_
      · refine w_reg ?_
        rcases oi hb2 with ⟨c58, hb2⟩ | ⟨c58, hb2⟩
        · refine s_do (o_mov (.str t_1) rfl) ?_
          refine s_do (o_mov (.int .i64 (s6_32 : Int)) rfl) ?_
          refine s_do (o_idxsn rfl rfl hx49) ?_
          refine s_do (o_q (.bool (decide ((x_54.toNat : Int) < 32))) rfl rfl rfl) ?_
          refine s_do (o_mov (.bool (decide ((x_54.toNat : Int) < 32))) rfl) ?_
          refine s_lit (s := 13) (b := true) rfl c58 ?_
          refine s_off rfl rfl ?_
          refine s_off rfl rfl ?_
          refine s_off rfl rfl ?_
          refine s_off rfl rfl ?_
          refine s_do (o_q (.bool true) rfl trivial rfl) ?_
          refine w_done ?_
          obtain rfl := os hb2
          exact ⟨[], [], _, _, rfl, rfl, ⟨.refl _, ⟨.refl _, ⟨.refl _, ⟨.refl _, trivial⟩⟩⟩⟩, (.refl _)⟩
        · refine s_do (o_mov (.str t_1) rfl) ?_
          refine s_do (o_mov (.int .i64 (s6_32 : Int)) rfl) ?_
          refine s_do (o_idxsn rfl rfl hx49) ?_
          refine s_do (o_q (.bool (decide ((x_54.toNat : Int) < 32))) rfl rfl rfl) ?_
          refine s_do (o_mov (.bool (decide ((x_54.toNat : Int) < 32))) rfl) ?_
          refine s_lit (s := 13) (b := false) rfl (bf c58) ?_
          refine s_on rfl ?_
          refine s_do (o_mov (.str t_1) rfl) ?_
          refine s_on rfl ?_
          refine s_do (o_mov (.int .i64 (s6_32 : Int)) rfl) ?_
          refine s_on rfl ?_
          refine s_do (o_idxsn rfl rfl hx49) ?_
          refine s_on rfl ?_
          refine s_do (o_q (.bool (decide ((x_54.toNat : Int) > 126))) rfl rfl rfl) ?_
          refine s_do (o_q (.bool (decide ((x_54.toNat : Int) > 126))) rfl trivial rfl) ?_
          refine w_done ?_
          obtain rfl := os hb2
          exact ⟨[], [], _, _, rfl, rfl, ⟨.refl _, ⟨.refl _, ⟨.refl _, ⟨.refl _, trivial⟩⟩⟩⟩, (.refl _)⟩
      · rcases oi hc1 with ⟨c59, hc1⟩ | ⟨c59, hc1⟩
        · refine w_condt rfl c59 ?_
          refine awp_seq ?_
          refine w_reg ?_
          refine s_do (o_mov (.bool false) rfl) ?_
          refine w_done ?_
          refine k_seq ?_
          refine w_ret ?_
          obtain rfl := os hc1
          obtain rfl := os hf
          exact r_flat ⟨trivial, trivial⟩ rfl (.refl _)
        · refine w_condf rfl (bf c59) ?_
          refine w_skip ?_
          refine k_blk ?_
          refine k_seq ?_
          refine w_reg ?_
          refine s_do (o_q (.int .i64 (w64 ((s6_32 : Int) + 1))) rfl rfl rfl) ?_
          refine s_do (o_mov (.int .i64 (w64 ((s6_32 : Int) + 1))) rfl) ?_
          refine w_done ?_
          exact k_loopn ⟨(s6_32 + 1), hc1⟩ (mul hlt48) ⟨[], [], _, _, rfl, rfl, ⟨.refl _, ⟨.refl _, ⟨.of_eq (congrArg (AV.int _) (w64_incr hlt48 hl2)), trivial⟩⟩⟩, (.refl _)⟩
  · rintro ⟨_, rfl⟩
    refine awp_seq ?_
    refine w_reg ?_
    refine s_do (o_mov (.str t_1) rfl) ?_
    refine s_dof (o_lenS rfl) fun hl60 => ?_
    refine s_do (o_q (.bool (decide ((t_1.length : Int) ≤ 200))) rfl rfl rfl) ?_
    refine s_do (o_mov (.bool (decide ((t_1.length : Int) ≤ 200))) rfl) ?_
    refine w_done ?_
    refine k_seq ?_
    refine w_ret ?_
    obtain rfl := os hf
    exact r_flat ⟨trivial, trivial⟩ rfl (.refl _)

/- impl.areKeys -/
def c226 : ACode :=
 (.seq (.reg (.q ⟨(some 2), none, .mov (.c (.bool false))⟩
 .done))
 (.seq (.seq (.reg (.q ⟨(some 5), none, .mov (.t 0)⟩
 (.q ⟨(some 6), none, .len (.t 5)⟩
 (.q ⟨(some 7), none, .mov (.c (.int .i64 0))⟩
 .done))))
 (.block 0 (.loop (.seq (.reg (.q ⟨(some 8), none, .bin .lss (.t 7) (.t 6)⟩
 .done))
 (.seq (.cond (.t 8) .skip
 (.exit 0))
 (.seq (.block 1 (.seq (.reg (.q ⟨(some 9), none, .mov (.t 7)⟩
 (.q ⟨(some 10), none, .iaddr 1 (.t 5) (.t 7)⟩
 (.q ⟨(some 11), none, .load 1 false (.t 10)⟩
 (.q ⟨(some 3), none, .mov (.t 9)⟩
 (.q ⟨(some 4), none, .mov (.t 11)⟩
 .done))))))
 (.seq (.reg (.q ⟨(some 12), none, .mov (.t 4)⟩
 (.q ⟨(some 13), none, .call 174 [(.t 12)]⟩
 (.q ⟨(some 14), none, .not (.t 13)⟩
 (.q ⟨(some 15), none, .mov (.t 14)⟩
 (.q ⟨(some 16), (some (15, false)), .mov (.t 3)⟩
 (.q ⟨(some 17), (some (15, false)), .bin .gtr (.t 16) (.c (.int .i64 0))⟩
 (.q ⟨(some 18), (some (15, false)), .mov (.t 17)⟩
 (.q ⟨(some 19), (some (18, true)), .mov (.t 0)⟩
 (.q ⟨(some 20), (some (18, true)), .mov (.t 3)⟩
 (.q ⟨(some 21), (some (18, true)), .bin .sub (.t 20) (.c (.int .i64 1))⟩
 (.q ⟨(some 22), (some (18, true)), .iaddr 1 (.t 19) (.t 21)⟩
 (.q ⟨(some 23), (some (18, true)), .load 1 false (.t 22)⟩
 (.q ⟨(some 24), (some (18, true)), .mov (.t 4)⟩
 (.q ⟨(some 25), (some (18, true)), .bin .geq (.t 23) (.t 24)⟩
 (.q ⟨(some 26), (some (15, false)), .pick (.t 18) (.t 25) (.c (.bool false))⟩
 (.q ⟨(some 27), none, .pick (.t 15) (.c (.bool true)) (.t 26)⟩
 .done)))))))))))))))))
 (.cut (.cond (.t 27) (.seq (.reg (.q ⟨(some 2), none, .mov (.c (.bool false))⟩
 .done))
 .ret)
 .skip)))))
 (.reg (.q ⟨(some 28), none, .bin .add (.t 7) (.c (.int .i64 1))⟩
 (.q ⟨(some 7), none, .mov (.t 28)⟩
 .done)))))))))
 (.cut (.seq (.reg (.q ⟨(some 2), none, .mov (.c (.bool true))⟩
 .done))
 .ret))))
theorem fc226 : fcomp Try.prog Try.f226 = some (c226.erase, [.mov (.t 2)], 29) := by kernel_rfl
def impl_areKeys_L1 (keys_1 : (List Str)) : List Str → Nat → Option (Fl Bool Unit)
  | [], s7_40 =>
    some (.go ())
  | x_66 :: xs, s7_40 =>
    (((impl_isPlain x_66).bind fun r_75 =>
    if (!r_75) then
    some true
    else
    if (decide ((s7_40 : Int) > 0)) then
    (idx keys_1 (w64 ((s7_40 : Int) - 1))).bind fun x_79 =>
    some (!Op.bytesLess x_79 x_66)
    else
    some false : Option Bool)).bind fun s27_73 =>
    if s27_73 then
    some (.ret false)
    else
    impl_areKeys_L1 keys_1 xs (s7_40 + 1)

def impl_areKeys (keys_1 : (List Str)) : Option Bool :=
    (impl_areKeys_L1 keys_1 keys_1 0).bind fun q => (match q with
    | .ret r => some r
    | .go _ =>
    some true)
theorem w_impl_areKeys (keys_1 : (List Str)) (r : Bool) (hf : impl_areKeys keys_1 = some r) : CallOK Try.prog 226 .flat [(.lst 1 (keys_1.map AV.str))] (.bool r) := by
  refine CallOK.of_awp mixed Try.func226 fc226 nle ?_
  rw [argT_eq]
  unfold impl_areKeys at hf
  unfold c226
  refine (show awp Try.prog false 0 _ (ofL [(0, (.lst 1 (keys_1.map AV.str)))]) [] _ from ?_)
  refine awp_seq ?_
  refine w_reg ?_
  refine s_do (o_mov (.bool false) rfl) ?_
  refine w_done ?_
  refine k_seq ?_
  refine awp_seq ?_
  refine awp_seq ?_
  refine w_reg ?_
  refine s_do (o_mov (.lst 1 (keys_1.map AV.str)) rfl) ?_
  refine s_dof (o_len (enc := AV.str) rfl) fun hl2 => ?_
  refine s_do (o_mov (.int .i64 0) rfl) ?_
  refine w_done ?_
  refine k_seq ?_
  obtain ⟨p59, hb1, hf⟩ := ob hf
  refine awp_cutx (X := {q : Unit // p59 = .go q}) (fun q => ([], [])) ?_ ?_
  · refine awp_loop (X := {q : Nat // impl_areKeys_L1 keys_1 (keys_1.drop q) q = some p59}) (fun q => ([(0, (.lst 1 (keys_1.map AV.str))), (5, (.lst 1 (keys_1.map AV.str))), (6, (.int .i64 (keys_1.length : Int))), (7, (.int .i64 (q.1 : Int)))], [])) (fun q => keys_1.length - q.1) ⟨0, hb1⟩ ⟨[], [], _, _, rfl, rfl, ⟨.refl _, ⟨.refl _, ⟨.refl _, ⟨.refl _, trivial⟩⟩⟩⟩, (.refl _)⟩ ?_
    rintro ⟨s7_40, hc1⟩
    have hc1 : impl_areKeys_L1 keys_1 (keys_1.drop s7_40) s7_40 = some p59 := hc1
    refine (show awp Try.prog false 0 _ (ofL [(0, (.lst 1 (keys_1.map AV.str))), (5, (.lst 1 (keys_1.map AV.str))), (6, (.int .i64 (keys_1.length : Int))), (7, (.int .i64 (s7_40 : Int)))]) [] _ from ?_)
    rcases dropc keys_1 s7_40 with ⟨hie62, hd65⟩ | ⟨hlt60, x_66, hx61, hd65⟩
    · rw [hd65, impl_areKeys_L1.eq_1] at hc1
      have hq64 := dlf hie62
      refine awp_seq ?_
      refine w_reg ?_
      refine s_do (o_q (.bool (decide ((s7_40 : Int) < (keys_1.length : Int)))) rfl rfl rfl) ?_
      refine w_done ?_
      refine k_seq ?_
      refine awp_seq ?_
      refine w_condf rfl hq64 ?_
      refine w_exit ?_
      refine k_seqx ?_
      refine k_loopx ?_
      refine k_blkx ?_
      obtain rfl := os hc1
      exact k_cutn ⟨_, rfl⟩ ⟨[], [], _, _, rfl, rfl, trivial, (.refl _)⟩
    · rw [hd65, impl_areKeys_L1.eq_2] at hc1
      have hq64 := dlt hlt60
      refine awp_seq ?_
      refine w_reg ?_
      refine s_do (o_q (.bool (decide ((s7_40 : Int) < (keys_1.length : Int)))) rfl rfl rfl) ?_
      refine w_done ?_
      refine k_seq ?_
      refine awp_seq ?_
      refine w_condt rfl hq64 ?_
      refine w_skip ?_
      refine k_seq ?_
      refine awp_seq ?_
      refine w_blk ?_
      refine awp_seq ?_
      refine w_reg ?_
      refine s_do (o_mov (.int .i64 (s7_40 : Int)) rfl) ?_
      refine s_do (o_iaddrn (enc := AV.str) rfl rfl hx61) ?_
      refine s_do (o_q (.str x_66) rfl ⟨rfl, rfl⟩ rfl) ?_
      refine s_do (o_mov (.int .i64 (s7_40 : Int)) rfl) ?_
      refine s_do (o_mov (.str x_66) rfl) ?_
      refine w_done ?_
      refine k_seq ?_
      refine awp_seq ?_
      obtain ⟨s27_73, hb2, hc1⟩ := ob hc1
      refine awp_cut ([(0, (.lst 1 (keys_1.map AV.str))), (5, (.lst 1 (keys_1.map AV.str))), (6, (.int .i64 (keys_1.length : Int))), (7, (.int .i64 (s7_40 : Int))), (27, (.bool s27_73))], []) ?_ ?_
      · refine w_reg ?_
        refine s_do (o_mov (.str x_66) rfl) ?_
        obtain ⟨r_75, er76, hb2⟩ := ob hb2
        refine s_do (o_call (w_impl_isPlain _ _ er76) rfl (.refl _) rfl) ?_
        refine s_do (o_q (.bool (!r_75)) rfl trivial rfl) ?_
        refine s_do (o_mov (.bool (!r_75)) rfl) ?_
        rcases oi hb2 with ⟨c77, hb2⟩ | ⟨c77, hb2⟩
        · refine s_lit (s := 15) (b := true) rfl c77 ?_
          refine s_off rfl rfl ?_
          refine s_off rfl rfl ?_
          refine s_off rfl rfl ?_
          refine s_offs rfl ?_
          refine s_offs rfl ?_
          refine s_offs rfl ?_
          refine s_offs rfl ?_
          refine s_offs rfl ?_
          refine s_offs rfl ?_
          refine s_offs rfl ?_
          refine s_off rfl rfl ?_
          refine s_do (o_q (.bool true) rfl trivial rfl) ?_
          refine w_done ?_
          obtain rfl := os hb2
          exact ⟨[], [], _, _, rfl, rfl, ⟨.refl _, ⟨.refl _, ⟨.refl _, ⟨.refl _, ⟨.refl _, trivial⟩⟩⟩⟩⟩, (.refl _)⟩
        · refine s_lit (s := 15) (b := false) rfl (bf c77) ?_
          refine s_on rfl ?_
          refine s_do (o_mov (.int .i64 (s7_40 : Int)) rfl) ?_
          refine s_on rfl ?_
          refine s_do (o_q (.bool (decide ((s7_40 : Int) > 0))) rfl rfl rfl) ?_
          refine s_on rfl ?_
          refine s_do (o_mov (.bool (decide ((s7_40 : Int) > 0))) rfl) ?_
          rcases oi hb2 with ⟨c78, hb2⟩ | ⟨c78, hb2⟩
          · refine s_lit (s := 18) (b := true) rfl c78 ?_
            refine s_on rfl ?_
            refine s_do (o_mov (.lst 1 (keys_1.map AV.str)) rfl) ?_
            refine s_on rfl ?_
            refine s_do (o_mov (.int .i64 (s7_40 : Int)) rfl) ?_
            refine s_on rfl ?_
            refine s_do (o_q (.int .i64 (w64 ((s7_40 : Int) - 1))) rfl rfl rfl) ?_
            refine s_on rfl ?_
            obtain ⟨x_79, ex80, hb2⟩ := ob hb2
            refine s_do (o_iaddr (enc := AV.str) rfl rfl (idx0 ex80) (idx1 ex80)) ?_
            refine s_on rfl ?_
            refine s_do (o_q (.str x_79) rfl ⟨rfl, rfl⟩ rfl) ?_
            refine s_on rfl ?_
            refine s_do (o_mov (.str x_66) rfl) ?_
            refine s_on rfl ?_
            refine s_do (o_q (.bool (!Op.bytesLess x_79 x_66)) rfl trivial rfl) ?_
            refine s_on rfl ?_
            refine s_do (o_q (.bool (!Op.bytesLess x_79 x_66)) rfl trivial rfl) ?_
            refine s_do (o_q (.bool (!Op.bytesLess x_79 x_66)) rfl trivial rfl) ?_
            refine w_done ?_
            obtain rfl := os hb2
            exact ⟨[], [], _, _, rfl, rfl, ⟨.refl _, ⟨.refl _, ⟨.refl _, ⟨.refl _, ⟨.refl _, trivial⟩⟩⟩⟩⟩, (.refl _)⟩
          · refine s_lit (s := 18) (b := false) rfl (bf c78) ?_
            refine s_off rfl rfl ?_
            refine s_off rfl rfl ?_
            refine s_off rfl rfl ?_
            refine s_off rfl rfl ?_
            refine s_off rfl rfl ?_
            refine s_off rfl rfl ?_
            refine s_off rfl rfl ?_
            refine s_on rfl ?_
            refine s_do (o_q (.bool false) rfl trivial rfl) ?_
            refine s_do (o_q (.bool false) rfl trivial rfl) ?_
            refine w_done ?_
            obtain rfl := os hb2
            exact ⟨[], [], _, _, rfl, rfl, ⟨.refl _, ⟨.refl _, ⟨.refl _, ⟨.refl _, ⟨.refl _, trivial⟩⟩⟩⟩⟩, (.refl _)⟩
      · rcases oi hc1 with ⟨c81, hc1⟩ | ⟨c81, hc1⟩
        · refine w_condt rfl c81 ?_
          refine awp_seq ?_
          refine w_reg ?_
          refine s_do (o_mov (.bool false) rfl) ?_
          refine w_done ?_
          refine k_seq ?_
          refine w_ret ?_
          obtain rfl := os hc1
          obtain rfl := os hf
          exact r_flat ⟨trivial, trivial⟩ rfl (.refl _)
        · refine w_condf rfl (bf c81) ?_
          refine w_skip ?_
          refine k_blk ?_
          refine k_seq ?_
          refine w_reg ?_
          refine s_do (o_q (.int .i64 (w64 ((s7_40 : Int) + 1))) rfl rfl rfl) ?_
          refine s_do (o_mov (.int .i64 (w64 ((s7_40 : Int) + 1))) rfl) ?_
          refine w_done ?_
          exact k_loopn ⟨(s7_40 + 1), hc1⟩ (mul hlt60) ⟨[], [], _, _, rfl, rfl, ⟨.refl _, ⟨.refl _, ⟨.refl _, ⟨.of_eq (congrArg (AV.int _) (w64_incr hlt60 hl2)), trivial⟩⟩⟩⟩, (.refl _)⟩
  · rintro ⟨_, rfl⟩
    refine awp_seq ?_
    refine w_reg ?_
    refine s_do (o_mov (.bool true) rfl) ?_
    refine w_done ?_
    refine k_seq ?_
    refine w_ret ?_
    obtain rfl := os hf
    exact r_flat ⟨trivial, trivial⟩ rfl (.refl _)

/- (impl.Json).partOK -/
def c212 : ACode :=
 (.seq (.reg (.q ⟨(some 1), none, .box 5 (.t 0)⟩
 (.q ⟨(some 2), none, .mov (.c (.bool false))⟩
 .done)))
 (.seq (.seq (.reg (.q ⟨(some 3), none, .faddr 0 (.t 1)⟩
 (.q ⟨(some 4), none, .load 1 false (.t 3)⟩
 .done)))
 (.block 0 (.seq (.reg (.q ⟨(some 6), none, .bin .eql (.t 4) (.c (.int .i64 0))⟩
 (.q ⟨(some 5), none, .mov (.t 6)⟩
 .done)))
 (.cond (.t 5) (.seq (.reg (.q ⟨(some 7), none, .faddr 1 (.t 1)⟩
 (.q ⟨(some 8), none, .load 1 false (.t 7)⟩
 (.q ⟨(some 9), none, .bin .eql (.t 8) (.c (.int .i64 0))⟩
 (.q ⟨(some 10), none, .mov (.t 9)⟩
 (.q ⟨(some 11), (some (10, true)), .faddr 2 (.t 1)⟩
 (.q ⟨(some 12), (some (10, true)), .load 1 false (.t 11)⟩
 (.q ⟨(some 13), (some (10, true)), .bin .eql (.t 12) (.c (.str []))⟩
 (.q ⟨(some 14), none, .pick (.t 10) (.t 13) (.c (.bool false))⟩
 (.q ⟨(some 15), none, .mov (.t 14)⟩
 (.q ⟨(some 16), (some (15, true)), .faddr 3 (.t 1)⟩
 (.q ⟨(some 17), (some (15, true)), .load 1 false (.t 16)⟩
 (.q ⟨(some 18), (some (15, true)), .len (.t 17)⟩
 (.q ⟨(some 19), (some (15, true)), .bin .eql (.t 18) (.c (.int .i64 0))⟩
 (.q ⟨(some 20), none, .pick (.t 15) (.t 19) (.c (.bool false))⟩
 (.q ⟨(some 21), none, .mov (.t 20)⟩
 (.q ⟨(some 22), (some (21, true)), .faddr 4 (.t 1)⟩
 (.q ⟨(some 23), (some (21, true)), .load 1 false (.t 22)⟩
 (.q ⟨(some 24), (some (21, true)), .len (.t 23)⟩
 (.q ⟨(some 25), (some (21, true)), .bin .eql (.t 24) (.c (.int .i64 0))⟩
 (.q ⟨(some 26), none, .pick (.t 21) (.t 25) (.c (.bool false))⟩
 (.q ⟨(some 2), none, .mov (.t 26)⟩
 .done))))))))))))))))))))))
 .ret)
 (.seq (.reg (.q ⟨(some 28), none, .bin .eql (.t 4) (.c (.int .i64 1))⟩
 (.q ⟨(some 27), none, .mov (.t 28)⟩
 .done)))
 (.cond (.t 27) (.seq (.reg (.q ⟨(some 29), none, .faddr 1 (.t 1)⟩
 (.q ⟨(some 30), none, .load 1 false (.t 29)⟩
 (.q ⟨(some 31), none, .call 86 [(.t 30), (.c (.int .i64 0)), (.c (.int .i64 1))]⟩
 (.q ⟨(some 32), none, .mov (.t 31)⟩
 (.q ⟨(some 33), (some (32, true)), .faddr 2 (.t 1)⟩
 (.q ⟨(some 34), (some (32, true)), .load 1 false (.t 33)⟩
 (.q ⟨(some 35), (some (32, true)), .bin .eql (.t 34) (.c (.str []))⟩
 (.q ⟨(some 36), none, .pick (.t 32) (.t 35) (.c (.bool false))⟩
 (.q ⟨(some 37), none, .mov (.t 36)⟩
 (.q ⟨(some 38), (some (37, true)), .faddr 3 (.t 1)⟩
 (.q ⟨(some 39), (some (37, true)), .load 1 false (.t 38)⟩
 (.q ⟨(some 40), (some (37, true)), .len (.t 39)⟩
 (.q ⟨(some 41), (some (37, true)), .bin .eql (.t 40) (.c (.int .i64 0))⟩
 (.q ⟨(some 42), none, .pick (.t 37) (.t 41) (.c (.bool false))⟩
 (.q ⟨(some 43), none, .mov (.t 42)⟩
 (.q ⟨(some 44), (some (43, true)), .faddr 4 (.t 1)⟩
 (.q ⟨(some 45), (some (43, true)), .load 1 false (.t 44)⟩
 (.q ⟨(some 46), (some (43, true)), .len (.t 45)⟩
 (.q ⟨(some 47), (some (43, true)), .bin .eql (.t 46) (.c (.int .i64 0))⟩
 (.q ⟨(some 48), none, .pick (.t 43) (.t 47) (.c (.bool false))⟩
 (.q ⟨(some 2), none, .mov (.t 48)⟩
 .done))))))))))))))))))))))
 .ret)
 (.seq (.reg (.q ⟨(some 50), none, .bin .eql (.t 4) (.c (.int .i64 2))⟩
 (.q ⟨(some 49), none, .mov (.t 50)⟩
 .done)))
 (.cond (.t 49) (.seq (.reg (.q ⟨(some 51), none, .faddr 1 (.t 1)⟩
 (.q ⟨(some 52), none, .load 1 false (.t 51)⟩
 (.q ⟨(some 53), none, .call 136 [(.t 52)]⟩
 (.q ⟨(some 54), none, .mov (.t 53)⟩
 (.q ⟨(some 55), (some (54, true)), .faddr 2 (.t 1)⟩
 (.q ⟨(some 56), (some (54, true)), .load 1 false (.t 55)⟩
 (.q ⟨(some 57), (some (54, true)), .bin .eql (.t 56) (.c (.str []))⟩
 (.q ⟨(some 58), none, .pick (.t 54) (.t 57) (.c (.bool false))⟩
 (.q ⟨(some 59), none, .mov (.t 58)⟩
 (.q ⟨(some 60), (some (59, true)), .faddr 3 (.t 1)⟩
 (.q ⟨(some 61), (some (59, true)), .load 1 false (.t 60)⟩
 (.q ⟨(some 62), (some (59, true)), .len (.t 61)⟩
 (.q ⟨(some 63), (some (59, true)), .bin .eql (.t 62) (.c (.int .i64 0))⟩
 (.q ⟨(some 64), none, .pick (.t 59) (.t 63) (.c (.bool false))⟩
 (.q ⟨(some 65), none, .mov (.t 64)⟩
 (.q ⟨(some 66), (some (65, true)), .faddr 4 (.t 1)⟩
 (.q ⟨(some 67), (some (65, true)), .load 1 false (.t 66)⟩
 (.q ⟨(some 68), (some (65, true)), .len (.t 67)⟩
 (.q ⟨(some 69), (some (65, true)), .bin .eql (.t 68) (.c (.int .i64 0))⟩
 (.q ⟨(some 70), none, .pick (.t 65) (.t 69) (.c (.bool false))⟩
 (.q ⟨(some 2), none, .mov (.t 70)⟩
 .done))))))))))))))))))))))
 .ret)
 (.seq (.reg (.q ⟨(some 72), none, .bin .eql (.t 4) (.c (.int .i64 3))⟩
 (.q ⟨(some 71), none, .mov (.t 72)⟩
 .done)))
 (.cond (.t 71) (.seq (.reg (.q ⟨(some 73), none, .faddr 1 (.t 1)⟩
 (.q ⟨(some 74), none, .load 1 false (.t 73)⟩
 (.q ⟨(some 75), none, .bin .eql (.t 74) (.c (.int .i64 0))⟩
 (.q ⟨(some 76), none, .mov (.t 75)⟩
 (.q ⟨(some 77), (some (76, true)), .faddr 2 (.t 1)⟩
 (.q ⟨(some 78), (some (76, true)), .load 1 false (.t 77)⟩
 (.q ⟨(some 79), (some (76, true)), .call 174 [(.t 78)]⟩
 (.q ⟨(some 80), none, .pick (.t 76) (.t 79) (.c (.bool false))⟩
 (.q ⟨(some 81), none, .mov (.t 80)⟩
 (.q ⟨(some 82), (some (81, true)), .faddr 3 (.t 1)⟩
 (.q ⟨(some 83), (some (81, true)), .load 1 false (.t 82)⟩
 (.q ⟨(some 84), (some (81, true)), .len (.t 83)⟩
 (.q ⟨(some 85), (some (81, true)), .bin .eql (.t 84) (.c (.int .i64 0))⟩
 (.q ⟨(some 86), none, .pick (.t 81) (.t 85) (.c (.bool false))⟩
 (.q ⟨(some 87), none, .mov (.t 86)⟩
 (.q ⟨(some 88), (some (87, true)), .faddr 4 (.t 1)⟩
 (.q ⟨(some 89), (some (87, true)), .load 1 false (.t 88)⟩
 (.q ⟨(some 90), (some (87, true)), .len (.t 89)⟩
 (.q ⟨(some 91), (some (87, true)), .bin .eql (.t 90) (.c (.int .i64 0))⟩
 (.q ⟨(some 92), none, .pick (.t 87) (.t 91) (.c (.bool false))⟩
 (.q ⟨(some 2), none, .mov (.t 92)⟩
 .done))))))))))))))))))))))
 .ret)
 (.seq (.reg (.q ⟨(some 94), none, .bin .eql (.t 4) (.c (.int .i64 4))⟩
 (.q ⟨(some 93), none, .mov (.t 94)⟩
 .done)))
 (.cond (.t 93) (.seq (.reg (.q ⟨(some 95), none, .faddr 1 (.t 1)⟩
 (.q ⟨(some 96), none, .load 1 false (.t 95)⟩
 (.q ⟨(some 97), none, .bin .eql (.t 96) (.c (.int .i64 0))⟩
 (.q ⟨(some 98), none, .mov (.t 97)⟩
 (.q ⟨(some 99), (some (98, true)), .faddr 2 (.t 1)⟩
 (.q ⟨(some 100), (some (98, true)), .load 1 false (.t 99)⟩
 (.q ⟨(some 101), (some (98, true)), .bin .eql (.t 100) (.c (.str []))⟩
 (.q ⟨(some 102), none, .pick (.t 98) (.t 101) (.c (.bool false))⟩
 (.q ⟨(some 103), none, .mov (.t 102)⟩
 (.q ⟨(some 104), (some (103, true)), .faddr 3 (.t 1)⟩
 (.q ⟨(some 105), (some (103, true)), .load 1 false (.t 104)⟩
 (.q ⟨(some 106), (some (103, true)), .len (.t 105)⟩
 (.q ⟨(some 107), (some (103, true)), .bin .eql (.t 106) (.c (.int .i64 0))⟩
 (.q ⟨(some 108), none, .pick (.t 103) (.t 107) (.c (.bool false))⟩
 (.q ⟨(some 2), none, .mov (.t 108)⟩
 .done))))))))))))))))
 .ret)
 (.seq (.reg (.q ⟨(some 110), none, .bin .eql (.t 4) (.c (.int .i64 5))⟩
 (.q ⟨(some 109), none, .mov (.t 110)⟩
 .done)))
 (.cond (.t 109) (.seq (.reg (.q ⟨(some 111), none, .faddr 1 (.t 1)⟩
 (.q ⟨(some 112), none, .load 1 false (.t 111)⟩
 (.q ⟨(some 113), none, .bin .eql (.t 112) (.c (.int .i64 0))⟩
 (.q ⟨(some 114), none, .mov (.t 113)⟩
 (.q ⟨(some 115), (some (114, true)), .faddr 2 (.t 1)⟩
 (.q ⟨(some 116), (some (114, true)), .load 1 false (.t 115)⟩
 (.q ⟨(some 117), (some (114, true)), .bin .eql (.t 116) (.c (.str []))⟩
 (.q ⟨(some 118), none, .pick (.t 114) (.t 117) (.c (.bool false))⟩
 (.q ⟨(some 119), none, .mov (.t 118)⟩
 (.q ⟨(some 120), (some (119, true)), .faddr 3 (.t 1)⟩
 (.q ⟨(some 121), (some (119, true)), .load 1 false (.t 120)⟩
 (.q ⟨(some 122), (some (119, true)), .len (.t 121)⟩
 (.q ⟨(some 123), (some (119, true)), .faddr 4 (.t 1)⟩
 (.q ⟨(some 124), (some (119, true)), .load 1 false (.t 123)⟩
 (.q ⟨(some 125), (some (119, true)), .len (.t 124)⟩
 (.q ⟨(some 126), (some (119, true)), .bin .eql (.t 122) (.t 125)⟩
 (.q ⟨(some 127), none, .pick (.t 119) (.t 126) (.c (.bool false))⟩
 (.q ⟨(some 128), none, .mov (.t 127)⟩
 (.q ⟨(some 129), (some (128, true)), .faddr 3 (.t 1)⟩
 (.q ⟨(some 130), (some (128, true)), .load 1 false (.t 129)⟩
 (.q ⟨(some 131), (some (128, true)), .call 226 [(.t 130)]⟩
 (.q ⟨(some 132), none, .pick (.t 128) (.t 131) (.c (.bool false))⟩
 (.q ⟨(some 2), none, .mov (.t 132)⟩
 .done))))))))))))))))))))))))
 .ret)
 .skip))))))))))))))
 (.seq (.reg (.q ⟨(some 2), none, .mov (.c (.bool false))⟩
 .done))
 .ret)))
theorem fc212 : fcomp Try.prog Try.f212 = some (c212.erase, [.mov (.t 2)], 133) := by kernel_rfl
def impl_Json_partOK (j_1 : GJson) : Option Bool :=
    if (j_1.Kind == 0) then
    if (j_1.N == 0) then
    if (j_1.T == []) then
    if ((j_1.Keys.length : Int) == 0) then
    some ((j_1.Items.length : Int) == 0)
    else
    some false
    else
    some false
    else
    some false
    else
    if (j_1.Kind == 1) then
    (impl_within j_1.N 0 1).bind fun r_9 =>
    if r_9 then
    if (j_1.T == []) then
    if ((j_1.Keys.length : Int) == 0) then
    some ((j_1.Items.length : Int) == 0)
    else
    some false
    else
    some false
    else
    some false
    else
    if (j_1.Kind == 2) then
    (impl_isNumber j_1.N).bind fun r_17 =>
    if r_17 then
    if (j_1.T == []) then
    if ((j_1.Keys.length : Int) == 0) then
    some ((j_1.Items.length : Int) == 0)
    else
    some false
    else
    some false
    else
    some false
    else
    if (j_1.Kind == 3) then
    if (j_1.N == 0) then
    (impl_isPlain j_1.T).bind fun r_26 =>
    if r_26 then
    if ((j_1.Keys.length : Int) == 0) then
    some ((j_1.Items.length : Int) == 0)
    else
    some false
    else
    some false
    else
    some false
    else
    if (j_1.Kind == 4) then
    if (j_1.N == 0) then
    if (j_1.T == []) then
    some ((j_1.Keys.length : Int) == 0)
    else
    some false
    else
    some false
    else
    if (j_1.Kind == 5) then
    if (j_1.N == 0) then
    if (j_1.T == []) then
    if ((j_1.Keys.length : Int) == (j_1.Items.length : Int)) then
    (impl_areKeys j_1.Keys).bind fun r_42 =>
    some r_42
    else
    some false
    else
    some false
    else
    some false
    else
    some false
theorem w_impl_Json_partOK (j_1 : GJson) (r : Bool) (hf : impl_Json_partOK j_1 = some r) : CallOK Try.prog 212 .flat [(encGJson j_1)] (.bool r) := by
  refine CallOK.of_awp mixed Try.func212 fc212 nle ?_
  rw [argT_eq]
  rw [encGJson_eq j_1]
  unfold impl_Json_partOK at hf
  unfold c212
  refine (show awp Try.prog false 0 _ (ofL [(0, (.agg [(.int .i64 j_1.Kind), (.int .i64 j_1.N), (.str j_1.T), (.lst 1 (j_1.Keys.map AV.str)), (.lst 5 (j_1.Items.map encGJson))]))]) [] _ from ?_)
  refine awp_seq ?_
  refine w_reg ?_
  refine s_do (o_box (j := 0) (c := (.agg [(.int .i64 j_1.Kind), (.int .i64 j_1.N), (.str j_1.T), (.lst 1 (j_1.Keys.map AV.str)), (.lst 5 (j_1.Items.map encGJson))])) rfl trivial rfl rfl) ?_
  refine s_do (o_mov (.bool false) rfl) ?_
  refine w_done ?_
  refine k_seq ?_
  refine awp_seq ?_
  refine awp_seq ?_
  refine w_reg ?_
  refine s_do (o_q (.ptr 0 0 0) rfl trivial rfl) ?_
  refine s_do (o_q (.int .i64 j_1.Kind) rfl nle rfl) ?_
  refine w_done ?_
  refine k_seq ?_
  refine w_blk ?_
  refine awp_seq ?_
  refine w_reg ?_
  refine s_do (o_q (.bool (j_1.Kind == 0)) rfl rfl rfl) ?_
  refine s_do (o_mov (.bool (j_1.Kind == 0)) rfl) ?_
  refine w_done ?_
  refine k_seq ?_
  rcases oi hf with ⟨c2, hf⟩ | ⟨c2, hf⟩
  · refine w_condt rfl c2 ?_
    refine awp_seq ?_
    refine w_reg ?_
    refine s_do (o_q (.ptr 0 0 1) rfl trivial rfl) ?_
    refine s_do (o_q (.int .i64 j_1.N) rfl nle rfl) ?_
    refine s_do (o_q (.bool (j_1.N == 0)) rfl rfl rfl) ?_
    refine s_do (o_mov (.bool (j_1.N == 0)) rfl) ?_
    rcases oi hf with ⟨c3, hf⟩ | ⟨c3, hf⟩
    · refine s_lit (s := 10) (b := true) rfl c3 ?_
      refine s_on rfl ?_
      refine s_do (o_q (.ptr 0 0 2) rfl trivial rfl) ?_
      refine s_on rfl ?_
      refine s_do (o_q (.str j_1.T) rfl nle rfl) ?_
      refine s_on rfl ?_
      refine s_do (o_q (.bool (j_1.T == [])) rfl trivial rfl) ?_
      refine s_do (o_q (.bool (j_1.T == [])) rfl trivial rfl) ?_
      refine s_do (o_mov (.bool (j_1.T == [])) rfl) ?_
      rcases oi hf with ⟨c4, hf⟩ | ⟨c4, hf⟩
      · refine s_lit (s := 15) (b := true) rfl c4 ?_
        refine s_on rfl ?_
        refine s_do (o_q (.ptr 0 0 3) rfl trivial rfl) ?_
        refine s_on rfl ?_
        refine s_do (o_q (.lst 1 (j_1.Keys.map AV.str)) rfl nle rfl) ?_
        refine s_on rfl ?_
        refine s_dof (o_len (enc := AV.str) rfl) fun hl5 => ?_
        refine s_on rfl ?_
        refine s_do (o_q (.bool ((j_1.Keys.length : Int) == 0)) rfl rfl rfl) ?_
        refine s_do (o_q (.bool ((j_1.Keys.length : Int) == 0)) rfl trivial rfl) ?_
        refine s_do (o_mov (.bool ((j_1.Keys.length : Int) == 0)) rfl) ?_
        rcases oi hf with ⟨c6, hf⟩ | ⟨c6, hf⟩
        · refine s_lit (s := 21) (b := true) rfl c6 ?_
          refine s_on rfl ?_
          refine s_do (o_q (.ptr 0 0 4) rfl trivial rfl) ?_
          refine s_on rfl ?_
          refine s_do (o_q (.lst 5 (j_1.Items.map encGJson)) rfl nle rfl) ?_
          refine s_on rfl ?_
          refine s_dof (o_len (enc := encGJson) rfl) fun hl7 => ?_
          refine s_on rfl ?_
          refine s_do (o_q (.bool ((j_1.Items.length : Int) == 0)) rfl rfl rfl) ?_
          refine s_do (o_q (.bool ((j_1.Items.length : Int) == 0)) rfl trivial rfl) ?_
          refine s_do (o_mov (.bool ((j_1.Items.length : Int) == 0)) rfl) ?_
          refine w_done ?_
          refine k_seq ?_
          refine w_ret ?_
          obtain rfl := os hf
          exact r_flat ⟨trivial, trivial⟩ rfl (.refl _)
        · refine s_lit (s := 21) (b := false) rfl (bf c6) ?_
          refine s_off rfl rfl ?_
          refine s_off rfl rfl ?_
          refine s_off rfl rfl ?_
          refine s_off rfl rfl ?_
          refine s_do (o_q (.bool false) rfl trivial rfl) ?_
          refine s_do (o_mov (.bool false) rfl) ?_
          refine w_done ?_
          refine k_seq ?_
          refine w_ret ?_
          obtain rfl := os hf
          exact r_flat ⟨trivial, trivial⟩ rfl (.refl _)
      · refine s_lit (s := 15) (b := false) rfl (bf c4) ?_
        refine s_off rfl rfl ?_
        refine s_off rfl rfl ?_
        refine s_off rfl rfl ?_
        refine s_off rfl rfl ?_
        refine s_do (o_q (.bool false) rfl trivial rfl) ?_
        refine s_do (o_mov (.bool false) rfl) ?_
        refine s_off rfl rfl ?_
        refine s_off rfl rfl ?_
        refine s_off rfl rfl ?_
        refine s_off rfl rfl ?_
        refine s_do (o_q (.bool false) rfl trivial rfl) ?_
        refine s_do (o_mov (.bool false) rfl) ?_
        refine w_done ?_
        refine k_seq ?_
        refine w_ret ?_
        obtain rfl := os hf
        exact r_flat ⟨trivial, trivial⟩ rfl (.refl _)
    · refine s_lit (s := 10) (b := false) rfl (bf c3) ?_
      refine s_off rfl rfl ?_
      refine s_off rfl rfl ?_
      refine s_off rfl rfl ?_
      refine s_do (o_q (.bool false) rfl trivial rfl) ?_
      refine s_do (o_mov (.bool false) rfl) ?_
      refine s_off rfl rfl ?_
      refine s_off rfl rfl ?_
      refine s_off rfl rfl ?_
      refine s_off rfl rfl ?_
      refine s_do (o_q (.bool false) rfl trivial rfl) ?_
      refine s_do (o_mov (.bool false) rfl) ?_
      refine s_off rfl rfl ?_
      refine s_off rfl rfl ?_
      refine s_off rfl rfl ?_
      refine s_off rfl rfl ?_
      refine s_do (o_q (.bool false) rfl trivial rfl) ?_
      refine s_do (o_mov (.bool false) rfl) ?_
      refine w_done ?_
      refine k_seq ?_
      refine w_ret ?_
      obtain rfl := os hf
      exact r_flat ⟨trivial, trivial⟩ rfl (.refl _)
  · refine w_condf rfl (bf c2) ?_
    refine awp_seq ?_
    refine w_reg ?_
    refine s_do (o_q (.bool (j_1.Kind == 1)) rfl rfl rfl) ?_
    refine s_do (o_mov (.bool (j_1.Kind == 1)) rfl) ?_
    refine w_done ?_
    refine k_seq ?_
    rcases oi hf with ⟨c8, hf⟩ | ⟨c8, hf⟩
    · refine w_condt rfl c8 ?_
      refine awp_seq ?_
      refine w_reg ?_
      refine s_do (o_q (.ptr 0 0 1) rfl trivial rfl) ?_
      refine s_do (o_q (.int .i64 j_1.N) rfl nle rfl) ?_
      obtain ⟨r_9, er10, hf⟩ := ob hf
      refine s_do (o_call (w_impl_within _ _ _ _ er10) rfl (.refl _) rfl) ?_
      refine s_do (o_mov (.bool r_9) rfl) ?_
      rcases oi hf with ⟨c11, hf⟩ | ⟨c11, hf⟩
      · refine s_lit (s := 32) (b := true) rfl c11 ?_
        refine s_on rfl ?_
        refine s_do (o_q (.ptr 0 0 2) rfl trivial rfl) ?_
        refine s_on rfl ?_
        refine s_do (o_q (.str j_1.T) rfl nle rfl) ?_
        refine s_on rfl ?_
        refine s_do (o_q (.bool (j_1.T == [])) rfl trivial rfl) ?_
        refine s_do (o_q (.bool (j_1.T == [])) rfl trivial rfl) ?_
        refine s_do (o_mov (.bool (j_1.T == [])) rfl) ?_
        rcases oi hf with ⟨c12, hf⟩ | ⟨c12, hf⟩
        · refine s_lit (s := 37) (b := true) rfl c12 ?_
          refine s_on rfl ?_
          refine s_do (o_q (.ptr 0 0 3) rfl trivial rfl) ?_
          refine s_on rfl ?_
          refine s_do (o_q (.lst 1 (j_1.Keys.map AV.str)) rfl nle rfl) ?_
          refine s_on rfl ?_
          refine s_dof (o_len (enc := AV.str) rfl) fun hl13 => ?_
          refine s_on rfl ?_
          refine s_do (o_q (.bool ((j_1.Keys.length : Int) == 0)) rfl rfl rfl) ?_
          refine s_do (o_q (.bool ((j_1.Keys.length : Int) == 0)) rfl trivial rfl) ?_
          refine s_do (o_mov (.bool ((j_1.Keys.length : Int) == 0)) rfl) ?_
          rcases oi hf with ⟨c14, hf⟩ | ⟨c14, hf⟩
          · refine s_lit (s := 43) (b := true) rfl c14 ?_
            refine s_on rfl ?_
            refine s_do (o_q (.ptr 0 0 4) rfl trivial rfl) ?_
            refine s_on rfl ?_
            refine s_do (o_q (.lst 5 (j_1.Items.map encGJson)) rfl nle rfl) ?_
            refine s_on rfl ?_
            refine s_dof (o_len (enc := encGJson) rfl) fun hl15 => ?_
            refine s_on rfl ?_
            refine s_do (o_q (.bool ((j_1.Items.length : Int) == 0)) rfl rfl rfl) ?_
            refine s_do (o_q (.bool ((j_1.Items.length : Int) == 0)) rfl trivial rfl) ?_
            refine s_do (o_mov (.bool ((j_1.Items.length : Int) == 0)) rfl) ?_
            refine w_done ?_
            refine k_seq ?_
            refine w_ret ?_
            obtain rfl := os hf
            exact r_flat ⟨trivial, trivial⟩ rfl (.refl _)
          · refine s_lit (s := 43) (b := false) rfl (bf c14) ?_
            refine s_off rfl rfl ?_
            refine s_off rfl rfl ?_
            refine s_off rfl rfl ?_
            refine s_off rfl rfl ?_
            refine s_do (o_q (.bool false) rfl trivial rfl) ?_
            refine s_do (o_mov (.bool false) rfl) ?_
            refine w_done ?_
            refine k_seq ?_
            refine w_ret ?_
            obtain rfl := os hf
            exact r_flat ⟨trivial, trivial⟩ rfl (.refl _)
        · refine s_lit (s := 37) (b := false) rfl (bf c12) ?_
          refine s_off rfl rfl ?_
          refine s_off rfl rfl ?_
          refine s_off rfl rfl ?_
          refine s_off rfl rfl ?_
          refine s_do (o_q (.bool false) rfl trivial rfl) ?_
          refine s_do (o_mov (.bool false) rfl) ?_
          refine s_off rfl rfl ?_
          refine s_off rfl rfl ?_
          refine s_off rfl rfl ?_
          refine s_off rfl rfl ?_
          refine s_do (o_q (.bool false) rfl trivial rfl) ?_
          refine s_do (o_mov (.bool false) rfl) ?_
          refine w_done ?_
          refine k_seq ?_
          refine w_ret ?_
          obtain rfl := os hf
          exact r_flat ⟨trivial, trivial⟩ rfl (.refl _)
      · refine s_lit (s := 32) (b := false) rfl (bf c11) ?_
        refine s_off rfl rfl ?_
        refine s_off rfl rfl ?_
        refine s_off rfl rfl ?_
        refine s_do (o_q (.bool false) rfl trivial rfl) ?_
        refine s_do (o_mov (.bool false) rfl) ?_
        refine s_off rfl rfl ?_
        refine s_off rfl rfl ?_
        refine s_off rfl rfl ?_
        refine s_off rfl rfl ?_
        refine s_do (o_q (.bool false) rfl trivial rfl) ?_
        refine s_do (o_mov (.bool false) rfl) ?_
        refine s_off rfl rfl ?_
        refine s_off rfl rfl ?_
        refine s_off rfl rfl ?_
        refine s_off rfl rfl ?_
        refine s_do (o_q (.bool false) rfl trivial rfl) ?_
        refine s_do (o_mov (.bool false) rfl) ?_
        refine w_done ?_
        refine k_seq ?_
        refine w_ret ?_
        obtain rfl := os hf
        exact r_flat ⟨trivial, trivial⟩ rfl (.refl _)
    · refine w_condf rfl (bf c8) ?_
      refine awp_seq ?_
      refine w_reg ?_
      refine s_do (o_q (.bool (j_1.Kind == 2)) rfl rfl rfl) ?_
      refine s_do (o_mov (.bool (j_1.Kind == 2)) rfl) ?_
      refine w_done ?_
      refine k_seq ?_
      rcases oi hf with ⟨c16, hf⟩ | ⟨c16, hf⟩
      · refine w_condt rfl c16 ?_
        refine awp_seq ?_
        refine w_reg ?_
        refine s_do (o_q (.ptr 0 0 1) rfl trivial rfl) ?_
        refine s_do (o_q (.int .i64 j_1.N) rfl nle rfl) ?_
        obtain ⟨r_17, er18, hf⟩ := ob hf
        refine s_do (o_call (w_impl_isNumber _ _ er18) rfl (.refl _) rfl) ?_
        refine s_do (o_mov (.bool r_17) rfl) ?_
        rcases oi hf with ⟨c19, hf⟩ | ⟨c19, hf⟩
        · refine s_lit (s := 54) (b := true) rfl c19 ?_
          refine s_on rfl ?_
          refine s_do (o_q (.ptr 0 0 2) rfl trivial rfl) ?_
          refine s_on rfl ?_
          refine s_do (o_q (.str j_1.T) rfl nle rfl) ?_
          refine s_on rfl ?_
          refine s_do (o_q (.bool (j_1.T == [])) rfl trivial rfl) ?_
          refine s_do (o_q (.bool (j_1.T == [])) rfl trivial rfl) ?_
          refine s_do (o_mov (.bool (j_1.T == [])) rfl) ?_
          rcases oi hf with ⟨c20, hf⟩ | ⟨c20, hf⟩
          · refine s_lit (s := 59) (b := true) rfl c20 ?_
            refine s_on rfl ?_
            refine s_do (o_q (.ptr 0 0 3) rfl trivial rfl) ?_
            refine s_on rfl ?_
            refine s_do (o_q (.lst 1 (j_1.Keys.map AV.str)) rfl nle rfl) ?_
            refine s_on rfl ?_
            refine s_dof (o_len (enc := AV.str) rfl) fun hl21 => ?_
            refine s_on rfl ?_
            refine s_do (o_q (.bool ((j_1.Keys.length : Int) == 0)) rfl rfl rfl) ?_
            refine s_do (o_q (.bool ((j_1.Keys.length : Int) == 0)) rfl trivial rfl) ?_
            refine s_do (o_mov (.bool ((j_1.Keys.length : Int) == 0)) rfl) ?_
            rcases oi hf with ⟨c22, hf⟩ | ⟨c22, hf⟩
            · refine s_lit (s := 65) (b := true) rfl c22 ?_
              refine s_on rfl ?_
              refine s_do (o_q (.ptr 0 0 4) rfl trivial rfl) ?_
              refine s_on rfl ?_
              refine s_do (o_q (.lst 5 (j_1.Items.map encGJson)) rfl nle rfl) ?_
              refine s_on rfl ?_
              refine s_dof (o_len (enc := encGJson) rfl) fun hl23 => ?_
              refine s_on rfl ?_
              refine s_do (o_q (.bool ((j_1.Items.length : Int) == 0)) rfl rfl rfl) ?_
              refine s_do (o_q (.bool ((j_1.Items.length : Int) == 0)) rfl trivial rfl) ?_
              refine s_do (o_mov (.bool ((j_1.Items.length : Int) == 0)) rfl) ?_
              refine w_done ?_
              refine k_seq ?_
              refine w_ret ?_
              obtain rfl := os hf
              exact r_flat ⟨trivial, trivial⟩ rfl (.refl _)
            · refine s_lit (s := 65) (b := false) rfl (bf c22) ?_
              refine s_off rfl rfl ?_
              refine s_off rfl rfl ?_
              refine s_off rfl rfl ?_
              refine s_off rfl rfl ?_
              refine s_do (o_q (.bool false) rfl trivial rfl) ?_
              refine s_do (o_mov (.bool false) rfl) ?_
              refine w_done ?_
              refine k_seq ?_
              refine w_ret ?_
              obtain rfl := os hf
              exact r_flat ⟨trivial, trivial⟩ rfl (.refl _)
          · refine s_lit (s := 59) (b := false) rfl (bf c20) ?_
            refine s_off rfl rfl ?_
            refine s_off rfl rfl ?_
            refine s_off rfl rfl ?_
            refine s_off rfl rfl ?_
            refine s_do (o_q (.bool false) rfl trivial rfl) ?_
            refine s_do (o_mov (.bool false) rfl) ?_
            refine s_off rfl rfl ?_
            refine s_off rfl rfl ?_
            refine s_off rfl rfl ?_
            refine s_off rfl rfl ?_
            refine s_do (o_q (.bool false) rfl trivial rfl) ?_
            refine s_do (o_mov (.bool false) rfl) ?_
            refine w_done ?_
            refine k_seq ?_
            refine w_ret ?_
            obtain rfl := os hf
            exact r_flat ⟨trivial, trivial⟩ rfl (.refl _)
        · refine s_lit (s := 54) (b := false) rfl (bf c19) ?_
          refine s_off rfl rfl ?_
          refine s_off rfl rfl ?_
          refine s_off rfl rfl ?_
          refine s_do (o_q (.bool false) rfl trivial rfl) ?_
          refine s_do (o_mov (.bool false) rfl) ?_
          refine s_off rfl rfl ?_
          refine s_off rfl rfl ?_
          refine s_off rfl rfl ?_
          refine s_off rfl rfl ?_
          refine s_do (o_q (.bool false) rfl trivial rfl) ?_
          refine s_do (o_mov (.bool false) rfl) ?_
          refine s_off rfl rfl ?_
          refine s_off rfl rfl ?_
          refine s_off rfl rfl ?_
          refine s_off rfl rfl ?_
          refine s_do (o_q (.bool false) rfl trivial rfl) ?_
          refine s_do (o_mov (.bool false) rfl) ?_
          refine w_done ?_
          refine k_seq ?_
          refine w_ret ?_
          obtain rfl := os hf
          exact r_flat ⟨trivial, trivial⟩ rfl (.refl _)
      · refine w_condf rfl (bf c16) ?_
        refine awp_seq ?_
        refine w_reg ?_
        refine s_do (o_q (.bool (j_1.Kind == 3)) rfl rfl rfl) ?_
        refine s_do (o_mov (.bool (j_1.Kind == 3)) rfl) ?_
        refine w_done ?_
        refine k_seq ?_
        rcases oi hf with ⟨c24, hf⟩ | ⟨c24, hf⟩
        · refine w_condt rfl c24 ?_
          refine awp_seq ?_
          refine w_reg ?_
          refine s_do (o_q (.ptr 0 0 1) rfl trivial rfl) ?_
          refine s_do (o_q (.int .i64 j_1.N) rfl nle rfl) ?_
          refine s_do (o_q (.bool (j_1.N == 0)) rfl rfl rfl) ?_
          refine s_do (o_mov (.bool (j_1.N == 0)) rfl) ?_
          rcases oi hf with ⟨c25, hf⟩ | ⟨c25, hf⟩
          · refine s_lit (s := 76) (b := true) rfl c25 ?_
            refine s_on rfl ?_
            refine s_do (o_q (.ptr 0 0 2) rfl trivial rfl) ?_
            refine s_on rfl ?_
            refine s_do (o_q (.str j_1.T) rfl nle rfl) ?_
            refine s_on rfl ?_
            obtain ⟨r_26, er27, hf⟩ := ob hf
            refine s_do (o_call (w_impl_isPlain _ _ er27) rfl (.refl _) rfl) ?_
            refine s_do (o_q (.bool r_26) rfl trivial rfl) ?_
            refine s_do (o_mov (.bool r_26) rfl) ?_
            rcases oi hf with ⟨c28, hf⟩ | ⟨c28, hf⟩
            · refine s_lit (s := 81) (b := true) rfl c28 ?_
              refine s_on rfl ?_
              refine s_do (o_q (.ptr 0 0 3) rfl trivial rfl) ?_
              refine s_on rfl ?_
              refine s_do (o_q (.lst 1 (j_1.Keys.map AV.str)) rfl nle rfl) ?_
              refine s_on rfl ?_
              refine s_dof (o_len (enc := AV.str) rfl) fun hl29 => ?_
              refine s_on rfl ?_
              refine s_do (o_q (.bool ((j_1.Keys.length : Int) == 0)) rfl rfl rfl) ?_
              refine s_do (o_q (.bool ((j_1.Keys.length : Int) == 0)) rfl trivial rfl) ?_
              refine s_do (o_mov (.bool ((j_1.Keys.length : Int) == 0)) rfl) ?_
              rcases oi hf with ⟨c30, hf⟩ | ⟨c30, hf⟩
              · refine s_lit (s := 87) (b := true) rfl c30 ?_
                refine s_on rfl ?_
                refine s_do (o_q (.ptr 0 0 4) rfl trivial rfl) ?_
                refine s_on rfl ?_
                refine s_do (o_q (.lst 5 (j_1.Items.map encGJson)) rfl nle rfl) ?_
                refine s_on rfl ?_
                refine s_dof (o_len (enc := encGJson) rfl) fun hl31 => ?_
                refine s_on rfl ?_
                refine s_do (o_q (.bool ((j_1.Items.length : Int) == 0)) rfl rfl rfl) ?_
                refine s_do (o_q (.bool ((j_1.Items.length : Int) == 0)) rfl trivial rfl) ?_
                refine s_do (o_mov (.bool ((j_1.Items.length : Int) == 0)) rfl) ?_
                refine w_done ?_
                refine k_seq ?_
                refine w_ret ?_
                obtain rfl := os hf
                exact r_flat ⟨trivial, trivial⟩ rfl (.refl _)
              · refine s_lit (s := 87) (b := false) rfl (bf c30) ?_
                refine s_off rfl rfl ?_
                refine s_off rfl rfl ?_
                refine s_off rfl rfl ?_
                refine s_off rfl rfl ?_
                refine s_do (o_q (.bool false) rfl trivial rfl) ?_
                refine s_do (o_mov (.bool false) rfl) ?_
                refine w_done ?_
                refine k_seq ?_
                refine w_ret ?_
                obtain rfl := os hf
                exact r_flat ⟨trivial, trivial⟩ rfl (.refl _)
            · refine s_lit (s := 81) (b := false) rfl (bf c28) ?_
              refine s_off rfl rfl ?_
              refine s_off rfl rfl ?_
              refine s_off rfl rfl ?_
              refine s_off rfl rfl ?_
              refine s_do (o_q (.bool false) rfl trivial rfl) ?_
              refine s_do (o_mov (.bool false) rfl) ?_
              refine s_off rfl rfl ?_
              refine s_off rfl rfl ?_
              refine s_off rfl rfl ?_
              refine s_off rfl rfl ?_
              refine s_do (o_q (.bool false) rfl trivial rfl) ?_
              refine s_do (o_mov (.bool false) rfl) ?_
              refine w_done ?_
              refine k_seq ?_
              refine w_ret ?_
              obtain rfl := os hf
              exact r_flat ⟨trivial, trivial⟩ rfl (.refl _)
          · refine s_lit (s := 76) (b := false) rfl (bf c25) ?_
            refine s_off rfl rfl ?_
            refine s_off rfl rfl ?_
            refine s_off rfl rfl ?_
            refine s_do (o_q (.bool false) rfl trivial rfl) ?_
            refine s_do (o_mov (.bool false) rfl) ?_
            refine s_off rfl rfl ?_
            refine s_off rfl rfl ?_
            refine s_off rfl rfl ?_
            refine s_off rfl rfl ?_
            refine s_do (o_q (.bool false) rfl trivial rfl) ?_
            refine s_do (o_mov (.bool false) rfl) ?_
            refine s_off rfl rfl ?_
            refine s_off rfl rfl ?_
            refine s_off rfl rfl ?_
            refine s_off rfl rfl ?_
            refine s_do (o_q (.bool false) rfl trivial rfl) ?_
            refine s_do (o_mov (.bool false) rfl) ?_
            refine w_done ?_
            refine k_seq ?_
            refine w_ret ?_
            obtain rfl := os hf
            exact r_flat ⟨trivial, trivial⟩ rfl (.refl _)
        · refine w_condf rfl (bf c24) ?_
          refine awp_seq ?_
          refine w_reg ?_
          refine s_do (o_q (.bool (j_1.Kind == 4)) rfl rfl rfl) ?_
          refine s_do (o_mov (.bool (j_1.Kind == 4)) rfl) ?_
          refine w_done ?_
          refine k_seq ?_
          rcases oi hf with ⟨c32, hf⟩ | ⟨c32, hf⟩
          · refine w_condt rfl c32 ?_
            refine awp_seq ?_
            refine w_reg ?_
            refine s_do (o_q (.ptr 0 0 1) rfl trivial rfl) ?_
            refine s_do (o_q (.int .i64 j_1.N) rfl nle rfl) ?_
            refine s_do (o_q (.bool (j_1.N == 0)) rfl rfl rfl) ?_
            refine s_do (o_mov (.bool (j_1.N == 0)) rfl) ?_
            rcases oi hf with ⟨c33, hf⟩ | ⟨c33, hf⟩
            · refine s_lit (s := 98) (b := true) rfl c33 ?_
              refine s_on rfl ?_
              refine s_do (o_q (.ptr 0 0 2) rfl trivial rfl) ?_
              refine s_on rfl ?_
              refine s_do (o_q (.str j_1.T) rfl nle rfl) ?_
              refine s_on rfl ?_
              refine s_do (o_q (.bool (j_1.T == [])) rfl trivial rfl) ?_
              refine s_do (o_q (.bool (j_1.T == [])) rfl trivial rfl) ?_
              refine s_do (o_mov (.bool (j_1.T == [])) rfl) ?_
              rcases oi hf with ⟨c34, hf⟩ | ⟨c34, hf⟩
              · refine s_lit (s := 103) (b := true) rfl c34 ?_
                refine s_on rfl ?_
                refine s_do (o_q (.ptr 0 0 3) rfl trivial rfl) ?_
                refine s_on rfl ?_
                refine s_do (o_q (.lst 1 (j_1.Keys.map AV.str)) rfl nle rfl) ?_
                refine s_on rfl ?_
                refine s_dof (o_len (enc := AV.str) rfl) fun hl35 => ?_
                refine s_on rfl ?_
                refine s_do (o_q (.bool ((j_1.Keys.length : Int) == 0)) rfl rfl rfl) ?_
                refine s_do (o_q (.bool ((j_1.Keys.length : Int) == 0)) rfl trivial rfl) ?_
                refine s_do (o_mov (.bool ((j_1.Keys.length : Int) == 0)) rfl) ?_
                refine w_done ?_
                refine k_seq ?_
                refine w_ret ?_
                obtain rfl := os hf
                exact r_flat ⟨trivial, trivial⟩ rfl (.refl _)
              · refine s_lit (s := 103) (b := false) rfl (bf c34) ?_
                refine s_off rfl rfl ?_
                refine s_off rfl rfl ?_
                refine s_off rfl rfl ?_
                refine s_off rfl rfl ?_
                refine s_do (o_q (.bool false) rfl trivial rfl) ?_
                refine s_do (o_mov (.bool false) rfl) ?_
                refine w_done ?_
                refine k_seq ?_
                refine w_ret ?_
                obtain rfl := os hf
                exact r_flat ⟨trivial, trivial⟩ rfl (.refl _)
            · refine s_lit (s := 98) (b := false) rfl (bf c33) ?_
              refine s_off rfl rfl ?_
              refine s_off rfl rfl ?_
              refine s_off rfl rfl ?_
              refine s_do (o_q (.bool false) rfl trivial rfl) ?_
              refine s_do (o_mov (.bool false) rfl) ?_
              refine s_off rfl rfl ?_
              refine s_off rfl rfl ?_
              refine s_off rfl rfl ?_
              refine s_off rfl rfl ?_
              refine s_do (o_q (.bool false) rfl trivial rfl) ?_
              refine s_do (o_mov (.bool false) rfl) ?_
              refine w_done ?_
              refine k_seq ?_
              refine w_ret ?_
              obtain rfl := os hf
              exact r_flat ⟨trivial, trivial⟩ rfl (.refl _)
          · refine w_condf rfl (bf c32) ?_
            refine awp_seq ?_
            refine w_reg ?_
            refine s_do (o_q (.bool (j_1.Kind == 5)) rfl rfl rfl) ?_
            refine s_do (o_mov (.bool (j_1.Kind == 5)) rfl) ?_
            refine w_done ?_
            refine k_seq ?_
            rcases oi hf with ⟨c36, hf⟩ | ⟨c36, hf⟩
            · refine w_condt rfl c36 ?_
              refine awp_seq ?_
              refine w_reg ?_
              refine s_do (o_q (.ptr 0 0 1) rfl trivial rfl) ?_
              refine s_do (o_q (.int .i64 j_1.N) rfl nle rfl) ?_
              refine s_do (o_q (.bool (j_1.N == 0)) rfl rfl rfl) ?_
              refine s_do (o_mov (.bool (j_1.N == 0)) rfl) ?_
              rcases oi hf with ⟨c37, hf⟩ | ⟨c37, hf⟩
              · refine s_lit (s := 114) (b := true) rfl c37 ?_
                refine s_on rfl ?_
                refine s_do (o_q (.ptr 0 0 2) rfl trivial rfl) ?_
                refine s_on rfl ?_
                refine s_do (o_q (.str j_1.T) rfl nle rfl) ?_
                refine s_on rfl ?_
                refine s_do (o_q (.bool (j_1.T == [])) rfl trivial rfl) ?_
                refine s_do (o_q (.bool (j_1.T == [])) rfl trivial rfl) ?_
                refine s_do (o_mov (.bool (j_1.T == [])) rfl) ?_
                rcases oi hf with ⟨c38, hf⟩ | ⟨c38, hf⟩
                · refine s_lit (s := 119) (b := true) rfl c38 ?_
                  refine s_on rfl ?_
                  refine s_do (o_q (.ptr 0 0 3) rfl trivial rfl) ?_
                  refine s_on rfl ?_
                  refine s_do (o_q (.lst 1 (j_1.Keys.map AV.str)) rfl nle rfl) ?_
                  refine s_on rfl ?_
                  refine s_dof (o_len (enc := AV.str) rfl) fun hl39 => ?_
                  refine s_on rfl ?_
                  refine s_do (o_q (.ptr 0 0 4) rfl trivial rfl) ?_
                  refine s_on rfl ?_
                  refine s_do (o_q (.lst 5 (j_1.Items.map encGJson)) rfl nle rfl) ?_
                  refine s_on rfl ?_
                  refine s_dof (o_len (enc := encGJson) rfl) fun hl40 => ?_
                  refine s_on rfl ?_
                  refine s_do (o_q (.bool ((j_1.Keys.length : Int) == (j_1.Items.length : Int))) rfl rfl rfl) ?_
                  refine s_do (o_q (.bool ((j_1.Keys.length : Int) == (j_1.Items.length : Int))) rfl trivial rfl) ?_
                  refine s_do (o_mov (.bool ((j_1.Keys.length : Int) == (j_1.Items.length : Int))) rfl) ?_
                  rcases oi hf with ⟨c41, hf⟩ | ⟨c41, hf⟩
                  · refine s_lit (s := 128) (b := true) rfl c41 ?_
                    refine s_on rfl ?_
                    refine s_do (o_q (.ptr 0 0 3) rfl trivial rfl) ?_
                    refine s_on rfl ?_
                    refine s_do (o_q (.lst 1 (j_1.Keys.map AV.str)) rfl nle rfl) ?_
                    refine s_on rfl ?_
                    obtain ⟨r_42, er43, hf⟩ := ob hf
                    refine s_do (o_call (w_impl_areKeys _ _ er43) rfl (.refl _) rfl) ?_
                    refine s_do (o_q (.bool r_42) rfl trivial rfl) ?_
                    refine s_do (o_mov (.bool r_42) rfl) ?_
                    refine w_done ?_
                    refine k_seq ?_
                    refine w_ret ?_
                    obtain rfl := os hf
                    exact r_flat ⟨trivial, trivial⟩ rfl (.refl _)
                  · refine s_lit (s := 128) (b := false) rfl (bf c41) ?_
                    refine s_off rfl rfl ?_
                    refine s_off rfl rfl ?_
                    refine s_off rfl rfl ?_
                    refine s_do (o_q (.bool false) rfl trivial rfl) ?_
                    refine s_do (o_mov (.bool false) rfl) ?_
                    refine w_done ?_
                    refine k_seq ?_
                    refine w_ret ?_
                    obtain rfl := os hf
                    exact r_flat ⟨trivial, trivial⟩ rfl (.refl _)
                · refine s_lit (s := 119) (b := false) rfl (bf c38) ?_
                  refine s_off rfl rfl ?_
                  refine s_off rfl rfl ?_
                  refine s_off rfl rfl ?_
                  refine s_off rfl rfl ?_
                  refine s_off rfl rfl ?_
                  refine s_off rfl rfl ?_
                  refine s_off rfl rfl ?_
                  refine s_do (o_q (.bool false) rfl trivial rfl) ?_
                  refine s_do (o_mov (.bool false) rfl) ?_
                  refine s_off rfl rfl ?_
                  refine s_off rfl rfl ?_
                  refine s_off rfl rfl ?_
                  refine s_do (o_q (.bool false) rfl trivial rfl) ?_
                  refine s_do (o_mov (.bool false) rfl) ?_
                  refine w_done ?_
                  refine k_seq ?_
                  refine w_ret ?_
                  obtain rfl := os hf
                  exact r_flat ⟨trivial, trivial⟩ rfl (.refl _)
              · refine s_lit (s := 114) (b := false) rfl (bf c37) ?_
                refine s_off rfl rfl ?_
                refine s_off rfl rfl ?_
                refine s_off rfl rfl ?_
                refine s_do (o_q (.bool false) rfl trivial rfl) ?_
                refine s_do (o_mov (.bool false) rfl) ?_
                refine s_off rfl rfl ?_
                refine s_off rfl rfl ?_
                refine s_off rfl rfl ?_
                refine s_off rfl rfl ?_
                refine s_off rfl rfl ?_
                refine s_off rfl rfl ?_
                refine s_off rfl rfl ?_
                refine s_do (o_q (.bool false) rfl trivial rfl) ?_
                refine s_do (o_mov (.bool false) rfl) ?_
                refine s_off rfl rfl ?_
                refine s_off rfl rfl ?_
                refine s_off rfl rfl ?_
                refine s_do (o_q (.bool false) rfl trivial rfl) ?_
                refine s_do (o_mov (.bool false) rfl) ?_
                refine w_done ?_
                refine k_seq ?_
                refine w_ret ?_
                obtain rfl := os hf
                exact r_flat ⟨trivial, trivial⟩ rfl (.refl _)
            · refine w_condf rfl (bf c36) ?_
              refine w_skip ?_
              refine k_blk ?_
              refine k_seq ?_
              refine awp_seq ?_
              refine w_reg ?_
              refine s_do (o_mov (.bool false) rfl) ?_
              refine w_done ?_
              refine k_seq ?_
              refine w_ret ?_
              obtain rfl := os hf
              exact r_flat ⟨trivial, trivial⟩ rfl (.refl _)

/- (impl.Json).rightIn$1 -/
def c214_h0 : ACode :=
 (.seq (.reg (.q ⟨(some 3), none, .box 5 (.t 0)⟩
 (.q ⟨(some 4), none, .mov (.c (.bool false))⟩
 .done)))
 (.seq (.reg (.q ⟨(some 5), none, .load 5 true (.t 3)⟩
 (.q ⟨(some 6), none, .load 1 false (.t 1)⟩
 (.q ⟨(some 7), none, .bin .add (.t 6) (.c (.int .i64 1))⟩
 (.q ⟨(some 8), none, .load 1 false (.t 2)⟩
 (.q ⟨(some 9), none, .call 164 [(.t 5), (.t 7), (.t 8)]⟩
 (.q ⟨(some 10), none, .not (.t 9)⟩
 (.q ⟨(some 4), none, .mov (.t 10)⟩
 .done))))))))
 .ret))
theorem fc214_h0 : fcomp Try.prog Try.f214 = some (c214_h0.erase, [.mov (.t 4)], 11) := by kernel_rfl
def impl_Json_rightIn_1_h0 (rec : (GJson → Int → Int → Option (Bool × Int))) (item_1 : GJson) (c_2 : Int) (c_3 : Int) : Option (Bool × Int × Int) :=
    (rec item_1 (w64 (c_2 + 1)) c_3).bind fun r_4 =>
    some ((!r_4.1), c_2, r_4.2)
theorem w_impl_Json_rightIn_1_h0 (rec : (GJson → Int → Int → Option (Bool × Int))) (hrec : ∀ a0 a1 a2 r, rec a0 a1 a2 = some r → CallHeap Try.prog false 164 [(encGJson a0), (.int .i64 a1), (.ptr 0 0 0)] [.box 1 (.int .i64 a2)] (.bool r.1) [.box 1 (.int .i64 r.2)]) (item_1 : GJson) (c_2 : Int) (c_3 : Int) (r : (Bool × Int × Int)) (hf : impl_Json_rightIn_1_h0 rec item_1 c_2 c_3 = some r) : CallHeap Try.prog false 214 [(encGJson item_1), (.ptr 0 0 0), (.ptr 1 0 0)] [.box 1 (.int .i64 c_2), .box 1 (.ptr 2 0 0), .box 1 (.int .i64 c_3)] (.bool r.1) [.box 1 (.int .i64 r.2.1), .box 1 (.ptr 2 0 0), .box 1 (.int .i64 r.2.2)] := by
  refine CallHeap.of_awp mixed Try.func214 fc214_h0 nle ?_
  rw [argT_eq]
  rw [encGJson_eq item_1]
  unfold impl_Json_rightIn_1_h0 at hf
  unfold c214_h0
  refine (show awp Try.prog false 3 _ (ofL [(0, (.agg [(.int .i64 item_1.Kind), (.int .i64 item_1.N), (.str item_1.T), (.lst 1 (item_1.Keys.map AV.str)), (.lst 5 (item_1.Items.map encGJson))])), (1, (.ptr 0 0 0)), (2, (.ptr 1 0 0))]) [.box 1 (.int .i64 c_2), .box 1 (.ptr 2 0 0), .box 1 (.int .i64 c_3)] _ from ?_)
  refine awp_seq ?_
  refine w_reg ?_
  refine s_do (o_box (j := 3) (c := (.agg [(.int .i64 item_1.Kind), (.int .i64 item_1.N), (.str item_1.T), (.lst 1 (item_1.Keys.map AV.str)), (.lst 5 (item_1.Items.map encGJson))])) rfl trivial rfl rfl) ?_
  refine s_do (o_mov (.bool false) rfl) ?_
  refine w_done ?_
  refine k_seq ?_
  refine awp_seq ?_
  refine w_reg ?_
  obtain ⟨r_4, er5, hf⟩ := ob hf
  refine s_do (o_q (.agg [(.int .i64 item_1.Kind), (.int .i64 item_1.N), (.str item_1.T), (.lst 1 (item_1.Keys.map AV.str)), (.lst 5 (item_1.Items.map encGJson))]) rfl nle rfl) ?_
  refine s_do (o_q (.int .i64 c_2) rfl ⟨rfl, rfl⟩ rfl) ?_
  refine s_do (o_q (.int .i64 (w64 (c_2 + 1))) rfl rfl rfl) ?_
  refine s_do (o_q (.ptr 2 0 0) rfl ⟨rfl, rfl⟩ rfl) ?_
  refine s_do (o_callh (v := (.bool r_4.1)) (h2 := [.box 1 (.int .i64 c_2), .box 1 (.ptr 2 0 0), .box 1 (.int .i64 r_4.2), .box 5 (.agg [(.int .i64 item_1.Kind), (.int .i64 item_1.N), (.str item_1.T), (.lst 1 (item_1.Keys.map AV.str)), (.lst 5 (item_1.Items.map encGJson))])]) [] [2] (hrec _ _ _ _ er5) rfl (.cons (.of_eq (encGJson_eq item_1).symm) (.cons (.refl _) (.cons (.refl _) .nil))) (.refl _) rfl rfl) ?_
  refine s_do (o_q (.bool (!r_4.1)) rfl trivial rfl) ?_
  refine s_do (o_mov (.bool (!r_4.1)) rfl) ?_
  refine w_done ?_
  refine k_seq ?_
  refine w_ret ?_
  obtain rfl := os hf
  exact r_heap [] [0, 1, 2] rfl ⟨trivial, trivial⟩ rfl (.refl _) (.refl _)

/- slices.IndexFunc[[]impl.Json,impl.Json] -/
def c227_h0 : ACode :=
 (.seq (.reg (.q ⟨(some 4), none, .mov (.c (.int .i64 0))⟩
 .done))
 (.seq (.seq (.reg (.q ⟨(some 6), none, .mov (.t 0)⟩
 (.q ⟨(some 7), none, .len (.t 6)⟩
 (.q ⟨(some 8), none, .mov (.c (.int .i64 0))⟩
 .done))))
 (.block 0 (.loop (.seq (.reg (.q ⟨(some 9), none, .bin .lss (.t 8) (.t 7)⟩
 .done))
 (.seq (.cond (.t 9) .skip
 (.exit 0))
 (.seq (.block 1 (.seq (.reg (.q ⟨(some 10), none, .mov (.t 8)⟩
 (.q ⟨(some 5), none, .mov (.t 10)⟩
 .done)))
 (.seq (.reg (.q ⟨(some 11), none, .mov (.t 1)⟩
 (.q ⟨(some 12), none, .mov (.t 0)⟩
 (.q ⟨(some 13), none, .mov (.t 5)⟩
 (.q ⟨(some 14), none, .iaddr 5 (.t 12) (.t 13)⟩
 (.q ⟨(some 15), none, .load 5 true (.t 14)⟩
 (.q ⟨(some 16), none, .calv (.t 11) [(.t 15)]⟩
 .done)))))))
 (.cond (.t 16) (.seq (.reg (.q ⟨(some 17), none, .mov (.t 5)⟩
 (.q ⟨(some 4), none, .mov (.t 17)⟩
 .done)))
 .ret)
 .skip))))
 (.reg (.q ⟨(some 18), none, .bin .add (.t 8) (.c (.int .i64 1))⟩
 (.q ⟨(some 8), none, .mov (.t 18)⟩
 .done)))))))))
 (.cut (.seq (.reg (.q ⟨(some 4), none, .mov (.c (.int .i64 (-1)))⟩
 .done))
 .ret))))
theorem fc227_h0 : fcomp Try.prog Try.f227 = some (c227_h0.erase, [.mov (.t 4)], 19) := by kernel_rfl
def slices_IndexFunc_impl_Json_impl_Json_h0_L1 (rec : (GJson → Int → Int → Option (Bool × Int))) : List GJson → Nat → Int → Int → Option (Fl (Int × Int × Int) (Int × Int))
  | [], s8_20, x_21, x_22 =>
    some (.go (x_21, x_22))
  | x_38 :: xs, s8_20, x_21, x_22 =>
    (impl_Json_rightIn_1_h0 rec x_38 x_21 x_22).bind fun r_39 =>
    if r_39.1 then
    some (.ret ((s8_20 : Int), r_39.2.1, r_39.2.2))
    else
    slices_IndexFunc_impl_Json_impl_Json_h0_L1 rec xs (s8_20 + 1) r_39.2.1 r_39.2.2

def slices_IndexFunc_impl_Json_impl_Json_h0 (rec : (GJson → Int → Int → Option (Bool × Int))) (s_1 : (List GJson)) (c_2 : Int) (c_3 : Int) : Option (Int × Int × Int) :=
    (slices_IndexFunc_impl_Json_impl_Json_h0_L1 rec s_1 0 c_2 c_3).bind fun q => (match q with
    | .ret r => some r
    | .go (x_29, x_30) =>
    some ((-1), x_29, x_30))
theorem w_slices_IndexFunc_impl_Json_impl_Json_h0 (rec : (GJson → Int → Int → Option (Bool × Int))) (hrec : ∀ a0 a1 a2 r, rec a0 a1 a2 = some r → CallHeap Try.prog false 164 [(encGJson a0), (.int .i64 a1), (.ptr 0 0 0)] [.box 1 (.int .i64 a2)] (.bool r.1) [.box 1 (.int .i64 r.2)]) (s_1 : (List GJson)) (c_2 : Int) (c_3 : Int) (r : (Int × Int × Int)) (hf : slices_IndexFunc_impl_Json_impl_Json_h0 rec s_1 c_2 c_3 = some r) : CallHeap Try.prog false 227 [(.lst 5 (s_1.map encGJson)), (.fn 214 [(.ptr 0 0 0), (.ptr 1 0 0)])] [.box 1 (.int .i64 c_2), .box 1 (.ptr 2 0 0), .box 1 (.int .i64 c_3)] (.int .i64 r.1) [.box 1 (.int .i64 r.2.1), .box 1 (.ptr 2 0 0), .box 1 (.int .i64 r.2.2)] := by
  refine CallHeap.of_awp mixed Try.func227 fc227_h0 nle ?_
  rw [argT_eq]
  unfold slices_IndexFunc_impl_Json_impl_Json_h0 at hf
  unfold c227_h0
  refine (show awp Try.prog false 3 _ (ofL [(0, (.lst 5 (s_1.map encGJson))), (1, (.fn 214 [(.ptr 0 0 0), (.ptr 1 0 0)]))]) [.box 1 (.int .i64 c_2), .box 1 (.ptr 2 0 0), .box 1 (.int .i64 c_3)] _ from ?_)
  refine awp_seq ?_
  refine w_reg ?_
  refine s_do (o_mov (.int .i64 0) rfl) ?_
  refine w_done ?_
  refine k_seq ?_
  refine awp_seq ?_
  refine awp_seq ?_
  refine w_reg ?_
  refine s_do (o_mov (.lst 5 (s_1.map encGJson)) rfl) ?_
  refine s_dof (o_len (enc := encGJson) rfl) fun hl4 => ?_
  refine s_do (o_mov (.int .i64 0) rfl) ?_
  refine w_done ?_
  refine k_seq ?_
  obtain ⟨p31, hb1, hf⟩ := ob hf
  refine awp_cutx (X := {q : (Int × Int) // p31 = .go q}) (fun q => ([], [.box 1 (.int .i64 q.1.1), .box 1 (.ptr 2 0 0), .box 1 (.int .i64 q.1.2)])) ?_ ?_
  · refine awp_loop (X := {q : (Nat × Int × Int) // slices_IndexFunc_impl_Json_impl_Json_h0_L1 rec (s_1.drop q.1) q.1 q.2.1 q.2.2 = some p31}) (fun q => ([(0, (.lst 5 (s_1.map encGJson))), (1, (.fn 214 [(.ptr 0 0 0), (.ptr 1 0 0)])), (7, (.int .i64 (s_1.length : Int))), (8, (.int .i64 (q.1.1 : Int)))], [.box 1 (.int .i64 q.1.2.1), .box 1 (.ptr 2 0 0), .box 1 (.int .i64 q.1.2.2)])) (fun q => s_1.length - q.1.1) ⟨(0, c_2, c_3), hb1⟩ ⟨[], [0, 1, 2], _, _, rfl, rfl, ⟨.refl _, ⟨.refl _, ⟨.refl _, ⟨.refl _, trivial⟩⟩⟩⟩, (.refl _)⟩ ?_
    rintro ⟨⟨s8_20, x_21, x_22⟩, hc1⟩
    have hc1 : slices_IndexFunc_impl_Json_impl_Json_h0_L1 rec (s_1.drop s8_20) s8_20 x_21 x_22 = some p31 := hc1
    refine (show awp Try.prog false 3 _ (ofL [(0, (.lst 5 (s_1.map encGJson))), (1, (.fn 214 [(.ptr 0 0 0), (.ptr 1 0 0)])), (7, (.int .i64 (s_1.length : Int))), (8, (.int .i64 (s8_20 : Int)))]) [.box 1 (.int .i64 x_21), .box 1 (.ptr 2 0 0), .box 1 (.int .i64 x_22)] _ from ?_)
    rcases dropc s_1 s8_20 with ⟨hie34, hd37⟩ | ⟨hlt32, x_38, hx33, hd37⟩
    · rw [hd37, slices_IndexFunc_impl_Json_impl_Json_h0_L1.eq_1] at hc1
      have hq36 := dlf hie34
      refine awp_seq ?_
      refine w_reg ?_
      refine s_do (o_q (.bool (decide ((s8_20 : Int) < (s_1.length : Int)))) rfl rfl rfl) ?_
      refine w_done ?_
      refine k_seq ?_
      refine awp_seq ?_
      refine w_condf rfl hq36 ?_
      refine w_exit ?_
      refine k_seqx ?_
      refine k_loopx ?_
      refine k_blkx ?_
      obtain rfl := os hc1
      exact k_cutn ⟨_, rfl⟩ ⟨[], [0, 1, 2], _, _, rfl, rfl, trivial, (.refl _)⟩
    · rw [hd37, slices_IndexFunc_impl_Json_impl_Json_h0_L1.eq_2] at hc1
      have hq36 := dlt hlt32
      refine awp_seq ?_
      refine w_reg ?_
      refine s_do (o_q (.bool (decide ((s8_20 : Int) < (s_1.length : Int)))) rfl rfl rfl) ?_
      refine w_done ?_
      refine k_seq ?_
      refine awp_seq ?_
      refine w_condt rfl hq36 ?_
      refine w_skip ?_
      refine k_seq ?_
      refine awp_seq ?_
      refine w_blk ?_
      refine awp_seq ?_
      refine w_reg ?_
      refine s_do (o_mov (.int .i64 (s8_20 : Int)) rfl) ?_
      refine s_do (o_mov (.int .i64 (s8_20 : Int)) rfl) ?_
      refine w_done ?_
      refine k_seq ?_
      refine awp_seq ?_
      refine w_reg ?_
      obtain ⟨r_39, er40, hc1⟩ := ob hc1
      refine s_do (o_mov (.fn 214 [(.ptr 0 0 0), (.ptr 1 0 0)]) rfl) ?_
      refine s_do (o_mov (.lst 5 (s_1.map encGJson)) rfl) ?_
      refine s_do (o_mov (.int .i64 (s8_20 : Int)) rfl) ?_
      refine s_do (o_iaddrn (enc := encGJson) rfl rfl hx33) ?_
      refine s_do (o_loadeq (v := (.agg [(.int .i64 x_38.Kind), (.int .i64 x_38.N), (.str x_38.T), (.lst 1 (x_38.Keys.map AV.str)), (.lst 5 (x_38.Items.map encGJson))])) rfl (encGJson_eq _) nle rfl) ?_
      refine s_do (o_calvh (v := (.bool r_39.1)) (h2 := [.box 1 (.int .i64 r_39.2.1), .box 1 (.ptr 2 0 0), .box 1 (.int .i64 r_39.2.2)]) [] [0, 1, 2] rfl (by kernel_rfl) (w_impl_Json_rightIn_1_h0 rec hrec _ _ _ _ er40) rfl rfl (.cons (.of_eq (encGJson_eq x_38).symm) (.cons (.refl _) (.cons (.refl _) .nil))) (.refl _) rfl rfl) ?_
      refine w_done ?_
      refine k_seq ?_
      rcases oi hc1 with ⟨c41, hc1⟩ | ⟨c41, hc1⟩
      · refine w_condt rfl c41 ?_
        refine awp_seq ?_
        refine w_reg ?_
        refine s_do (o_mov (.int .i64 (s8_20 : Int)) rfl) ?_
        refine s_do (o_mov (.int .i64 (s8_20 : Int)) rfl) ?_
        refine w_done ?_
        refine k_seq ?_
        refine w_ret ?_
        obtain rfl := os hc1
        obtain rfl := os hf
        exact r_heap [] [0, 1, 2] rfl ⟨trivial, trivial⟩ rfl (.refl _) (.refl _)
      · refine w_condf rfl (bf c41) ?_
        refine w_skip ?_
        refine k_blk ?_
        refine k_seq ?_
        refine w_reg ?_
        refine s_do (o_q (.int .i64 (w64 ((s8_20 : Int) + 1))) rfl rfl rfl) ?_
        refine s_do (o_mov (.int .i64 (w64 ((s8_20 : Int) + 1))) rfl) ?_
        refine w_done ?_
        exact k_loopn ⟨((s8_20 + 1), r_39.2.1, r_39.2.2), hc1⟩ (mul hlt32) ⟨[], [0, 1, 2], _, _, rfl, rfl, ⟨.refl _, ⟨.refl _, ⟨.refl _, ⟨.of_eq (congrArg (AV.int _) (w64_incr hlt32 hl4)), trivial⟩⟩⟩⟩, (.refl _)⟩
  · rintro ⟨⟨x_29, x_30⟩, rfl⟩
    refine awp_seq ?_
    refine w_reg ?_
    refine s_do (o_mov (.int .i64 (-1)) rfl) ?_
    refine w_done ?_
    refine k_seq ?_
    refine w_ret ?_
    obtain rfl := os hf
    exact r_heap [] [0, 1, 2] rfl ⟨trivial, trivial⟩ rfl (.refl _) (.refl _)

/- slices.ContainsFunc[[]impl.Json,impl.Json] -/
def c213_h0 : ACode :=
 (.seq (.reg (.q ⟨(some 4), none, .mov (.c (.bool false))⟩
 .done))
 (.seq (.reg (.q ⟨(some 5), none, .mov (.t 0)⟩
 (.q ⟨(some 6), none, .mov (.t 1)⟩
 (.q ⟨(some 7), none, .call 227 [(.t 5), (.t 6)]⟩
 (.q ⟨(some 8), none, .bin .geq (.t 7) (.c (.int .i64 0))⟩
 (.q ⟨(some 4), none, .mov (.t 8)⟩
 .done))))))
 .ret))
theorem fc213_h0 : fcomp Try.prog Try.f213 = some (c213_h0.erase, [.mov (.t 4)], 9) := by kernel_rfl
def slices_ContainsFunc_impl_Json_impl_Json_h0 (rec : (GJson → Int → Int → Option (Bool × Int))) (s_1 : (List GJson)) (c_2 : Int) (c_3 : Int) : Option (Bool × Int × Int) :=
    (slices_IndexFunc_impl_Json_impl_Json_h0 rec s_1 c_2 c_3).bind fun r_4 =>
    some ((decide (r_4.1 ≥ 0)), r_4.2.1, r_4.2.2)
theorem w_slices_ContainsFunc_impl_Json_impl_Json_h0 (rec : (GJson → Int → Int → Option (Bool × Int))) (hrec : ∀ a0 a1 a2 r, rec a0 a1 a2 = some r → CallHeap Try.prog false 164 [(encGJson a0), (.int .i64 a1), (.ptr 0 0 0)] [.box 1 (.int .i64 a2)] (.bool r.1) [.box 1 (.int .i64 r.2)]) (s_1 : (List GJson)) (c_2 : Int) (c_3 : Int) (r : (Bool × Int × Int)) (hf : slices_ContainsFunc_impl_Json_impl_Json_h0 rec s_1 c_2 c_3 = some r) : CallHeap Try.prog false 213 [(.lst 5 (s_1.map encGJson)), (.fn 214 [(.ptr 0 0 0), (.ptr 1 0 0)])] [.box 1 (.int .i64 c_2), .box 1 (.ptr 2 0 0), .box 1 (.int .i64 c_3)] (.bool r.1) [.box 1 (.int .i64 r.2.1), .box 1 (.ptr 2 0 0), .box 1 (.int .i64 r.2.2)] := by
  refine CallHeap.of_awp mixed Try.func213 fc213_h0 nle ?_
  rw [argT_eq]
  unfold slices_ContainsFunc_impl_Json_impl_Json_h0 at hf
  unfold c213_h0
  refine (show awp Try.prog false 3 _ (ofL [(0, (.lst 5 (s_1.map encGJson))), (1, (.fn 214 [(.ptr 0 0 0), (.ptr 1 0 0)]))]) [.box 1 (.int .i64 c_2), .box 1 (.ptr 2 0 0), .box 1 (.int .i64 c_3)] _ from ?_)
  refine awp_seq ?_
  refine w_reg ?_
  refine s_do (o_mov (.bool false) rfl) ?_
  refine w_done ?_
  refine k_seq ?_
  refine awp_seq ?_
  refine w_reg ?_
  obtain ⟨r_4, er5, hf⟩ := ob hf
  refine s_do (o_mov (.lst 5 (s_1.map encGJson)) rfl) ?_
  refine s_do (o_mov (.fn 214 [(.ptr 0 0 0), (.ptr 1 0 0)]) rfl) ?_
  refine s_do (o_callh (v := (.int .i64 r_4.1)) (h2 := [.box 1 (.int .i64 r_4.2.1), .box 1 (.ptr 2 0 0), .box 1 (.int .i64 r_4.2.2)]) [] [0, 1, 2] (w_slices_IndexFunc_impl_Json_impl_Json_h0 rec hrec _ _ _ _ er5) rfl (.refl _) (.refl _) rfl rfl) ?_
  refine s_do (o_q (.bool (decide (r_4.1 ≥ 0))) rfl rfl rfl) ?_
  refine s_do (o_mov (.bool (decide (r_4.1 ≥ 0))) rfl) ?_
  refine w_done ?_
  refine k_seq ?_
  refine w_ret ?_
  obtain rfl := os hf
  exact r_heap [] [0, 1, 2] rfl ⟨trivial, trivial⟩ rfl (.refl _) (.refl _)

/- (impl.Json).rightIn -/
def c164_h0 : ACode :=
 (.seq (.reg (.q ⟨(some 3), none, .box 5 (.t 0)⟩
 (.q ⟨(some 4), none, .box 1 (.t 1)⟩
 (.q ⟨(some 5), none, .box 1 (.t 2)⟩
 (.q ⟨(some 6), none, .mov (.c (.bool false))⟩
 .done)))))
 (.seq (.seq (.reg (.q ⟨(some 7), none, .load 1 false (.t 5)⟩
 (.q ⟨(some 8), none, .nilck (.t 7)⟩
 (.q ⟨(some 9), none, .load 1 false (.t 8)⟩
 (.q ⟨(some 10), none, .bin .sub (.t 9) (.c (.int .i64 1))⟩
 (.q ⟨(some 11), none, .nilck (.t 7)⟩
 (.q ⟨none, none, .store 1 (.t 11) (.t 10)⟩
 .done)))))))
 (.seq (.reg (.q ⟨(some 12), none, .load 1 false (.t 5)⟩
 (.q ⟨(some 13), none, .nilck (.t 12)⟩
 (.q ⟨(some 14), none, .load 1 false (.t 13)⟩
 (.q ⟨(some 15), none, .bin .lss (.t 14) (.c (.int .i64 0))⟩
 (.q ⟨(some 16), none, .mov (.t 15)⟩
 (.q ⟨(some 17), (some (16, false)), .load 1 false (.t 4)⟩
 (.q ⟨(some 18), (some (16, false)), .bin .geq (.t 17) (.c (.int .i64 12))⟩
 (.q ⟨(some 19), none, .pick (.t 16) (.c (.bool true)) (.t 18)⟩
 (.q ⟨(some 20), none, .mov (.t 19)⟩
 (.q ⟨(some 21), (some (20, false)), .load 5 true (.t 3)⟩
 (.q ⟨(some 22), (some (20, false)), .call 212 [(.t 21)]⟩
 (.q ⟨(some 23), (some (20, false)), .not (.t 22)⟩
 (.q ⟨(some 24), none, .pick (.t 20) (.c (.bool true)) (.t 23)⟩
 .done))))))))))))))
 (.cut (.cond (.t 24) (.seq (.reg (.q ⟨(some 6), none, .mov (.c (.bool false))⟩
 .done))
 .ret)
 .skip))))
 (.seq (.reg (.q ⟨(some 25), none, .faddr 4 (.t 3)⟩
 (.q ⟨(some 26), none, .load 1 false (.t 25)⟩
 (.q ⟨(some 27), none, .mkfn 214 [(.t 4), (.t 5)]⟩
 (.q ⟨(some 28), none, .call 213 [(.t 26), (.t 27)]⟩
 (.q ⟨(some 29), none, .not (.t 28)⟩
 (.q ⟨(some 6), none, .mov (.t 29)⟩
 .done)))))))
 .ret)))
theorem fc164_h0 : fcomp Try.prog Try.f164 = some (c164_h0.erase, [.mov (.t 6)], 30) := by kernel_rfl
def impl_Json_rightIn_B (rec : (GJson → Int → Int → Option (Bool × Int))) (j_1 : GJson) (deep_2 : Int) (room_3 : Int) : Option (Bool × Int) :=
    ((if (decide (w64 (room_3 - 1) < 0)) then
    some true
    else
    if (decide (deep_2 ≥ 12)) then
    some true
    else
    (impl_Json_partOK j_1).bind fun r_12 =>
    some (!r_12) : Option Bool)).bind fun s24_8 =>
    if s24_8 then
    some (false, w64 (room_3 - 1))
    else
    (slices_ContainsFunc_impl_Json_impl_Json_h0 rec j_1.Items deep_2 (w64 (room_3 - 1))).bind fun r_15 =>
    some ((!r_15.1), r_15.2.2)
theorem w_impl_Json_rightIn_B (rec : (GJson → Int → Int → Option (Bool × Int))) (hrec : ∀ a0 a1 a2 r, rec a0 a1 a2 = some r → CallHeap Try.prog false 164 [(encGJson a0), (.int .i64 a1), (.ptr 0 0 0)] [.box 1 (.int .i64 a2)] (.bool r.1) [.box 1 (.int .i64 r.2)]) (j_1 : GJson) (deep_2 : Int) (room_3 : Int) (r : (Bool × Int)) (hf : impl_Json_rightIn_B rec j_1 deep_2 room_3 = some r) : CallHeap Try.prog false 164 [(encGJson j_1), (.int .i64 deep_2), (.ptr 0 0 0)] [.box 1 (.int .i64 room_3)] (.bool r.1) [.box 1 (.int .i64 r.2)] := by
  refine CallHeap.of_awp mixed Try.func164 fc164_h0 nle ?_
  rw [argT_eq]
  rw [encGJson_eq j_1]
  unfold impl_Json_rightIn_B at hf
  unfold c164_h0
  refine (show awp Try.prog false 1 _ (ofL [(0, (.agg [(.int .i64 j_1.Kind), (.int .i64 j_1.N), (.str j_1.T), (.lst 1 (j_1.Keys.map AV.str)), (.lst 5 (j_1.Items.map encGJson))])), (1, (.int .i64 deep_2)), (2, (.ptr 0 0 0))]) [.box 1 (.int .i64 room_3)] _ from ?_)
  refine awp_seq ?_
  refine w_reg ?_
  refine s_do (o_box (j := 1) (c := (.agg [(.int .i64 j_1.Kind), (.int .i64 j_1.N), (.str j_1.T), (.lst 1 (j_1.Keys.map AV.str)), (.lst 5 (j_1.Items.map encGJson))])) rfl trivial rfl rfl) ?_
  refine s_do (o_box (j := 2) (c := (.int .i64 deep_2)) rfl trivial rfl rfl) ?_
  refine s_do (o_box (j := 3) (c := (.ptr 0 0 0)) rfl trivial rfl rfl) ?_
  refine s_do (o_mov (.bool false) rfl) ?_
  refine w_done ?_
  refine k_seq ?_
  refine awp_seq ?_
  refine awp_seq ?_
  refine w_reg ?_
  refine s_do (o_q (.ptr 0 0 0) rfl ⟨rfl, rfl⟩ rfl) ?_
  refine s_do (o_q (.ptr 0 0 0) rfl trivial rfl) ?_
  refine s_do (o_q (.int .i64 room_3) rfl ⟨rfl, rfl⟩ rfl) ?_
  refine s_do (o_q (.int .i64 (w64 (room_3 - 1))) rfl rfl rfl) ?_
  refine s_do (o_q (.ptr 0 0 0) rfl trivial rfl) ?_
  refine s_do0 (o_storebox (v := (.int .i64 (w64 (room_3 - 1)))) (y' := (.int .i64 (w64 (room_3 - 1)))) rfl rfl rfl trivial ⟨rfl, rfl, rfl⟩ ⟨⟨rfl, trivial⟩, trivial⟩ rfl) ?_
  refine w_done ?_
  refine k_seq ?_
  refine awp_seq ?_
  obtain ⟨s24_8, hb1, hf⟩ := ob hf
  refine awp_cut ([(3, (.ptr 1 0 0)), (4, (.ptr 2 0 0)), (5, (.ptr 3 0 0)), (24, (.bool s24_8))], [.box 1 (.int .i64 (w64 (room_3 - 1))), .box 5 (.agg [(.int .i64 j_1.Kind), (.int .i64 j_1.N), (.str j_1.T), (.lst 1 (j_1.Keys.map AV.str)), (.lst 5 (j_1.Items.map encGJson))]), .box 1 (.int .i64 deep_2), .box 1 (.ptr 0 0 0)]) ?_ ?_
  · refine w_reg ?_
    refine s_do (o_q (.ptr 0 0 0) rfl ⟨rfl, rfl⟩ rfl) ?_
    refine s_do (o_q (.ptr 0 0 0) rfl trivial rfl) ?_
    refine s_do (o_q (.int .i64 (w64 (room_3 - 1))) rfl ⟨rfl, rfl⟩ rfl) ?_
    refine s_do (o_q (.bool (decide (w64 (room_3 - 1) < 0))) rfl rfl rfl) ?_
    refine s_do (o_mov (.bool (decide (w64 (room_3 - 1) < 0))) rfl) ?_
    rcases oi hb1 with ⟨c10, hb1⟩ | ⟨c10, hb1⟩
    · refine s_lit (s := 16) (b := true) rfl c10 ?_
      refine s_off rfl rfl ?_
      refine s_off rfl rfl ?_
      refine s_do (o_q (.bool true) rfl trivial rfl) ?_
      refine s_do (o_mov (.bool true) rfl) ?_
      refine s_off rfl rfl ?_
      refine s_off rfl rfl ?_
      refine s_off rfl rfl ?_
      refine s_do (o_q (.bool true) rfl trivial rfl) ?_
      refine w_done ?_
      obtain rfl := os hb1
      exact ⟨[], [0, 1, 2, 3], _, _, rfl, rfl, ⟨.refl _, ⟨.refl _, ⟨.refl _, ⟨.refl _, trivial⟩⟩⟩⟩, (.refl _)⟩
    · refine s_lit (s := 16) (b := false) rfl (bf c10) ?_
      refine s_on rfl ?_
      refine s_do (o_q (.int .i64 deep_2) rfl ⟨rfl, rfl⟩ rfl) ?_
      refine s_on rfl ?_
      refine s_do (o_q (.bool (decide (deep_2 ≥ 12))) rfl rfl rfl) ?_
      refine s_do (o_q (.bool (decide (deep_2 ≥ 12))) rfl trivial rfl) ?_
      refine s_do (o_mov (.bool (decide (deep_2 ≥ 12))) rfl) ?_
      rcases oi hb1 with ⟨c11, hb1⟩ | ⟨c11, hb1⟩
      · refine s_lit (s := 20) (b := true) rfl c11 ?_
        refine s_off rfl rfl ?_
        refine s_off rfl rfl ?_
        refine s_off rfl rfl ?_
        refine s_do (o_q (.bool true) rfl trivial rfl) ?_
        refine w_done ?_
        obtain rfl := os hb1
        exact ⟨[], [0, 1, 2, 3], _, _, rfl, rfl, ⟨.refl _, ⟨.refl _, ⟨.refl _, ⟨.refl _, trivial⟩⟩⟩⟩, (.refl _)⟩
      · refine s_lit (s := 20) (b := false) rfl (bf c11) ?_
        refine s_on rfl ?_
        refine s_do (o_q (.agg [(.int .i64 j_1.Kind), (.int .i64 j_1.N), (.str j_1.T), (.lst 1 (j_1.Keys.map AV.str)), (.lst 5 (j_1.Items.map encGJson))]) rfl nle rfl) ?_
        refine s_on rfl ?_
        obtain ⟨r_12, er13, hb1⟩ := ob hb1
        refine s_do (o_call (w_impl_Json_partOK _ _ er13) rfl (.cons (.of_eq (encGJson_eq j_1).symm) .nil) rfl) ?_
        refine s_on rfl ?_
        refine s_do (o_q (.bool (!r_12)) rfl trivial rfl) ?_
        refine s_do (o_q (.bool (!r_12)) rfl trivial rfl) ?_
        refine w_done ?_
        obtain rfl := os hb1
        exact ⟨[], [0, 1, 2, 3], _, _, rfl, rfl, ⟨.refl _, ⟨.refl _, ⟨.refl _, ⟨.refl _, trivial⟩⟩⟩⟩, (.refl _)⟩
  · rcases oi hf with ⟨c14, hf⟩ | ⟨c14, hf⟩
    · refine w_condt rfl c14 ?_
      refine awp_seq ?_
      refine w_reg ?_
      refine s_do (o_mov (.bool false) rfl) ?_
      refine w_done ?_
      refine k_seq ?_
      refine w_ret ?_
      obtain rfl := os hf
      exact r_heap [] [0] rfl ⟨trivial, trivial⟩ rfl (.refl _) (.refl _)
    · refine w_condf rfl (bf c14) ?_
      refine w_skip ?_
      refine k_seq ?_
      refine awp_seq ?_
      refine w_reg ?_
      obtain ⟨r_15, er16, hf⟩ := ob hf
      refine s_do (o_q (.ptr 1 0 4) rfl trivial rfl) ?_
      refine s_do (o_q (.lst 5 (j_1.Items.map encGJson)) rfl nle rfl) ?_
      refine s_do (o_q (.fn 214 [(.ptr 2 0 0), (.ptr 3 0 0)]) rfl trivial rfl) ?_
      refine s_do (o_callh (v := (.bool r_15.1)) (h2 := [.box 1 (.int .i64 r_15.2.2), .box 5 (.agg [(.int .i64 j_1.Kind), (.int .i64 j_1.N), (.str j_1.T), (.lst 1 (j_1.Keys.map AV.str)), (.lst 5 (j_1.Items.map encGJson))]), .box 1 (.int .i64 r_15.2.1), .box 1 (.ptr 0 0 0)]) [] [2, 3, 0] (w_slices_ContainsFunc_impl_Json_impl_Json_h0 rec hrec _ _ _ _ er16) rfl (.refl _) (.refl _) rfl rfl) ?_
      refine s_do (o_q (.bool (!r_15.1)) rfl trivial rfl) ?_
      refine s_do (o_mov (.bool (!r_15.1)) rfl) ?_
      refine w_done ?_
      refine k_seq ?_
      refine w_ret ?_
      obtain rfl := os hf
      exact r_heap [] [0] rfl ⟨trivial, trivial⟩ rfl (.refl _) (.refl _)
def impl_Json_rightIn : Nat → GJson → Int → Int → Option (Bool × Int)
  | 0, _, _, _ => none
  | k + 1, j_1, deep_2, room_3 => impl_Json_rightIn_B (impl_Json_rightIn k) j_1 deep_2 room_3
theorem w_impl_Json_rightIn : ∀ (k : Nat) (j_1 : GJson) (deep_2 : Int) (room_3 : Int) (r : (Bool × Int)), impl_Json_rightIn k j_1 deep_2 room_3 = some r → CallHeap Try.prog false 164 [(encGJson j_1), (.int .i64 deep_2), (.ptr 0 0 0)] [.box 1 (.int .i64 room_3)] (.bool r.1) [.box 1 (.int .i64 r.2)]
  | 0, j_1, deep_2, room_3, r, h => by rw [impl_Json_rightIn.eq_1] at h; cases h
  | k + 1, j_1, deep_2, room_3, r, h => by
    rw [impl_Json_rightIn.eq_2] at h
    exact w_impl_Json_rightIn_B _ (w_impl_Json_rightIn k) j_1 deep_2 room_3 r h

/- impl.JsonOK -/
def c101 : ACode :=
 (.seq (.reg (.q ⟨(some 1), none, .box 5 (.t 0)⟩
 (.q ⟨(some 2), none, .mov (.c (.bool false))⟩
 .done)))
 (.seq (.reg (.q ⟨(some 3), none, .box 1 (.c (.int .i64 0))⟩
 (.q ⟨none, none, .store 1 (.t 3) (.c (.int .i64 400))⟩
 .done)))
 (.seq (.reg (.q ⟨(some 4), none, .load 5 true (.t 1)⟩
 (.q ⟨(some 5), none, .call 164 [(.t 4), (.c (.int .i64 0)), (.t 3)]⟩
 (.q ⟨(some 2), none, .mov (.t 5)⟩
 .done))))
 .ret)))
theorem fc101 : fcomp Try.prog Try.f101 = some (c101.erase, [.mov (.t 2)], 6) := by kernel_rfl
def impl_JsonOK (j_1 : GJson) : Option Bool :=
    (impl_Json_rightIn FUEL j_1 0 400).bind fun r_2 =>
    some r_2.1
theorem w_impl_JsonOK (j_1 : GJson) (r : Bool) (hf : impl_JsonOK j_1 = some r) : CallOK Try.prog 101 .flat [(encGJson j_1)] (.bool r) := by
  refine CallOK.of_awp mixed Try.func101 fc101 nle ?_
  rw [argT_eq]
  rw [encGJson_eq j_1]
  unfold impl_JsonOK at hf
  unfold c101
  refine (show awp Try.prog false 0 _ (ofL [(0, (.agg [(.int .i64 j_1.Kind), (.int .i64 j_1.N), (.str j_1.T), (.lst 1 (j_1.Keys.map AV.str)), (.lst 5 (j_1.Items.map encGJson))]))]) [] _ from ?_)
  refine awp_seq ?_
  refine w_reg ?_
  refine s_do (o_box (j := 0) (c := (.agg [(.int .i64 j_1.Kind), (.int .i64 j_1.N), (.str j_1.T), (.lst 1 (j_1.Keys.map AV.str)), (.lst 5 (j_1.Items.map encGJson))])) rfl trivial rfl rfl) ?_
  refine s_do (o_mov (.bool false) rfl) ?_
  refine w_done ?_
  refine k_seq ?_
  refine awp_seq ?_
  refine w_reg ?_
  refine s_do (o_box (j := 1) (c := (.int .i64 0)) rfl trivial rfl rfl) ?_
  refine s_do0 (o_storebox (v := (.int .i64 400)) (y' := (.int .i64 400)) rfl rfl rfl trivial ⟨rfl, rfl, rfl⟩ ⟨⟨rfl, trivial⟩, trivial⟩ rfl) ?_
  refine w_done ?_
  refine k_seq ?_
  refine awp_seq ?_
  refine w_reg ?_
  obtain ⟨r_2, er3, hf⟩ := ob hf
  refine s_do (o_q (.agg [(.int .i64 j_1.Kind), (.int .i64 j_1.N), (.str j_1.T), (.lst 1 (j_1.Keys.map AV.str)), (.lst 5 (j_1.Items.map encGJson))]) rfl nle rfl) ?_
  refine s_do (o_callh (v := (.bool r_2.1)) (h2 := [.box 5 (.agg [(.int .i64 j_1.Kind), (.int .i64 j_1.N), (.str j_1.T), (.lst 1 (j_1.Keys.map AV.str)), (.lst 5 (j_1.Items.map encGJson))]), .box 1 (.int .i64 r_2.2)]) [] [1] (w_impl_Json_rightIn FUEL _ _ _ _ er3) rfl (.cons (.of_eq (encGJson_eq j_1).symm) (.cons (.refl _) (.cons (.refl _) .nil))) (.refl _) rfl rfl) ?_
  refine s_do (o_mov (.bool r_2.1) rfl) ?_
  refine w_done ?_
  refine k_seq ?_
  refine w_ret ?_
  obtain rfl := os hf
  exact r_flat ⟨trivial, trivial⟩ rfl (.refl _)

/- slices.Index[[]string,string] -/
def c165 : ACode :=
 (.seq (.reg (.q ⟨(some 4), none, .mov (.c (.int .i64 0))⟩
 .done))
 (.seq (.seq (.reg (.q ⟨(some 6), none, .mov (.t 0)⟩
 (.q ⟨(some 7), none, .len (.t 6)⟩
 (.q ⟨(some 8), none, .mov (.c (.int .i64 0))⟩
 .done))))
 (.block 0 (.loop (.seq (.reg (.q ⟨(some 9), none, .bin .lss (.t 8) (.t 7)⟩
 .done))
 (.seq (.cond (.t 9) .skip
 (.exit 0))
 (.seq (.block 1 (.seq (.reg (.q ⟨(some 10), none, .mov (.t 8)⟩
 (.q ⟨(some 5), none, .mov (.t 10)⟩
 .done)))
 (.seq (.reg (.q ⟨(some 11), none, .mov (.t 1)⟩
 (.q ⟨(some 12), none, .mov (.t 0)⟩
 (.q ⟨(some 13), none, .mov (.t 5)⟩
 (.q ⟨(some 14), none, .iaddr 1 (.t 12) (.t 13)⟩
 (.q ⟨(some 15), none, .load 1 false (.t 14)⟩
 (.q ⟨(some 16), none, .bin .eql (.t 11) (.t 15)⟩
 .done)))))))
 (.cond (.t 16) (.seq (.reg (.q ⟨(some 17), none, .mov (.t 5)⟩
 (.q ⟨(some 4), none, .mov (.t 17)⟩
 .done)))
 .ret)
 .skip))))
 (.reg (.q ⟨(some 18), none, .bin .add (.t 8) (.c (.int .i64 1))⟩
 (.q ⟨(some 8), none, .mov (.t 18)⟩
 .done)))))))))
 (.cut (.seq (.reg (.q ⟨(some 4), none, .mov (.c (.int .i64 (-1)))⟩
 .done))
 .ret))))
theorem fc165 : fcomp Try.prog Try.f165 = some (c165.erase, [.mov (.t 4)], 19) := by kernel_rfl
def slices_Index_string_string_L1 (v_2 : Str) : List Str → Nat → Option (Fl Int Unit)
  | [], s8_13 =>
    some (.go ())
  | x_25 :: xs, s8_13 =>
    if (v_2 == x_25) then
    some (.ret (s8_13 : Int))
    else
    slices_Index_string_string_L1 v_2 xs (s8_13 + 1)

def slices_Index_string_string (s_1 : (List Str)) (v_2 : Str) : Option Int :=
    (slices_Index_string_string_L1 v_2 s_1 0).bind fun q => (match q with
    | .ret r => some r
    | .go _ =>
    some (-1))
theorem w_slices_Index_string_string (s_1 : (List Str)) (v_2 : Str) (r : Int) (hf : slices_Index_string_string s_1 v_2 = some r) : CallOK Try.prog 165 .flat [(.lst 1 (s_1.map AV.str)), (.str v_2)] (.int .i64 r) := by
  refine CallOK.of_awp mixed Try.func165 fc165 nle ?_
  rw [argT_eq]
  unfold slices_Index_string_string at hf
  unfold c165
  refine (show awp Try.prog false 0 _ (ofL [(0, (.lst 1 (s_1.map AV.str))), (1, (.str v_2))]) [] _ from ?_)
  refine awp_seq ?_
  refine w_reg ?_
  refine s_do (o_mov (.int .i64 0) rfl) ?_
  refine w_done ?_
  refine k_seq ?_
  refine awp_seq ?_
  refine awp_seq ?_
  refine w_reg ?_
  refine s_do (o_mov (.lst 1 (s_1.map AV.str)) rfl) ?_
  refine s_dof (o_len (enc := AV.str) rfl) fun hl3 => ?_
  refine s_do (o_mov (.int .i64 0) rfl) ?_
  refine w_done ?_
  refine k_seq ?_
  obtain ⟨p18, hb1, hf⟩ := ob hf
  refine awp_cutx (X := {q : Unit // p18 = .go q}) (fun q => ([], [])) ?_ ?_
  · refine awp_loop (X := {q : Nat // slices_Index_string_string_L1 v_2 (s_1.drop q) q = some p18}) (fun q => ([(0, (.lst 1 (s_1.map AV.str))), (1, (.str v_2)), (7, (.int .i64 (s_1.length : Int))), (8, (.int .i64 (q.1 : Int)))], [])) (fun q => s_1.length - q.1) ⟨0, hb1⟩ ⟨[], [], _, _, rfl, rfl, ⟨.refl _, ⟨.refl _, ⟨.refl _, ⟨.refl _, trivial⟩⟩⟩⟩, (.refl _)⟩ ?_
    rintro ⟨s8_13, hc1⟩
    have hc1 : slices_Index_string_string_L1 v_2 (s_1.drop s8_13) s8_13 = some p18 := hc1
    refine (show awp Try.prog false 0 _ (ofL [(0, (.lst 1 (s_1.map AV.str))), (1, (.str v_2)), (7, (.int .i64 (s_1.length : Int))), (8, (.int .i64 (s8_13 : Int)))]) [] _ from ?_)
    rcases dropc s_1 s8_13 with ⟨hie21, hd24⟩ | ⟨hlt19, x_25, hx20, hd24⟩
    · rw [hd24, slices_Index_string_string_L1.eq_1] at hc1
      have hq23 := dlf hie21
      refine awp_seq ?_
      refine w_reg ?_
      refine s_do (o_q (.bool (decide ((s8_13 : Int) < (s_1.length : Int)))) rfl rfl rfl) ?_
      refine w_done ?_
      refine k_seq ?_
      refine awp_seq ?_
      refine w_condf rfl hq23 ?_
      refine w_exit ?_
      refine k_seqx ?_
      refine k_loopx ?_
      refine k_blkx ?_
      obtain rfl := os hc1
      exact k_cutn ⟨_, rfl⟩ ⟨[], [], _, _, rfl, rfl, trivial, (.refl _)⟩
    · rw [hd24, slices_Index_string_string_L1.eq_2] at hc1
      have hq23 := dlt hlt19
      refine awp_seq ?_
      refine w_reg ?_
      refine s_do (o_q (.bool (decide ((s8_13 : Int) < (s_1.length : Int)))) rfl rfl rfl) ?_
      refine w_done ?_
      refine k_seq ?_
      refine awp_seq ?_
      refine w_condt rfl hq23 ?_
      refine w_skip ?_
      refine k_seq ?_
      refine awp_seq ?_
      refine w_blk ?_
      refine awp_seq ?_
      refine w_reg ?_
      refine s_do (o_mov (.int .i64 (s8_13 : Int)) rfl) ?_
      refine s_do (o_mov (.int .i64 (s8_13 : Int)) rfl) ?_
      refine w_done ?_
      refine k_seq ?_
      refine awp_seq ?_
      refine w_reg ?_
      refine s_do (o_mov (.str v_2) rfl) ?_
      refine s_do (o_mov (.lst 1 (s_1.map AV.str)) rfl) ?_
      refine s_do (o_mov (.int .i64 (s8_13 : Int)) rfl) ?_
      refine s_do (o_iaddrn (enc := AV.str) rfl rfl hx20) ?_
      refine s_do (o_q (.str x_25) rfl ⟨rfl, rfl⟩ rfl) ?_
      refine s_do (o_q (.bool (v_2 == x_25)) rfl trivial rfl) ?_
      refine w_done ?_
      refine k_seq ?_
      rcases oi hc1 with ⟨c26, hc1⟩ | ⟨c26, hc1⟩
      · refine w_condt rfl c26 ?_
        refine awp_seq ?_
        refine w_reg ?_
        refine s_do (o_mov (.int .i64 (s8_13 : Int)) rfl) ?_
        refine s_do (o_mov (.int .i64 (s8_13 : Int)) rfl) ?_
        refine w_done ?_
        refine k_seq ?_
        refine w_ret ?_
        obtain rfl := os hc1
        obtain rfl := os hf
        exact r_flat ⟨trivial, trivial⟩ rfl (.refl _)
      · refine w_condf rfl (bf c26) ?_
        refine w_skip ?_
        refine k_blk ?_
        refine k_seq ?_
        refine w_reg ?_
        refine s_do (o_q (.int .i64 (w64 ((s8_13 : Int) + 1))) rfl rfl rfl) ?_
        refine s_do (o_mov (.int .i64 (w64 ((s8_13 : Int) + 1))) rfl) ?_
        refine w_done ?_
        exact k_loopn ⟨(s8_13 + 1), hc1⟩ (mul hlt19) ⟨[], [], _, _, rfl, rfl, ⟨.refl _, ⟨.refl _, ⟨.refl _, ⟨.of_eq (congrArg (AV.int _) (w64_incr hlt19 hl3)), trivial⟩⟩⟩⟩, (.refl _)⟩
  · rintro ⟨_, rfl⟩
    refine awp_seq ?_
    refine w_reg ?_
    refine s_do (o_mov (.int .i64 (-1)) rfl) ?_
    refine w_done ?_
    refine k_seq ?_
    refine w_ret ?_
    obtain rfl := os hf
    exact r_flat ⟨trivial, trivial⟩ rfl (.refl _)

/- (impl.Json).field -/
def c102 : ACode :=
 (.seq (.reg (.q ⟨(some 2), none, .box 5 (.t 0)⟩
 (.q ⟨(some 4), none, .box 5 (.c (.agg [(.int .i64 0), (.int .i64 0), (.str []), .nil, .nil]))⟩
 (.q ⟨(some 5), none, .mov (.c (.bool false))⟩
 .done))))
 (.seq (.reg (.q ⟨(some 7), none, .faddr 3 (.t 2)⟩
 (.q ⟨(some 8), none, .load 1 false (.t 7)⟩
 (.q ⟨(some 9), none, .mov (.t 1)⟩
 (.q ⟨(some 10), none, .call 165 [(.t 8), (.t 9)]⟩
 (.q ⟨(some 6), none, .mov (.t 10)⟩
 .done))))))
 (.seq (.seq (.reg (.q ⟨(some 11), none, .faddr 0 (.t 2)⟩
 (.q ⟨(some 12), none, .load 1 false (.t 11)⟩
 (.q ⟨(some 13), none, .bin .neq (.t 12) (.c (.int .i64 5))⟩
 (.q ⟨(some 14), none, .mov (.t 13)⟩
 (.q ⟨(some 15), (some (14, false)), .mov (.t 6)⟩
 (.q ⟨(some 16), (some (14, false)), .bin .lss (.t 15) (.c (.int .i64 0))⟩
 (.q ⟨(some 17), none, .pick (.t 14) (.c (.bool true)) (.t 16)⟩
 .done))))))))
 (.cut (.cond (.t 17) (.seq (.reg (.q ⟨(some 18), none, .build [(.int .i64 0), (.int .i64 0), (.str []), .nil, .nil] []⟩
 (.q ⟨none, none, .store 5 (.t 4) (.t 18)⟩
 (.q ⟨(some 5), none, .mov (.c (.bool false))⟩
 .done))))
 .ret)
 .skip)))
 (.seq (.reg (.q ⟨(some 19), none, .faddr 4 (.t 2)⟩
 (.q ⟨(some 20), none, .load 1 false (.t 19)⟩
 (.q ⟨(some 21), none, .mov (.t 6)⟩
 (.q ⟨(some 22), none, .iaddr 5 (.t 20) (.t 21)⟩
 (.q ⟨(some 23), none, .load 5 true (.t 22)⟩
 (.q ⟨none, none, .store 5 (.t 4) (.t 23)⟩
 (.q ⟨(some 5), none, .mov (.c (.bool true))⟩
 .done))))))))
 .ret))))
theorem fc102 : fcomp Try.prog Try.f102 = some (c102.erase, [.load 5 true (.t 4), .mov (.t 5)], 24) := by kernel_rfl
def impl_Json_field (j_1 : GJson) (name_2 : Str) : Option (GJson × Bool) :=
    (slices_Index_string_string j_1.Keys name_2).bind fun r_3 =>
    ((if (j_1.Kind != 5) then
    some true
    else
    some (decide (r_3 < 0)) : Option Bool)).bind fun s17_6 =>
    if s17_6 then
    some ((⟨0, 0, [], [], []⟩ : GJson), false)
    else
    (idx j_1.Items r_3).bind fun x_10 =>
    some (x_10, true)
theorem w_impl_Json_field (j_1 : GJson) (name_2 : Str) (r : (GJson × Bool)) (hf : impl_Json_field j_1 name_2 = some r) : CallOK Try.prog 102 .weak [(encGJson j_1), (.str name_2)] (.tup [(encGJson r.1), (.bool r.2)]) := by
  refine CallOK.of_awp mixed Try.func102 fc102 nle ?_
  rw [argT_eq]
  rw [encGJson_eq j_1]
  unfold impl_Json_field at hf
  unfold c102
  refine (show awp Try.prog false 0 _ (ofL [(0, (.agg [(.int .i64 j_1.Kind), (.int .i64 j_1.N), (.str j_1.T), (.lst 1 (j_1.Keys.map AV.str)), (.lst 5 (j_1.Items.map encGJson))])), (1, (.str name_2))]) [] _ from ?_)
  refine awp_seq ?_
  refine w_reg ?_
  refine s_do (o_box (j := 0) (c := (.agg [(.int .i64 j_1.Kind), (.int .i64 j_1.N), (.str j_1.T), (.lst 1 (j_1.Keys.map AV.str)), (.lst 5 (j_1.Items.map encGJson))])) rfl trivial rfl rfl) ?_
  refine s_do (o_box (j := 1) (c := (.agg [(.int .i64 0), (.int .i64 0), (.str []), .nil, .nil])) rfl trivial rfl rfl) ?_
  refine s_do (o_mov (.bool false) rfl) ?_
  refine w_done ?_
  refine k_seq ?_
  refine awp_seq ?_
  refine w_reg ?_
  obtain ⟨r_3, er4, hf⟩ := ob hf
  refine s_do (o_q (.ptr 0 0 3) rfl trivial rfl) ?_
  refine s_do (o_q (.lst 1 (j_1.Keys.map AV.str)) rfl nle rfl) ?_
  refine s_do (o_mov (.str name_2) rfl) ?_
  refine s_do (o_call (w_slices_Index_string_string _ _ _ er4) rfl (.refl _) rfl) ?_
  refine s_do (o_mov (.int .i64 r_3) rfl) ?_
  refine w_done ?_
  refine k_seq ?_
  refine awp_seq ?_
  refine awp_seq ?_
  obtain ⟨s17_6, hb1, hf⟩ := ob hf
  refine awp_cut ([(2, (.ptr 0 0 0)), (4, (.ptr 1 0 0)), (6, (.int .i64 r_3)), (17, (.bool s17_6))], [.box 5 (.agg [(.int .i64 j_1.Kind), (.int .i64 j_1.N), (.str j_1.T), (.lst 1 (j_1.Keys.map AV.str)), (.lst 5 (j_1.Items.map encGJson))]), .box 5 (.agg [(.int .i64 0), (.int .i64 0), (.str []), .nil, .nil])]) ?_ ?_
  · refine w_reg ?_
    rcases oi hb1 with ⟨c8, hb1⟩ | ⟨c8, hb1⟩
    · refine s_do (o_q (.ptr 0 0 0) rfl trivial rfl) ?_
      refine s_do (o_q (.int .i64 j_1.Kind) rfl nle rfl) ?_
      refine s_do (o_q (.bool (j_1.Kind != 5)) rfl rfl rfl) ?_
      refine s_do (o_mov (.bool (j_1.Kind != 5)) rfl) ?_
      refine s_lit (s := 14) (b := true) rfl c8 ?_
      refine s_off rfl rfl ?_
      refine s_off rfl rfl ?_
      refine s_do (o_q (.bool true) rfl trivial rfl) ?_
      refine w_done ?_
      obtain rfl := os hb1
      exact ⟨[], [0, 1], _, _, rfl, rfl, ⟨.refl _, ⟨.refl _, ⟨.refl _, ⟨.refl _, trivial⟩⟩⟩⟩, (.refl _)⟩
    · refine s_do (o_q (.ptr 0 0 0) rfl trivial rfl) ?_
      refine s_do (o_q (.int .i64 j_1.Kind) rfl nle rfl) ?_
      refine s_do (o_q (.bool (j_1.Kind != 5)) rfl rfl rfl) ?_
      refine s_do (o_mov (.bool (j_1.Kind != 5)) rfl) ?_
      refine s_lit (s := 14) (b := false) rfl (bf c8) ?_
      refine s_on rfl ?_
      refine s_do (o_mov (.int .i64 r_3) rfl) ?_
      refine s_on rfl ?_
      refine s_do (o_q (.bool (decide (r_3 < 0))) rfl rfl rfl) ?_
      refine s_do (o_q (.bool (decide (r_3 < 0))) rfl trivial rfl) ?_
      refine w_done ?_
      obtain rfl := os hb1
      exact ⟨[], [0, 1], _, _, rfl, rfl, ⟨.refl _, ⟨.refl _, ⟨.refl _, ⟨.refl _, trivial⟩⟩⟩⟩, (.refl _)⟩
  · rcases oi hf with ⟨c9, hf⟩ | ⟨c9, hf⟩
    · refine w_condt rfl c9 ?_
      refine awp_seq ?_
      refine w_reg ?_
      refine s_do (o_q (.agg [(.int .i64 0), (.int .i64 0), (.str []), .nil, .nil]) rfl trivial rfl) ?_
      refine s_do0 (o_storebox (v := (.agg [(.int .i64 0), (.int .i64 0), (.str []), .nil, .nil])) (y' := (.agg [(.int .i64 0), (.int .i64 0), (.str []), .nil, .nil])) rfl rfl rfl trivial ⟨rfl, nle⟩ ⟨⟨rfl, trivial⟩, ⟨⟨rfl, trivial⟩, ⟨⟨rfl, trivial⟩, ⟨⟨rfl, trivial⟩, ⟨⟨rfl, trivial⟩, trivial⟩⟩⟩⟩⟩ rfl) ?_
      refine s_do (o_mov (.bool false) rfl) ?_
      refine w_done ?_
      refine k_seq ?_
      refine w_ret ?_
      obtain rfl := os hf
      exact r_weak ⟨nle, ⟨trivial, trivial⟩⟩ rfl (.tup (.cons (leJ (x := (⟨0, 0, [], [], []⟩ : GJson)) (.agg (.cons (.refl _) (.cons (.refl _) (.cons (.refl _) (.cons (.nil _) (.cons (.nil _) .nil))))))) (.cons (.refl _) .nil)))
    · refine w_condf rfl (bf c9) ?_
      refine w_skip ?_
      refine k_seq ?_
      refine awp_seq ?_
      refine w_reg ?_
      obtain ⟨x_10, ex11, hf⟩ := ob hf
      refine s_do (o_q (.ptr 0 0 4) rfl trivial rfl) ?_
      refine s_do (o_q (.lst 5 (j_1.Items.map encGJson)) rfl nle rfl) ?_
      refine s_do (o_mov (.int .i64 r_3) rfl) ?_
      refine s_do (o_iaddr (enc := encGJson) rfl rfl (idx0 ex11) (idx1 ex11)) ?_
      refine s_do (o_loadeq (v := (.agg [(.int .i64 x_10.Kind), (.int .i64 x_10.N), (.str x_10.T), (.lst 1 (x_10.Keys.map AV.str)), (.lst 5 (x_10.Items.map encGJson))])) rfl (encGJson_eq _) nle rfl) ?_
      refine s_do0 (o_storebox (v := (.agg [(.int .i64 x_10.Kind), (.int .i64 x_10.N), (.str x_10.T), (.lst 1 (x_10.Keys.map AV.str)), (.lst 5 (x_10.Items.map encGJson))])) (y' := (.agg [(.int .i64 x_10.Kind), (.int .i64 x_10.N), (.str x_10.T), (.lst 1 (x_10.Keys.map AV.str)), (.lst 5 (x_10.Items.map encGJson))])) rfl rfl rfl trivial ⟨rfl, nle⟩ ⟨⟨rfl, trivial⟩, ⟨⟨rfl, trivial⟩, ⟨⟨rfl, trivial⟩, ⟨⟨rfl, trivial⟩, ⟨⟨rfl, trivial⟩, trivial⟩⟩⟩⟩⟩ rfl) ?_
      refine s_do (o_mov (.bool true) rfl) ?_
      refine w_done ?_
      refine k_seq ?_
      refine w_ret ?_
      obtain rfl := os hf
      exact r_weak ⟨nle, ⟨trivial, trivial⟩⟩ rfl (.tup (.cons (.of_eq (encGJson_eq x_10).symm) (.cons (.refl _) .nil)))

/- slices.Clone[[]string,string] -/
def c166 : ACode :=
 (.seq (.reg (.q ⟨(some 2), none, .mov (.c .nil)⟩
 .done))
 (.seq (.seq (.reg (.q ⟨(some 3), none, .mov (.t 0)⟩
 (.q ⟨(some 4), none, .isnil false (.t 3)⟩
 .done)))
 (.cond (.t 4) (.seq (.reg (.q ⟨(some 2), none, .mov (.c .nil)⟩
 .done))
 .ret)
 .skip))
 (.seq (.reg (.q ⟨(some 5), none, .bslice 1 []⟩
 (.q ⟨(some 6), none, .mov (.t 0)⟩
 (.q ⟨(some 7), none, .append 1 16 (.t 5) (.t 6)⟩
 (.q ⟨(some 2), none, .mov (.t 7)⟩
 .done)))))
 .ret)))
theorem fc166 : fcomp Try.prog Try.f166 = some (c166.erase, [.mov (.t 2)], 8) := by kernel_rfl
def slices_Clone_string_string (s_1 : (List Str)) : Option (List Str) :=
    if ([] ++ s_1).length ≤ 2 ^ 30 then
    some ([] ++ s_1)
    else none
theorem w_slices_Clone_string_string (s_1 : (List Str)) (r : (List Str)) (hf : slices_Clone_string_string s_1 = some r) : CallOK Try.prog 166 .fresh [(.lst 1 (s_1.map AV.str))] (.lst 1 (r.map AV.str)) := by
  refine CallOK.of_awp mixed Try.func166 fc166 nle ?_
  rw [argT_eq]
  unfold slices_Clone_string_string at hf
  unfold c166
  refine (show awp Try.prog true 0 _ (ofL [(0, (.lst 1 (s_1.map AV.str)))]) [] _ from ?_)
  refine awp_seq ?_
  refine w_reg ?_
  refine s_do (o_mov .nil rfl) ?_
  refine w_done ?_
  refine k_seq ?_
  refine awp_seq ?_
  refine awp_seq ?_
  refine w_reg ?_
  refine s_do (o_mov (.lst 1 (s_1.map AV.str)) rfl) ?_
  refine s_isn (l := s_1.map AV.str) rfl ?_
  intro b hb3
  rcases b with _ | _
  · refine w_done ?_
    refine k_seq ?_
    refine w_condf rfl rfl ?_
    refine w_skip ?_
    refine k_seq ?_
    refine awp_seq ?_
    refine w_reg ?_
    obtain ⟨g2, hf⟩ := og hf
    refine s_do (o_bslice (j := 0) (as' := []) rfl (fun _ => by decide) trivial (.refl _) rfl rfl rfl) ?_
    refine s_do (o_mov (.lst 1 (s_1.map AV.str)) rfl) ?_
    refine s_do (o_appendd (j := 1) (L := (([] ++ s_1).map AV.str)) (len := ([] ++ s_1).length) false rfl rfl (fun _ => flm (fun _ => rfl) _) (fun _ _ _ => flm (fun _ => rfl) _) (by decide) ((by simp)) (by simp <;> omega) g2 rfl rfl) ?_
    refine s_do (o_mov (.own 1 0 (([] ++ s_1).length)) rfl) ?_
    refine w_done ?_
    refine k_seq ?_
    refine w_ret ?_
    obtain rfl := os hf
    exact r_fresh ⟨trivial, trivial⟩ rfl (by decide) (.of_eq (congrArg (AV.lst _) (tk (enc := AV.str) ([] ++ s_1))))
  · have he4 : s_1 = [] := mapnil (hb3 rfl)
    have hE : (if ([] ++ s_1).length ≤ 2 ^ 30 then some ([] ++ s_1) else none) = (some []) := by simp [he4]
    rw [hE] at hf
    refine w_done ?_
    refine k_seq ?_
    refine w_condt rfl rfl ?_
    refine awp_seq ?_
    refine w_reg ?_
    refine s_do (o_mov .nil rfl) ?_
    refine w_done ?_
    refine k_seq ?_
    refine w_ret ?_
    obtain rfl := os hf
    exact r_fresh ⟨trivial, trivial⟩ rfl (by decide) (.nil _)

end Go.R
