/- Walks. -/
import Derived.Test.YtgmkibkmcohikaaFIT
set_option linter.all false
namespace Go.R
open Go Go.Proofs
set_option linter.unusedVariables false
set_option linter.unusedSimpArgs false
set_option maxHeartbeats 8000000
/- spec.l00Source -/
def c98_h0 : ACode :=
 (.seq (.reg (.q ⟨(some 2), none, .mov (.c .undef)⟩
 .done))
 (.seq (.reg (.q ⟨(some 3), none, .mov (.t 0)⟩
 (.q ⟨(some 4), none, .mov (.t 0)⟩
 (.q ⟨(some 5), none, .len (.t 4)⟩
 (.q ⟨(some 6), none, .bin .rem (.t 5) (.c (.int .i64 1000))⟩
 (.q ⟨(some 7), none, .build [.nil, (.int .i64 0), (.int .i64 0)] [(0, 1, (.t 3)), (2, 1, (.t 6))]⟩
 (.q ⟨(some 8), none, .box 3 (.t 7)⟩
 (.q ⟨(some 2), none, .mov (.t 8)⟩
 .done))))))))
 .ret))
theorem fc98_h0 : fcomp Try.prog Try.f98 = some (c98_h0.erase, [.mov (.t 2)], 9) := by kernel_rfl
def spec_l00Source (code_1 : (List Int)) : Option GL00Src :=
    some (⟨code_1, 0, (code_1.length : Int).tmod 1000⟩ : GL00Src)
theorem w_spec_l00Source (code_1 : (List Int)) (r : GL00Src) (hf : spec_l00Source code_1 = some r) : CallHeap Try.prog false 98 [(.lst 1 (code_1.map enc_u8))] [] (.ptr 0 0 0) [.box 3 (.agg [(.lst 1 (r.Code.map enc_u8)), (.int .i64 r.At), (.int .i64 r.Seed)])] := by
  refine CallHeap.of_awp mixed Try.func98 fc98_h0 nle ?_
  rw [argT_eq]
  unfold spec_l00Source at hf
  unfold c98_h0
  refine (show awp Try.prog false 0 _ (ofL [(0, (.lst 1 (code_1.map enc_u8)))]) [] _ from ?_)
  refine awp_seq ?_
  refine w_reg ?_
  refine s_do (o_mov .undef rfl) ?_
  refine w_done ?_
  refine k_seq ?_
  refine awp_seq ?_
  refine w_reg ?_
  refine s_do (o_mov (.lst 1 (code_1.map enc_u8)) rfl) ?_
  refine s_do (o_mov (.lst 1 (code_1.map enc_u8)) rfl) ?_
  refine s_dof (o_len (enc := enc_u8) rfl) fun hl2 => ?_
  refine s_do (o_q (.int .i64 ((code_1.length : Int).tmod 1000)) rfl ⟨rfl, by decide⟩ rfl) ?_
  refine s_do (o_q (.agg [(.lst 1 (code_1.map enc_u8)), (.int .i64 0), (.int .i64 ((code_1.length : Int).tmod 1000))]) rfl ⟨⟨rfl, nle, trivial⟩, ⟨⟨rfl, nle, trivial⟩, trivial⟩⟩ rfl) ?_
  refine s_do (o_box (j := 0) (c := (.agg [(.lst 1 (code_1.map enc_u8)), (.int .i64 0), (.int .i64 ((code_1.length : Int).tmod 1000))])) rfl trivial rfl rfl) ?_
  refine s_do (o_mov (.ptr 0 0 0) rfl) ?_
  refine w_done ?_
  refine k_seq ?_
  refine w_ret ?_
  obtain rfl := os hf
  exact r_heap [] [0] rfl ⟨trivial, trivial⟩ rfl (.refl _) (.refl _)

/- (*spec.l00Src).byte -/
def c211_h0 : ACode :=
 (.seq (.reg (.q ⟨(some 2), none, .mov (.c (.int .i64 0))⟩
 .done))
 (.seq (.reg (.q ⟨(some 3), none, .mov (.t 0)⟩
 (.q ⟨(some 4), none, .nilck (.t 3)⟩
 (.q ⟨(some 5), none, .faddr 1 (.t 4)⟩
 (.q ⟨(some 6), none, .load 1 false (.t 5)⟩
 (.q ⟨(some 7), none, .bin .add (.t 6) (.c (.int .i64 1))⟩
 (.q ⟨(some 8), none, .nilck (.t 3)⟩
 (.q ⟨(some 9), none, .faddr 1 (.t 8)⟩
 (.q ⟨none, none, .store 1 (.t 9) (.t 7)⟩
 .done)))))))))
 (.seq (.seq (.reg (.q ⟨(some 10), none, .mov (.t 0)⟩
 (.q ⟨(some 11), none, .nilck (.t 10)⟩
 (.q ⟨(some 12), none, .faddr 1 (.t 11)⟩
 (.q ⟨(some 13), none, .load 1 false (.t 12)⟩
 (.q ⟨(some 14), none, .mov (.t 0)⟩
 (.q ⟨(some 15), none, .nilck (.t 14)⟩
 (.q ⟨(some 16), none, .faddr 0 (.t 15)⟩
 (.q ⟨(some 17), none, .load 1 false (.t 16)⟩
 (.q ⟨(some 18), none, .len (.t 17)⟩
 (.q ⟨(some 19), none, .bin .leq (.t 13) (.t 18)⟩
 .done)))))))))))
 (.cond (.t 19) (.seq (.reg (.q ⟨(some 20), none, .mov (.t 0)⟩
 (.q ⟨(some 21), none, .mov (.t 0)⟩
 (.q ⟨(some 22), none, .nilck (.t 21)⟩
 (.q ⟨(some 23), none, .faddr 2 (.t 22)⟩
 (.q ⟨(some 24), none, .load 1 false (.t 23)⟩
 (.q ⟨(some 25), none, .bin .mul (.t 24) (.c (.int .i64 31))⟩
 (.q ⟨(some 26), none, .mov (.t 0)⟩
 (.q ⟨(some 27), none, .nilck (.t 26)⟩
 (.q ⟨(some 28), none, .faddr 0 (.t 27)⟩
 (.q ⟨(some 29), none, .load 1 false (.t 28)⟩
 (.q ⟨(some 30), none, .mov (.t 0)⟩
 (.q ⟨(some 31), none, .nilck (.t 30)⟩
 (.q ⟨(some 32), none, .faddr 1 (.t 31)⟩
 (.q ⟨(some 33), none, .load 1 false (.t 32)⟩
 (.q ⟨(some 34), none, .bin .sub (.t 33) (.c (.int .i64 1))⟩
 (.q ⟨(some 35), none, .iaddr 1 (.t 29) (.t 34)⟩
 (.q ⟨(some 36), none, .load 1 false (.t 35)⟩
 (.q ⟨(some 37), none, .convI .i64 (.t 36)⟩
 (.q ⟨(some 38), none, .bin .add (.t 25) (.t 37)⟩
 (.q ⟨(some 39), none, .bin .add (.t 38) (.c (.int .i64 7))⟩
 (.q ⟨(some 40), none, .bin .rem (.t 39) (.c (.int .i64 2147483648))⟩
 (.q ⟨(some 41), none, .nilck (.t 20)⟩
 (.q ⟨(some 42), none, .faddr 2 (.t 41)⟩
 (.l ⟨none, none, .store 1 (.t 42) (.t 40)⟩ []
 .done .non)))))))))))))))))))))))))
 (.seq (.reg (.q ⟨(some 43), none, .mov (.t 0)⟩
 (.q ⟨(some 44), none, .nilck (.t 43)⟩
 (.q ⟨(some 45), none, .faddr 0 (.t 44)⟩
 (.q ⟨(some 46), none, .load 1 false (.t 45)⟩
 (.q ⟨(some 47), none, .mov (.t 0)⟩
 (.q ⟨(some 48), none, .nilck (.t 47)⟩
 (.q ⟨(some 49), none, .faddr 1 (.t 48)⟩
 (.q ⟨(some 50), none, .load 1 false (.t 49)⟩
 (.q ⟨(some 51), none, .bin .sub (.t 50) (.c (.int .i64 1))⟩
 (.q ⟨(some 52), none, .iaddr 1 (.t 46) (.t 51)⟩
 (.q ⟨(some 53), none, .load 1 false (.t 52)⟩
 (.q ⟨(some 54), none, .convI .i64 (.t 53)⟩
 (.q ⟨(some 2), none, .mov (.t 54)⟩
 .done))))))))))))))
 .ret))
 .skip))
 (.seq (.seq (.reg (.q ⟨(some 55), none, .mov (.t 0)⟩
 (.q ⟨(some 56), none, .nilck (.t 55)⟩
 (.q ⟨(some 57), none, .faddr 1 (.t 56)⟩
 (.q ⟨(some 58), none, .load 1 false (.t 57)⟩
 (.q ⟨(some 59), none, .bin .gtr (.t 58) (.c (.int .i64 3000))⟩
 .done))))))
 (.cond (.t 59) (.seq (.reg (.q ⟨(some 2), none, .mov (.c (.int .i64 0))⟩
 .done))
 .ret)
 .skip))
 (.seq (.reg (.q ⟨(some 60), none, .mov (.t 0)⟩
 (.q ⟨(some 61), none, .mov (.t 0)⟩
 (.q ⟨(some 62), none, .nilck (.t 61)⟩
 (.q ⟨(some 63), none, .faddr 2 (.t 62)⟩
 (.q ⟨(some 64), none, .load 1 false (.t 63)⟩
 (.q ⟨(some 65), none, .bin .mul (.t 64) (.c (.int .i64 1103515245))⟩
 (.q ⟨(some 66), none, .bin .add (.t 65) (.c (.int .i64 12345))⟩
 (.q ⟨(some 67), none, .bin .rem (.t 66) (.c (.int .i64 2147483648))⟩
 (.q ⟨(some 68), none, .nilck (.t 60)⟩
 (.q ⟨(some 69), none, .faddr 2 (.t 68)⟩
 (.q ⟨none, none, .store 1 (.t 69) (.t 67)⟩
 .done))))))))))))
 (.seq (.reg (.q ⟨(some 70), none, .mov (.t 0)⟩
 (.q ⟨(some 71), none, .nilck (.t 70)⟩
 (.q ⟨(some 72), none, .faddr 2 (.t 71)⟩
 (.q ⟨(some 73), none, .load 1 false (.t 72)⟩
 (.q ⟨(some 74), none, .bin .quo (.t 73) (.c (.int .i64 65536))⟩
 (.q ⟨(some 75), none, .bin .rem (.t 74) (.c (.int .i64 256))⟩
 (.q ⟨(some 2), none, .mov (.t 75)⟩
 .done))))))))
 .ret))))))
theorem fc211_h0 : fcomp Try.prog Try.f211 = some (c211_h0.erase, [.mov (.t 2)], 76) := by kernel_rfl
def spec_l00Src_byte (s_1 : GL00Src) : Option (Int × GL00Src) :=
    if (decide (w64 (s_1.At + 1) ≤ (s_1.Code.length : Int))) then
    (idx s_1.Code (w64 ((w64 (s_1.At + 1)) - 1))).bind fun x_4 =>
    (idx s_1.Code (w64 ((w64 (s_1.At + 1)) - 1))).bind fun x_6 =>
    some (w64 x_6, (⟨s_1.Code, w64 (s_1.At + 1), (w64 ((w64 ((w64 (s_1.Seed * 31)) + (w64 x_4))) + 7)).tmod 2147483648⟩ : GL00Src))
    else
    if (decide (w64 (s_1.At + 1) > 3000)) then
    some (0, (⟨s_1.Code, w64 (s_1.At + 1), s_1.Seed⟩ : GL00Src))
    else
    some ((w64 (((w64 ((w64 (s_1.Seed * 1103515245)) + 12345)).tmod 2147483648).tdiv 65536)).tmod 256, (⟨s_1.Code, w64 (s_1.At + 1), (w64 ((w64 (s_1.Seed * 1103515245)) + 12345)).tmod 2147483648⟩ : GL00Src))
theorem w_spec_l00Src_byte (s_1 : GL00Src) (r : (Int × GL00Src)) (hf : spec_l00Src_byte s_1 = some r) : CallHeap Try.prog false 211 [(.ptr 0 0 0)] [.box 3 (.agg [(.lst 1 (s_1.Code.map enc_u8)), (.int .i64 s_1.At), (.int .i64 s_1.Seed)])] (.int .i64 r.1) [.box 3 (.agg [(.lst 1 (r.2.Code.map enc_u8)), (.int .i64 r.2.At), (.int .i64 r.2.Seed)])] := by
  refine CallHeap.of_awp mixed Try.func211 fc211_h0 nle ?_
  rw [argT_eq]
  unfold spec_l00Src_byte at hf
  unfold c211_h0
  refine (show awp Try.prog false 1 _ (ofL [(0, (.ptr 0 0 0))]) [.box 3 (.agg [(.lst 1 (s_1.Code.map enc_u8)), (.int .i64 s_1.At), (.int .i64 s_1.Seed)])] _ from ?_)
  refine awp_seq ?_
  refine w_reg ?_
  refine s_do (o_mov (.int .i64 0) rfl) ?_
  refine w_done ?_
  refine k_seq ?_
  refine awp_seq ?_
  refine w_reg ?_
  refine s_do (o_mov (.ptr 0 0 0) rfl) ?_
  refine s_do (o_q (.ptr 0 0 0) rfl trivial rfl) ?_
  refine s_do (o_q (.ptr 0 0 1) rfl trivial rfl) ?_
  refine s_do (o_q (.int .i64 s_1.At) rfl nle rfl) ?_
  refine s_do (o_q (.int .i64 (w64 (s_1.At + 1))) rfl rfl rfl) ?_
  refine s_do (o_q (.ptr 0 0 0) rfl trivial rfl) ?_
  refine s_do (o_q (.ptr 0 0 1) rfl trivial rfl) ?_
  refine s_do0 (o_storebox (v := (.int .i64 (w64 (s_1.At + 1)))) (y' := (.agg [(.lst 1 (s_1.Code.map enc_u8)), (.int .i64 (w64 (s_1.At + 1))), (.int .i64 s_1.Seed)])) rfl rfl rfl trivial ⟨rfl, nle⟩ ⟨⟨rfl, trivial⟩, trivial⟩ rfl) ?_
  refine w_done ?_
  refine k_seq ?_
  refine awp_seq ?_
  refine awp_seq ?_
  refine w_reg ?_
  refine s_do (o_mov (.ptr 0 0 0) rfl) ?_
  refine s_do (o_q (.ptr 0 0 0) rfl trivial rfl) ?_
  refine s_do (o_q (.ptr 0 0 1) rfl trivial rfl) ?_
  refine s_do (o_q (.int .i64 (w64 (s_1.At + 1))) rfl nle rfl) ?_
  refine s_do (o_mov (.ptr 0 0 0) rfl) ?_
  refine s_do (o_q (.ptr 0 0 0) rfl trivial rfl) ?_
  refine s_do (o_q (.ptr 0 0 0) rfl trivial rfl) ?_
  refine s_do (o_q (.lst 1 (s_1.Code.map enc_u8)) rfl nle rfl) ?_
  refine s_dof (o_len (enc := enc_u8) rfl) fun hl2 => ?_
  refine s_do (o_q (.bool (decide (w64 (s_1.At + 1) ≤ (s_1.Code.length : Int)))) rfl rfl rfl) ?_
  refine w_done ?_
  refine k_seq ?_
  rcases oi hf with ⟨c3, hf⟩ | ⟨c3, hf⟩
  · refine w_condt rfl c3 ?_
    refine awp_seq ?_
    refine w_reg ?_
    refine s_do (o_mov (.ptr 0 0 0) rfl) ?_
    refine s_do (o_mov (.ptr 0 0 0) rfl) ?_
    refine s_do (o_q (.ptr 0 0 0) rfl trivial rfl) ?_
    refine s_do (o_q (.ptr 0 0 2) rfl trivial rfl) ?_
    refine s_do (o_q (.int .i64 s_1.Seed) rfl nle rfl) ?_
    refine s_do (o_q (.int .i64 (w64 (s_1.Seed * 31))) rfl rfl rfl) ?_
    refine s_do (o_mov (.ptr 0 0 0) rfl) ?_
    refine s_do (o_q (.ptr 0 0 0) rfl trivial rfl) ?_
    refine s_do (o_q (.ptr 0 0 0) rfl trivial rfl) ?_
    refine s_do (o_q (.lst 1 (s_1.Code.map enc_u8)) rfl nle rfl) ?_
    refine s_do (o_mov (.ptr 0 0 0) rfl) ?_
    refine s_do (o_q (.ptr 0 0 0) rfl trivial rfl) ?_
    refine s_do (o_q (.ptr 0 0 1) rfl trivial rfl) ?_
    refine s_do (o_q (.int .i64 (w64 (s_1.At + 1))) rfl nle rfl) ?_
    refine s_do (o_q (.int .i64 (w64 ((w64 (s_1.At + 1)) - 1))) rfl rfl rfl) ?_
    obtain ⟨x_4, ex5, hf⟩ := ob hf
    refine s_do (o_iaddr (enc := enc_u8) rfl rfl (idx0 ex5) (idx1 ex5)) ?_
    refine s_do (o_q (.int .u8 x_4) rfl ⟨rfl, rfl⟩ rfl) ?_
    refine s_do (o_q (.int .i64 (w64 x_4)) rfl trivial rfl) ?_
    refine s_do (o_q (.int .i64 (w64 ((w64 (s_1.Seed * 31)) + (w64 x_4)))) rfl rfl rfl) ?_
    refine s_do (o_q (.int .i64 (w64 ((w64 ((w64 (s_1.Seed * 31)) + (w64 x_4))) + 7))) rfl rfl rfl) ?_
    refine s_do (o_q (.int .i64 ((w64 ((w64 ((w64 (s_1.Seed * 31)) + (w64 x_4))) + 7)).tmod 2147483648)) rfl ⟨rfl, by decide⟩ rfl) ?_
    refine s_do (o_q (.ptr 0 0 0) rfl trivial rfl) ?_
    refine s_do (o_q (.ptr 0 0 2) rfl trivial rfl) ?_
    refine s_dol0 (o_storebox (v := (.int .i64 ((w64 ((w64 ((w64 (s_1.Seed * 31)) + (w64 x_4))) + 7)).tmod 2147483648))) (y' := (.agg [(.lst 1 (s_1.Code.map enc_u8)), (.int .i64 (w64 (s_1.At + 1))), (.int .i64 ((w64 ((w64 ((w64 (s_1.Seed * 31)) + (w64 x_4))) + 7)).tmod 2147483648))])) rfl rfl rfl trivial ⟨rfl, nle⟩ ⟨⟨rfl, trivial⟩, trivial⟩ rfl) trivial trivial ?_
    refine w_done ?_
    refine k_seq ?_
    refine awp_seq ?_
    refine w_reg ?_
    refine s_do (o_mov (.ptr 0 0 0) rfl) ?_
    refine s_do (o_q (.ptr 0 0 0) rfl trivial rfl) ?_
    refine s_do (o_q (.ptr 0 0 0) rfl trivial rfl) ?_
    refine s_do (o_q (.lst 1 (s_1.Code.map enc_u8)) rfl nle rfl) ?_
    refine s_do (o_mov (.ptr 0 0 0) rfl) ?_
    refine s_do (o_q (.ptr 0 0 0) rfl trivial rfl) ?_
    refine s_do (o_q (.ptr 0 0 1) rfl trivial rfl) ?_
    refine s_do (o_q (.int .i64 (w64 (s_1.At + 1))) rfl nle rfl) ?_
    refine s_do (o_q (.int .i64 (w64 ((w64 (s_1.At + 1)) - 1))) rfl rfl rfl) ?_
    obtain ⟨x_6, ex7, hf⟩ := ob hf
    refine s_do (o_iaddr (enc := enc_u8) rfl rfl (idx0 ex7) (idx1 ex7)) ?_
    refine s_do (o_q (.int .u8 x_6) rfl ⟨rfl, rfl⟩ rfl) ?_
    refine s_do (o_q (.int .i64 (w64 x_6)) rfl trivial rfl) ?_
    refine s_do (o_mov (.int .i64 (w64 x_6)) rfl) ?_
    refine w_done ?_
    refine k_seq ?_
    refine w_ret ?_
    obtain rfl := os hf
    exact r_heap [] [0] rfl ⟨trivial, trivial⟩ rfl (.refl _) (.refl _)
  · refine w_condf rfl (bf c3) ?_
    refine w_skip ?_
    refine k_seq ?_
    refine awp_seq ?_
    refine awp_seq ?_
    refine w_reg ?_
    refine s_do (o_mov (.ptr 0 0 0) rfl) ?_
    refine s_do (o_q (.ptr 0 0 0) rfl trivial rfl) ?_
    refine s_do (o_q (.ptr 0 0 1) rfl trivial rfl) ?_
    refine s_do (o_q (.int .i64 (w64 (s_1.At + 1))) rfl nle rfl) ?_
    refine s_do (o_q (.bool (decide (w64 (s_1.At + 1) > 3000))) rfl rfl rfl) ?_
    refine w_done ?_
    refine k_seq ?_
    rcases oi hf with ⟨c8, hf⟩ | ⟨c8, hf⟩
    · refine w_condt rfl c8 ?_
      refine awp_seq ?_
      refine w_reg ?_
      refine s_do (o_mov (.int .i64 0) rfl) ?_
      refine w_done ?_
      refine k_seq ?_
      refine w_ret ?_
      obtain rfl := os hf
      exact r_heap [] [0] rfl ⟨trivial, trivial⟩ rfl (.refl _) (.refl _)
    · refine w_condf rfl (bf c8) ?_
      refine w_skip ?_
      refine k_seq ?_
      refine awp_seq ?_
      refine w_reg ?_
      refine s_do (o_mov (.ptr 0 0 0) rfl) ?_
      refine s_do (o_mov (.ptr 0 0 0) rfl) ?_
      refine s_do (o_q (.ptr 0 0 0) rfl trivial rfl) ?_
      refine s_do (o_q (.ptr 0 0 2) rfl trivial rfl) ?_
      refine s_do (o_q (.int .i64 s_1.Seed) rfl nle rfl) ?_
      refine s_do (o_q (.int .i64 (w64 (s_1.Seed * 1103515245))) rfl rfl rfl) ?_
      refine s_do (o_q (.int .i64 (w64 ((w64 (s_1.Seed * 1103515245)) + 12345))) rfl rfl rfl) ?_
      refine s_do (o_q (.int .i64 ((w64 ((w64 (s_1.Seed * 1103515245)) + 12345)).tmod 2147483648)) rfl ⟨rfl, by decide⟩ rfl) ?_
      refine s_do (o_q (.ptr 0 0 0) rfl trivial rfl) ?_
      refine s_do (o_q (.ptr 0 0 2) rfl trivial rfl) ?_
      refine s_do0 (o_storebox (v := (.int .i64 ((w64 ((w64 (s_1.Seed * 1103515245)) + 12345)).tmod 2147483648))) (y' := (.agg [(.lst 1 (s_1.Code.map enc_u8)), (.int .i64 (w64 (s_1.At + 1))), (.int .i64 ((w64 ((w64 (s_1.Seed * 1103515245)) + 12345)).tmod 2147483648))])) rfl rfl rfl trivial ⟨rfl, nle⟩ ⟨⟨rfl, trivial⟩, trivial⟩ rfl) ?_
      refine w_done ?_
      refine k_seq ?_
      refine awp_seq ?_
      refine w_reg ?_
      refine s_do (o_mov (.ptr 0 0 0) rfl) ?_
      refine s_do (o_q (.ptr 0 0 0) rfl trivial rfl) ?_
      refine s_do (o_q (.ptr 0 0 2) rfl trivial rfl) ?_
      refine s_do (o_q (.int .i64 ((w64 ((w64 (s_1.Seed * 1103515245)) + 12345)).tmod 2147483648)) rfl nle rfl) ?_
      refine s_do (o_q (.int .i64 (w64 (((w64 ((w64 (s_1.Seed * 1103515245)) + 12345)).tmod 2147483648).tdiv 65536))) rfl ⟨rfl, by decide⟩ rfl) ?_
      refine s_do (o_q (.int .i64 ((w64 (((w64 ((w64 (s_1.Seed * 1103515245)) + 12345)).tmod 2147483648).tdiv 65536)).tmod 256)) rfl ⟨rfl, by decide⟩ rfl) ?_
      refine s_do (o_mov (.int .i64 ((w64 (((w64 ((w64 (s_1.Seed * 1103515245)) + 12345)).tmod 2147483648).tdiv 65536)).tmod 256)) rfl) ?_
      refine w_done ?_
      refine k_seq ?_
      refine w_ret ?_
      obtain rfl := os hf
      exact r_heap [] [0] rfl ⟨trivial, trivial⟩ rfl (.refl _) (.refl _)

/- (*spec.l00Src).next -/
def c161_h0 : ACode :=
 (.seq (.reg (.q ⟨(some 4), none, .mov (.c (.int .i64 0))⟩
 .done))
 (.seq (.seq (.reg (.q ⟨(some 8), none, .mov (.t 1)⟩
 (.q ⟨(some 9), none, .bin .leq (.t 8) (.c (.int .i64 1))⟩
 .done)))
 (.cond (.t 9) (.seq (.reg (.q ⟨(some 4), none, .mov (.c (.int .i64 0))⟩
 .done))
 .ret)
 .skip))
 (.seq (.seq (.reg (.q ⟨(some 10), none, .mov (.t 1)⟩
 (.q ⟨(some 11), none, .bin .leq (.t 10) (.c (.int .i64 256))⟩
 .done)))
 (.cond (.t 11) (.seq (.reg (.q ⟨(some 12), none, .mov (.t 0)⟩
 (.q ⟨(some 13), none, .call 211 [(.t 12)]⟩
 (.q ⟨(some 14), none, .mov (.t 1)⟩
 (.q ⟨(some 15), none, .bin .rem (.t 13) (.t 14)⟩
 (.q ⟨(some 4), none, .mov (.t 15)⟩
 .done))))))
 .ret)
 .skip))
 (.seq (.reg (.q ⟨(some 16), none, .mov (.t 0)⟩
 (.q ⟨(some 17), none, .call 211 [(.t 16)]⟩
 (.q ⟨(some 5), none, .mov (.t 17)⟩
 .done))))
 (.seq (.reg (.q ⟨(some 18), none, .mov (.t 0)⟩
 (.q ⟨(some 19), none, .call 211 [(.t 18)]⟩
 (.q ⟨(some 6), none, .mov (.t 19)⟩
 .done))))
 (.seq (.reg (.q ⟨(some 20), none, .mov (.t 0)⟩
 (.q ⟨(some 21), none, .call 211 [(.t 20)]⟩
 (.q ⟨(some 7), none, .mov (.t 21)⟩
 .done))))
 (.seq (.reg (.q ⟨(some 22), none, .mov (.t 5)⟩
 (.q ⟨(some 23), none, .bin .mul (.t 22) (.c (.int .i64 65536))⟩
 (.q ⟨(some 24), none, .mov (.t 6)⟩
 (.q ⟨(some 25), none, .bin .mul (.t 24) (.c (.int .i64 256))⟩
 (.q ⟨(some 26), none, .bin .add (.t 23) (.t 25)⟩
 (.q ⟨(some 27), none, .mov (.t 7)⟩
 (.q ⟨(some 28), none, .bin .add (.t 26) (.t 27)⟩
 (.q ⟨(some 29), none, .mov (.t 1)⟩
 (.q ⟨(some 30), none, .bin .rem (.t 28) (.t 29)⟩
 (.q ⟨(some 4), none, .mov (.t 30)⟩
 .done)))))))))))
 .ret)))))))
theorem fc161_h0 : fcomp Try.prog Try.f161 = some (c161_h0.erase, [.mov (.t 4)], 31) := by kernel_rfl
def spec_l00Src_next (n_1 : Int) (s_2 : GL00Src) : Option (Int × GL00Src) :=
    if (decide (n_1 ≤ 1)) then
    some (0, s_2)
    else
    if (decide (n_1 ≤ 256)) then
    (spec_l00Src_byte s_2).bind fun r_5 =>
    if n_1 ≠ 0 then
    some (r_5.1.tmod n_1, r_5.2)
    else none
    else
    (spec_l00Src_byte s_2).bind fun r_8 =>
    (spec_l00Src_byte r_8.2).bind fun r_10 =>
    (spec_l00Src_byte r_10.2).bind fun r_12 =>
    if n_1 ≠ 0 then
    some ((w64 ((w64 ((w64 (r_8.1 * 65536)) + (w64 (r_10.1 * 256)))) + r_12.1)).tmod n_1, r_12.2)
    else none
theorem w_spec_l00Src_next (n_1 : Int) (s_2 : GL00Src) (r : (Int × GL00Src)) (hf : spec_l00Src_next n_1 s_2 = some r) : CallHeap Try.prog false 161 [(.ptr 0 0 0), (.int .i64 n_1)] [.box 3 (.agg [(.lst 1 (s_2.Code.map enc_u8)), (.int .i64 s_2.At), (.int .i64 s_2.Seed)])] (.int .i64 r.1) [.box 3 (.agg [(.lst 1 (r.2.Code.map enc_u8)), (.int .i64 r.2.At), (.int .i64 r.2.Seed)])] := by
  refine CallHeap.of_awp mixed Try.func161 fc161_h0 nle ?_
  rw [argT_eq]
  unfold spec_l00Src_next at hf
  unfold c161_h0
  refine (show awp Try.prog false 1 _ (ofL [(0, (.ptr 0 0 0)), (1, (.int .i64 n_1))]) [.box 3 (.agg [(.lst 1 (s_2.Code.map enc_u8)), (.int .i64 s_2.At), (.int .i64 s_2.Seed)])] _ from ?_)
  refine awp_seq ?_
  refine w_reg ?_
  refine s_do (o_mov (.int .i64 0) rfl) ?_
  refine w_done ?_
  refine k_seq ?_
  refine awp_seq ?_
  refine awp_seq ?_
  refine w_reg ?_
  refine s_do (o_mov (.int .i64 n_1) rfl) ?_
  refine s_do (o_q (.bool (decide (n_1 ≤ 1))) rfl rfl rfl) ?_
  refine w_done ?_
  refine k_seq ?_
  rcases oi hf with ⟨c3, hf⟩ | ⟨c3, hf⟩
  · refine w_condt rfl c3 ?_
    refine awp_seq ?_
    refine w_reg ?_
    refine s_do (o_mov (.int .i64 0) rfl) ?_
    refine w_done ?_
    refine k_seq ?_
    refine w_ret ?_
    obtain rfl := os hf
    exact r_heap [] [0] rfl ⟨trivial, trivial⟩ rfl (.refl _) (.refl _)
  · refine w_condf rfl (bf c3) ?_
    refine w_skip ?_
    refine k_seq ?_
    refine awp_seq ?_
    refine awp_seq ?_
    refine w_reg ?_
    refine s_do (o_mov (.int .i64 n_1) rfl) ?_
    refine s_do (o_q (.bool (decide (n_1 ≤ 256))) rfl rfl rfl) ?_
    refine w_done ?_
    refine k_seq ?_
    rcases oi hf with ⟨c4, hf⟩ | ⟨c4, hf⟩
    · refine w_condt rfl c4 ?_
      refine awp_seq ?_
      refine w_reg ?_
      obtain ⟨r_5, er6, hf⟩ := ob hf
      obtain ⟨g7, hf⟩ := og hf
      refine s_do (o_mov (.ptr 0 0 0) rfl) ?_
      refine s_do (o_callh (v := (.int .i64 r_5.1)) (h2 := [.box 3 (.agg [(.lst 1 (r_5.2.Code.map enc_u8)), (.int .i64 r_5.2.At), (.int .i64 r_5.2.Seed)])]) [] [0] (w_spec_l00Src_byte _ _ er6) rfl (.refl _) (.refl _) rfl rfl) ?_
      refine s_do (o_mov (.int .i64 n_1) rfl) ?_
      refine s_do (o_q (.int .i64 (r_5.1.tmod n_1)) rfl ⟨rfl, g7⟩ rfl) ?_
      refine s_do (o_mov (.int .i64 (r_5.1.tmod n_1)) rfl) ?_
      refine w_done ?_
      refine k_seq ?_
      refine w_ret ?_
      obtain rfl := os hf
      exact r_heap [] [0] rfl ⟨trivial, trivial⟩ rfl (.refl _) (.refl _)
    · refine w_condf rfl (bf c4) ?_
      refine w_skip ?_
      refine k_seq ?_
      refine awp_seq ?_
      refine w_reg ?_
      obtain ⟨r_8, er9, hf⟩ := ob hf
      refine s_do (o_mov (.ptr 0 0 0) rfl) ?_
      refine s_do (o_callh (v := (.int .i64 r_8.1)) (h2 := [.box 3 (.agg [(.lst 1 (r_8.2.Code.map enc_u8)), (.int .i64 r_8.2.At), (.int .i64 r_8.2.Seed)])]) [] [0] (w_spec_l00Src_byte _ _ er9) rfl (.refl _) (.refl _) rfl rfl) ?_
      refine s_do (o_mov (.int .i64 r_8.1) rfl) ?_
      refine w_done ?_
      refine k_seq ?_
      refine awp_seq ?_
      refine w_reg ?_
      obtain ⟨r_10, er11, hf⟩ := ob hf
      refine s_do (o_mov (.ptr 0 0 0) rfl) ?_
      refine s_do (o_callh (v := (.int .i64 r_10.1)) (h2 := [.box 3 (.agg [(.lst 1 (r_10.2.Code.map enc_u8)), (.int .i64 r_10.2.At), (.int .i64 r_10.2.Seed)])]) [] [0] (w_spec_l00Src_byte _ _ er11) rfl (.refl _) (.refl _) rfl rfl) ?_
      refine s_do (o_mov (.int .i64 r_10.1) rfl) ?_
      refine w_done ?_
      refine k_seq ?_
      refine awp_seq ?_
      refine w_reg ?_
      obtain ⟨r_12, er13, hf⟩ := ob hf
      refine s_do (o_mov (.ptr 0 0 0) rfl) ?_
      refine s_do (o_callh (v := (.int .i64 r_12.1)) (h2 := [.box 3 (.agg [(.lst 1 (r_12.2.Code.map enc_u8)), (.int .i64 r_12.2.At), (.int .i64 r_12.2.Seed)])]) [] [0] (w_spec_l00Src_byte _ _ er13) rfl (.refl _) (.refl _) rfl rfl) ?_
      refine s_do (o_mov (.int .i64 r_12.1) rfl) ?_
      refine w_done ?_
      refine k_seq ?_
      refine awp_seq ?_
      refine w_reg ?_
      obtain ⟨g14, hf⟩ := og hf
      refine s_do (o_mov (.int .i64 r_8.1) rfl) ?_
      refine s_do (o_q (.int .i64 (w64 (r_8.1 * 65536))) rfl rfl rfl) ?_
      refine s_do (o_mov (.int .i64 r_10.1) rfl) ?_
      refine s_do (o_q (.int .i64 (w64 (r_10.1 * 256))) rfl rfl rfl) ?_
      refine s_do (o_q (.int .i64 (w64 ((w64 (r_8.1 * 65536)) + (w64 (r_10.1 * 256))))) rfl rfl rfl) ?_
      refine s_do (o_mov (.int .i64 r_12.1) rfl) ?_
      refine s_do (o_q (.int .i64 (w64 ((w64 ((w64 (r_8.1 * 65536)) + (w64 (r_10.1 * 256)))) + r_12.1))) rfl rfl rfl) ?_
      refine s_do (o_mov (.int .i64 n_1) rfl) ?_
      refine s_do (o_q (.int .i64 ((w64 ((w64 ((w64 (r_8.1 * 65536)) + (w64 (r_10.1 * 256)))) + r_12.1)).tmod n_1)) rfl ⟨rfl, g14⟩ rfl) ?_
      refine s_do (o_mov (.int .i64 ((w64 ((w64 ((w64 (r_8.1 * 65536)) + (w64 (r_10.1 * 256)))) + r_12.1)).tmod n_1)) rfl) ?_
      refine w_done ?_
      refine k_seq ?_
      refine w_ret ?_
      obtain rfl := os hf
      exact r_heap [] [0] rfl ⟨trivial, trivial⟩ rfl (.refl _) (.refl _)

/- (*spec.l00Src).pick -/
def c184_h0 : ACode :=
 (.seq (.reg (.q ⟨(some 4), none, .mov (.c (.str []))⟩
 .done))
 (.seq (.seq (.reg (.q ⟨(some 5), none, .mov (.t 1)⟩
 (.q ⟨(some 6), none, .len (.t 5)⟩
 (.q ⟨(some 7), none, .bin .eql (.t 6) (.c (.int .i64 0))⟩
 .done))))
 (.cond (.t 7) (.seq (.reg (.q ⟨(some 4), none, .mov (.c (.str []))⟩
 .done))
 .ret)
 .skip))
 (.seq (.reg (.q ⟨(some 8), none, .mov (.t 1)⟩
 (.q ⟨(some 9), none, .mov (.t 0)⟩
 (.q ⟨(some 10), none, .mov (.t 1)⟩
 (.q ⟨(some 11), none, .len (.t 10)⟩
 (.q ⟨(some 12), none, .call 161 [(.t 9), (.t 11)]⟩
 (.q ⟨(some 13), none, .iaddr 1 (.t 8) (.t 12)⟩
 (.q ⟨(some 14), none, .load 1 false (.t 13)⟩
 (.q ⟨(some 4), none, .mov (.t 14)⟩
 .done)))))))))
 .ret)))
theorem fc184_h0 : fcomp Try.prog Try.f184 = some (c184_h0.erase, [.mov (.t 4)], 15) := by kernel_rfl
def spec_l00Src_pick (list_1 : (List Str)) (s_2 : GL00Src) : Option (Str × GL00Src) :=
    if ((list_1.length : Int) == 0) then
    some ([], s_2)
    else
    (spec_l00Src_next (list_1.length : Int) s_2).bind fun r_6 =>
    (idx list_1 r_6.1).bind fun x_8 =>
    some (x_8, r_6.2)
theorem w_spec_l00Src_pick (list_1 : (List Str)) (s_2 : GL00Src) (r : (Str × GL00Src)) (hf : spec_l00Src_pick list_1 s_2 = some r) : CallHeap Try.prog false 184 [(.ptr 0 0 0), (.lst 1 (list_1.map AV.str))] [.box 3 (.agg [(.lst 1 (s_2.Code.map enc_u8)), (.int .i64 s_2.At), (.int .i64 s_2.Seed)])] (.str r.1) [.box 3 (.agg [(.lst 1 (r.2.Code.map enc_u8)), (.int .i64 r.2.At), (.int .i64 r.2.Seed)])] := by
  refine CallHeap.of_awp mixed Try.func184 fc184_h0 nle ?_
  rw [argT_eq]
  unfold spec_l00Src_pick at hf
  unfold c184_h0
  refine (show awp Try.prog false 1 _ (ofL [(0, (.ptr 0 0 0)), (1, (.lst 1 (list_1.map AV.str)))]) [.box 3 (.agg [(.lst 1 (s_2.Code.map enc_u8)), (.int .i64 s_2.At), (.int .i64 s_2.Seed)])] _ from ?_)
  refine awp_seq ?_
  refine w_reg ?_
  refine s_do (o_mov (.str []) rfl) ?_
  refine w_done ?_
  refine k_seq ?_
  refine awp_seq ?_
  refine awp_seq ?_
  refine w_reg ?_
  refine s_do (o_mov (.lst 1 (list_1.map AV.str)) rfl) ?_
  refine s_dof (o_len (enc := AV.str) rfl) fun hl3 => ?_
  refine s_do (o_q (.bool ((list_1.length : Int) == 0)) rfl rfl rfl) ?_
  refine w_done ?_
  refine k_seq ?_
  rcases oi hf with ⟨c4, hf⟩ | ⟨c4, hf⟩
  · refine w_condt rfl c4 ?_
    refine awp_seq ?_
    refine w_reg ?_
    refine s_do (o_mov (.str []) rfl) ?_
    refine w_done ?_
    refine k_seq ?_
    refine w_ret ?_
    obtain rfl := os hf
    exact r_heap [] [0] rfl ⟨trivial, trivial⟩ rfl (.refl _) (.refl _)
  · refine w_condf rfl (bf c4) ?_
    refine w_skip ?_
    refine k_seq ?_
    refine awp_seq ?_
    refine w_reg ?_
    obtain ⟨r_6, er7, hf⟩ := ob hf
    obtain ⟨x_8, ex9, hf⟩ := ob hf
    refine s_do (o_mov (.lst 1 (list_1.map AV.str)) rfl) ?_
    refine s_do (o_mov (.ptr 0 0 0) rfl) ?_
    refine s_do (o_mov (.lst 1 (list_1.map AV.str)) rfl) ?_
    refine s_dof (o_len (enc := AV.str) rfl) fun hl5 => ?_
    refine s_do (o_callh (v := (.int .i64 r_6.1)) (h2 := [.box 3 (.agg [(.lst 1 (r_6.2.Code.map enc_u8)), (.int .i64 r_6.2.At), (.int .i64 r_6.2.Seed)])]) [] [0] (w_spec_l00Src_next _ _ _ er7) rfl (.refl _) (.refl _) rfl rfl) ?_
    refine s_do (o_iaddr (enc := AV.str) rfl rfl (idx0 ex9) (idx1 ex9)) ?_
    refine s_do (o_q (.str x_8) rfl ⟨rfl, rfl⟩ rfl) ?_
    refine s_do (o_mov (.str x_8) rfl) ?_
    refine w_done ?_
    refine k_seq ?_
    refine w_ret ?_
    obtain rfl := os hf
    exact r_heap [] [0] rfl ⟨trivial, trivial⟩ rfl (.refl _) (.refl _)

/- (*spec.l00Src).chance -/
def c163_h0 : ACode :=
 (.seq (.reg (.q ⟨(some 4), none, .mov (.c (.bool false))⟩
 .done))
 (.seq (.reg (.q ⟨(some 5), none, .mov (.t 0)⟩
 (.q ⟨(some 6), none, .mov (.t 1)⟩
 (.q ⟨(some 7), none, .call 161 [(.t 5), (.t 6)]⟩
 (.q ⟨(some 8), none, .mov (.t 1)⟩
 (.q ⟨(some 9), none, .bin .sub (.t 8) (.c (.int .i64 1))⟩
 (.q ⟨(some 10), none, .bin .eql (.t 7) (.t 9)⟩
 (.q ⟨(some 4), none, .mov (.t 10)⟩
 .done))))))))
 .ret))
theorem fc163_h0 : fcomp Try.prog Try.f163 = some (c163_h0.erase, [.mov (.t 4)], 11) := by kernel_rfl
def spec_l00Src_chance (n_1 : Int) (s_2 : GL00Src) : Option (Bool × GL00Src) :=
    (spec_l00Src_next n_1 s_2).bind fun r_3 =>
    some ((r_3.1 == w64 (n_1 - 1)), r_3.2)
theorem w_spec_l00Src_chance (n_1 : Int) (s_2 : GL00Src) (r : (Bool × GL00Src)) (hf : spec_l00Src_chance n_1 s_2 = some r) : CallHeap Try.prog false 163 [(.ptr 0 0 0), (.int .i64 n_1)] [.box 3 (.agg [(.lst 1 (s_2.Code.map enc_u8)), (.int .i64 s_2.At), (.int .i64 s_2.Seed)])] (.bool r.1) [.box 3 (.agg [(.lst 1 (r.2.Code.map enc_u8)), (.int .i64 r.2.At), (.int .i64 r.2.Seed)])] := by
  refine CallHeap.of_awp mixed Try.func163 fc163_h0 nle ?_
  rw [argT_eq]
  unfold spec_l00Src_chance at hf
  unfold c163_h0
  refine (show awp Try.prog false 1 _ (ofL [(0, (.ptr 0 0 0)), (1, (.int .i64 n_1))]) [.box 3 (.agg [(.lst 1 (s_2.Code.map enc_u8)), (.int .i64 s_2.At), (.int .i64 s_2.Seed)])] _ from ?_)
  refine awp_seq ?_
  refine w_reg ?_
  refine s_do (o_mov (.bool false) rfl) ?_
  refine w_done ?_
  refine k_seq ?_
  refine awp_seq ?_
  refine w_reg ?_
  obtain ⟨r_3, er4, hf⟩ := ob hf
  refine s_do (o_mov (.ptr 0 0 0) rfl) ?_
  refine s_do (o_mov (.int .i64 n_1) rfl) ?_
  refine s_do (o_callh (v := (.int .i64 r_3.1)) (h2 := [.box 3 (.agg [(.lst 1 (r_3.2.Code.map enc_u8)), (.int .i64 r_3.2.At), (.int .i64 r_3.2.Seed)])]) [] [0] (w_spec_l00Src_next _ _ _ er4) rfl (.refl _) (.refl _) rfl rfl) ?_
  refine s_do (o_mov (.int .i64 n_1) rfl) ?_
  refine s_do (o_q (.int .i64 (w64 (n_1 - 1))) rfl rfl rfl) ?_
  refine s_do (o_q (.bool (r_3.1 == w64 (n_1 - 1))) rfl rfl rfl) ?_
  refine s_do (o_mov (.bool (r_3.1 == w64 (n_1 - 1))) rfl) ?_
  refine w_done ?_
  refine k_seq ?_
  refine w_ret ?_
  obtain rfl := os hf
  exact r_heap [] [0] rfl ⟨trivial, trivial⟩ rfl (.refl _) (.refl _)

/- (*spec.l00Src).column -/
def c126_h0 : ACode :=
 (.seq (.reg (.q ⟨(some 2), none, .box 8 (.c (.agg [(.str []), (.int .i64 0), (.int .i64 0), (.int .i64 0), (.int .i64 0), (.int .i64 0), (.str []), (.bool false)]))⟩
 .done))
 (.seq (.reg (.q ⟨(some 4), none, .mov (.t 0)⟩
 (.q ⟨(some 5), none, .bslice 1 [(.c (.str [97])), (.c (.str [98])), (.c (.str [110, 97, 109, 101])), (.c (.str [116, 97, 103]))]⟩
 (.q ⟨(some 6), none, .call 184 [(.t 4), (.t 5)]⟩
 (.q ⟨(some 7), none, .mov (.t 0)⟩
 (.q ⟨(some 8), none, .call 161 [(.t 7), (.c (.int .i64 4))]⟩
 (.q ⟨(some 9), none, .bin .add (.c (.int .i64 1)) (.t 8)⟩
 (.q ⟨(some 10), none, .mov (.t 0)⟩
 (.q ⟨(some 11), none, .call 161 [(.t 10), (.c (.int .i64 2))]⟩
 (.q ⟨(some 12), none, .mov (.t 0)⟩
 (.q ⟨(some 13), none, .call 161 [(.t 12), (.c (.int .i64 3))]⟩
 (.q ⟨(some 14), none, .bin .add (.c (.int .i64 1)) (.t 13)⟩
 (.q ⟨(some 15), none, .build [(.str []), (.int .i64 0), (.int .i64 0), (.int .i64 0), (.int .i64 0), (.int .i64 0), (.str []), (.bool false)] [(0, 1, (.t 6)), (1, 1, (.t 9)), (2, 1, (.t 11)), (3, 1, (.t 14))]⟩
 (.q ⟨(some 3), none, .box 8 (.c (.agg [(.str []), (.int .i64 0), (.int .i64 0), (.int .i64 0), (.int .i64 0), (.int .i64 0), (.str []), (.bool false)]))⟩
 (.q ⟨none, none, .store 8 (.t 3) (.t 15)⟩
 .done)))))))))))))))
 (.seq (.seq (.reg (.q ⟨(some 16), none, .faddr 1 (.t 3)⟩
 (.q ⟨(some 17), none, .load 1 false (.t 16)⟩
 .done)))
 (.block 0 (.seq (.reg (.q ⟨(some 19), none, .bin .eql (.t 17) (.c (.int .i64 1))⟩
 (.q ⟨(some 18), none, .mov (.t 19)⟩
 .done)))
 (.cond (.t 18) (.seq (.reg (.q ⟨(some 20), none, .mov (.t 0)⟩
 (.q ⟨(some 21), none, .call 161 [(.t 20), (.c (.int .i64 9))]⟩
 (.q ⟨(some 22), none, .bin .sub (.t 21) (.c (.int .i64 4))⟩
 (.q ⟨(some 23), none, .faddr 4 (.t 3)⟩
 (.q ⟨none, none, .store 1 (.t 23) (.t 22)⟩
 .done))))))
 (.reg (.q ⟨(some 24), none, .faddr 4 (.t 3)⟩
 (.q ⟨(some 25), none, .load 1 false (.t 24)⟩
 (.q ⟨(some 26), none, .mov (.t 0)⟩
 (.l ⟨(some 27), none, .call 161 [(.t 26), (.c (.int .i64 9))]⟩ [⟨(some 25), none, .load 1 false (.t 24)⟩, ⟨(some 24), none, .faddr 4 (.t 3)⟩]
 (.q ⟨(some 28), none, .bin .add (.t 25) (.t 27)⟩
 (.q ⟨(some 29), none, .faddr 5 (.t 3)⟩
 (.l ⟨none, none, .store 1 (.t 29) (.t 28)⟩ []
 .done .non))) .non))))))
 (.seq (.reg (.q ⟨(some 31), none, .bin .eql (.t 17) (.c (.int .i64 4))⟩
 (.q ⟨(some 30), none, .mov (.t 31)⟩
 .done)))
 (.cond (.t 30) (.seq (.reg (.q ⟨(some 32), none, .faddr 2 (.t 3)⟩
 (.q ⟨none, none, .store 1 (.t 32) (.c (.int .i64 0))⟩
 .done)))
 (.seq (.reg (.q ⟨(some 33), none, .faddr 6 (.t 3)⟩
 (.q ⟨none, none, .store 1 (.t 33) (.c (.str [112, 111, 114, 116]))⟩
 .done)))
 (.reg (.q ⟨(some 34), none, .mov (.t 0)⟩
 (.q ⟨(some 35), none, .call 163 [(.t 34), (.c (.int .i64 2))]⟩
 (.q ⟨(some 36), none, .faddr 7 (.t 3)⟩
 (.q ⟨none, none, .store 1 (.t 36) (.t 35)⟩
 .done)))))))
 .skip))))))
 (.seq (.reg (.q ⟨(some 37), none, .load 8 true (.t 3)⟩
 (.q ⟨none, none, .store 8 (.t 2) (.t 37)⟩
 .done)))
 .ret))))
theorem fc126_h0 : fcomp Try.prog Try.f126 = some (c126_h0.erase, [.load 8 true (.t 2)], 38) := by kernel_rfl
def spec_l00Src_column (s_1 : GL00Src) : Option (GColumn × GL00Src) :=
    (spec_l00Src_pick [[97], [98], [110, 97, 109, 101], [116, 97, 103]] s_1).bind fun r_2 =>
    (spec_l00Src_next 4 r_2.2).bind fun r_4 =>
    (spec_l00Src_next 2 r_4.2).bind fun r_6 =>
    (spec_l00Src_next 3 r_6.2).bind fun r_8 =>
    if (w64 (1 + r_4.1) == 1) then
    (spec_l00Src_next 9 r_8.2).bind fun r_11 =>
    (spec_l00Src_next 9 r_11.2).bind fun r_13 =>
    some ((⟨r_2.1, w64 (1 + r_4.1), r_6.1, w64 (1 + r_8.1), w64 (r_11.1 - 4), w64 ((w64 (r_11.1 - 4)) + r_13.1), [], false⟩ : GColumn), r_13.2)
    else
    if (w64 (1 + r_4.1) == 4) then
    (spec_l00Src_chance 2 r_8.2).bind fun r_16 =>
    some ((⟨r_2.1, w64 (1 + r_4.1), 0, w64 (1 + r_8.1), 0, 0, [112, 111, 114, 116], r_16.1⟩ : GColumn), r_16.2)
    else
    some ((⟨r_2.1, w64 (1 + r_4.1), r_6.1, w64 (1 + r_8.1), 0, 0, [], false⟩ : GColumn), r_8.2)
theorem w_spec_l00Src_column (s_1 : GL00Src) (r : (GColumn × GL00Src)) (hf : spec_l00Src_column s_1 = some r) : CallHeap Try.prog false 126 [(.ptr 0 0 0)] [.box 3 (.agg [(.lst 1 (s_1.Code.map enc_u8)), (.int .i64 s_1.At), (.int .i64 s_1.Seed)])] (encGColumn r.1) [.box 3 (.agg [(.lst 1 (r.2.Code.map enc_u8)), (.int .i64 r.2.At), (.int .i64 r.2.Seed)])] := by
  refine CallHeap.of_awp mixed Try.func126 fc126_h0 nle ?_
  rw [argT_eq]
  unfold spec_l00Src_column at hf
  unfold c126_h0
  refine (show awp Try.prog false 1 _ (ofL [(0, (.ptr 0 0 0))]) [.box 3 (.agg [(.lst 1 (s_1.Code.map enc_u8)), (.int .i64 s_1.At), (.int .i64 s_1.Seed)])] _ from ?_)
  refine awp_seq ?_
  refine w_reg ?_
  refine s_do (o_box (j := 1) (c := (.agg [(.str []), (.int .i64 0), (.int .i64 0), (.int .i64 0), (.int .i64 0), (.int .i64 0), (.str []), (.bool false)])) rfl trivial rfl rfl) ?_
  refine w_done ?_
  refine k_seq ?_
  refine awp_seq ?_
  refine w_reg ?_
  refine s_do (o_mov (.ptr 0 0 0) rfl) ?_
  refine s_do (o_bslice (j := 2) (as' := [(.str [97]), (.str [98]), (.str [110, 97, 109, 101]), (.str [116, 97, 103])]) rfl (fun _ => by decide) ⟨rfl, ⟨rfl, ⟨rfl, ⟨rfl, trivial⟩⟩⟩⟩ (.refl _) rfl rfl rfl) ?_
  obtain ⟨r_2, er3, hf⟩ := ob hf
  refine s_do (o_callh (v := (.str r_2.1)) (h2 := [.box 3 (.agg [(.lst 1 (r_2.2.Code.map enc_u8)), (.int .i64 r_2.2.At), (.int .i64 r_2.2.Seed)]), .box 8 (.agg [(.str []), (.int .i64 0), (.int .i64 0), (.int .i64 0), (.int .i64 0), (.int .i64 0), (.str []), (.bool false)]), .dead]) [false, true] [0] (w_spec_l00Src_pick _ _ _ er3) rfl (.cons (.refl _) (.cons (.of_eq (congrArg (AV.lst _) (tko [[97], [98], [110, 97, 109, 101], [116, 97, 103]]))) .nil)) (.refl _) rfl rfl) ?_
  refine s_do (o_mov (.ptr 0 0 0) rfl) ?_
  obtain ⟨r_4, er5, hf⟩ := ob hf
  refine s_do (o_callh (v := (.int .i64 r_4.1)) (h2 := [.box 3 (.agg [(.lst 1 (r_4.2.Code.map enc_u8)), (.int .i64 r_4.2.At), (.int .i64 r_4.2.Seed)]), .box 8 (.agg [(.str []), (.int .i64 0), (.int .i64 0), (.int .i64 0), (.int .i64 0), (.int .i64 0), (.str []), (.bool false)]), .dead]) [] [0] (w_spec_l00Src_next _ _ _ er5) rfl (.refl _) (.refl _) rfl rfl) ?_
  refine s_do (o_q (.int .i64 (w64 (1 + r_4.1))) rfl rfl rfl) ?_
  refine s_do (o_mov (.ptr 0 0 0) rfl) ?_
  obtain ⟨r_6, er7, hf⟩ := ob hf
  refine s_do (o_callh (v := (.int .i64 r_6.1)) (h2 := [.box 3 (.agg [(.lst 1 (r_6.2.Code.map enc_u8)), (.int .i64 r_6.2.At), (.int .i64 r_6.2.Seed)]), .box 8 (.agg [(.str []), (.int .i64 0), (.int .i64 0), (.int .i64 0), (.int .i64 0), (.int .i64 0), (.str []), (.bool false)]), .dead]) [] [0] (w_spec_l00Src_next _ _ _ er7) rfl (.refl _) (.refl _) rfl rfl) ?_
  refine s_do (o_mov (.ptr 0 0 0) rfl) ?_
  obtain ⟨r_8, er9, hf⟩ := ob hf
  refine s_do (o_callh (v := (.int .i64 r_8.1)) (h2 := [.box 3 (.agg [(.lst 1 (r_8.2.Code.map enc_u8)), (.int .i64 r_8.2.At), (.int .i64 r_8.2.Seed)]), .box 8 (.agg [(.str []), (.int .i64 0), (.int .i64 0), (.int .i64 0), (.int .i64 0), (.int .i64 0), (.str []), (.bool false)]), .dead]) [] [0] (w_spec_l00Src_next _ _ _ er9) rfl (.refl _) (.refl _) rfl rfl) ?_
  refine s_do (o_q (.int .i64 (w64 (1 + r_8.1))) rfl rfl rfl) ?_
  refine s_do (o_q (.agg [(.str r_2.1), (.int .i64 (w64 (1 + r_4.1))), (.int .i64 r_6.1), (.int .i64 (w64 (1 + r_8.1))), (.int .i64 0), (.int .i64 0), (.str []), (.bool false)]) rfl ⟨⟨rfl, nle, trivial⟩, ⟨⟨rfl, nle, trivial⟩, ⟨⟨rfl, nle, trivial⟩, ⟨⟨rfl, nle, trivial⟩, trivial⟩⟩⟩⟩ rfl) ?_
  refine s_do (o_box (j := 3) (c := (.agg [(.str []), (.int .i64 0), (.int .i64 0), (.int .i64 0), (.int .i64 0), (.int .i64 0), (.str []), (.bool false)])) rfl trivial rfl rfl) ?_
  refine s_do0 (o_storebox (v := (.agg [(.str r_2.1), (.int .i64 (w64 (1 + r_4.1))), (.int .i64 r_6.1), (.int .i64 (w64 (1 + r_8.1))), (.int .i64 0), (.int .i64 0), (.str []), (.bool false)])) (y' := (.agg [(.str r_2.1), (.int .i64 (w64 (1 + r_4.1))), (.int .i64 r_6.1), (.int .i64 (w64 (1 + r_8.1))), (.int .i64 0), (.int .i64 0), (.str []), (.bool false)])) rfl rfl rfl trivial ⟨rfl, nle⟩ ⟨⟨rfl, trivial⟩, ⟨⟨rfl, trivial⟩, ⟨⟨rfl, trivial⟩, ⟨⟨rfl, trivial⟩, ⟨⟨rfl, trivial⟩, ⟨⟨rfl, trivial⟩, ⟨⟨rfl, trivial⟩, ⟨⟨rfl, trivial⟩, trivial⟩⟩⟩⟩⟩⟩⟩⟩ rfl) ?_
  refine w_done ?_
  refine k_seq ?_
  refine awp_seq ?_
  refine awp_seq ?_
  refine w_reg ?_
  refine s_do (o_q (.ptr 3 0 1) rfl trivial rfl) ?_
  refine s_do (o_q (.int .i64 (w64 (1 + r_4.1))) rfl nle rfl) ?_
  refine w_done ?_
  refine k_seq ?_
  refine w_blk ?_
  refine awp_seq ?_
  refine w_reg ?_
  refine s_do (o_q (.bool (w64 (1 + r_4.1) == 1)) rfl rfl rfl) ?_
  refine s_do (o_mov (.bool (w64 (1 + r_4.1) == 1)) rfl) ?_
  refine w_done ?_
  refine k_seq ?_
  rcases oi hf with ⟨c10, hf⟩ | ⟨c10, hf⟩
  · refine w_condt rfl c10 ?_
    refine awp_seq ?_
    refine w_reg ?_
    obtain ⟨r_11, er12, hf⟩ := ob hf
    refine s_do (o_mov (.ptr 0 0 0) rfl) ?_
    refine s_do (o_callh (v := (.int .i64 r_11.1)) (h2 := [.box 3 (.agg [(.lst 1 (r_11.2.Code.map enc_u8)), (.int .i64 r_11.2.At), (.int .i64 r_11.2.Seed)]), .box 8 (.agg [(.str []), (.int .i64 0), (.int .i64 0), (.int .i64 0), (.int .i64 0), (.int .i64 0), (.str []), (.bool false)]), .dead, .box 8 (.agg [(.str r_2.1), (.int .i64 (w64 (1 + r_4.1))), (.int .i64 r_6.1), (.int .i64 (w64 (1 + r_8.1))), (.int .i64 0), (.int .i64 0), (.str []), (.bool false)])]) [] [0] (w_spec_l00Src_next _ _ _ er12) rfl (.refl _) (.refl _) rfl rfl) ?_
    refine s_do (o_q (.int .i64 (w64 (r_11.1 - 4))) rfl rfl rfl) ?_
    refine s_do (o_q (.ptr 3 0 4) rfl trivial rfl) ?_
    refine s_do0 (o_storebox (v := (.int .i64 (w64 (r_11.1 - 4)))) (y' := (.agg [(.str r_2.1), (.int .i64 (w64 (1 + r_4.1))), (.int .i64 r_6.1), (.int .i64 (w64 (1 + r_8.1))), (.int .i64 (w64 (r_11.1 - 4))), (.int .i64 0), (.str []), (.bool false)])) rfl rfl rfl trivial ⟨rfl, nle⟩ ⟨⟨rfl, trivial⟩, trivial⟩ rfl) ?_
    refine w_done ?_
    refine k_seq ?_
    refine w_reg ?_
    obtain ⟨r_13, er14, hf⟩ := ob hf
    refine s_do (o_q (.ptr 3 0 4) rfl trivial rfl) ?_
    refine s_do (o_q (.int .i64 (w64 (r_11.1 - 4))) rfl nle rfl) ?_
    refine s_do (o_mov (.ptr 0 0 0) rfl) ?_
    refine s_dol (o_callh (v := (.int .i64 r_13.1)) (h2 := [.box 3 (.agg [(.lst 1 (r_13.2.Code.map enc_u8)), (.int .i64 r_13.2.At), (.int .i64 r_13.2.Seed)]), .box 8 (.agg [(.str []), (.int .i64 0), (.int .i64 0), (.int .i64 0), (.int .i64 0), (.int .i64 0), (.str []), (.bool false)]), .dead, .box 8 (.agg [(.str r_2.1), (.int .i64 (w64 (1 + r_4.1))), (.int .i64 r_6.1), (.int .i64 (w64 (1 + r_8.1))), (.int .i64 (w64 (r_11.1 - 4))), (.int .i64 0), (.str []), (.bool false)])]) [] [0] (w_spec_l00Src_next _ _ _ er14) rfl (.refl _) (.refl _) rfl rfl) (.inr ⟨⟨nle, rfl⟩, ⟨⟨trivial, rfl⟩, trivial⟩⟩) trivial ?_
    refine s_do (o_q (.int .i64 (w64 ((w64 (r_11.1 - 4)) + r_13.1))) rfl rfl rfl) ?_
    refine s_do (o_q (.ptr 3 0 5) rfl trivial rfl) ?_
    refine s_dol0 (o_storebox (v := (.int .i64 (w64 ((w64 (r_11.1 - 4)) + r_13.1)))) (y' := (.agg [(.str r_2.1), (.int .i64 (w64 (1 + r_4.1))), (.int .i64 r_6.1), (.int .i64 (w64 (1 + r_8.1))), (.int .i64 (w64 (r_11.1 - 4))), (.int .i64 (w64 ((w64 (r_11.1 - 4)) + r_13.1))), (.str []), (.bool false)])) rfl rfl rfl trivial ⟨rfl, nle⟩ ⟨⟨rfl, trivial⟩, trivial⟩ rfl) trivial trivial ?_
    refine w_done ?_
    refine k_blk ?_
    refine k_seq ?_
    refine awp_seq ?_
    refine w_reg ?_
    refine s_do (o_q (.agg [(.str r_2.1), (.int .i64 (w64 (1 + r_4.1))), (.int .i64 r_6.1), (.int .i64 (w64 (1 + r_8.1))), (.int .i64 (w64 (r_11.1 - 4))), (.int .i64 (w64 ((w64 (r_11.1 - 4)) + r_13.1))), (.str []), (.bool false)]) rfl nle rfl) ?_
    refine s_do0 (o_storebox (v := (.agg [(.str r_2.1), (.int .i64 (w64 (1 + r_4.1))), (.int .i64 r_6.1), (.int .i64 (w64 (1 + r_8.1))), (.int .i64 (w64 (r_11.1 - 4))), (.int .i64 (w64 ((w64 (r_11.1 - 4)) + r_13.1))), (.str []), (.bool false)])) (y' := (.agg [(.str r_2.1), (.int .i64 (w64 (1 + r_4.1))), (.int .i64 r_6.1), (.int .i64 (w64 (1 + r_8.1))), (.int .i64 (w64 (r_11.1 - 4))), (.int .i64 (w64 ((w64 (r_11.1 - 4)) + r_13.1))), (.str []), (.bool false)])) rfl rfl rfl trivial ⟨rfl, nle⟩ ⟨⟨rfl, trivial⟩, ⟨⟨rfl, trivial⟩, ⟨⟨rfl, trivial⟩, ⟨⟨rfl, trivial⟩, ⟨⟨rfl, trivial⟩, ⟨⟨rfl, trivial⟩, ⟨⟨rfl, trivial⟩, ⟨⟨rfl, trivial⟩, trivial⟩⟩⟩⟩⟩⟩⟩⟩ rfl) ?_
    refine w_done ?_
    refine k_seq ?_
    refine w_ret ?_
    obtain rfl := os hf
    exact r_heap [] [0] rfl ⟨nle, trivial⟩ rfl (.refl _) (.refl _)
  · refine w_condf rfl (bf c10) ?_
    refine awp_seq ?_
    refine w_reg ?_
    refine s_do (o_q (.bool (w64 (1 + r_4.1) == 4)) rfl rfl rfl) ?_
    refine s_do (o_mov (.bool (w64 (1 + r_4.1) == 4)) rfl) ?_
    refine w_done ?_
    refine k_seq ?_
    rcases oi hf with ⟨c15, hf⟩ | ⟨c15, hf⟩
    · refine w_condt rfl c15 ?_
      refine awp_seq ?_
      refine w_reg ?_
      refine s_do (o_q (.ptr 3 0 2) rfl trivial rfl) ?_
      refine s_do0 (o_storebox (v := (.int .i64 0)) (y' := (.agg [(.str r_2.1), (.int .i64 (w64 (1 + r_4.1))), (.int .i64 0), (.int .i64 (w64 (1 + r_8.1))), (.int .i64 0), (.int .i64 0), (.str []), (.bool false)])) rfl rfl rfl trivial ⟨rfl, nle⟩ ⟨⟨rfl, trivial⟩, trivial⟩ rfl) ?_
      refine w_done ?_
      refine k_seq ?_
      refine awp_seq ?_
      refine w_reg ?_
      refine s_do (o_q (.ptr 3 0 6) rfl trivial rfl) ?_
      refine s_do0 (o_storebox (v := (.str [112, 111, 114, 116])) (y' := (.agg [(.str r_2.1), (.int .i64 (w64 (1 + r_4.1))), (.int .i64 0), (.int .i64 (w64 (1 + r_8.1))), (.int .i64 0), (.int .i64 0), (.str [112, 111, 114, 116]), (.bool false)])) rfl rfl rfl trivial ⟨rfl, nle⟩ ⟨⟨rfl, trivial⟩, trivial⟩ rfl) ?_
      refine w_done ?_
      refine k_seq ?_
      refine w_reg ?_
      obtain ⟨r_16, er17, hf⟩ := ob hf
      refine s_do (o_mov (.ptr 0 0 0) rfl) ?_
      refine s_do (o_callh (v := (.bool r_16.1)) (h2 := [.box 3 (.agg [(.lst 1 (r_16.2.Code.map enc_u8)), (.int .i64 r_16.2.At), (.int .i64 r_16.2.Seed)]), .box 8 (.agg [(.str []), (.int .i64 0), (.int .i64 0), (.int .i64 0), (.int .i64 0), (.int .i64 0), (.str []), (.bool false)]), .dead, .box 8 (.agg [(.str r_2.1), (.int .i64 (w64 (1 + r_4.1))), (.int .i64 0), (.int .i64 (w64 (1 + r_8.1))), (.int .i64 0), (.int .i64 0), (.str [112, 111, 114, 116]), (.bool false)])]) [] [0] (w_spec_l00Src_chance _ _ _ er17) rfl (.refl _) (.refl _) rfl rfl) ?_
      refine s_do (o_q (.ptr 3 0 7) rfl trivial rfl) ?_
      refine s_do0 (o_storebox (v := (.bool r_16.1)) (y' := (.agg [(.str r_2.1), (.int .i64 (w64 (1 + r_4.1))), (.int .i64 0), (.int .i64 (w64 (1 + r_8.1))), (.int .i64 0), (.int .i64 0), (.str [112, 111, 114, 116]), (.bool r_16.1)])) rfl rfl rfl trivial ⟨rfl, nle⟩ ⟨⟨rfl, trivial⟩, trivial⟩ rfl) ?_
      refine w_done ?_
      refine k_blk ?_
      refine k_seq ?_
      refine awp_seq ?_
      refine w_reg ?_
      refine s_do (o_q (.agg [(.str r_2.1), (.int .i64 (w64 (1 + r_4.1))), (.int .i64 0), (.int .i64 (w64 (1 + r_8.1))), (.int .i64 0), (.int .i64 0), (.str [112, 111, 114, 116]), (.bool r_16.1)]) rfl nle rfl) ?_
      refine s_do0 (o_storebox (v := (.agg [(.str r_2.1), (.int .i64 (w64 (1 + r_4.1))), (.int .i64 0), (.int .i64 (w64 (1 + r_8.1))), (.int .i64 0), (.int .i64 0), (.str [112, 111, 114, 116]), (.bool r_16.1)])) (y' := (.agg [(.str r_2.1), (.int .i64 (w64 (1 + r_4.1))), (.int .i64 0), (.int .i64 (w64 (1 + r_8.1))), (.int .i64 0), (.int .i64 0), (.str [112, 111, 114, 116]), (.bool r_16.1)])) rfl rfl rfl trivial ⟨rfl, nle⟩ ⟨⟨rfl, trivial⟩, ⟨⟨rfl, trivial⟩, ⟨⟨rfl, trivial⟩, ⟨⟨rfl, trivial⟩, ⟨⟨rfl, trivial⟩, ⟨⟨rfl, trivial⟩, ⟨⟨rfl, trivial⟩, ⟨⟨rfl, trivial⟩, trivial⟩⟩⟩⟩⟩⟩⟩⟩ rfl) ?_
      refine w_done ?_
      refine k_seq ?_
      refine w_ret ?_
      obtain rfl := os hf
      exact r_heap [] [0] rfl ⟨nle, trivial⟩ rfl (.refl _) (.refl _)
    · refine w_condf rfl (bf c15) ?_
      refine w_skip ?_
      refine k_blk ?_
      refine k_seq ?_
      refine awp_seq ?_
      refine w_reg ?_
      refine s_do (o_q (.agg [(.str r_2.1), (.int .i64 (w64 (1 + r_4.1))), (.int .i64 r_6.1), (.int .i64 (w64 (1 + r_8.1))), (.int .i64 0), (.int .i64 0), (.str []), (.bool false)]) rfl nle rfl) ?_
      refine s_do0 (o_storebox (v := (.agg [(.str r_2.1), (.int .i64 (w64 (1 + r_4.1))), (.int .i64 r_6.1), (.int .i64 (w64 (1 + r_8.1))), (.int .i64 0), (.int .i64 0), (.str []), (.bool false)])) (y' := (.agg [(.str r_2.1), (.int .i64 (w64 (1 + r_4.1))), (.int .i64 r_6.1), (.int .i64 (w64 (1 + r_8.1))), (.int .i64 0), (.int .i64 0), (.str []), (.bool false)])) rfl rfl rfl trivial ⟨rfl, nle⟩ ⟨⟨rfl, trivial⟩, ⟨⟨rfl, trivial⟩, ⟨⟨rfl, trivial⟩, ⟨⟨rfl, trivial⟩, ⟨⟨rfl, trivial⟩, ⟨⟨rfl, trivial⟩, ⟨⟨rfl, trivial⟩, ⟨⟨rfl, trivial⟩, trivial⟩⟩⟩⟩⟩⟩⟩⟩ rfl) ?_
      refine w_done ?_
      refine k_seq ?_
      refine w_ret ?_
      obtain rfl := os hf
      exact r_heap [] [0] rfl ⟨nle, trivial⟩ rfl (.refl _) (.refl _)

/- spec.ColumnDrawn -/
def c52 : ACode :=
 (.seq (.reg (.q ⟨(some 2), none, .box 8 (.c (.agg [(.str []), (.int .i64 0), (.int .i64 0), (.int .i64 0), (.int .i64 0), (.int .i64 0), (.str []), (.bool false)]))⟩
 .done))
 (.seq (.reg (.q ⟨(some 3), none, .mov (.t 0)⟩
 (.q ⟨(some 4), none, .call 98 [(.t 3)]⟩
 (.q ⟨(some 5), none, .call 126 [(.t 4)]⟩
 (.q ⟨none, none, .store 8 (.t 2) (.t 5)⟩
 .done)))))
 .ret))
theorem fc52 : fcomp Try.prog Try.f52 = some (c52.erase, [.load 8 true (.t 2)], 6) := by kernel_rfl
def spec_ColumnDrawn (code_1 : (List Int)) : Option GColumn :=
    (spec_l00Source code_1).bind fun r_2 =>
    (spec_l00Src_column r_2).bind fun r_4 =>
    some r_4.1
theorem w_spec_ColumnDrawn (code_1 : (List Int)) (r : GColumn) (hf : spec_ColumnDrawn code_1 = some r) : CallOK Try.prog 52 .flat [(.lst 1 (code_1.map enc_u8))] (encGColumn r) := by
  refine CallOK.of_awp mixed Try.func52 fc52 nle ?_
  rw [argT_eq]
  unfold spec_ColumnDrawn at hf
  unfold c52
  refine (show awp Try.prog false 0 _ (ofL [(0, (.lst 1 (code_1.map enc_u8)))]) [] _ from ?_)
  refine awp_seq ?_
  refine w_reg ?_
  refine s_do (o_box (j := 0) (c := (.agg [(.str []), (.int .i64 0), (.int .i64 0), (.int .i64 0), (.int .i64 0), (.int .i64 0), (.str []), (.bool false)])) rfl trivial rfl rfl) ?_
  refine w_done ?_
  refine k_seq ?_
  refine awp_seq ?_
  refine w_reg ?_
  obtain ⟨r_2, er3, hf⟩ := ob hf
  obtain ⟨r_4, er5, hf⟩ := ob hf
  refine s_do (o_mov (.lst 1 (code_1.map enc_u8)) rfl) ?_
  refine s_do (o_callh (v := (.ptr 1 0 0)) (h2 := [.box 8 (.agg [(.str []), (.int .i64 0), (.int .i64 0), (.int .i64 0), (.int .i64 0), (.int .i64 0), (.str []), (.bool false)]), .box 3 (.agg [(.lst 1 (r_2.Code.map enc_u8)), (.int .i64 r_2.At), (.int .i64 r_2.Seed)])]) [] [] (w_spec_l00Source _ _ er3) rfl (.refl _) (.refl _) rfl rfl) ?_
  refine s_do (o_callh (v := (encGColumn r_4.1)) (h2 := [.box 8 (.agg [(.str []), (.int .i64 0), (.int .i64 0), (.int .i64 0), (.int .i64 0), (.int .i64 0), (.str []), (.bool false)]), .box 3 (.agg [(.lst 1 (r_4.2.Code.map enc_u8)), (.int .i64 r_4.2.At), (.int .i64 r_4.2.Seed)])]) [] [1] (w_spec_l00Src_column _ _ er5) rfl (.refl _) (.refl _) rfl rfl) ?_
  refine s_do0 (o_storebox (v := (.agg [(.str r_4.1.Name), (.int .i64 r_4.1.Kind), (.int .i64 r_4.1.Min), (.int .i64 r_4.1.Max), (.int .i64 r_4.1.Low), (.int .i64 r_4.1.High), (.str r_4.1.Ref), (.bool r_4.1.Strong)])) (y' := (.agg [(.str r_4.1.Name), (.int .i64 r_4.1.Kind), (.int .i64 r_4.1.Min), (.int .i64 r_4.1.Max), (.int .i64 r_4.1.Low), (.int .i64 r_4.1.High), (.str r_4.1.Ref), (.bool r_4.1.Strong)])) rfl rfl rfl trivial ⟨rfl, nle⟩ ⟨⟨rfl, trivial⟩, ⟨⟨rfl, trivial⟩, ⟨⟨rfl, trivial⟩, ⟨⟨rfl, trivial⟩, ⟨⟨rfl, trivial⟩, ⟨⟨rfl, trivial⟩, ⟨⟨rfl, trivial⟩, ⟨⟨rfl, trivial⟩, trivial⟩⟩⟩⟩⟩⟩⟩⟩ rfl) ?_
  refine w_done ?_
  refine k_seq ?_
  refine w_ret ?_
  obtain rfl := os hf
  exact r_flat ⟨nle, trivial⟩ rfl (.refl _)

/- impl.isDigit -/
def c152 : ACode :=
 (.seq (.reg (.q ⟨(some 2), none, .mov (.c (.bool false))⟩
 .done))
 (.seq (.reg (.q ⟨(some 3), none, .mov (.t 0)⟩
 (.q ⟨(some 4), none, .bin .geq (.t 3) (.c (.int .u8 48))⟩
 (.q ⟨(some 5), none, .mov (.t 4)⟩
 (.q ⟨(some 6), (some (5, true)), .mov (.t 0)⟩
 (.q ⟨(some 7), (some (5, true)), .bin .leq (.t 6) (.c (.int .u8 57))⟩
 (.q ⟨(some 8), none, .pick (.t 5) (.t 7) (.c (.bool false))⟩
 (.q ⟨(some 2), none, .mov (.t 8)⟩
 .done))))))))
 .ret))
theorem fc152 : fcomp Try.prog Try.f152 = some (c152.erase, [.mov (.t 2)], 9) := by kernel_rfl
def impl_isDigit (b_1 : Int) : Option Bool :=
    if (decide (b_1 ≥ 48)) then
    some (decide (b_1 ≤ 57))
    else
    some false
theorem w_impl_isDigit (b_1 : Int) (r : Bool) (hf : impl_isDigit b_1 = some r) : CallOK Try.prog 152 .flat [(.int .u8 b_1)] (.bool r) := by
  refine CallOK.of_awp mixed Try.func152 fc152 nle ?_
  rw [argT_eq]
  unfold impl_isDigit at hf
  unfold c152
  refine (show awp Try.prog false 0 _ (ofL [(0, (.int .u8 b_1))]) [] _ from ?_)
  refine awp_seq ?_
  refine w_reg ?_
  refine s_do (o_mov (.bool false) rfl) ?_
  refine w_done ?_
  refine k_seq ?_
  refine awp_seq ?_
  refine w_reg ?_
  rcases oi hf with ⟨c2, hf⟩ | ⟨c2, hf⟩
  · refine s_do (o_mov (.int .u8 b_1) rfl) ?_
    refine s_do (o_q (.bool (decide (b_1 ≥ 48))) rfl rfl rfl) ?_
    refine s_do (o_mov (.bool (decide (b_1 ≥ 48))) rfl) ?_
    refine s_lit (s := 5) (b := true) rfl c2 ?_
    refine s_on rfl ?_
    refine s_do (o_mov (.int .u8 b_1) rfl) ?_
    refine s_on rfl ?_
    refine s_do (o_q (.bool (decide (b_1 ≤ 57))) rfl rfl rfl) ?_
    refine s_do (o_q (.bool (decide (b_1 ≤ 57))) rfl trivial rfl) ?_
    refine s_do (o_mov (.bool (decide (b_1 ≤ 57))) rfl) ?_
    refine w_done ?_
    refine k_seq ?_
    refine w_ret ?_
    obtain rfl := os hf
    exact r_flat ⟨trivial, trivial⟩ rfl (.refl _)
  · refine s_do (o_mov (.int .u8 b_1) rfl) ?_
    refine s_do (o_q (.bool (decide (b_1 ≥ 48))) rfl rfl rfl) ?_
    refine s_do (o_mov (.bool (decide (b_1 ≥ 48))) rfl) ?_
    refine s_lit (s := 5) (b := false) rfl (bf c2) ?_
    refine s_off rfl rfl ?_
    refine s_off rfl rfl ?_
    refine s_do (o_q (.bool false) rfl trivial rfl) ?_
    refine s_do (o_mov (.bool false) rfl) ?_
    refine w_done ?_
    refine k_seq ?_
    refine w_ret ?_
    obtain rfl := os hf
    exact r_flat ⟨trivial, trivial⟩ rfl (.refl _)

/- impl.within -/
def c86 : ACode :=
 (.seq (.reg (.q ⟨(some 6), none, .mov (.c (.bool false))⟩
 .done))
 (.seq (.reg (.q ⟨(some 7), none, .mov (.t 0)⟩
 (.q ⟨(some 8), none, .mov (.t 1)⟩
 (.q ⟨(some 9), none, .bin .geq (.t 7) (.t 8)⟩
 (.q ⟨(some 10), none, .mov (.t 9)⟩
 (.q ⟨(some 11), (some (10, true)), .mov (.t 0)⟩
 (.q ⟨(some 12), (some (10, true)), .mov (.t 2)⟩
 (.q ⟨(some 13), (some (10, true)), .bin .leq (.t 11) (.t 12)⟩
 (.q ⟨(some 14), none, .pick (.t 10) (.t 13) (.c (.bool false))⟩
 (.q ⟨(some 6), none, .mov (.t 14)⟩
 .done))))))))))
 .ret))
theorem fc86 : fcomp Try.prog Try.f86 = some (c86.erase, [.mov (.t 6)], 15) := by kernel_rfl
def impl_within (n_1 : Int) (low_2 : Int) (high_3 : Int) : Option Bool :=
    if (decide (n_1 ≥ low_2)) then
    some (decide (n_1 ≤ high_3))
    else
    some false
theorem w_impl_within (n_1 : Int) (low_2 : Int) (high_3 : Int) (r : Bool) (hf : impl_within n_1 low_2 high_3 = some r) : CallOK Try.prog 86 .flat [(.int .i64 n_1), (.int .i64 low_2), (.int .i64 high_3)] (.bool r) := by
  refine CallOK.of_awp mixed Try.func86 fc86 nle ?_
  rw [argT_eq]
  unfold impl_within at hf
  unfold c86
  refine (show awp Try.prog false 0 _ (ofL [(0, (.int .i64 n_1)), (1, (.int .i64 low_2)), (2, (.int .i64 high_3))]) [] _ from ?_)
  refine awp_seq ?_
  refine w_reg ?_
  refine s_do (o_mov (.bool false) rfl) ?_
  refine w_done ?_
  refine k_seq ?_
  refine awp_seq ?_
  refine w_reg ?_
  rcases oi hf with ⟨c4, hf⟩ | ⟨c4, hf⟩
  · refine s_do (o_mov (.int .i64 n_1) rfl) ?_
    refine s_do (o_mov (.int .i64 low_2) rfl) ?_
    refine s_do (o_q (.bool (decide (n_1 ≥ low_2))) rfl rfl rfl) ?_
    refine s_do (o_mov (.bool (decide (n_1 ≥ low_2))) rfl) ?_
    refine s_lit (s := 10) (b := true) rfl c4 ?_
    refine s_on rfl ?_
    refine s_do (o_mov (.int .i64 n_1) rfl) ?_
    refine s_on rfl ?_
    refine s_do (o_mov (.int .i64 high_3) rfl) ?_
    refine s_on rfl ?_
    refine s_do (o_q (.bool (decide (n_1 ≤ high_3))) rfl rfl rfl) ?_
    refine s_do (o_q (.bool (decide (n_1 ≤ high_3))) rfl trivial rfl) ?_
    refine s_do (o_mov (.bool (decide (n_1 ≤ high_3))) rfl) ?_
    refine w_done ?_
    refine k_seq ?_
    refine w_ret ?_
    obtain rfl := os hf
    exact r_flat ⟨trivial, trivial⟩ rfl (.refl _)
  · refine s_do (o_mov (.int .i64 n_1) rfl) ?_
    refine s_do (o_mov (.int .i64 low_2) rfl) ?_
    refine s_do (o_q (.bool (decide (n_1 ≥ low_2))) rfl rfl rfl) ?_
    refine s_do (o_mov (.bool (decide (n_1 ≥ low_2))) rfl) ?_
    refine s_lit (s := 10) (b := false) rfl (bf c4) ?_
    refine s_off rfl rfl ?_
    refine s_off rfl rfl ?_
    refine s_off rfl rfl ?_
    refine s_do (o_q (.bool false) rfl trivial rfl) ?_
    refine s_do (o_mov (.bool false) rfl) ?_
    refine w_done ?_
    refine k_seq ?_
    refine w_ret ?_
    obtain rfl := os hf
    exact r_flat ⟨trivial, trivial⟩ rfl (.refl _)

/- impl.NameOK -/
def c85 : ACode :=
 (.seq (.reg (.q ⟨(some 2), none, .mov (.c (.bool false))⟩
 .done))
 (.seq (.seq (.reg (.q ⟨(some 6), none, .mov (.t 0)⟩
 (.q ⟨(some 7), none, .lenS (.t 6)⟩
 (.q ⟨(some 8), none, .mov (.c (.int .i64 0))⟩
 .done))))
 (.block 0 (.loop (.seq (.reg (.q ⟨(some 9), none, .bin .lss (.t 8) (.t 7)⟩
 .done))
 (.seq (.cond (.t 9) .skip
 (.exit 0))
 (.seq (.block 1 (.seq (.reg (.q ⟨(some 10), none, .mov (.t 8)⟩
 (.q ⟨(some 3), none, .mov (.t 10)⟩
 .done)))
 (.seq (.reg (.q ⟨(some 11), none, .mov (.t 0)⟩
 (.q ⟨(some 12), none, .mov (.t 3)⟩
 (.q ⟨(some 13), none, .idxs (.t 11) (.t 12)⟩
 (.q ⟨(some 4), none, .mov (.t 13)⟩
 .done)))))
 (.seq (.reg (.q ⟨(some 14), none, .mov (.t 4)⟩
 (.q ⟨(some 15), none, .bin .geq (.t 14) (.c (.int .u8 97))⟩
 (.q ⟨(some 16), none, .mov (.t 15)⟩
 (.q ⟨(some 17), (some (16, true)), .mov (.t 4)⟩
 (.q ⟨(some 18), (some (16, true)), .bin .leq (.t 17) (.c (.int .u8 122))⟩
 (.q ⟨(some 19), none, .pick (.t 16) (.t 18) (.c (.bool false))⟩
 (.q ⟨(some 20), none, .mov (.t 19)⟩
 (.q ⟨(some 21), (some (20, false)), .mov (.t 4)⟩
 (.q ⟨(some 22), (some (20, false)), .bin .geq (.t 21) (.c (.int .u8 65))⟩
 (.q ⟨(some 23), (some (20, false)), .mov (.t 22)⟩
 (.q ⟨(some 24), (some (23, true)), .mov (.t 4)⟩
 (.q ⟨(some 25), (some (23, true)), .bin .leq (.t 24) (.c (.int .u8 90))⟩
 (.q ⟨(some 26), (some (20, false)), .pick (.t 23) (.t 25) (.c (.bool false))⟩
 (.q ⟨(some 27), none, .pick (.t 20) (.c (.bool true)) (.t 26)⟩
 (.q ⟨(some 28), none, .mov (.t 27)⟩
 (.q ⟨(some 29), (some (28, false)), .mov (.t 4)⟩
 (.q ⟨(some 30), (some (28, false)), .bin .eql (.t 29) (.c (.int .u8 95))⟩
 (.q ⟨(some 31), none, .pick (.t 28) (.c (.bool true)) (.t 30)⟩
 (.q ⟨(some 5), none, .mov (.t 31)⟩
 .done))))))))))))))))))))
 (.cut (.seq (.reg (.q ⟨(some 32), none, .mov (.t 5)⟩
 (.q ⟨(some 33), none, .not (.t 32)⟩
 (.q ⟨(some 34), none, .mov (.t 33)⟩
 (.q ⟨(some 35), (some (34, true)), .mov (.t 3)⟩
 (.q ⟨(some 36), (some (34, true)), .bin .eql (.t 35) (.c (.int .i64 0))⟩
 (.q ⟨(some 37), (some (34, true)), .mov (.t 36)⟩
 (.q ⟨(some 38), (some (37, false)), .mov (.t 4)⟩
 (.q ⟨(some 39), (some (37, false)), .call 152 [(.t 38)]⟩
 (.q ⟨(some 40), (some (37, false)), .not (.t 39)⟩
 (.q ⟨(some 41), (some (34, true)), .pick (.t 37) (.c (.bool true)) (.t 40)⟩
 (.q ⟨(some 42), none, .pick (.t 34) (.t 41) (.c (.bool false))⟩
 .done))))))))))))
 (.cut (.cond (.t 42) (.seq (.reg (.q ⟨(some 2), none, .mov (.c (.bool false))⟩
 .done))
 .ret)
 .skip))))))))
 (.reg (.q ⟨(some 43), none, .bin .add (.t 8) (.c (.int .i64 1))⟩
 (.q ⟨(some 8), none, .mov (.t 43)⟩
 .done)))))))))
 (.cut (.seq (.reg (.q ⟨(some 44), none, .mov (.t 0)⟩
 (.q ⟨(some 45), none, .lenS (.t 44)⟩
 (.q ⟨(some 46), none, .call 86 [(.t 45), (.c (.int .i64 1)), (.c (.int .i64 40))]⟩
 (.q ⟨(some 2), none, .mov (.t 46)⟩
 .done)))))
 .ret))))
theorem fc85 : fcomp Try.prog Try.f85 = some (c85.erase, [.mov (.t 2)], 47) := by kernel_rfl
def impl_NameOK_L1  : List UInt8 → Nat → Option (Fl Bool Unit)
  | [], s8_60 =>
    some (.go ())
  | x_96 :: xs, s8_60 =>
    ((if (decide ((x_96.toNat : Int) ≥ 97)) then
    if (decide ((x_96.toNat : Int) ≤ 122)) then
    some true
    else
    if (decide ((x_96.toNat : Int) ≥ 65)) then
    if (decide ((x_96.toNat : Int) ≤ 90)) then
    some true
    else
    some ((x_96.toNat : Int) == 95)
    else
    some ((x_96.toNat : Int) == 95)
    else
    if (decide ((x_96.toNat : Int) ≥ 65)) then
    if (decide ((x_96.toNat : Int) ≤ 90)) then
    some true
    else
    some ((x_96.toNat : Int) == 95)
    else
    some ((x_96.toNat : Int) == 95) : Option Bool)).bind fun letter_103 =>
    ((if (!letter_103) then
    if ((s8_60 : Int) == 0) then
    some true
    else
    (impl_isDigit (x_96.toNat : Int)).bind fun r_119 =>
    some (!r_119)
    else
    some false : Option Bool)).bind fun s42_115 =>
    if s42_115 then
    some (.ret false)
    else
    impl_NameOK_L1 xs (s8_60 + 1)

def impl_NameOK (t_1 : Str) : Option Bool :=
    (impl_NameOK_L1 t_1 0).bind fun q => (match q with
    | .ret r => some r
    | .go _ =>
    (impl_within (t_1.length : Int) 1 40).bind fun r_123 =>
    some r_123)
theorem w_impl_NameOK (t_1 : Str) (r : Bool) (hf : impl_NameOK t_1 = some r) : CallOK Try.prog 85 .flat [(.str t_1)] (.bool r) := by
  refine CallOK.of_awp mixed Try.func85 fc85 nle ?_
  rw [argT_eq]
  unfold impl_NameOK at hf
  unfold c85
  refine (show awp Try.prog false 0 _ (ofL [(0, (.str t_1))]) [] _ from ?_)
  refine awp_seq ?_
  refine w_reg ?_
  refine s_do (o_mov (.bool false) rfl) ?_
  refine w_done ?_
  refine k_seq ?_
  refine awp_seq ?_
  refine awp_seq ?_
  refine w_reg ?_
  refine s_do (o_mov (.str t_1) rfl) ?_
  refine s_dof (o_lenS rfl) fun hl2 => ?_
  refine s_do (o_mov (.int .i64 0) rfl) ?_
  refine w_done ?_
  refine k_seq ?_
  obtain ⟨p89, hb1, hf⟩ := ob hf
  refine awp_cutx (X := {q : Unit // p89 = .go q}) (fun q => ([(0, (.str t_1))], [])) ?_ ?_
  · refine awp_loop (X := {q : Nat // impl_NameOK_L1 (t_1.drop q) q = some p89}) (fun q => ([(0, (.str t_1)), (7, (.int .i64 (t_1.length : Int))), (8, (.int .i64 (q.1 : Int)))], [])) (fun q => t_1.length - q.1) ⟨0, hb1⟩ ⟨[], [], _, _, rfl, rfl, ⟨.refl _, ⟨.refl _, ⟨.refl _, trivial⟩⟩⟩, (.refl _)⟩ ?_
    rintro ⟨s8_60, hc1⟩
    have hc1 : impl_NameOK_L1 (t_1.drop s8_60) s8_60 = some p89 := hc1
    refine (show awp Try.prog false 0 _ (ofL [(0, (.str t_1)), (7, (.int .i64 (t_1.length : Int))), (8, (.int .i64 (s8_60 : Int)))]) [] _ from ?_)
    rcases dropc t_1 s8_60 with ⟨hie92, hd95⟩ | ⟨hlt90, x_96, hx91, hd95⟩
    · rw [hd95, impl_NameOK_L1.eq_1] at hc1
      have hq94 := dlf hie92
      refine awp_seq ?_
      refine w_reg ?_
      refine s_do (o_q (.bool (decide ((s8_60 : Int) < (t_1.length : Int)))) rfl rfl rfl) ?_
      refine w_done ?_
      refine k_seq ?_
      refine awp_seq ?_
      refine w_condf rfl hq94 ?_
      refine w_exit ?_
      refine k_seqx ?_
      refine k_loopx ?_
      refine k_blkx ?_
      obtain rfl := os hc1
      exact k_cutn ⟨_, rfl⟩ ⟨[], [], _, _, rfl, rfl, ⟨.refl _, trivial⟩, (.refl _)⟩
    · rw [hd95, impl_NameOK_L1.eq_2] at hc1
      have hq94 := dlt hlt90
      refine awp_seq ?_
      refine w_reg ?_
      refine s_do (o_q (.bool (decide ((s8_60 : Int) < (t_1.length : Int)))) rfl rfl rfl) ?_
      refine w_done ?_
      refine k_seq ?_
      refine awp_seq ?_
      refine w_condt rfl hq94 ?_
      refine w_skip ?_
      refine k_seq ?_
      refine awp_seq ?_
      refine w_blk ?_
      refine awp_seq ?_
      refine w_reg ?_
      refine s_do (o_mov (.int .i64 (s8_60 : Int)) rfl) ?_
      refine s_do (o_mov (.int .i64 (s8_60 : Int)) rfl) ?_
      refine w_done ?_
      refine k_seq ?_
      refine awp_seq ?_
      refine w_reg ?_
      refine s_do (o_mov (.str t_1) rfl) ?_
      refine s_do (o_mov (.int .i64 (s8_60 : Int)) rfl) ?_
      refine s_do (o_idxsn rfl rfl hx91) ?_
      refine s_do (o_mov (.int .u8 (x_96.toNat : Int)) rfl) ?_
      refine w_done ?_
      refine k_seq ?_
      refine awp_seq ?_
      obtain ⟨letter_103, hb2, hc1⟩ := ob hc1
      refine awp_cut ([(0, (.str t_1)), (3, (.int .i64 (s8_60 : Int))), (4, (.int .u8 (x_96.toNat : Int))), (5, (.bool letter_103)), (7, (.int .i64 (t_1.length : Int))), (8, (.int .i64 (s8_60 : Int)))], []) ?_ ?_
      · refine w_reg ?_
        refine s_do (o_mov (.int .u8 (x_96.toNat : Int)) rfl) ?_
        refine s_do (o_q (.bool (decide ((x_96.toNat : Int) ≥ 97))) rfl rfl rfl) ?_
        refine s_do (o_mov (.bool (decide ((x_96.toNat : Int) ≥ 97))) rfl) ?_
        rcases oi hb2 with ⟨c105, hb2⟩ | ⟨c105, hb2⟩
        · refine s_lit (s := 16) (b := true) rfl c105 ?_
          refine s_on rfl ?_
          refine s_do (o_mov (.int .u8 (x_96.toNat : Int)) rfl) ?_
          refine s_on rfl ?_
          refine s_do (o_q (.bool (decide ((x_96.toNat : Int) ≤ 122))) rfl rfl rfl) ?_
          refine s_do (o_q (.bool (decide ((x_96.toNat : Int) ≤ 122))) rfl trivial rfl) ?_
          refine s_do (o_mov (.bool (decide ((x_96.toNat : Int) ≤ 122))) rfl) ?_
          rcases oi hb2 with ⟨c106, hb2⟩ | ⟨c106, hb2⟩
          · refine s_lit (s := 20) (b := true) rfl c106 ?_
            refine s_off rfl rfl ?_
            refine s_off rfl rfl ?_
            refine s_off rfl rfl ?_
            refine s_offs rfl ?_
            refine s_offs rfl ?_
            refine s_off rfl rfl ?_
            refine s_do (o_q (.bool true) rfl trivial rfl) ?_
            refine s_do (o_mov (.bool true) rfl) ?_
            refine s_off rfl rfl ?_
            refine s_off rfl rfl ?_
            refine s_do (o_q (.bool true) rfl trivial rfl) ?_
            refine s_do (o_mov (.bool true) rfl) ?_
            refine w_done ?_
            obtain rfl := os hb2
            exact ⟨[], [], _, _, rfl, rfl, ⟨.refl _, ⟨.refl _, ⟨.refl _, ⟨.refl _, ⟨.refl _, ⟨.refl _, trivial⟩⟩⟩⟩⟩⟩, (.refl _)⟩
          · refine s_lit (s := 20) (b := false) rfl (bf c106) ?_
            refine s_on rfl ?_
            refine s_do (o_mov (.int .u8 (x_96.toNat : Int)) rfl) ?_
            refine s_on rfl ?_
            refine s_do (o_q (.bool (decide ((x_96.toNat : Int) ≥ 65))) rfl rfl rfl) ?_
            refine s_on rfl ?_
            refine s_do (o_mov (.bool (decide ((x_96.toNat : Int) ≥ 65))) rfl) ?_
            rcases oi hb2 with ⟨c107, hb2⟩ | ⟨c107, hb2⟩
            · refine s_lit (s := 23) (b := true) rfl c107 ?_
              refine s_on rfl ?_
              refine s_do (o_mov (.int .u8 (x_96.toNat : Int)) rfl) ?_
              refine s_on rfl ?_
              refine s_do (o_q (.bool (decide ((x_96.toNat : Int) ≤ 90))) rfl rfl rfl) ?_
              refine s_on rfl ?_
              refine s_do (o_q (.bool (decide ((x_96.toNat : Int) ≤ 90))) rfl trivial rfl) ?_
              refine s_do (o_q (.bool (decide ((x_96.toNat : Int) ≤ 90))) rfl trivial rfl) ?_
              refine s_do (o_mov (.bool (decide ((x_96.toNat : Int) ≤ 90))) rfl) ?_
              rcases oi hb2 with ⟨c108, hb2⟩ | ⟨c108, hb2⟩
              · refine s_lit (s := 28) (b := true) rfl c108 ?_
                refine s_off rfl rfl ?_
                refine s_off rfl rfl ?_
                refine s_do (o_q (.bool true) rfl trivial rfl) ?_
                refine s_do (o_mov (.bool true) rfl) ?_
                refine w_done ?_
                obtain rfl := os hb2
                exact ⟨[], [], _, _, rfl, rfl, ⟨.refl _, ⟨.refl _, ⟨.refl _, ⟨.refl _, ⟨.refl _, ⟨.refl _, trivial⟩⟩⟩⟩⟩⟩, (.refl _)⟩
              · refine s_lit (s := 28) (b := false) rfl (bf c108) ?_
                refine s_on rfl ?_
                refine s_do (o_mov (.int .u8 (x_96.toNat : Int)) rfl) ?_
                refine s_on rfl ?_
                refine s_do (o_q (.bool ((x_96.toNat : Int) == 95)) rfl rfl rfl) ?_
                refine s_do (o_q (.bool ((x_96.toNat : Int) == 95)) rfl trivial rfl) ?_
                refine s_do (o_mov (.bool ((x_96.toNat : Int) == 95)) rfl) ?_
                refine w_done ?_
                obtain rfl := os hb2
                exact ⟨[], [], _, _, rfl, rfl, ⟨.refl _, ⟨.refl _, ⟨.refl _, ⟨.refl _, ⟨.refl _, ⟨.refl _, trivial⟩⟩⟩⟩⟩⟩, (.refl _)⟩
            · refine s_lit (s := 23) (b := false) rfl (bf c107) ?_
              refine s_off rfl rfl ?_
              refine s_off rfl rfl ?_
              refine s_on rfl ?_
              refine s_do (o_q (.bool false) rfl trivial rfl) ?_
              refine s_do (o_q (.bool false) rfl trivial rfl) ?_
              refine s_do (o_mov (.bool false) rfl) ?_
              refine s_on rfl ?_
              refine s_do (o_mov (.int .u8 (x_96.toNat : Int)) rfl) ?_
              refine s_on rfl ?_
              refine s_do (o_q (.bool ((x_96.toNat : Int) == 95)) rfl rfl rfl) ?_
              refine s_do (o_q (.bool ((x_96.toNat : Int) == 95)) rfl trivial rfl) ?_
              refine s_do (o_mov (.bool ((x_96.toNat : Int) == 95)) rfl) ?_
              refine w_done ?_
              obtain rfl := os hb2
              exact ⟨[], [], _, _, rfl, rfl, ⟨.refl _, ⟨.refl _, ⟨.refl _, ⟨.refl _, ⟨.refl _, ⟨.refl _, trivial⟩⟩⟩⟩⟩⟩, (.refl _)⟩
        · refine s_lit (s := 16) (b := false) rfl (bf c105) ?_
          refine s_off rfl rfl ?_
          refine s_off rfl rfl ?_
          refine s_do (o_q (.bool false) rfl trivial rfl) ?_
          refine s_do (o_mov (.bool false) rfl) ?_
          refine s_on rfl ?_
          refine s_do (o_mov (.int .u8 (x_96.toNat : Int)) rfl) ?_
          refine s_on rfl ?_
          refine s_do (o_q (.bool (decide ((x_96.toNat : Int) ≥ 65))) rfl rfl rfl) ?_
          refine s_on rfl ?_
          refine s_do (o_mov (.bool (decide ((x_96.toNat : Int) ≥ 65))) rfl) ?_
          rcases oi hb2 with ⟨c109, hb2⟩ | ⟨c109, hb2⟩
          · refine s_lit (s := 23) (b := true) rfl c109 ?_
            refine s_on rfl ?_
            refine s_do (o_mov (.int .u8 (x_96.toNat : Int)) rfl) ?_
            refine s_on rfl ?_
            refine s_do (o_q (.bool (decide ((x_96.toNat : Int) ≤ 90))) rfl rfl rfl) ?_
            refine s_on rfl ?_
            refine s_do (o_q (.bool (decide ((x_96.toNat : Int) ≤ 90))) rfl trivial rfl) ?_
            refine s_do (o_q (.bool (decide ((x_96.toNat : Int) ≤ 90))) rfl trivial rfl) ?_
            refine s_do (o_mov (.bool (decide ((x_96.toNat : Int) ≤ 90))) rfl) ?_
            rcases oi hb2 with ⟨c110, hb2⟩ | ⟨c110, hb2⟩
            · refine s_lit (s := 28) (b := true) rfl c110 ?_
              refine s_off rfl rfl ?_
              refine s_off rfl rfl ?_
              refine s_do (o_q (.bool true) rfl trivial rfl) ?_
              refine s_do (o_mov (.bool true) rfl) ?_
              refine w_done ?_
              obtain rfl := os hb2
              exact ⟨[], [], _, _, rfl, rfl, ⟨.refl _, ⟨.refl _, ⟨.refl _, ⟨.refl _, ⟨.refl _, ⟨.refl _, trivial⟩⟩⟩⟩⟩⟩, (.refl _)⟩
            · refine s_lit (s := 28) (b := false) rfl (bf c110) ?_
              refine s_on rfl ?_
              refine s_do (o_mov (.int .u8 (x_96.toNat : Int)) rfl) ?_
              refine s_on rfl ?_
              refine s_do (o_q (.bool ((x_96.toNat : Int) == 95)) rfl rfl rfl) ?_
              refine s_do (o_q (.bool ((x_96.toNat : Int) == 95)) rfl trivial rfl) ?_
              refine s_do (o_mov (.bool ((x_96.toNat : Int) == 95)) rfl) ?_
              refine w_done ?_
              obtain rfl := os hb2
              exact ⟨[], [], _, _, rfl, rfl, ⟨.refl _, ⟨.refl _, ⟨.refl _, ⟨.refl _, ⟨.refl _, ⟨.refl _, trivial⟩⟩⟩⟩⟩⟩, (.refl _)⟩
          · refine s_lit (s := 23) (b := false) rfl (bf c109) ?_
            refine s_off rfl rfl ?_
            refine s_off rfl rfl ?_
            refine s_on rfl ?_
            refine s_do (o_q (.bool false) rfl trivial rfl) ?_
            refine s_do (o_q (.bool false) rfl trivial rfl) ?_
            refine s_do (o_mov (.bool false) rfl) ?_
            refine s_on rfl ?_
            refine s_do (o_mov (.int .u8 (x_96.toNat : Int)) rfl) ?_
            refine s_on rfl ?_
            refine s_do (o_q (.bool ((x_96.toNat : Int) == 95)) rfl rfl rfl) ?_
            refine s_do (o_q (.bool ((x_96.toNat : Int) == 95)) rfl trivial rfl) ?_
            refine s_do (o_mov (.bool ((x_96.toNat : Int) == 95)) rfl) ?_
            refine w_done ?_
            obtain rfl := os hb2
            exact ⟨[], [], _, _, rfl, rfl, ⟨.refl _, ⟨.refl _, ⟨.refl _, ⟨.refl _, ⟨.refl _, ⟨.refl _, trivial⟩⟩⟩⟩⟩⟩, (.refl _)⟩
      · refine awp_seq ?_
        obtain ⟨s42_115, hb2, hc1⟩ := ob hc1
        refine awp_cut ([(0, (.str t_1)), (7, (.int .i64 (t_1.length : Int))), (8, (.int .i64 (s8_60 : Int))), (42, (.bool s42_115))], []) ?_ ?_
        · refine w_reg ?_
          rcases oi hb2 with ⟨c117, hb2⟩ | ⟨c117, hb2⟩
          · rcases oi hb2 with ⟨c118, hb2⟩ | ⟨c118, hb2⟩
            · refine s_do (o_mov (.bool letter_103) rfl) ?_
              refine s_do (o_q (.bool (!letter_103)) rfl trivial rfl) ?_
              refine s_do (o_mov (.bool (!letter_103)) rfl) ?_
              refine s_lit (s := 34) (b := true) rfl c117 ?_
              refine s_on rfl ?_
              refine s_do (o_mov (.int .i64 (s8_60 : Int)) rfl) ?_
              refine s_on rfl ?_
              refine s_do (o_q (.bool ((s8_60 : Int) == 0)) rfl rfl rfl) ?_
              refine s_on rfl ?_
              refine s_do (o_mov (.bool ((s8_60 : Int) == 0)) rfl) ?_
              refine s_lit (s := 37) (b := true) rfl c118 ?_
              refine s_off rfl rfl ?_
              refine s_off rfl rfl ?_
              refine s_off rfl rfl ?_
              refine s_on rfl ?_
              refine s_do (o_q (.bool true) rfl trivial rfl) ?_
              refine s_do (o_q (.bool true) rfl trivial rfl) ?_
              refine w_done ?_
              obtain rfl := os hb2
              exact ⟨[], [], _, _, rfl, rfl, ⟨.refl _, ⟨.refl _, ⟨.refl _, ⟨.refl _, trivial⟩⟩⟩⟩, (.refl _)⟩
            · obtain ⟨r_119, er120, hb2⟩ := ob hb2
              refine s_do (o_mov (.bool letter_103) rfl) ?_
              refine s_do (o_q (.bool (!letter_103)) rfl trivial rfl) ?_
              refine s_do (o_mov (.bool (!letter_103)) rfl) ?_
              refine s_lit (s := 34) (b := true) rfl c117 ?_
              refine s_on rfl ?_
              refine s_do (o_mov (.int .i64 (s8_60 : Int)) rfl) ?_
              refine s_on rfl ?_
              refine s_do (o_q (.bool ((s8_60 : Int) == 0)) rfl rfl rfl) ?_
              refine s_on rfl ?_
              refine s_do (o_mov (.bool ((s8_60 : Int) == 0)) rfl) ?_
              refine s_lit (s := 37) (b := false) rfl (bf c118) ?_
              refine s_on rfl ?_
              refine s_do (o_mov (.int .u8 (x_96.toNat : Int)) rfl) ?_
              refine s_on rfl ?_
              refine s_do (o_call (w_impl_isDigit _ _ er120) rfl (.refl _) rfl) ?_
              refine s_on rfl ?_
              refine s_do (o_q (.bool (!r_119)) rfl trivial rfl) ?_
              refine s_on rfl ?_
              refine s_do (o_q (.bool (!r_119)) rfl trivial rfl) ?_
              refine s_do (o_q (.bool (!r_119)) rfl trivial rfl) ?_
              refine w_done ?_
              obtain rfl := os hb2
              exact ⟨[], [], _, _, rfl, rfl, ⟨.refl _, ⟨.refl _, ⟨.refl _, ⟨.refl _, trivial⟩⟩⟩⟩, (.refl _)⟩
          · refine s_do (o_mov (.bool letter_103) rfl) ?_
            refine s_do (o_q (.bool (!letter_103)) rfl trivial rfl) ?_
            refine s_do (o_mov (.bool (!letter_103)) rfl) ?_
            refine s_lit (s := 34) (b := false) rfl (bf c117) ?_
            refine s_off rfl rfl ?_
            refine s_off rfl rfl ?_
            refine s_off rfl rfl ?_
            refine s_offs rfl ?_
            refine s_offs rfl ?_
            refine s_offs rfl ?_
            refine s_off rfl rfl ?_
            refine s_do (o_q (.bool false) rfl trivial rfl) ?_
            refine w_done ?_
            obtain rfl := os hb2
            exact ⟨[], [], _, _, rfl, rfl, ⟨.refl _, ⟨.refl _, ⟨.refl _, ⟨.refl _, trivial⟩⟩⟩⟩, (.refl _)⟩
        · rcases oi hc1 with ⟨c121, hc1⟩ | ⟨c121, hc1⟩
          · refine w_condt rfl c121 ?_
            refine awp_seq ?_
            refine w_reg ?_
            refine s_do (o_mov (.bool false) rfl) ?_
            refine w_done ?_
            refine k_seq ?_
            refine w_ret ?_
            obtain rfl := os hc1
            obtain rfl := os hf
            exact r_flat ⟨trivial, trivial⟩ rfl (.refl _)
          · refine w_condf rfl (bf c121) ?_
            refine w_skip ?_
            refine k_blk ?_
            refine k_seq ?_
            refine w_reg ?_
            refine s_do (o_q (.int .i64 (w64 ((s8_60 : Int) + 1))) rfl rfl rfl) ?_
            refine s_do (o_mov (.int .i64 (w64 ((s8_60 : Int) + 1))) rfl) ?_
            refine w_done ?_
            exact k_loopn ⟨(s8_60 + 1), hc1⟩ (mul hlt90) ⟨[], [], _, _, rfl, rfl, ⟨.refl _, ⟨.refl _, ⟨.of_eq (congrArg (AV.int _) (w64_incr hlt90 hl2)), trivial⟩⟩⟩, (.refl _)⟩
  · rintro ⟨_, rfl⟩
    refine awp_seq ?_
    refine w_reg ?_
    obtain ⟨r_123, er124, hf⟩ := ob hf
    refine s_do (o_mov (.str t_1) rfl) ?_
    refine s_dof (o_lenS rfl) fun hl122 => ?_
    refine s_do (o_call (w_impl_within _ _ _ _ er124) rfl (.refl _) rfl) ?_
    refine s_do (o_mov (.bool r_123) rfl) ?_
    refine w_done ?_
    refine k_seq ?_
    refine w_ret ?_
    obtain rfl := os hf
    exact r_flat ⟨trivial, trivial⟩ rfl (.refl _)

/- impl.isNumber -/
def c136 : ACode :=
 (.seq (.reg (.q ⟨(some 2), none, .mov (.c (.bool false))⟩
 .done))
 (.seq (.reg (.q ⟨(some 3), none, .mov (.t 0)⟩
 (.q ⟨(some 4), none, .call 86 [(.t 3), (.c (.int .i64 (-1000000000))), (.c (.int .i64 1000000000))]⟩
 (.q ⟨(some 2), none, .mov (.t 4)⟩
 .done))))
 .ret))
theorem fc136 : fcomp Try.prog Try.f136 = some (c136.erase, [.mov (.t 2)], 5) := by kernel_rfl
def impl_isNumber (n_1 : Int) : Option Bool :=
    (impl_within n_1 (-1000000000) 1000000000).bind fun r_2 =>
    some r_2
theorem w_impl_isNumber (n_1 : Int) (r : Bool) (hf : impl_isNumber n_1 = some r) : CallOK Try.prog 136 .flat [(.int .i64 n_1)] (.bool r) := by
  refine CallOK.of_awp mixed Try.func136 fc136 nle ?_
  rw [argT_eq]
  unfold impl_isNumber at hf
  unfold c136
  refine (show awp Try.prog false 0 _ (ofL [(0, (.int .i64 n_1))]) [] _ from ?_)
  refine awp_seq ?_
  refine w_reg ?_
  refine s_do (o_mov (.bool false) rfl) ?_
  refine w_done ?_
  refine k_seq ?_
  refine awp_seq ?_
  refine w_reg ?_
  obtain ⟨r_2, er3, hf⟩ := ob hf
  refine s_do (o_mov (.int .i64 n_1) rfl) ?_
  refine s_do (o_call (w_impl_within _ _ _ _ er3) rfl (.refl _) rfl) ?_
  refine s_do (o_mov (.bool r_2) rfl) ?_
  refine w_done ?_
  refine k_seq ?_
  refine w_ret ?_
  obtain rfl := os hf
  exact r_flat ⟨trivial, trivial⟩ rfl (.refl _)

/- impl.ColumnOK -/
def c60 : ACode :=
 (.seq (.reg (.q ⟨(some 1), none, .box 8 (.t 0)⟩
 (.q ⟨(some 2), none, .mov (.c (.bool false))⟩
 .done)))
 (.seq (.seq (.reg (.q ⟨(some 3), none, .faddr 0 (.t 1)⟩
 (.q ⟨(some 4), none, .load 1 false (.t 3)⟩
 (.q ⟨(some 5), none, .call 85 [(.t 4)]⟩
 (.q ⟨(some 6), none, .not (.t 5)⟩
 (.q ⟨(some 7), none, .mov (.t 6)⟩
 (.q ⟨(some 8), (some (7, false)), .faddr 2 (.t 1)⟩
 (.q ⟨(some 9), (some (7, false)), .load 1 false (.t 8)⟩
 (.q ⟨(some 10), (some (7, false)), .call 86 [(.t 9), (.c (.int .i64 0)), (.c (.int .i64 1))]⟩
 (.q ⟨(some 11), (some (7, false)), .not (.t 10)⟩
 (.q ⟨(some 12), none, .pick (.t 7) (.c (.bool true)) (.t 11)⟩
 (.q ⟨(some 13), none, .mov (.t 12)⟩
 (.q ⟨(some 14), (some (13, false)), .faddr 3 (.t 1)⟩
 (.q ⟨(some 15), (some (13, false)), .load 1 false (.t 14)⟩
 (.q ⟨(some 16), (some (13, false)), .call 86 [(.t 15), (.c (.int .i64 1)), (.c (.int .i64 8))]⟩
 (.q ⟨(some 17), (some (13, false)), .not (.t 16)⟩
 (.q ⟨(some 18), none, .pick (.t 13) (.c (.bool true)) (.t 17)⟩
 .done)))))))))))))))))
 (.cut (.cond (.t 18) (.seq (.reg (.q ⟨(some 2), none, .mov (.c (.bool false))⟩
 .done))
 .ret)
 .skip)))
 (.seq (.seq (.reg (.q ⟨(some 19), none, .faddr 1 (.t 1)⟩
 (.q ⟨(some 20), none, .load 1 false (.t 19)⟩
 .done)))
 (.block 0 (.seq (.reg (.q ⟨(some 22), none, .bin .eql (.t 20) (.c (.int .i64 1))⟩
 (.q ⟨(some 21), none, .mov (.t 22)⟩
 .done)))
 (.cond (.t 21) (.seq (.reg (.q ⟨(some 23), none, .faddr 4 (.t 1)⟩
 (.q ⟨(some 24), none, .load 1 false (.t 23)⟩
 (.q ⟨(some 25), none, .call 136 [(.t 24)]⟩
 (.q ⟨(some 26), none, .mov (.t 25)⟩
 (.q ⟨(some 27), (some (26, true)), .faddr 5 (.t 1)⟩
 (.q ⟨(some 28), (some (26, true)), .load 1 false (.t 27)⟩
 (.q ⟨(some 29), (some (26, true)), .call 136 [(.t 28)]⟩
 (.q ⟨(some 30), none, .pick (.t 26) (.t 29) (.c (.bool false))⟩
 (.q ⟨(some 31), none, .mov (.t 30)⟩
 (.q ⟨(some 32), (some (31, true)), .faddr 4 (.t 1)⟩
 (.q ⟨(some 33), (some (31, true)), .load 1 false (.t 32)⟩
 (.q ⟨(some 34), (some (31, true)), .faddr 5 (.t 1)⟩
 (.q ⟨(some 35), (some (31, true)), .load 1 false (.t 34)⟩
 (.q ⟨(some 36), (some (31, true)), .bin .leq (.t 33) (.t 35)⟩
 (.q ⟨(some 37), none, .pick (.t 31) (.t 36) (.c (.bool false))⟩
 (.q ⟨(some 38), none, .mov (.t 37)⟩
 (.q ⟨(some 39), (some (38, true)), .faddr 6 (.t 1)⟩
 (.q ⟨(some 40), (some (38, true)), .load 1 false (.t 39)⟩
 (.q ⟨(some 41), (some (38, true)), .bin .eql (.t 40) (.c (.str []))⟩
 (.q ⟨(some 42), none, .pick (.t 38) (.t 41) (.c (.bool false))⟩
 (.q ⟨(some 43), none, .mov (.t 42)⟩
 (.q ⟨(some 44), (some (43, true)), .faddr 7 (.t 1)⟩
 (.q ⟨(some 45), (some (43, true)), .load 1 false (.t 44)⟩
 (.q ⟨(some 46), (some (43, true)), .not (.t 45)⟩
 (.q ⟨(some 47), none, .pick (.t 43) (.t 46) (.c (.bool false))⟩
 (.q ⟨(some 2), none, .mov (.t 47)⟩
 .done)))))))))))))))))))))))))))
 .ret)
 (.seq (.seq (.reg (.q ⟨(some 49), none, .bin .eql (.t 20) (.c (.int .i64 2))⟩
 (.q ⟨(some 48), none, .mov (.t 49)⟩
 .done)))
 (.cond (.t 48) .skip
 (.reg (.q ⟨(some 50), none, .bin .eql (.t 20) (.c (.int .i64 3))⟩
 (.q ⟨(some 48), none, .mov (.t 50)⟩
 .done)))))
 (.cut (.cond (.t 48) (.seq (.reg (.q ⟨(some 51), none, .faddr 4 (.t 1)⟩
 (.q ⟨(some 52), none, .load 1 false (.t 51)⟩
 (.q ⟨(some 53), none, .bin .eql (.t 52) (.c (.int .i64 0))⟩
 (.q ⟨(some 54), none, .mov (.t 53)⟩
 (.q ⟨(some 55), (some (54, true)), .faddr 5 (.t 1)⟩
 (.q ⟨(some 56), (some (54, true)), .load 1 false (.t 55)⟩
 (.q ⟨(some 57), (some (54, true)), .bin .eql (.t 56) (.c (.int .i64 0))⟩
 (.q ⟨(some 58), none, .pick (.t 54) (.t 57) (.c (.bool false))⟩
 (.q ⟨(some 59), none, .mov (.t 58)⟩
 (.q ⟨(some 60), (some (59, true)), .faddr 6 (.t 1)⟩
 (.q ⟨(some 61), (some (59, true)), .load 1 false (.t 60)⟩
 (.q ⟨(some 62), (some (59, true)), .bin .eql (.t 61) (.c (.str []))⟩
 (.q ⟨(some 63), none, .pick (.t 59) (.t 62) (.c (.bool false))⟩
 (.q ⟨(some 64), none, .mov (.t 63)⟩
 (.q ⟨(some 65), (some (64, true)), .faddr 7 (.t 1)⟩
 (.q ⟨(some 66), (some (64, true)), .load 1 false (.t 65)⟩
 (.q ⟨(some 67), (some (64, true)), .not (.t 66)⟩
 (.q ⟨(some 68), none, .pick (.t 64) (.t 67) (.c (.bool false))⟩
 (.q ⟨(some 2), none, .mov (.t 68)⟩
 .done))))))))))))))))))))
 .ret)
 (.seq (.reg (.q ⟨(some 70), none, .bin .eql (.t 20) (.c (.int .i64 4))⟩
 (.q ⟨(some 69), none, .mov (.t 70)⟩
 .done)))
 (.cond (.t 69) (.seq (.reg (.q ⟨(some 71), none, .faddr 4 (.t 1)⟩
 (.q ⟨(some 72), none, .load 1 false (.t 71)⟩
 (.q ⟨(some 73), none, .bin .eql (.t 72) (.c (.int .i64 0))⟩
 (.q ⟨(some 74), none, .mov (.t 73)⟩
 (.q ⟨(some 75), (some (74, true)), .faddr 5 (.t 1)⟩
 (.q ⟨(some 76), (some (74, true)), .load 1 false (.t 75)⟩
 (.q ⟨(some 77), (some (74, true)), .bin .eql (.t 76) (.c (.int .i64 0))⟩
 (.q ⟨(some 78), none, .pick (.t 74) (.t 77) (.c (.bool false))⟩
 (.q ⟨(some 79), none, .mov (.t 78)⟩
 (.q ⟨(some 80), (some (79, true)), .faddr 6 (.t 1)⟩
 (.q ⟨(some 81), (some (79, true)), .load 1 false (.t 80)⟩
 (.q ⟨(some 82), (some (79, true)), .call 85 [(.t 81)]⟩
 (.q ⟨(some 83), none, .pick (.t 79) (.t 82) (.c (.bool false))⟩
 (.q ⟨(some 84), none, .mov (.t 83)⟩
 (.q ⟨(some 85), (some (84, true)), .faddr 2 (.t 1)⟩
 (.q ⟨(some 86), (some (84, true)), .load 1 false (.t 85)⟩
 (.q ⟨(some 87), (some (84, true)), .bin .eql (.t 86) (.c (.int .i64 0))⟩
 (.q ⟨(some 88), none, .pick (.t 84) (.t 87) (.c (.bool false))⟩
 (.q ⟨(some 2), none, .mov (.t 88)⟩
 .done))))))))))))))))))))
 .ret)
 .skip)))))))))
 (.seq (.reg (.q ⟨(some 2), none, .mov (.c (.bool false))⟩
 .done))
 .ret))))
theorem fc60 : fcomp Try.prog Try.f60 = some (c60.erase, [.mov (.t 2)], 89) := by kernel_rfl
def impl_ColumnOK (c_1 : GColumn) : Option Bool :=
    (((impl_NameOK c_1.Name).bind fun r_12 =>
    if (!r_12) then
    some true
    else
    (impl_within c_1.Min 0 1).bind fun r_15 =>
    if (!r_15) then
    some true
    else
    (impl_within c_1.Max 1 8).bind fun r_18 =>
    some (!r_18) : Option Bool)).bind fun s18_10 =>
    if s18_10 then
    some false
    else
    if (c_1.Kind == 1) then
    (impl_isNumber c_1.Low).bind fun r_22 =>
    if r_22 then
    (impl_isNumber c_1.High).bind fun r_25 =>
    if r_25 then
    if (decide (c_1.Low ≤ c_1.High)) then
    if (c_1.Ref == []) then
    some (!c_1.Strong)
    else
    some false
    else
    some false
    else
    some false
    else
    some false
    else
    ((if (c_1.Kind == 2) then
    some true
    else
    some (c_1.Kind == 3) : Option Bool)).bind fun s48_31 =>
    if s48_31 then
    if (c_1.Low == 0) then
    if (c_1.High == 0) then
    if (c_1.Ref == []) then
    some (!c_1.Strong)
    else
    some false
    else
    some false
    else
    some false
    else
    if (c_1.Kind == 4) then
    if (c_1.Low == 0) then
    if (c_1.High == 0) then
    (impl_NameOK c_1.Ref).bind fun r_41 =>
    if r_41 then
    some (c_1.Min == 0)
    else
    some false
    else
    some false
    else
    some false
    else
    some false
theorem w_impl_ColumnOK (c_1 : GColumn) (r : Bool) (hf : impl_ColumnOK c_1 = some r) : CallOK Try.prog 60 .flat [(encGColumn c_1)] (.bool r) := by
  refine CallOK.of_awp mixed Try.func60 fc60 nle ?_
  rw [argT_eq]
  unfold impl_ColumnOK at hf
  unfold c60
  refine (show awp Try.prog false 0 _ (ofL [(0, (encGColumn c_1))]) [] _ from ?_)
  refine awp_seq ?_
  refine w_reg ?_
  refine s_do (o_box (j := 0) (c := (.agg [(.str c_1.Name), (.int .i64 c_1.Kind), (.int .i64 c_1.Min), (.int .i64 c_1.Max), (.int .i64 c_1.Low), (.int .i64 c_1.High), (.str c_1.Ref), (.bool c_1.Strong)])) rfl trivial rfl rfl) ?_
  refine s_do (o_mov (.bool false) rfl) ?_
  refine w_done ?_
  refine k_seq ?_
  refine awp_seq ?_
  refine awp_seq ?_
  obtain ⟨s18_10, hb1, hf⟩ := ob hf
  refine awp_cut ([(1, (.ptr 0 0 0)), (18, (.bool s18_10))], [.box 8 (.agg [(.str c_1.Name), (.int .i64 c_1.Kind), (.int .i64 c_1.Min), (.int .i64 c_1.Max), (.int .i64 c_1.Low), (.int .i64 c_1.High), (.str c_1.Ref), (.bool c_1.Strong)])]) ?_ ?_
  · refine w_reg ?_
    refine s_do (o_q (.ptr 0 0 0) rfl trivial rfl) ?_
    refine s_do (o_q (.str c_1.Name) rfl nle rfl) ?_
    obtain ⟨r_12, er13, hb1⟩ := ob hb1
    refine s_do (o_call (w_impl_NameOK _ _ er13) rfl (.refl _) rfl) ?_
    refine s_do (o_q (.bool (!r_12)) rfl trivial rfl) ?_
    refine s_do (o_mov (.bool (!r_12)) rfl) ?_
    rcases oi hb1 with ⟨c14, hb1⟩ | ⟨c14, hb1⟩
    · refine s_lit (s := 7) (b := true) rfl c14 ?_
      refine s_off rfl rfl ?_
      refine s_off rfl rfl ?_
      refine s_off rfl rfl ?_
      refine s_off rfl rfl ?_
      refine s_do (o_q (.bool true) rfl trivial rfl) ?_
      refine s_do (o_mov (.bool true) rfl) ?_
      refine s_off rfl rfl ?_
      refine s_off rfl rfl ?_
      refine s_off rfl rfl ?_
      refine s_off rfl rfl ?_
      refine s_do (o_q (.bool true) rfl trivial rfl) ?_
      refine w_done ?_
      obtain rfl := os hb1
      exact ⟨[], [0], _, _, rfl, rfl, ⟨.refl _, ⟨.refl _, trivial⟩⟩, (.refl _)⟩
    · refine s_lit (s := 7) (b := false) rfl (bf c14) ?_
      refine s_on rfl ?_
      refine s_do (o_q (.ptr 0 0 2) rfl trivial rfl) ?_
      refine s_on rfl ?_
      refine s_do (o_q (.int .i64 c_1.Min) rfl nle rfl) ?_
      refine s_on rfl ?_
      obtain ⟨r_15, er16, hb1⟩ := ob hb1
      refine s_do (o_call (w_impl_within _ _ _ _ er16) rfl (.refl _) rfl) ?_
      refine s_on rfl ?_
      refine s_do (o_q (.bool (!r_15)) rfl trivial rfl) ?_
      refine s_do (o_q (.bool (!r_15)) rfl trivial rfl) ?_
      refine s_do (o_mov (.bool (!r_15)) rfl) ?_
      rcases oi hb1 with ⟨c17, hb1⟩ | ⟨c17, hb1⟩
      · refine s_lit (s := 13) (b := true) rfl c17 ?_
        refine s_off rfl rfl ?_
        refine s_off rfl rfl ?_
        refine s_off rfl rfl ?_
        refine s_off rfl rfl ?_
        refine s_do (o_q (.bool true) rfl trivial rfl) ?_
        refine w_done ?_
        obtain rfl := os hb1
        exact ⟨[], [0], _, _, rfl, rfl, ⟨.refl _, ⟨.refl _, trivial⟩⟩, (.refl _)⟩
      · refine s_lit (s := 13) (b := false) rfl (bf c17) ?_
        refine s_on rfl ?_
        refine s_do (o_q (.ptr 0 0 3) rfl trivial rfl) ?_
        refine s_on rfl ?_
        refine s_do (o_q (.int .i64 c_1.Max) rfl nle rfl) ?_
        refine s_on rfl ?_
        obtain ⟨r_18, er19, hb1⟩ := ob hb1
        refine s_do (o_call (w_impl_within _ _ _ _ er19) rfl (.refl _) rfl) ?_
        refine s_on rfl ?_
        refine s_do (o_q (.bool (!r_18)) rfl trivial rfl) ?_
        refine s_do (o_q (.bool (!r_18)) rfl trivial rfl) ?_
        refine w_done ?_
        obtain rfl := os hb1
        exact ⟨[], [0], _, _, rfl, rfl, ⟨.refl _, ⟨.refl _, trivial⟩⟩, (.refl _)⟩
  · rcases oi hf with ⟨c20, hf⟩ | ⟨c20, hf⟩
    · refine w_condt rfl c20 ?_
      refine awp_seq ?_
      refine w_reg ?_
      refine s_do (o_mov (.bool false) rfl) ?_
      refine w_done ?_
      refine k_seq ?_
      refine w_ret ?_
      obtain rfl := os hf
      exact r_flat ⟨trivial, trivial⟩ rfl (.refl _)
    · refine w_condf rfl (bf c20) ?_
      refine w_skip ?_
      refine k_seq ?_
      refine awp_seq ?_
      refine awp_seq ?_
      refine w_reg ?_
      refine s_do (o_q (.ptr 0 0 1) rfl trivial rfl) ?_
      refine s_do (o_q (.int .i64 c_1.Kind) rfl nle rfl) ?_
      refine w_done ?_
      refine k_seq ?_
      refine w_blk ?_
      refine awp_seq ?_
      refine w_reg ?_
      refine s_do (o_q (.bool (c_1.Kind == 1)) rfl rfl rfl) ?_
      refine s_do (o_mov (.bool (c_1.Kind == 1)) rfl) ?_
      refine w_done ?_
      refine k_seq ?_
      rcases oi hf with ⟨c21, hf⟩ | ⟨c21, hf⟩
      · refine w_condt rfl c21 ?_
        refine awp_seq ?_
        refine w_reg ?_
        refine s_do (o_q (.ptr 0 0 4) rfl trivial rfl) ?_
        refine s_do (o_q (.int .i64 c_1.Low) rfl nle rfl) ?_
        obtain ⟨r_22, er23, hf⟩ := ob hf
        refine s_do (o_call (w_impl_isNumber _ _ er23) rfl (.refl _) rfl) ?_
        refine s_do (o_mov (.bool r_22) rfl) ?_
        rcases oi hf with ⟨c24, hf⟩ | ⟨c24, hf⟩
        · refine s_lit (s := 26) (b := true) rfl c24 ?_
          refine s_on rfl ?_
          refine s_do (o_q (.ptr 0 0 5) rfl trivial rfl) ?_
          refine s_on rfl ?_
          refine s_do (o_q (.int .i64 c_1.High) rfl nle rfl) ?_
          refine s_on rfl ?_
          obtain ⟨r_25, er26, hf⟩ := ob hf
          refine s_do (o_call (w_impl_isNumber _ _ er26) rfl (.refl _) rfl) ?_
          refine s_do (o_q (.bool r_25) rfl trivial rfl) ?_
          refine s_do (o_mov (.bool r_25) rfl) ?_
          rcases oi hf with ⟨c27, hf⟩ | ⟨c27, hf⟩
          · refine s_lit (s := 31) (b := true) rfl c27 ?_
            refine s_on rfl ?_
            refine s_do (o_q (.ptr 0 0 4) rfl trivial rfl) ?_
            refine s_on rfl ?_
            refine s_do (o_q (.int .i64 c_1.Low) rfl nle rfl) ?_
            refine s_on rfl ?_
            refine s_do (o_q (.ptr 0 0 5) rfl trivial rfl) ?_
            refine s_on rfl ?_
            refine s_do (o_q (.int .i64 c_1.High) rfl nle rfl) ?_
            refine s_on rfl ?_
            refine s_do (o_q (.bool (decide (c_1.Low ≤ c_1.High))) rfl rfl rfl) ?_
            refine s_do (o_q (.bool (decide (c_1.Low ≤ c_1.High))) rfl trivial rfl) ?_
            refine s_do (o_mov (.bool (decide (c_1.Low ≤ c_1.High))) rfl) ?_
            rcases oi hf with ⟨c28, hf⟩ | ⟨c28, hf⟩
            · refine s_lit (s := 38) (b := true) rfl c28 ?_
              refine s_on rfl ?_
              refine s_do (o_q (.ptr 0 0 6) rfl trivial rfl) ?_
              refine s_on rfl ?_
              refine s_do (o_q (.str c_1.Ref) rfl nle rfl) ?_
              refine s_on rfl ?_
              refine s_do (o_q (.bool (c_1.Ref == [])) rfl trivial rfl) ?_
              refine s_do (o_q (.bool (c_1.Ref == [])) rfl trivial rfl) ?_
              refine s_do (o_mov (.bool (c_1.Ref == [])) rfl) ?_
              rcases oi hf with ⟨c29, hf⟩ | ⟨c29, hf⟩
              · refine s_lit (s := 43) (b := true) rfl c29 ?_
                refine s_on rfl ?_
                refine s_do (o_q (.ptr 0 0 7) rfl trivial rfl) ?_
                refine s_on rfl ?_
                refine s_do (o_q (.bool c_1.Strong) rfl nle rfl) ?_
                refine s_on rfl ?_
                refine s_do (o_q (.bool (!c_1.Strong)) rfl trivial rfl) ?_
                refine s_do (o_q (.bool (!c_1.Strong)) rfl trivial rfl) ?_
                refine s_do (o_mov (.bool (!c_1.Strong)) rfl) ?_
                refine w_done ?_
                refine k_seq ?_
                refine w_ret ?_
                obtain rfl := os hf
                exact r_flat ⟨trivial, trivial⟩ rfl (.refl _)
              · refine s_lit (s := 43) (b := false) rfl (bf c29) ?_
                refine s_off rfl rfl ?_
                refine s_off rfl rfl ?_
                refine s_off rfl rfl ?_
                refine s_do (o_q (.bool false) rfl trivial rfl) ?_
                refine s_do (o_mov (.bool false) rfl) ?_
                refine w_done ?_
                refine k_seq ?_
                refine w_ret ?_
                obtain rfl := os hf
                exact r_flat ⟨trivial, trivial⟩ rfl (.refl _)
            · refine s_lit (s := 38) (b := false) rfl (bf c28) ?_
              refine s_off rfl rfl ?_
              refine s_off rfl rfl ?_
              refine s_off rfl rfl ?_
              refine s_do (o_q (.bool false) rfl trivial rfl) ?_
              refine s_do (o_mov (.bool false) rfl) ?_
              refine s_off rfl rfl ?_
              refine s_off rfl rfl ?_
              refine s_off rfl rfl ?_
              refine s_do (o_q (.bool false) rfl trivial rfl) ?_
              refine s_do (o_mov (.bool false) rfl) ?_
              refine w_done ?_
              refine k_seq ?_
              refine w_ret ?_
              obtain rfl := os hf
              exact r_flat ⟨trivial, trivial⟩ rfl (.refl _)
          · refine s_lit (s := 31) (b := false) rfl (bf c27) ?_
            refine s_off rfl rfl ?_
            refine s_off rfl rfl ?_
            refine s_off rfl rfl ?_
            refine s_off rfl rfl ?_
            refine s_off rfl rfl ?_
            refine s_do (o_q (.bool false) rfl trivial rfl) ?_
            refine s_do (o_mov (.bool false) rfl) ?_
            refine s_off rfl rfl ?_
            refine s_off rfl rfl ?_
            refine s_off rfl rfl ?_
            refine s_do (o_q (.bool false) rfl trivial rfl) ?_
            refine s_do (o_mov (.bool false) rfl) ?_
            refine s_off rfl rfl ?_
            refine s_off rfl rfl ?_
            refine s_off rfl rfl ?_
            refine s_do (o_q (.bool false) rfl trivial rfl) ?_
            refine s_do (o_mov (.bool false) rfl) ?_
            refine w_done ?_
            refine k_seq ?_
            refine w_ret ?_
            obtain rfl := os hf
            exact r_flat ⟨trivial, trivial⟩ rfl (.refl _)
        · refine s_lit (s := 26) (b := false) rfl (bf c24) ?_
          refine s_off rfl rfl ?_
          refine s_off rfl rfl ?_
          refine s_off rfl rfl ?_
          refine s_do (o_q (.bool false) rfl trivial rfl) ?_
          refine s_do (o_mov (.bool false) rfl) ?_
          refine s_off rfl rfl ?_
          refine s_off rfl rfl ?_
          refine s_off rfl rfl ?_
          refine s_off rfl rfl ?_
          refine s_off rfl rfl ?_
          refine s_do (o_q (.bool false) rfl trivial rfl) ?_
          refine s_do (o_mov (.bool false) rfl) ?_
          refine s_off rfl rfl ?_
          refine s_off rfl rfl ?_
          refine s_off rfl rfl ?_
          refine s_do (o_q (.bool false) rfl trivial rfl) ?_
          refine s_do (o_mov (.bool false) rfl) ?_
          refine s_off rfl rfl ?_
          refine s_off rfl rfl ?_
          refine s_off rfl rfl ?_
          refine s_do (o_q (.bool false) rfl trivial rfl) ?_
          refine s_do (o_mov (.bool false) rfl) ?_
          refine w_done ?_
          refine k_seq ?_
          refine w_ret ?_
          obtain rfl := os hf
          exact r_flat ⟨trivial, trivial⟩ rfl (.refl _)
      · refine w_condf rfl (bf c21) ?_
        refine awp_seq ?_
        obtain ⟨s48_31, hb1, hf⟩ := ob hf
        refine awp_cut ([(1, (.ptr 0 0 0)), (20, (.int .i64 c_1.Kind)), (48, (.bool s48_31))], [.box 8 (.agg [(.str c_1.Name), (.int .i64 c_1.Kind), (.int .i64 c_1.Min), (.int .i64 c_1.Max), (.int .i64 c_1.Low), (.int .i64 c_1.High), (.str c_1.Ref), (.bool c_1.Strong)])]) ?_ ?_
        · refine awp_seq ?_
          refine w_reg ?_
          refine s_do (o_q (.bool (c_1.Kind == 2)) rfl rfl rfl) ?_
          refine s_do (o_mov (.bool (c_1.Kind == 2)) rfl) ?_
          refine w_done ?_
          refine k_seq ?_
          rcases oi hb1 with ⟨c33, hb1⟩ | ⟨c33, hb1⟩
          · refine w_condt rfl c33 ?_
            refine w_skip ?_
            obtain rfl := os hb1
            exact ⟨[], [0], _, _, rfl, rfl, ⟨.refl _, ⟨.refl _, ⟨.refl _, trivial⟩⟩⟩, (.refl _)⟩
          · refine w_condf rfl (bf c33) ?_
            refine w_reg ?_
            refine s_do (o_q (.bool (c_1.Kind == 3)) rfl rfl rfl) ?_
            refine s_do (o_mov (.bool (c_1.Kind == 3)) rfl) ?_
            refine w_done ?_
            obtain rfl := os hb1
            exact ⟨[], [0], _, _, rfl, rfl, ⟨.refl _, ⟨.refl _, ⟨.refl _, trivial⟩⟩⟩, (.refl _)⟩
        · rcases oi hf with ⟨c34, hf⟩ | ⟨c34, hf⟩
          · refine w_condt rfl c34 ?_
            refine awp_seq ?_
            refine w_reg ?_
            refine s_do (o_q (.ptr 0 0 4) rfl trivial rfl) ?_
            refine s_do (o_q (.int .i64 c_1.Low) rfl nle rfl) ?_
            refine s_do (o_q (.bool (c_1.Low == 0)) rfl rfl rfl) ?_
            refine s_do (o_mov (.bool (c_1.Low == 0)) rfl) ?_
            rcases oi hf with ⟨c35, hf⟩ | ⟨c35, hf⟩
            · refine s_lit (s := 54) (b := true) rfl c35 ?_
              refine s_on rfl ?_
              refine s_do (o_q (.ptr 0 0 5) rfl trivial rfl) ?_
              refine s_on rfl ?_
              refine s_do (o_q (.int .i64 c_1.High) rfl nle rfl) ?_
              refine s_on rfl ?_
              refine s_do (o_q (.bool (c_1.High == 0)) rfl rfl rfl) ?_
              refine s_do (o_q (.bool (c_1.High == 0)) rfl trivial rfl) ?_
              refine s_do (o_mov (.bool (c_1.High == 0)) rfl) ?_
              rcases oi hf with ⟨c36, hf⟩ | ⟨c36, hf⟩
              · refine s_lit (s := 59) (b := true) rfl c36 ?_
                refine s_on rfl ?_
                refine s_do (o_q (.ptr 0 0 6) rfl trivial rfl) ?_
                refine s_on rfl ?_
                refine s_do (o_q (.str c_1.Ref) rfl nle rfl) ?_
                refine s_on rfl ?_
                refine s_do (o_q (.bool (c_1.Ref == [])) rfl trivial rfl) ?_
                refine s_do (o_q (.bool (c_1.Ref == [])) rfl trivial rfl) ?_
                refine s_do (o_mov (.bool (c_1.Ref == [])) rfl) ?_
                rcases oi hf with ⟨c37, hf⟩ | ⟨c37, hf⟩
                · refine s_lit (s := 64) (b := true) rfl c37 ?_
                  refine s_on rfl ?_
                  refine s_do (o_q (.ptr 0 0 7) rfl trivial rfl) ?_
                  refine s_on rfl ?_
                  refine s_do (o_q (.bool c_1.Strong) rfl nle rfl) ?_
                  refine s_on rfl ?_
                  refine s_do (o_q (.bool (!c_1.Strong)) rfl trivial rfl) ?_
                  refine s_do (o_q (.bool (!c_1.Strong)) rfl trivial rfl) ?_
                  refine s_do (o_mov (.bool (!c_1.Strong)) rfl) ?_
                  refine w_done ?_
                  refine k_seq ?_
                  refine w_ret ?_
                  obtain rfl := os hf
                  exact r_flat ⟨trivial, trivial⟩ rfl (.refl _)
                · refine s_lit (s := 64) (b := false) rfl (bf c37) ?_
                  refine s_off rfl rfl ?_
                  refine s_off rfl rfl ?_
                  refine s_off rfl rfl ?_
                  refine s_do (o_q (.bool false) rfl trivial rfl) ?_
                  refine s_do (o_mov (.bool false) rfl) ?_
                  refine w_done ?_
                  refine k_seq ?_
                  refine w_ret ?_
                  obtain rfl := os hf
                  exact r_flat ⟨trivial, trivial⟩ rfl (.refl _)
              · refine s_lit (s := 59) (b := false) rfl (bf c36) ?_
                refine s_off rfl rfl ?_
                refine s_off rfl rfl ?_
                refine s_off rfl rfl ?_
                refine s_do (o_q (.bool false) rfl trivial rfl) ?_
                refine s_do (o_mov (.bool false) rfl) ?_
                refine s_off rfl rfl ?_
                refine s_off rfl rfl ?_
                refine s_off rfl rfl ?_
                refine s_do (o_q (.bool false) rfl trivial rfl) ?_
                refine s_do (o_mov (.bool false) rfl) ?_
                refine w_done ?_
                refine k_seq ?_
                refine w_ret ?_
                obtain rfl := os hf
                exact r_flat ⟨trivial, trivial⟩ rfl (.refl _)
            · refine s_lit (s := 54) (b := false) rfl (bf c35) ?_
              refine s_off rfl rfl ?_
              refine s_off rfl rfl ?_
              refine s_off rfl rfl ?_
              refine s_do (o_q (.bool false) rfl trivial rfl) ?_
              refine s_do (o_mov (.bool false) rfl) ?_
              refine s_off rfl rfl ?_
              refine s_off rfl rfl ?_
              refine s_off rfl rfl ?_
              refine s_do (o_q (.bool false) rfl trivial rfl) ?_
              refine s_do (o_mov (.bool false) rfl) ?_
              refine s_off rfl rfl ?_
              refine s_off rfl rfl ?_
              refine s_off rfl rfl ?_
              refine s_do (o_q (.bool false) rfl trivial rfl) ?_
              refine s_do (o_mov (.bool false) rfl) ?_
              refine w_done ?_
              refine k_seq ?_
              refine w_ret ?_
              obtain rfl := os hf
              exact r_flat ⟨trivial, trivial⟩ rfl (.refl _)
          · refine w_condf rfl (bf c34) ?_
            refine awp_seq ?_
            refine w_reg ?_
            refine s_do (o_q (.bool (c_1.Kind == 4)) rfl rfl rfl) ?_
            refine s_do (o_mov (.bool (c_1.Kind == 4)) rfl) ?_
            refine w_done ?_
            refine k_seq ?_
            rcases oi hf with ⟨c38, hf⟩ | ⟨c38, hf⟩
            · refine w_condt rfl c38 ?_
              refine awp_seq ?_
              refine w_reg ?_
              refine s_do (o_q (.ptr 0 0 4) rfl trivial rfl) ?_
              refine s_do (o_q (.int .i64 c_1.Low) rfl nle rfl) ?_
              refine s_do (o_q (.bool (c_1.Low == 0)) rfl rfl rfl) ?_
              refine s_do (o_mov (.bool (c_1.Low == 0)) rfl) ?_
              rcases oi hf with ⟨c39, hf⟩ | ⟨c39, hf⟩
              · refine s_lit (s := 74) (b := true) rfl c39 ?_
                refine s_on rfl ?_
                refine s_do (o_q (.ptr 0 0 5) rfl trivial rfl) ?_
                refine s_on rfl ?_
                refine s_do (o_q (.int .i64 c_1.High) rfl nle rfl) ?_
                refine s_on rfl ?_
                refine s_do (o_q (.bool (c_1.High == 0)) rfl rfl rfl) ?_
                refine s_do (o_q (.bool (c_1.High == 0)) rfl trivial rfl) ?_
                refine s_do (o_mov (.bool (c_1.High == 0)) rfl) ?_
                rcases oi hf with ⟨c40, hf⟩ | ⟨c40, hf⟩
                · refine s_lit (s := 79) (b := true) rfl c40 ?_
                  refine s_on rfl ?_
                  refine s_do (o_q (.ptr 0 0 6) rfl trivial rfl) ?_
                  refine s_on rfl ?_
                  refine s_do (o_q (.str c_1.Ref) rfl nle rfl) ?_
                  refine s_on rfl ?_
                  obtain ⟨r_41, er42, hf⟩ := ob hf
                  refine s_do (o_call (w_impl_NameOK _ _ er42) rfl (.refl _) rfl) ?_
                  refine s_do (o_q (.bool r_41) rfl trivial rfl) ?_
                  refine s_do (o_mov (.bool r_41) rfl) ?_
                  rcases oi hf with ⟨c43, hf⟩ | ⟨c43, hf⟩
                  · refine s_lit (s := 84) (b := true) rfl c43 ?_
                    refine s_on rfl ?_
                    refine s_do (o_q (.ptr 0 0 2) rfl trivial rfl) ?_
                    refine s_on rfl ?_
                    refine s_do (o_q (.int .i64 c_1.Min) rfl nle rfl) ?_
                    refine s_on rfl ?_
                    refine s_do (o_q (.bool (c_1.Min == 0)) rfl rfl rfl) ?_
                    refine s_do (o_q (.bool (c_1.Min == 0)) rfl trivial rfl) ?_
                    refine s_do (o_mov (.bool (c_1.Min == 0)) rfl) ?_
                    refine w_done ?_
                    refine k_seq ?_
                    refine w_ret ?_
                    obtain rfl := os hf
                    exact r_flat ⟨trivial, trivial⟩ rfl (.refl _)
                  · refine s_lit (s := 84) (b := false) rfl (bf c43) ?_
                    refine s_off rfl rfl ?_
                    refine s_off rfl rfl ?_
                    refine s_off rfl rfl ?_
                    refine s_do (o_q (.bool false) rfl trivial rfl) ?_
                    refine s_do (o_mov (.bool false) rfl) ?_
                    refine w_done ?_
                    refine k_seq ?_
                    refine w_ret ?_
                    obtain rfl := os hf
                    exact r_flat ⟨trivial, trivial⟩ rfl (.refl _)
                · refine s_lit (s := 79) (b := false) rfl (bf c40) ?_
                  refine s_off rfl rfl ?_
                  refine s_off rfl rfl ?_
                  refine s_off rfl rfl ?_
                  refine s_do (o_q (.bool false) rfl trivial rfl) ?_
                  refine s_do (o_mov (.bool false) rfl) ?_
                  refine s_off rfl rfl ?_
                  refine s_off rfl rfl ?_
                  refine s_off rfl rfl ?_
                  refine s_do (o_q (.bool false) rfl trivial rfl) ?_
                  refine s_do (o_mov (.bool false) rfl) ?_
                  refine w_done ?_
                  refine k_seq ?_
                  refine w_ret ?_
                  obtain rfl := os hf
                  exact r_flat ⟨trivial, trivial⟩ rfl (.refl _)
              · refine s_lit (s := 74) (b := false) rfl (bf c39) ?_
                refine s_off rfl rfl ?_
                refine s_off rfl rfl ?_
                refine s_off rfl rfl ?_
                refine s_do (o_q (.bool false) rfl trivial rfl) ?_
                refine s_do (o_mov (.bool false) rfl) ?_
                refine s_off rfl rfl ?_
                refine s_off rfl rfl ?_
                refine s_off rfl rfl ?_
                refine s_do (o_q (.bool false) rfl trivial rfl) ?_
                refine s_do (o_mov (.bool false) rfl) ?_
                refine s_off rfl rfl ?_
                refine s_off rfl rfl ?_
                refine s_off rfl rfl ?_
                refine s_do (o_q (.bool false) rfl trivial rfl) ?_
                refine s_do (o_mov (.bool false) rfl) ?_
                refine w_done ?_
                refine k_seq ?_
                refine w_ret ?_
                obtain rfl := os hf
                exact r_flat ⟨trivial, trivial⟩ rfl (.refl _)
            · refine w_condf rfl (bf c38) ?_
              refine w_skip ?_
              refine k_blk ?_
              refine k_seq ?_
              refine awp_seq ?_
              refine w_reg ?_
              refine s_do (o_mov (.bool false) rfl) ?_
              refine w_done ?_
              refine k_seq ?_
              refine w_ret ?_
              obtain rfl := os hf
              exact r_flat ⟨trivial, trivial⟩ rfl (.refl _)

/- (impl.Column).start -/
def c127 : ACode :=
 (.seq (.reg (.q ⟨(some 1), none, .box 8 (.t 0)⟩
 (.q ⟨(some 2), none, .mov (.c .nil)⟩
 .done)))
 (.seq (.seq (.reg (.q ⟨(some 4), none, .faddr 2 (.t 1)⟩
 (.q ⟨(some 5), none, .load 1 false (.t 4)⟩
 (.q ⟨(some 6), none, .bin .eql (.t 5) (.c (.int .i64 0))⟩
 .done))))
 (.cond (.t 6) (.seq (.reg (.q ⟨(some 2), none, .mov (.c .nil)⟩
 .done))
 .ret)
 .skip))
 (.seq (.reg (.q ⟨(some 7), none, .faddr 1 (.t 1)⟩
 (.q ⟨(some 8), none, .load 1 false (.t 7)⟩
 (.q ⟨(some 9), none, .build [(.int .i64 0), (.int .i64 0), (.str [])] [(0, 1, (.t 8))]⟩
 (.q ⟨(some 3), none, .box 3 (.c (.agg [(.int .i64 0), (.int .i64 0), (.str [])]))⟩
 (.q ⟨none, none, .store 3 (.t 3) (.t 9)⟩
 .done))))))
 (.seq (.seq (.reg (.q ⟨(some 10), none, .faddr 1 (.t 1)⟩
 (.q ⟨(some 11), none, .load 1 false (.t 10)⟩
 (.q ⟨(some 12), none, .bin .eql (.t 11) (.c (.int .i64 1))⟩
 .done))))
 (.cond (.t 12) (.reg (.q ⟨(some 13), none, .faddr 4 (.t 1)⟩
 (.q ⟨(some 14), none, .load 1 false (.t 13)⟩
 (.q ⟨(some 15), none, .faddr 5 (.t 1)⟩
 (.q ⟨(some 16), none, .load 1 false (.t 15)⟩
 (.q ⟨(some 17), none, .mnmx false (.t 16) (.c (.int .i64 0))⟩
 (.q ⟨(some 18), none, .mnmx true (.t 14) (.t 17)⟩
 (.q ⟨(some 19), none, .faddr 1 (.t 3)⟩
 (.q ⟨none, none, .store 1 (.t 19) (.t 18)⟩
 .done)))))))))
 .skip))
 (.cut (.seq (.reg (.q ⟨(some 20), none, .load 3 true (.t 3)⟩
 (.q ⟨(some 21), none, .bslice 3 [(.t 20)]⟩
 (.q ⟨(some 2), none, .mov (.t 21)⟩
 .done))))
 .ret))))))
theorem fc127 : fcomp Try.prog Try.f127 = some (c127.erase, [.mov (.t 2)], 22) := by kernel_rfl
def impl_Column_start (c_1 : GColumn) : Option (List GAtom) :=
    if (c_1.Min == 0) then
    some []
    else
    ((if (c_1.Kind == 1) then
    some (if (if 0 < c_1.High then 0 else c_1.High) > c_1.Low then (if 0 < c_1.High then 0 else c_1.High) else c_1.Low)
    else
    some 0 : Option Int)).bind fun x_4 =>
    some [(⟨c_1.Kind, x_4, []⟩ : GAtom)]
theorem w_impl_Column_start (c_1 : GColumn) (r : (List GAtom)) (hf : impl_Column_start c_1 = some r) : CallOK Try.prog 127 .fresh [(encGColumn c_1)] (.lst 3 (r.map encGAtom)) := by
  refine CallOK.of_awp mixed Try.func127 fc127 nle ?_
  rw [argT_eq]
  unfold impl_Column_start at hf
  unfold c127
  refine (show awp Try.prog true 0 _ (ofL [(0, (encGColumn c_1))]) [] _ from ?_)
  refine awp_seq ?_
  refine w_reg ?_
  refine s_do (o_box (j := 0) (c := (.agg [(.str c_1.Name), (.int .i64 c_1.Kind), (.int .i64 c_1.Min), (.int .i64 c_1.Max), (.int .i64 c_1.Low), (.int .i64 c_1.High), (.str c_1.Ref), (.bool c_1.Strong)])) rfl trivial rfl rfl) ?_
  refine s_do (o_mov .nil rfl) ?_
  refine w_done ?_
  refine k_seq ?_
  refine awp_seq ?_
  refine awp_seq ?_
  refine w_reg ?_
  refine s_do (o_q (.ptr 0 0 2) rfl trivial rfl) ?_
  refine s_do (o_q (.int .i64 c_1.Min) rfl nle rfl) ?_
  refine s_do (o_q (.bool (c_1.Min == 0)) rfl rfl rfl) ?_
  refine w_done ?_
  refine k_seq ?_
  rcases oi hf with ⟨c2, hf⟩ | ⟨c2, hf⟩
  · refine w_condt rfl c2 ?_
    refine awp_seq ?_
    refine w_reg ?_
    refine s_do (o_mov .nil rfl) ?_
    refine w_done ?_
    refine k_seq ?_
    refine w_ret ?_
    obtain rfl := os hf
    exact r_fresh ⟨trivial, trivial⟩ rfl (by decide) (.nil _)
  · refine w_condf rfl (bf c2) ?_
    refine w_skip ?_
    refine k_seq ?_
    refine awp_seq ?_
    refine w_reg ?_
    refine s_do (o_q (.ptr 0 0 1) rfl trivial rfl) ?_
    refine s_do (o_q (.int .i64 c_1.Kind) rfl nle rfl) ?_
    refine s_do (o_q (.agg [(.int .i64 c_1.Kind), (.int .i64 0), (.str [])]) rfl ⟨⟨rfl, nle, trivial⟩, trivial⟩ rfl) ?_
    refine s_do (o_box (j := 1) (c := (.agg [(.int .i64 0), (.int .i64 0), (.str [])])) rfl trivial rfl rfl) ?_
    refine s_do0 (o_storebox (v := (.agg [(.int .i64 c_1.Kind), (.int .i64 0), (.str [])])) (y' := (.agg [(.int .i64 c_1.Kind), (.int .i64 0), (.str [])])) rfl rfl rfl trivial ⟨rfl, nle⟩ ⟨⟨rfl, trivial⟩, ⟨⟨rfl, trivial⟩, ⟨⟨rfl, trivial⟩, trivial⟩⟩⟩ rfl) ?_
    refine w_done ?_
    refine k_seq ?_
    refine awp_seq ?_
    obtain ⟨x_4, hb1, hf⟩ := ob hf
    refine awp_cut ([(3, (.ptr 0 0 0))], [.box 3 (.agg [(.int .i64 c_1.Kind), (.int .i64 x_4), (.str [])])]) ?_ ?_
    · refine awp_seq ?_
      refine w_reg ?_
      refine s_do (o_q (.ptr 0 0 1) rfl trivial rfl) ?_
      refine s_do (o_q (.int .i64 c_1.Kind) rfl nle rfl) ?_
      refine s_do (o_q (.bool (c_1.Kind == 1)) rfl rfl rfl) ?_
      refine w_done ?_
      refine k_seq ?_
      rcases oi hb1 with ⟨c6, hb1⟩ | ⟨c6, hb1⟩
      · refine w_condt rfl c6 ?_
        refine w_reg ?_
        refine s_do (o_q (.ptr 0 0 4) rfl trivial rfl) ?_
        refine s_do (o_q (.int .i64 c_1.Low) rfl nle rfl) ?_
        refine s_do (o_q (.ptr 0 0 5) rfl trivial rfl) ?_
        refine s_do (o_q (.int .i64 c_1.High) rfl nle rfl) ?_
        refine s_do (o_q (.int .i64 (if 0 < c_1.High then 0 else c_1.High)) rfl rfl rfl) ?_
        refine s_do (o_q (.int .i64 (if (if 0 < c_1.High then 0 else c_1.High) > c_1.Low then (if 0 < c_1.High then 0 else c_1.High) else c_1.Low)) rfl rfl rfl) ?_
        refine s_do (o_q (.ptr 1 0 1) rfl trivial rfl) ?_
        refine s_do0 (o_storebox (v := (.int .i64 (if (if 0 < c_1.High then 0 else c_1.High) > c_1.Low then (if 0 < c_1.High then 0 else c_1.High) else c_1.Low))) (y' := (.agg [(.int .i64 c_1.Kind), (.int .i64 (if (if 0 < c_1.High then 0 else c_1.High) > c_1.Low then (if 0 < c_1.High then 0 else c_1.High) else c_1.Low)), (.str [])])) rfl rfl rfl trivial ⟨rfl, nle⟩ ⟨⟨rfl, trivial⟩, trivial⟩ rfl) ?_
        refine w_done ?_
        obtain rfl := os hb1
        exact ⟨[], [1], _, _, rfl, rfl, ⟨.refl _, trivial⟩, (.refl _)⟩
      · refine w_condf rfl (bf c6) ?_
        refine w_skip ?_
        obtain rfl := os hb1
        exact ⟨[], [1], _, _, rfl, rfl, ⟨.refl _, trivial⟩, (.refl _)⟩
    · refine awp_seq ?_
      refine w_reg ?_
      refine s_do (o_q (.agg [(.int .i64 c_1.Kind), (.int .i64 x_4), (.str [])]) rfl nle rfl) ?_
      refine s_do (o_bslice (j := 1) (as' := [(encGAtom (⟨c_1.Kind, x_4, []⟩ : GAtom))]) rfl (fun _ => by decide) ⟨rfl, trivial⟩ (.refl _) rfl rfl rfl) ?_
      refine s_do (o_mov (.own 1 0 1) rfl) ?_
      refine w_done ?_
      refine k_seq ?_
      refine w_ret ?_
      obtain rfl := os hf
      exact r_fresh ⟨trivial, trivial⟩ rfl (by decide) (.refl _)

/- impl.DefaultOf -/
def c53 : ACode :=
 (.seq (.reg (.q ⟨(some 1), none, .box 8 (.t 0)⟩
 (.q ⟨(some 2), none, .mov (.c .nil)⟩
 (.q ⟨(some 3), none, .mov (.c (.int .i64 0))⟩
 .done))))
 (.seq (.seq (.reg (.q ⟨(some 4), none, .load 8 true (.t 1)⟩
 (.q ⟨(some 5), none, .call 60 [(.t 4)]⟩
 (.q ⟨(some 6), none, .not (.t 5)⟩
 .done))))
 (.cond (.t 6) (.seq (.reg (.q ⟨(some 2), none, .mov (.c .nil)⟩
 (.q ⟨(some 3), none, .mov (.c (.int .i64 1))⟩
 .done)))
 .ret)
 .skip))
 (.seq (.reg (.q ⟨(some 7), none, .load 8 true (.t 1)⟩
 (.q ⟨(some 8), none, .call 127 [(.t 7)]⟩
 (.q ⟨(some 2), none, .mov (.t 8)⟩
 (.q ⟨(some 3), none, .mov (.c (.int .i64 0))⟩
 .done)))))
 .ret)))
theorem fc53 : fcomp Try.prog Try.f53 = some (c53.erase, [.mov (.t 2), .mov (.t 3)], 9) := by kernel_rfl
def impl_DefaultOf (c_1 : GColumn) : Option ((List GAtom) × Int) :=
    (impl_ColumnOK c_1).bind fun r_2 =>
    if (!r_2) then
    some ([], 1)
    else
    (impl_Column_start c_1).bind fun r_5 =>
    some (r_5, 0)
theorem w_impl_DefaultOf (c_1 : GColumn) (r : ((List GAtom) × Int)) (hf : impl_DefaultOf c_1 = some r) : CallOK Try.prog 53 .fresh [(encGColumn c_1)] (.tup [(.lst 3 (r.1.map encGAtom)), (.int .i64 r.2)]) := by
  refine CallOK.of_awp mixed Try.func53 fc53 nle ?_
  rw [argT_eq]
  unfold impl_DefaultOf at hf
  unfold c53
  refine (show awp Try.prog true 0 _ (ofL [(0, (encGColumn c_1))]) [] _ from ?_)
  refine awp_seq ?_
  refine w_reg ?_
  refine s_do (o_box (j := 0) (c := (.agg [(.str c_1.Name), (.int .i64 c_1.Kind), (.int .i64 c_1.Min), (.int .i64 c_1.Max), (.int .i64 c_1.Low), (.int .i64 c_1.High), (.str c_1.Ref), (.bool c_1.Strong)])) rfl trivial rfl rfl) ?_
  refine s_do (o_mov .nil rfl) ?_
  refine s_do (o_mov (.int .i64 0) rfl) ?_
  refine w_done ?_
  refine k_seq ?_
  refine awp_seq ?_
  refine awp_seq ?_
  refine w_reg ?_
  obtain ⟨r_2, er3, hf⟩ := ob hf
  refine s_do (o_q (.agg [(.str c_1.Name), (.int .i64 c_1.Kind), (.int .i64 c_1.Min), (.int .i64 c_1.Max), (.int .i64 c_1.Low), (.int .i64 c_1.High), (.str c_1.Ref), (.bool c_1.Strong)]) rfl nle rfl) ?_
  refine s_do (o_call (w_impl_ColumnOK _ _ er3) rfl (.refl _) rfl) ?_
  refine s_do (o_q (.bool (!r_2)) rfl trivial rfl) ?_
  refine w_done ?_
  refine k_seq ?_
  rcases oi hf with ⟨c4, hf⟩ | ⟨c4, hf⟩
  · refine w_condt rfl c4 ?_
    refine awp_seq ?_
    refine w_reg ?_
    refine s_do (o_mov .nil rfl) ?_
    refine s_do (o_mov (.int .i64 1) rfl) ?_
    refine w_done ?_
    refine k_seq ?_
    refine w_ret ?_
    obtain rfl := os hf
    exact r_fresh ⟨trivial, ⟨trivial, trivial⟩⟩ rfl (by decide) (.tup (.cons (.nil _) (.cons (.refl _) .nil)))
  · refine w_condf rfl (bf c4) ?_
    refine w_skip ?_
    refine k_seq ?_
    refine awp_seq ?_
    refine w_reg ?_
    obtain ⟨r_5, er6, hf⟩ := ob hf
    refine s_do (o_q (.agg [(.str c_1.Name), (.int .i64 c_1.Kind), (.int .i64 c_1.Min), (.int .i64 c_1.Max), (.int .i64 c_1.Low), (.int .i64 c_1.High), (.str c_1.Ref), (.bool c_1.Strong)]) rfl nle rfl) ?_
    refine s_do (o_callf (v := (.own 1 0 r_5.length)) (h' := [.row 3 (r_5.map encGAtom)]) (w_impl_Column_start _ _ er6) rfl (.refl _) (by simp only [openV, openVs, List.length_map, List.nil_append, List.append_nil, List.cons_append]; rfl)) ?_
    refine s_do (o_mov (.own 1 0 r_5.length) rfl) ?_
    refine s_do (o_mov (.int .i64 0) rfl) ?_
    refine w_done ?_
    refine k_seq ?_
    refine w_ret ?_
    obtain rfl := os hf
    exact r_fresh ⟨trivial, ⟨trivial, trivial⟩⟩ rfl (by decide) (.tup (.cons (.of_eq (congrArg (AV.lst _) (tk (enc := encGAtom) r_5))) (.cons (.refl _) .nil)))

/- spec.l00Letter -/
def c207 : ACode :=
 (.seq (.reg (.q ⟨(some 2), none, .mov (.c (.bool false))⟩
 .done))
 (.seq (.reg (.q ⟨(some 3), none, .mov (.t 0)⟩
 (.q ⟨(some 4), none, .bin .geq (.t 3) (.c (.int .u8 97))⟩
 (.q ⟨(some 5), none, .mov (.t 4)⟩
 (.q ⟨(some 6), (some (5, true)), .mov (.t 0)⟩
 (.q ⟨(some 7), (some (5, true)), .bin .leq (.t 6) (.c (.int .u8 122))⟩
 (.q ⟨(some 8), none, .pick (.t 5) (.t 7) (.c (.bool false))⟩
 (.q ⟨(some 9), none, .mov (.t 8)⟩
 (.q ⟨(some 10), (some (9, false)), .mov (.t 0)⟩
 (.q ⟨(some 11), (some (9, false)), .bin .geq (.t 10) (.c (.int .u8 65))⟩
 (.q ⟨(some 12), (some (9, false)), .mov (.t 11)⟩
 (.q ⟨(some 13), (some (12, true)), .mov (.t 0)⟩
 (.q ⟨(some 14), (some (12, true)), .bin .leq (.t 13) (.c (.int .u8 90))⟩
 (.q ⟨(some 15), (some (9, false)), .pick (.t 12) (.t 14) (.c (.bool false))⟩
 (.q ⟨(some 16), none, .pick (.t 9) (.c (.bool true)) (.t 15)⟩
 (.q ⟨(some 17), none, .mov (.t 16)⟩
 (.q ⟨(some 18), (some (17, false)), .mov (.t 0)⟩
 (.q ⟨(some 19), (some (17, false)), .bin .eql (.t 18) (.c (.int .u8 95))⟩
 (.q ⟨(some 20), none, .pick (.t 17) (.c (.bool true)) (.t 19)⟩
 (.q ⟨(some 2), none, .mov (.t 20)⟩
 .done))))))))))))))))))))
 .ret))
theorem fc207 : fcomp Try.prog Try.f207 = some (c207.erase, [.mov (.t 2)], 21) := by kernel_rfl
def spec_l00Letter (c_1 : Int) : Option Bool :=
    if (decide (c_1 ≥ 97)) then
    if (decide (c_1 ≤ 122)) then
    some true
    else
    if (decide (c_1 ≥ 65)) then
    if (decide (c_1 ≤ 90)) then
    some true
    else
    some (c_1 == 95)
    else
    some (c_1 == 95)
    else
    if (decide (c_1 ≥ 65)) then
    if (decide (c_1 ≤ 90)) then
    some true
    else
    some (c_1 == 95)
    else
    some (c_1 == 95)
theorem w_spec_l00Letter (c_1 : Int) (r : Bool) (hf : spec_l00Letter c_1 = some r) : CallOK Try.prog 207 .flat [(.int .u8 c_1)] (.bool r) := by
  refine CallOK.of_awp mixed Try.func207 fc207 nle ?_
  rw [argT_eq]
  unfold spec_l00Letter at hf
  unfold c207
  refine (show awp Try.prog false 0 _ (ofL [(0, (.int .u8 c_1))]) [] _ from ?_)
  refine awp_seq ?_
  refine w_reg ?_
  refine s_do (o_mov (.bool false) rfl) ?_
  refine w_done ?_
  refine k_seq ?_
  refine awp_seq ?_
  refine w_reg ?_
  refine s_do (o_mov (.int .u8 c_1) rfl) ?_
  refine s_do (o_q (.bool (decide (c_1 ≥ 97))) rfl rfl rfl) ?_
  refine s_do (o_mov (.bool (decide (c_1 ≥ 97))) rfl) ?_
  rcases oi hf with ⟨c2, hf⟩ | ⟨c2, hf⟩
  · refine s_lit (s := 5) (b := true) rfl c2 ?_
    refine s_on rfl ?_
    refine s_do (o_mov (.int .u8 c_1) rfl) ?_
    refine s_on rfl ?_
    refine s_do (o_q (.bool (decide (c_1 ≤ 122))) rfl rfl rfl) ?_
    refine s_do (o_q (.bool (decide (c_1 ≤ 122))) rfl trivial rfl) ?_
    refine s_do (o_mov (.bool (decide (c_1 ≤ 122))) rfl) ?_
    rcases oi hf with ⟨c3, hf⟩ | ⟨c3, hf⟩
    · refine s_lit (s := 9) (b := true) rfl c3 ?_
      refine s_off rfl rfl ?_
      refine s_off rfl rfl ?_
      refine s_off rfl rfl ?_
      refine s_offs rfl ?_
      refine s_offs rfl ?_
      refine s_off rfl rfl ?_
      refine s_do (o_q (.bool true) rfl trivial rfl) ?_
      refine s_do (o_mov (.bool true) rfl) ?_
      refine s_off rfl rfl ?_
      refine s_off rfl rfl ?_
      refine s_do (o_q (.bool true) rfl trivial rfl) ?_
      refine s_do (o_mov (.bool true) rfl) ?_
      refine w_done ?_
      refine k_seq ?_
      refine w_ret ?_
      obtain rfl := os hf
      exact r_flat ⟨trivial, trivial⟩ rfl (.refl _)
    · refine s_lit (s := 9) (b := false) rfl (bf c3) ?_
      refine s_on rfl ?_
      refine s_do (o_mov (.int .u8 c_1) rfl) ?_
      refine s_on rfl ?_
      refine s_do (o_q (.bool (decide (c_1 ≥ 65))) rfl rfl rfl) ?_
      refine s_on rfl ?_
      refine s_do (o_mov (.bool (decide (c_1 ≥ 65))) rfl) ?_
      rcases oi hf with ⟨c4, hf⟩ | ⟨c4, hf⟩
      · refine s_lit (s := 12) (b := true) rfl c4 ?_
        refine s_on rfl ?_
        refine s_do (o_mov (.int .u8 c_1) rfl) ?_
        refine s_on rfl ?_
        refine s_do (o_q (.bool (decide (c_1 ≤ 90))) rfl rfl rfl) ?_
        refine s_on rfl ?_
        refine s_do (o_q (.bool (decide (c_1 ≤ 90))) rfl trivial rfl) ?_
        refine s_do (o_q (.bool (decide (c_1 ≤ 90))) rfl trivial rfl) ?_
        refine s_do (o_mov (.bool (decide (c_1 ≤ 90))) rfl) ?_
        rcases oi hf with ⟨c5, hf⟩ | ⟨c5, hf⟩
        · refine s_lit (s := 17) (b := true) rfl c5 ?_
          refine s_off rfl rfl ?_
          refine s_off rfl rfl ?_
          refine s_do (o_q (.bool true) rfl trivial rfl) ?_
          refine s_do (o_mov (.bool true) rfl) ?_
          refine w_done ?_
          refine k_seq ?_
          refine w_ret ?_
          obtain rfl := os hf
          exact r_flat ⟨trivial, trivial⟩ rfl (.refl _)
        · refine s_lit (s := 17) (b := false) rfl (bf c5) ?_
          refine s_on rfl ?_
          refine s_do (o_mov (.int .u8 c_1) rfl) ?_
          refine s_on rfl ?_
          refine s_do (o_q (.bool (c_1 == 95)) rfl rfl rfl) ?_
          refine s_do (o_q (.bool (c_1 == 95)) rfl trivial rfl) ?_
          refine s_do (o_mov (.bool (c_1 == 95)) rfl) ?_
          refine w_done ?_
          refine k_seq ?_
          refine w_ret ?_
          obtain rfl := os hf
          exact r_flat ⟨trivial, trivial⟩ rfl (.refl _)
      · refine s_lit (s := 12) (b := false) rfl (bf c4) ?_
        refine s_off rfl rfl ?_
        refine s_off rfl rfl ?_
        refine s_on rfl ?_
        refine s_do (o_q (.bool false) rfl trivial rfl) ?_
        refine s_do (o_q (.bool false) rfl trivial rfl) ?_
        refine s_do (o_mov (.bool false) rfl) ?_
        refine s_on rfl ?_
        refine s_do (o_mov (.int .u8 c_1) rfl) ?_
        refine s_on rfl ?_
        refine s_do (o_q (.bool (c_1 == 95)) rfl rfl rfl) ?_
        refine s_do (o_q (.bool (c_1 == 95)) rfl trivial rfl) ?_
        refine s_do (o_mov (.bool (c_1 == 95)) rfl) ?_
        refine w_done ?_
        refine k_seq ?_
        refine w_ret ?_
        obtain rfl := os hf
        exact r_flat ⟨trivial, trivial⟩ rfl (.refl _)
  · refine s_lit (s := 5) (b := false) rfl (bf c2) ?_
    refine s_off rfl rfl ?_
    refine s_off rfl rfl ?_
    refine s_do (o_q (.bool false) rfl trivial rfl) ?_
    refine s_do (o_mov (.bool false) rfl) ?_
    refine s_on rfl ?_
    refine s_do (o_mov (.int .u8 c_1) rfl) ?_
    refine s_on rfl ?_
    refine s_do (o_q (.bool (decide (c_1 ≥ 65))) rfl rfl rfl) ?_
    refine s_on rfl ?_
    refine s_do (o_mov (.bool (decide (c_1 ≥ 65))) rfl) ?_
    rcases oi hf with ⟨c6, hf⟩ | ⟨c6, hf⟩
    · refine s_lit (s := 12) (b := true) rfl c6 ?_
      refine s_on rfl ?_
      refine s_do (o_mov (.int .u8 c_1) rfl) ?_
      refine s_on rfl ?_
      refine s_do (o_q (.bool (decide (c_1 ≤ 90))) rfl rfl rfl) ?_
      refine s_on rfl ?_
      refine s_do (o_q (.bool (decide (c_1 ≤ 90))) rfl trivial rfl) ?_
      refine s_do (o_q (.bool (decide (c_1 ≤ 90))) rfl trivial rfl) ?_
      refine s_do (o_mov (.bool (decide (c_1 ≤ 90))) rfl) ?_
      rcases oi hf with ⟨c7, hf⟩ | ⟨c7, hf⟩
      · refine s_lit (s := 17) (b := true) rfl c7 ?_
        refine s_off rfl rfl ?_
        refine s_off rfl rfl ?_
        refine s_do (o_q (.bool true) rfl trivial rfl) ?_
        refine s_do (o_mov (.bool true) rfl) ?_
        refine w_done ?_
        refine k_seq ?_
        refine w_ret ?_
        obtain rfl := os hf
        exact r_flat ⟨trivial, trivial⟩ rfl (.refl _)
      · refine s_lit (s := 17) (b := false) rfl (bf c7) ?_
        refine s_on rfl ?_
        refine s_do (o_mov (.int .u8 c_1) rfl) ?_
        refine s_on rfl ?_
        refine s_do (o_q (.bool (c_1 == 95)) rfl rfl rfl) ?_
        refine s_do (o_q (.bool (c_1 == 95)) rfl trivial rfl) ?_
        refine s_do (o_mov (.bool (c_1 == 95)) rfl) ?_
        refine w_done ?_
        refine k_seq ?_
        refine w_ret ?_
        obtain rfl := os hf
        exact r_flat ⟨trivial, trivial⟩ rfl (.refl _)
    · refine s_lit (s := 12) (b := false) rfl (bf c6) ?_
      refine s_off rfl rfl ?_
      refine s_off rfl rfl ?_
      refine s_on rfl ?_
      refine s_do (o_q (.bool false) rfl trivial rfl) ?_
      refine s_do (o_q (.bool false) rfl trivial rfl) ?_
      refine s_do (o_mov (.bool false) rfl) ?_
      refine s_on rfl ?_
      refine s_do (o_mov (.int .u8 c_1) rfl) ?_
      refine s_on rfl ?_
      refine s_do (o_q (.bool (c_1 == 95)) rfl rfl rfl) ?_
      refine s_do (o_q (.bool (c_1 == 95)) rfl trivial rfl) ?_
      refine s_do (o_mov (.bool (c_1 == 95)) rfl) ?_
      refine w_done ?_
      refine k_seq ?_
      refine w_ret ?_
      obtain rfl := os hf
      exact r_flat ⟨trivial, trivial⟩ rfl (.refl _)

/- spec.l00Digit -/
def c208 : ACode :=
 (.seq (.reg (.q ⟨(some 2), none, .mov (.c (.bool false))⟩
 .done))
 (.seq (.reg (.q ⟨(some 3), none, .mov (.t 0)⟩
 (.q ⟨(some 4), none, .bin .geq (.t 3) (.c (.int .u8 48))⟩
 (.q ⟨(some 5), none, .mov (.t 4)⟩
 (.q ⟨(some 6), (some (5, true)), .mov (.t 0)⟩
 (.q ⟨(some 7), (some (5, true)), .bin .leq (.t 6) (.c (.int .u8 57))⟩
 (.q ⟨(some 8), none, .pick (.t 5) (.t 7) (.c (.bool false))⟩
 (.q ⟨(some 2), none, .mov (.t 8)⟩
 .done))))))))
 .ret))
theorem fc208 : fcomp Try.prog Try.f208 = some (c208.erase, [.mov (.t 2)], 9) := by kernel_rfl
def spec_l00Digit (c_1 : Int) : Option Bool :=
    if (decide (c_1 ≥ 48)) then
    some (decide (c_1 ≤ 57))
    else
    some false
theorem w_spec_l00Digit (c_1 : Int) (r : Bool) (hf : spec_l00Digit c_1 = some r) : CallOK Try.prog 208 .flat [(.int .u8 c_1)] (.bool r) := by
  refine CallOK.of_awp mixed Try.func208 fc208 nle ?_
  rw [argT_eq]
  unfold spec_l00Digit at hf
  unfold c208
  refine (show awp Try.prog false 0 _ (ofL [(0, (.int .u8 c_1))]) [] _ from ?_)
  refine awp_seq ?_
  refine w_reg ?_
  refine s_do (o_mov (.bool false) rfl) ?_
  refine w_done ?_
  refine k_seq ?_
  refine awp_seq ?_
  refine w_reg ?_
  rcases oi hf with ⟨c2, hf⟩ | ⟨c2, hf⟩
  · refine s_do (o_mov (.int .u8 c_1) rfl) ?_
    refine s_do (o_q (.bool (decide (c_1 ≥ 48))) rfl rfl rfl) ?_
    refine s_do (o_mov (.bool (decide (c_1 ≥ 48))) rfl) ?_
    refine s_lit (s := 5) (b := true) rfl c2 ?_
    refine s_on rfl ?_
    refine s_do (o_mov (.int .u8 c_1) rfl) ?_
    refine s_on rfl ?_
    refine s_do (o_q (.bool (decide (c_1 ≤ 57))) rfl rfl rfl) ?_
    refine s_do (o_q (.bool (decide (c_1 ≤ 57))) rfl trivial rfl) ?_
    refine s_do (o_mov (.bool (decide (c_1 ≤ 57))) rfl) ?_
    refine w_done ?_
    refine k_seq ?_
    refine w_ret ?_
    obtain rfl := os hf
    exact r_flat ⟨trivial, trivial⟩ rfl (.refl _)
  · refine s_do (o_mov (.int .u8 c_1) rfl) ?_
    refine s_do (o_q (.bool (decide (c_1 ≥ 48))) rfl rfl rfl) ?_
    refine s_do (o_mov (.bool (decide (c_1 ≥ 48))) rfl) ?_
    refine s_lit (s := 5) (b := false) rfl (bf c2) ?_
    refine s_off rfl rfl ?_
    refine s_off rfl rfl ?_
    refine s_do (o_q (.bool false) rfl trivial rfl) ?_
    refine s_do (o_mov (.bool false) rfl) ?_
    refine w_done ?_
    refine k_seq ?_
    refine w_ret ?_
    obtain rfl := os hf
    exact r_flat ⟨trivial, trivial⟩ rfl (.refl _)

/- spec.l00Word -/
def c150 : ACode :=
 (.seq (.reg (.q ⟨(some 2), none, .mov (.c (.bool false))⟩
 .done))
 (.seq (.seq (.reg (.q ⟨(some 4), none, .mov (.t 0)⟩
 (.q ⟨(some 5), none, .lenS (.t 4)⟩
 (.q ⟨(some 6), none, .bin .lss (.t 5) (.c (.int .i64 1))⟩
 (.q ⟨(some 7), none, .mov (.t 6)⟩
 (.q ⟨(some 8), (some (7, false)), .mov (.t 0)⟩
 (.q ⟨(some 9), (some (7, false)), .lenS (.t 8)⟩
 (.q ⟨(some 10), (some (7, false)), .bin .gtr (.t 9) (.c (.int .i64 40))⟩
 (.q ⟨(some 11), none, .pick (.t 7) (.c (.bool true)) (.t 10)⟩
 (.q ⟨(some 12), none, .mov (.t 11)⟩
 (.q ⟨(some 13), (some (12, false)), .mov (.t 0)⟩
 (.q ⟨(some 14), (some (12, false)), .idxs (.t 13) (.c (.int .i64 0))⟩
 (.q ⟨(some 15), (some (12, false)), .call 207 [(.t 14)]⟩
 (.q ⟨(some 16), (some (12, false)), .not (.t 15)⟩
 (.q ⟨(some 17), none, .pick (.t 12) (.c (.bool true)) (.t 16)⟩
 .done)))))))))))))))
 (.cut (.cond (.t 17) (.seq (.reg (.q ⟨(some 2), none, .mov (.c (.bool false))⟩
 .done))
 .ret)
 .skip)))
 (.seq (.seq (.reg (.q ⟨(some 3), none, .mov (.c (.int .i64 1))⟩
 .done))
 (.block 0 (.loop (.seq (.seq (.reg (.q ⟨(some 18), none, .mov (.t 3)⟩
 (.q ⟨(some 19), none, .mov (.t 0)⟩
 (.q ⟨(some 20), none, .lenS (.t 19)⟩
 (.q ⟨(some 21), none, .bin .lss (.t 18) (.t 20)⟩
 .done)))))
 (.cond (.t 21) .skip
 (.exit 0)))
 (.seq (.block 1 (.seq (.reg (.q ⟨(some 24), none, .mov (.t 0)⟩
 (.q ⟨(some 25), none, .mov (.t 3)⟩
 (.q ⟨(some 26), none, .idxs (.t 24) (.t 25)⟩
 (.q ⟨(some 27), none, .call 207 [(.t 26)]⟩
 (.q ⟨(some 28), none, .not (.t 27)⟩
 (.q ⟨(some 29), none, .mov (.t 28)⟩
 (.q ⟨(some 30), (some (29, true)), .mov (.t 0)⟩
 (.q ⟨(some 31), (some (29, true)), .mov (.t 3)⟩
 (.q ⟨(some 32), (some (29, true)), .idxs (.t 30) (.t 31)⟩
 (.q ⟨(some 33), (some (29, true)), .call 208 [(.t 32)]⟩
 (.q ⟨(some 34), (some (29, true)), .not (.t 33)⟩
 (.q ⟨(some 35), none, .pick (.t 29) (.t 34) (.c (.bool false))⟩
 .done)))))))))))))
 (.cut (.cond (.t 35) (.seq (.reg (.q ⟨(some 2), none, .mov (.c (.bool false))⟩
 .done))
 .ret)
 .skip))))
 (.reg (.q ⟨(some 22), none, .mov (.t 3)⟩
 (.q ⟨(some 23), none, .bin .add (.t 22) (.c (.int .i64 1))⟩
 (.q ⟨(some 3), none, .mov (.t 23)⟩
 .done)))))))))
 (.cut (.seq (.reg (.q ⟨(some 2), none, .mov (.c (.bool true))⟩
 .done))
 .ret)))))
theorem fc150 : fcomp Try.prog Try.f150 = some (c150.erase, [.mov (.t 2)], 36) := by kernel_rfl
def spec_l00Word_L1  : List UInt8 → Option (Fl Bool Unit)
  | [] =>
    some (.go ())
  | x_100 :: xs =>
    (((spec_l00Letter (x_100.toNat : Int)).bind fun r_110 =>
    if (!r_110) then
    (spec_l00Digit (x_100.toNat : Int)).bind fun r_113 =>
    some (!r_113)
    else
    some false : Option Bool)).bind fun s35_108 =>
    if s35_108 then
    some (.ret false)
    else
    spec_l00Word_L1 xs 

def spec_l00Word (t_1 : Str) : Option Bool :=
    ((if (decide ((t_1.length : Int) < 1)) then
    some true
    else
    if (decide ((t_1.length : Int) > 40)) then
    some true
    else
    (idx t_1 0).bind fun b_16 =>
    (spec_l00Letter (b_16.toNat : Int)).bind fun r_18 =>
    some (!r_18) : Option Bool)).bind fun s17_10 =>
    if s17_10 then
    some false
    else
    (spec_l00Word_L1 (t_1.drop 1) ).bind fun q => (match q with
    | .ret r => some r
    | .go _ =>
    some true)
theorem w_spec_l00Word (t_1 : Str) (r : Bool) (hf : spec_l00Word t_1 = some r) : CallOK Try.prog 150 .flat [(.str t_1)] (.bool r) := by
  refine CallOK.of_awp mixed Try.func150 fc150 nle ?_
  rw [argT_eq]
  unfold spec_l00Word at hf
  unfold c150
  refine (show awp Try.prog false 0 _ (ofL [(0, (.str t_1))]) [] _ from ?_)
  refine awp_seq ?_
  refine w_reg ?_
  refine s_do (o_mov (.bool false) rfl) ?_
  refine w_done ?_
  refine k_seq ?_
  refine awp_seq ?_
  refine awp_seq ?_
  obtain ⟨s17_10, hb1, hf⟩ := ob hf
  refine awp_cut ([(0, (.str t_1)), (17, (.bool s17_10))], []) ?_ ?_
  · refine w_reg ?_
    refine s_do (o_mov (.str t_1) rfl) ?_
    refine s_dof (o_lenS rfl) fun hl12 => ?_
    refine s_do (o_q (.bool (decide ((t_1.length : Int) < 1))) rfl rfl rfl) ?_
    refine s_do (o_mov (.bool (decide ((t_1.length : Int) < 1))) rfl) ?_
    rcases oi hb1 with ⟨c13, hb1⟩ | ⟨c13, hb1⟩
    · refine s_lit (s := 7) (b := true) rfl c13 ?_
      refine s_off rfl rfl ?_
      refine s_off rfl rfl ?_
      refine s_off rfl rfl ?_
      refine s_do (o_q (.bool true) rfl trivial rfl) ?_
      refine s_do (o_mov (.bool true) rfl) ?_
      refine s_off rfl rfl ?_
      refine s_off rfl rfl ?_
      refine s_off rfl rfl ?_
      refine s_off rfl rfl ?_
      refine s_do (o_q (.bool true) rfl trivial rfl) ?_
      refine w_done ?_
      obtain rfl := os hb1
      exact ⟨[], [], _, _, rfl, rfl, ⟨.refl _, ⟨.refl _, trivial⟩⟩, (.refl _)⟩
    · refine s_lit (s := 7) (b := false) rfl (bf c13) ?_
      refine s_on rfl ?_
      refine s_do (o_mov (.str t_1) rfl) ?_
      refine s_on rfl ?_
      refine s_dof (o_lenS rfl) fun hl14 => ?_
      refine s_on rfl ?_
      refine s_do (o_q (.bool (decide ((t_1.length : Int) > 40))) rfl rfl rfl) ?_
      refine s_do (o_q (.bool (decide ((t_1.length : Int) > 40))) rfl trivial rfl) ?_
      refine s_do (o_mov (.bool (decide ((t_1.length : Int) > 40))) rfl) ?_
      rcases oi hb1 with ⟨c15, hb1⟩ | ⟨c15, hb1⟩
      · refine s_lit (s := 12) (b := true) rfl c15 ?_
        refine s_off rfl rfl ?_
        refine s_off rfl rfl ?_
        refine s_off rfl rfl ?_
        refine s_off rfl rfl ?_
        refine s_do (o_q (.bool true) rfl trivial rfl) ?_
        refine w_done ?_
        obtain rfl := os hb1
        exact ⟨[], [], _, _, rfl, rfl, ⟨.refl _, ⟨.refl _, trivial⟩⟩, (.refl _)⟩
      · refine s_lit (s := 12) (b := false) rfl (bf c15) ?_
        refine s_on rfl ?_
        refine s_do (o_mov (.str t_1) rfl) ?_
        refine s_on rfl ?_
        obtain ⟨b_16, eb17, hb1⟩ := ob hb1
        refine s_do (o_idxs rfl rfl (idx0 eb17) (idx1 eb17)) ?_
        refine s_on rfl ?_
        obtain ⟨r_18, er19, hb1⟩ := ob hb1
        refine s_do (o_call (w_spec_l00Letter _ _ er19) rfl (.refl _) rfl) ?_
        refine s_on rfl ?_
        refine s_do (o_q (.bool (!r_18)) rfl trivial rfl) ?_
        refine s_do (o_q (.bool (!r_18)) rfl trivial rfl) ?_
        refine w_done ?_
        obtain rfl := os hb1
        exact ⟨[], [], _, _, rfl, rfl, ⟨.refl _, ⟨.refl _, trivial⟩⟩, (.refl _)⟩
  · rcases oi hf with ⟨c20, hf⟩ | ⟨c20, hf⟩
    · refine w_condt rfl c20 ?_
      refine awp_seq ?_
      refine w_reg ?_
      refine s_do (o_mov (.bool false) rfl) ?_
      refine w_done ?_
      refine k_seq ?_
      refine w_ret ?_
      obtain rfl := os hf
      exact r_flat ⟨trivial, trivial⟩ rfl (.refl _)
    · refine w_condf rfl (bf c20) ?_
      refine w_skip ?_
      refine k_seq ?_
      refine awp_seq ?_
      refine awp_seq ?_
      refine w_reg ?_
      refine s_do (o_mov (.int .i64 1) rfl) ?_
      refine w_done ?_
      refine k_seq ?_
      obtain ⟨p93, hb1, hf⟩ := ob hf
      refine awp_cutx (X := {q : Unit // p93 = .go q}) (fun q => ([], [])) ?_ ?_
      · refine awp_loop (X := {q : Nat // spec_l00Word_L1 (t_1.drop q)  = some p93}) (fun q => ([(0, (.str t_1)), (3, (.int .i64 (q.1 : Int)))], [])) (fun q => t_1.length - q.1) ⟨1, hb1⟩ ⟨[], [], _, _, rfl, rfl, ⟨.refl _, ⟨.refl _, trivial⟩⟩, (.refl _)⟩ ?_
        rintro ⟨i_68, hc1⟩
        have hc1 : spec_l00Word_L1 (t_1.drop i_68)  = some p93 := hc1
        refine (show awp Try.prog false 0 _ (ofL [(0, (.str t_1)), (3, (.int .i64 (i_68 : Int)))]) [] _ from ?_)
        rcases dropc t_1 i_68 with ⟨hie96, hd99⟩ | ⟨hlt94, x_100, hx95, hd99⟩
        · rw [hd99, spec_l00Word_L1.eq_1] at hc1
          have hq98 := dlf hie96
          refine awp_seq ?_
          refine awp_seq ?_
          refine w_reg ?_
          refine s_do (o_mov (.int .i64 (i_68 : Int)) rfl) ?_
          refine s_do (o_mov (.str t_1) rfl) ?_
          refine s_dof (o_lenS rfl) fun hl101 => ?_
          refine s_do (o_q (.bool (decide ((i_68 : Int) < (t_1.length : Int)))) rfl rfl rfl) ?_
          refine w_done ?_
          refine k_seq ?_
          refine w_condf rfl hq98 ?_
          refine w_exit ?_
          refine k_seqx ?_
          refine k_loopx ?_
          refine k_blkx ?_
          obtain rfl := os hc1
          exact k_cutn ⟨_, rfl⟩ ⟨[], [], _, _, rfl, rfl, trivial, (.refl _)⟩
        · rw [hd99, spec_l00Word_L1.eq_2] at hc1
          have hq98 := dlt hlt94
          refine awp_seq ?_
          refine awp_seq ?_
          refine w_reg ?_
          refine s_do (o_mov (.int .i64 (i_68 : Int)) rfl) ?_
          refine s_do (o_mov (.str t_1) rfl) ?_
          refine s_dof (o_lenS rfl) fun hl102 => ?_
          refine s_do (o_q (.bool (decide ((i_68 : Int) < (t_1.length : Int)))) rfl rfl rfl) ?_
          refine w_done ?_
          refine k_seq ?_
          refine w_condt rfl hq98 ?_
          refine w_skip ?_
          refine k_seq ?_
          refine awp_seq ?_
          refine w_blk ?_
          refine awp_seq ?_
          obtain ⟨s35_108, hb2, hc1⟩ := ob hc1
          refine awp_cut ([(0, (.str t_1)), (3, (.int .i64 (i_68 : Int))), (35, (.bool s35_108))], []) ?_ ?_
          · refine w_reg ?_
            obtain ⟨r_110, er111, hb2⟩ := ob hb2
            rcases oi hb2 with ⟨c112, hb2⟩ | ⟨c112, hb2⟩
            · obtain ⟨r_113, er114, hb2⟩ := ob hb2
              refine s_do (o_mov (.str t_1) rfl) ?_
              refine s_do (o_mov (.int .i64 (i_68 : Int)) rfl) ?_
              refine s_do (o_idxsn rfl rfl hx95) ?_
              refine s_do (o_call (w_spec_l00Letter _ _ er111) rfl (.refl _) rfl) ?_
              refine s_do (o_q (.bool (!r_110)) rfl trivial rfl) ?_
              refine s_do (o_mov (.bool (!r_110)) rfl) ?_
              refine s_lit (s := 29) (b := true) rfl c112 ?_
              refine s_on rfl ?_
              refine s_do (o_mov (.str t_1) rfl) ?_
              refine s_on rfl ?_
              refine s_do (o_mov (.int .i64 (i_68 : Int)) rfl) ?_
              refine s_on rfl ?_
              refine s_do (o_idxsn rfl rfl hx95) ?_
              refine s_on rfl ?_
              refine s_do (o_call (w_spec_l00Digit _ _ er114) rfl (.refl _) rfl) ?_
              refine s_on rfl ?_
              refine s_do (o_q (.bool (!r_113)) rfl trivial rfl) ?_
              refine s_do (o_q (.bool (!r_113)) rfl trivial rfl) ?_
              refine w_done ?_
              obtain rfl := os hb2
              exact ⟨[], [], _, _, rfl, rfl, ⟨.refl _, ⟨.refl _, ⟨.refl _, trivial⟩⟩⟩, (.refl _)⟩
            · refine s_do (o_mov (.str t_1) rfl) ?_
              refine s_do (o_mov (.int .i64 (i_68 : Int)) rfl) ?_
              refine s_do (o_idxsn rfl rfl hx95) ?_
              refine s_do (o_call (w_spec_l00Letter _ _ er111) rfl (.refl _) rfl) ?_
              refine s_do (o_q (.bool (!r_110)) rfl trivial rfl) ?_
              refine s_do (o_mov (.bool (!r_110)) rfl) ?_
              refine s_lit (s := 29) (b := false) rfl (bf c112) ?_
              refine s_off rfl rfl ?_
              refine s_off rfl rfl ?_
              refine s_off rfl rfl ?_
              refine s_off rfl rfl ?_
              refine s_off rfl rfl ?_
              refine s_do (o_q (.bool false) rfl trivial rfl) ?_
              refine w_done ?_
              obtain rfl := os hb2
              exact ⟨[], [], _, _, rfl, rfl, ⟨.refl _, ⟨.refl _, ⟨.refl _, trivial⟩⟩⟩, (.refl _)⟩
          · rcases oi hc1 with ⟨c115, hc1⟩ | ⟨c115, hc1⟩
            · refine w_condt rfl c115 ?_
              refine awp_seq ?_
              refine w_reg ?_
              refine s_do (o_mov (.bool false) rfl) ?_
              refine w_done ?_
              refine k_seq ?_
              refine w_ret ?_
              obtain rfl := os hc1
              obtain rfl := os hf
              exact r_flat ⟨trivial, trivial⟩ rfl (.refl _)
            · refine w_condf rfl (bf c115) ?_
              refine w_skip ?_
              refine k_blk ?_
              refine k_seq ?_
              refine w_reg ?_
              refine s_do (o_mov (.int .i64 (i_68 : Int)) rfl) ?_
              refine s_do (o_q (.int .i64 (w64 ((i_68 : Int) + 1))) rfl rfl rfl) ?_
              refine s_do (o_mov (.int .i64 (w64 ((i_68 : Int) + 1))) rfl) ?_
              refine w_done ?_
              exact k_loopn ⟨(i_68 + 1), hc1⟩ (mul hlt94) ⟨[], [], _, _, rfl, rfl, ⟨.refl _, ⟨.of_eq (congrArg (AV.int _) (w64_incr hlt94 hl102)), trivial⟩⟩, (.refl _)⟩
      · rintro ⟨_, rfl⟩
        refine awp_seq ?_
        refine w_reg ?_
        refine s_do (o_mov (.bool true) rfl) ?_
        refine w_done ?_
        refine k_seq ?_
        refine w_ret ?_
        obtain rfl := os hf
        exact r_flat ⟨trivial, trivial⟩ rfl (.refl _)

/- spec.NameOK -/
def c80 : ACode :=
 (.seq (.reg (.q ⟨(some 2), none, .mov (.c (.bool false))⟩
 .done))
 (.seq (.reg (.q ⟨(some 3), none, .mov (.t 0)⟩
 (.q ⟨(some 4), none, .call 150 [(.t 3)]⟩
 (.q ⟨(some 2), none, .mov (.t 4)⟩
 .done))))
 .ret))
theorem fc80 : fcomp Try.prog Try.f80 = some (c80.erase, [.mov (.t 2)], 5) := by kernel_rfl
def spec_NameOK (t_1 : Str) : Option Bool :=
    (spec_l00Word t_1).bind fun r_2 =>
    some r_2
theorem w_spec_NameOK (t_1 : Str) (r : Bool) (hf : spec_NameOK t_1 = some r) : CallOK Try.prog 80 .flat [(.str t_1)] (.bool r) := by
  refine CallOK.of_awp mixed Try.func80 fc80 nle ?_
  rw [argT_eq]
  unfold spec_NameOK at hf
  unfold c80
  refine (show awp Try.prog false 0 _ (ofL [(0, (.str t_1))]) [] _ from ?_)
  refine awp_seq ?_
  refine w_reg ?_
  refine s_do (o_mov (.bool false) rfl) ?_
  refine w_done ?_
  refine k_seq ?_
  refine awp_seq ?_
  refine w_reg ?_
  obtain ⟨r_2, er3, hf⟩ := ob hf
  refine s_do (o_mov (.str t_1) rfl) ?_
  refine s_do (o_call (w_spec_l00Word _ _ er3) rfl (.refl _) rfl) ?_
  refine s_do (o_mov (.bool r_2) rfl) ?_
  refine w_done ?_
  refine k_seq ?_
  refine w_ret ?_
  obtain rfl := os hf
  exact r_flat ⟨trivial, trivial⟩ rfl (.refl _)

/- spec.l01In -/
def c81 : ACode :=
 (.seq (.reg (.q ⟨(some 6), none, .mov (.c (.bool false))⟩
 .done))
 (.seq (.reg (.q ⟨(some 7), none, .mov (.t 1)⟩
 (.q ⟨(some 8), none, .mov (.t 0)⟩
 (.q ⟨(some 9), none, .bin .leq (.t 7) (.t 8)⟩
 (.q ⟨(some 10), none, .mov (.t 9)⟩
 (.q ⟨(some 11), (some (10, true)), .mov (.t 0)⟩
 (.q ⟨(some 12), (some (10, true)), .mov (.t 2)⟩
 (.q ⟨(some 13), (some (10, true)), .bin .leq (.t 11) (.t 12)⟩
 (.q ⟨(some 14), none, .pick (.t 10) (.t 13) (.c (.bool false))⟩
 (.q ⟨(some 6), none, .mov (.t 14)⟩
 .done))))))))))
 .ret))
theorem fc81 : fcomp Try.prog Try.f81 = some (c81.erase, [.mov (.t 6)], 15) := by kernel_rfl
def spec_l01In (n_1 : Int) (low_2 : Int) (high_3 : Int) : Option Bool :=
    if (decide (low_2 ≤ n_1)) then
    some (decide (n_1 ≤ high_3))
    else
    some false
theorem w_spec_l01In (n_1 : Int) (low_2 : Int) (high_3 : Int) (r : Bool) (hf : spec_l01In n_1 low_2 high_3 = some r) : CallOK Try.prog 81 .flat [(.int .i64 n_1), (.int .i64 low_2), (.int .i64 high_3)] (.bool r) := by
  refine CallOK.of_awp mixed Try.func81 fc81 nle ?_
  rw [argT_eq]
  unfold spec_l01In at hf
  unfold c81
  refine (show awp Try.prog false 0 _ (ofL [(0, (.int .i64 n_1)), (1, (.int .i64 low_2)), (2, (.int .i64 high_3))]) [] _ from ?_)
  refine awp_seq ?_
  refine w_reg ?_
  refine s_do (o_mov (.bool false) rfl) ?_
  refine w_done ?_
  refine k_seq ?_
  refine awp_seq ?_
  refine w_reg ?_
  rcases oi hf with ⟨c4, hf⟩ | ⟨c4, hf⟩
  · refine s_do (o_mov (.int .i64 low_2) rfl) ?_
    refine s_do (o_mov (.int .i64 n_1) rfl) ?_
    refine s_do (o_q (.bool (decide (low_2 ≤ n_1))) rfl rfl rfl) ?_
    refine s_do (o_mov (.bool (decide (low_2 ≤ n_1))) rfl) ?_
    refine s_lit (s := 10) (b := true) rfl c4 ?_
    refine s_on rfl ?_
    refine s_do (o_mov (.int .i64 n_1) rfl) ?_
    refine s_on rfl ?_
    refine s_do (o_mov (.int .i64 high_3) rfl) ?_
    refine s_on rfl ?_
    refine s_do (o_q (.bool (decide (n_1 ≤ high_3))) rfl rfl rfl) ?_
    refine s_do (o_q (.bool (decide (n_1 ≤ high_3))) rfl trivial rfl) ?_
    refine s_do (o_mov (.bool (decide (n_1 ≤ high_3))) rfl) ?_
    refine w_done ?_
    refine k_seq ?_
    refine w_ret ?_
    obtain rfl := os hf
    exact r_flat ⟨trivial, trivial⟩ rfl (.refl _)
  · refine s_do (o_mov (.int .i64 low_2) rfl) ?_
    refine s_do (o_mov (.int .i64 n_1) rfl) ?_
    refine s_do (o_q (.bool (decide (low_2 ≤ n_1))) rfl rfl rfl) ?_
    refine s_do (o_mov (.bool (decide (low_2 ≤ n_1))) rfl) ?_
    refine s_lit (s := 10) (b := false) rfl (bf c4) ?_
    refine s_off rfl rfl ?_
    refine s_off rfl rfl ?_
    refine s_off rfl rfl ?_
    refine s_do (o_q (.bool false) rfl trivial rfl) ?_
    refine s_do (o_mov (.bool false) rfl) ?_
    refine w_done ?_
    refine k_seq ?_
    refine w_ret ?_
    obtain rfl := os hf
    exact r_flat ⟨trivial, trivial⟩ rfl (.refl _)

/- spec.ColumnOK -/
def c128 : ACode :=
 (.seq (.reg (.q ⟨(some 1), none, .box 8 (.t 0)⟩
 (.q ⟨(some 2), none, .mov (.c (.bool false))⟩
 .done)))
 (.seq (.seq (.reg (.q ⟨(some 3), none, .faddr 0 (.t 1)⟩
 (.q ⟨(some 4), none, .load 1 false (.t 3)⟩
 (.q ⟨(some 5), none, .call 80 [(.t 4)]⟩
 (.q ⟨(some 6), none, .not (.t 5)⟩
 (.q ⟨(some 7), none, .mov (.t 6)⟩
 (.q ⟨(some 8), (some (7, false)), .faddr 1 (.t 1)⟩
 (.q ⟨(some 9), (some (7, false)), .load 1 false (.t 8)⟩
 (.q ⟨(some 10), (some (7, false)), .call 81 [(.t 9), (.c (.int .i64 1)), (.c (.int .i64 4))]⟩
 (.q ⟨(some 11), (some (7, false)), .not (.t 10)⟩
 (.q ⟨(some 12), none, .pick (.t 7) (.c (.bool true)) (.t 11)⟩
 (.q ⟨(some 13), none, .mov (.t 12)⟩
 (.q ⟨(some 14), (some (13, false)), .faddr 2 (.t 1)⟩
 (.q ⟨(some 15), (some (13, false)), .load 1 false (.t 14)⟩
 (.q ⟨(some 16), (some (13, false)), .call 81 [(.t 15), (.c (.int .i64 0)), (.c (.int .i64 1))]⟩
 (.q ⟨(some 17), (some (13, false)), .not (.t 16)⟩
 (.q ⟨(some 18), none, .pick (.t 13) (.c (.bool true)) (.t 17)⟩
 (.q ⟨(some 19), none, .mov (.t 18)⟩
 (.q ⟨(some 20), (some (19, false)), .faddr 3 (.t 1)⟩
 (.q ⟨(some 21), (some (19, false)), .load 1 false (.t 20)⟩
 (.q ⟨(some 22), (some (19, false)), .call 81 [(.t 21), (.c (.int .i64 1)), (.c (.int .i64 8))]⟩
 (.q ⟨(some 23), (some (19, false)), .not (.t 22)⟩
 (.q ⟨(some 24), none, .pick (.t 19) (.c (.bool true)) (.t 23)⟩
 .done)))))))))))))))))))))))
 (.cut (.cond (.t 24) (.seq (.reg (.q ⟨(some 2), none, .mov (.c (.bool false))⟩
 .done))
 .ret)
 .skip)))
 (.seq (.seq (.reg (.q ⟨(some 25), none, .faddr 1 (.t 1)⟩
 (.q ⟨(some 26), none, .load 1 false (.t 25)⟩
 (.q ⟨(some 27), none, .bin .eql (.t 26) (.c (.int .i64 1))⟩
 .done))))
 (.cond (.t 27) (.seq (.reg (.q ⟨(some 28), none, .faddr 4 (.t 1)⟩
 (.q ⟨(some 29), none, .load 1 false (.t 28)⟩
 (.q ⟨(some 30), none, .faddr 5 (.t 1)⟩
 (.q ⟨(some 31), none, .load 1 false (.t 30)⟩
 (.q ⟨(some 32), none, .call 81 [(.t 29), (.c (.int .i64 (-1000000000))), (.t 31)]⟩
 (.q ⟨(some 33), none, .mov (.t 32)⟩
 (.q ⟨(some 34), (some (33, true)), .faddr 5 (.t 1)⟩
 (.q ⟨(some 35), (some (33, true)), .load 1 false (.t 34)⟩
 (.q ⟨(some 36), (some (33, true)), .faddr 4 (.t 1)⟩
 (.q ⟨(some 37), (some (33, true)), .load 1 false (.t 36)⟩
 (.q ⟨(some 38), (some (33, true)), .call 81 [(.t 35), (.t 37), (.c (.int .i64 1000000000))]⟩
 (.q ⟨(some 39), none, .pick (.t 33) (.t 38) (.c (.bool false))⟩
 (.q ⟨(some 40), none, .mov (.t 39)⟩
 (.q ⟨(some 41), (some (40, true)), .faddr 6 (.t 1)⟩
 (.q ⟨(some 42), (some (40, true)), .load 1 false (.t 41)⟩
 (.q ⟨(some 43), (some (40, true)), .bin .eql (.t 42) (.c (.str []))⟩
 (.q ⟨(some 44), none, .pick (.t 40) (.t 43) (.c (.bool false))⟩
 (.q ⟨(some 45), none, .mov (.t 44)⟩
 (.q ⟨(some 46), (some (45, true)), .faddr 7 (.t 1)⟩
 (.q ⟨(some 47), (some (45, true)), .load 1 false (.t 46)⟩
 (.q ⟨(some 48), (some (45, true)), .not (.t 47)⟩
 (.q ⟨(some 49), none, .pick (.t 45) (.t 48) (.c (.bool false))⟩
 (.q ⟨(some 2), none, .mov (.t 49)⟩
 .done))))))))))))))))))))))))
 .ret)
 .skip))
 (.seq (.seq (.reg (.q ⟨(some 50), none, .faddr 4 (.t 1)⟩
 (.q ⟨(some 51), none, .load 1 false (.t 50)⟩
 (.q ⟨(some 52), none, .bin .neq (.t 51) (.c (.int .i64 0))⟩
 (.q ⟨(some 53), none, .mov (.t 52)⟩
 (.q ⟨(some 54), (some (53, false)), .faddr 5 (.t 1)⟩
 (.q ⟨(some 55), (some (53, false)), .load 1 false (.t 54)⟩
 (.q ⟨(some 56), (some (53, false)), .bin .neq (.t 55) (.c (.int .i64 0))⟩
 (.q ⟨(some 57), none, .pick (.t 53) (.c (.bool true)) (.t 56)⟩
 .done)))))))))
 (.cut (.cond (.t 57) (.seq (.reg (.q ⟨(some 2), none, .mov (.c (.bool false))⟩
 .done))
 .ret)
 .skip)))
 (.seq (.seq (.reg (.q ⟨(some 58), none, .faddr 1 (.t 1)⟩
 (.q ⟨(some 59), none, .load 1 false (.t 58)⟩
 (.q ⟨(some 60), none, .bin .eql (.t 59) (.c (.int .i64 4))⟩
 .done))))
 (.cond (.t 60) (.seq (.reg (.q ⟨(some 61), none, .faddr 6 (.t 1)⟩
 (.q ⟨(some 62), none, .load 1 false (.t 61)⟩
 (.q ⟨(some 63), none, .call 80 [(.t 62)]⟩
 (.q ⟨(some 64), none, .mov (.t 63)⟩
 (.q ⟨(some 65), (some (64, true)), .faddr 2 (.t 1)⟩
 (.q ⟨(some 66), (some (64, true)), .load 1 false (.t 65)⟩
 (.q ⟨(some 67), (some (64, true)), .bin .eql (.t 66) (.c (.int .i64 0))⟩
 (.q ⟨(some 68), none, .pick (.t 64) (.t 67) (.c (.bool false))⟩
 (.q ⟨(some 2), none, .mov (.t 68)⟩
 .done))))))))))
 .ret)
 .skip))
 (.seq (.reg (.q ⟨(some 69), none, .faddr 6 (.t 1)⟩
 (.q ⟨(some 70), none, .load 1 false (.t 69)⟩
 (.q ⟨(some 71), none, .bin .eql (.t 70) (.c (.str []))⟩
 (.q ⟨(some 72), none, .mov (.t 71)⟩
 (.q ⟨(some 73), (some (72, true)), .faddr 7 (.t 1)⟩
 (.q ⟨(some 74), (some (72, true)), .load 1 false (.t 73)⟩
 (.q ⟨(some 75), (some (72, true)), .not (.t 74)⟩
 (.q ⟨(some 76), none, .pick (.t 72) (.t 75) (.c (.bool false))⟩
 (.q ⟨(some 2), none, .mov (.t 76)⟩
 .done))))))))))
 .ret))))))
theorem fc128 : fcomp Try.prog Try.f128 = some (c128.erase, [.mov (.t 2)], 77) := by kernel_rfl
def spec_ColumnOK (c_1 : GColumn) : Option Bool :=
    (((spec_NameOK c_1.Name).bind fun r_15 =>
    if (!r_15) then
    some true
    else
    (spec_l01In c_1.Kind 1 4).bind fun r_18 =>
    if (!r_18) then
    some true
    else
    (spec_l01In c_1.Min 0 1).bind fun r_21 =>
    if (!r_21) then
    some true
    else
    (spec_l01In c_1.Max 1 8).bind fun r_24 =>
    some (!r_24) : Option Bool)).bind fun s24_13 =>
    if s24_13 then
    some false
    else
    if (c_1.Kind == 1) then
    (spec_l01In c_1.Low (-1000000000) c_1.High).bind fun r_28 =>
    if r_28 then
    (spec_l01In c_1.High c_1.Low 1000000000).bind fun r_31 =>
    if r_31 then
    if (c_1.Ref == []) then
    some (!c_1.Strong)
    else
    some false
    else
    some false
    else
    some false
    else
    ((if (c_1.Low != 0) then
    some true
    else
    some (c_1.High != 0) : Option Bool)).bind fun s57_36 =>
    if s57_36 then
    some false
    else
    if (c_1.Kind == 4) then
    (spec_NameOK c_1.Ref).bind fun r_41 =>
    if r_41 then
    some (c_1.Min == 0)
    else
    some false
    else
    if (c_1.Ref == []) then
    some (!c_1.Strong)
    else
    some false
theorem w_spec_ColumnOK (c_1 : GColumn) (r : Bool) (hf : spec_ColumnOK c_1 = some r) : CallOK Try.prog 128 .flat [(encGColumn c_1)] (.bool r) := by
  refine CallOK.of_awp mixed Try.func128 fc128 nle ?_
  rw [argT_eq]
  unfold spec_ColumnOK at hf
  unfold c128
  refine (show awp Try.prog false 0 _ (ofL [(0, (encGColumn c_1))]) [] _ from ?_)
  refine awp_seq ?_
  refine w_reg ?_
  refine s_do (o_box (j := 0) (c := (.agg [(.str c_1.Name), (.int .i64 c_1.Kind), (.int .i64 c_1.Min), (.int .i64 c_1.Max), (.int .i64 c_1.Low), (.int .i64 c_1.High), (.str c_1.Ref), (.bool c_1.Strong)])) rfl trivial rfl rfl) ?_
  refine s_do (o_mov (.bool false) rfl) ?_
  refine w_done ?_
  refine k_seq ?_
  refine awp_seq ?_
  refine awp_seq ?_
  obtain ⟨s24_13, hb1, hf⟩ := ob hf
  refine awp_cut ([(1, (.ptr 0 0 0)), (24, (.bool s24_13))], [.box 8 (.agg [(.str c_1.Name), (.int .i64 c_1.Kind), (.int .i64 c_1.Min), (.int .i64 c_1.Max), (.int .i64 c_1.Low), (.int .i64 c_1.High), (.str c_1.Ref), (.bool c_1.Strong)])]) ?_ ?_
  · refine w_reg ?_
    refine s_do (o_q (.ptr 0 0 0) rfl trivial rfl) ?_
    refine s_do (o_q (.str c_1.Name) rfl nle rfl) ?_
    obtain ⟨r_15, er16, hb1⟩ := ob hb1
    refine s_do (o_call (w_spec_NameOK _ _ er16) rfl (.refl _) rfl) ?_
    refine s_do (o_q (.bool (!r_15)) rfl trivial rfl) ?_
    refine s_do (o_mov (.bool (!r_15)) rfl) ?_
    rcases oi hb1 with ⟨c17, hb1⟩ | ⟨c17, hb1⟩
    · refine s_lit (s := 7) (b := true) rfl c17 ?_
      refine s_off rfl rfl ?_
      refine s_off rfl rfl ?_
      refine s_off rfl rfl ?_
      refine s_off rfl rfl ?_
      refine s_do (o_q (.bool true) rfl trivial rfl) ?_
      refine s_do (o_mov (.bool true) rfl) ?_
      refine s_off rfl rfl ?_
      refine s_off rfl rfl ?_
      refine s_off rfl rfl ?_
      refine s_off rfl rfl ?_
      refine s_do (o_q (.bool true) rfl trivial rfl) ?_
      refine s_do (o_mov (.bool true) rfl) ?_
      refine s_off rfl rfl ?_
      refine s_off rfl rfl ?_
      refine s_off rfl rfl ?_
      refine s_off rfl rfl ?_
      refine s_do (o_q (.bool true) rfl trivial rfl) ?_
      refine w_done ?_
      obtain rfl := os hb1
      exact ⟨[], [0], _, _, rfl, rfl, ⟨.refl _, ⟨.refl _, trivial⟩⟩, (.refl _)⟩
    · refine s_lit (s := 7) (b := false) rfl (bf c17) ?_
      refine s_on rfl ?_
      refine s_do (o_q (.ptr 0 0 1) rfl trivial rfl) ?_
      refine s_on rfl ?_
      refine s_do (o_q (.int .i64 c_1.Kind) rfl nle rfl) ?_
      refine s_on rfl ?_
      obtain ⟨r_18, er19, hb1⟩ := ob hb1
      refine s_do (o_call (w_spec_l01In _ _ _ _ er19) rfl (.refl _) rfl) ?_
      refine s_on rfl ?_
      refine s_do (o_q (.bool (!r_18)) rfl trivial rfl) ?_
      refine s_do (o_q (.bool (!r_18)) rfl trivial rfl) ?_
      refine s_do (o_mov (.bool (!r_18)) rfl) ?_
      rcases oi hb1 with ⟨c20, hb1⟩ | ⟨c20, hb1⟩
      · refine s_lit (s := 13) (b := true) rfl c20 ?_
        refine s_off rfl rfl ?_
        refine s_off rfl rfl ?_
        refine s_off rfl rfl ?_
        refine s_off rfl rfl ?_
        refine s_do (o_q (.bool true) rfl trivial rfl) ?_
        refine s_do (o_mov (.bool true) rfl) ?_
        refine s_off rfl rfl ?_
        refine s_off rfl rfl ?_
        refine s_off rfl rfl ?_
        refine s_off rfl rfl ?_
        refine s_do (o_q (.bool true) rfl trivial rfl) ?_
        refine w_done ?_
        obtain rfl := os hb1
        exact ⟨[], [0], _, _, rfl, rfl, ⟨.refl _, ⟨.refl _, trivial⟩⟩, (.refl _)⟩
      · refine s_lit (s := 13) (b := false) rfl (bf c20) ?_
        refine s_on rfl ?_
        refine s_do (o_q (.ptr 0 0 2) rfl trivial rfl) ?_
        refine s_on rfl ?_
        refine s_do (o_q (.int .i64 c_1.Min) rfl nle rfl) ?_
        refine s_on rfl ?_
        obtain ⟨r_21, er22, hb1⟩ := ob hb1
        refine s_do (o_call (w_spec_l01In _ _ _ _ er22) rfl (.refl _) rfl) ?_
        refine s_on rfl ?_
        refine s_do (o_q (.bool (!r_21)) rfl trivial rfl) ?_
        refine s_do (o_q (.bool (!r_21)) rfl trivial rfl) ?_
        refine s_do (o_mov (.bool (!r_21)) rfl) ?_
        rcases oi hb1 with ⟨c23, hb1⟩ | ⟨c23, hb1⟩
        · refine s_lit (s := 19) (b := true) rfl c23 ?_
          refine s_off rfl rfl ?_
          refine s_off rfl rfl ?_
          refine s_off rfl rfl ?_
          refine s_off rfl rfl ?_
          refine s_do (o_q (.bool true) rfl trivial rfl) ?_
          refine w_done ?_
          obtain rfl := os hb1
          exact ⟨[], [0], _, _, rfl, rfl, ⟨.refl _, ⟨.refl _, trivial⟩⟩, (.refl _)⟩
        · refine s_lit (s := 19) (b := false) rfl (bf c23) ?_
          refine s_on rfl ?_
          refine s_do (o_q (.ptr 0 0 3) rfl trivial rfl) ?_
          refine s_on rfl ?_
          refine s_do (o_q (.int .i64 c_1.Max) rfl nle rfl) ?_
          refine s_on rfl ?_
          obtain ⟨r_24, er25, hb1⟩ := ob hb1
          refine s_do (o_call (w_spec_l01In _ _ _ _ er25) rfl (.refl _) rfl) ?_
          refine s_on rfl ?_
          refine s_do (o_q (.bool (!r_24)) rfl trivial rfl) ?_
          refine s_do (o_q (.bool (!r_24)) rfl trivial rfl) ?_
          refine w_done ?_
          obtain rfl := os hb1
          exact ⟨[], [0], _, _, rfl, rfl, ⟨.refl _, ⟨.refl _, trivial⟩⟩, (.refl _)⟩
  · rcases oi hf with ⟨c26, hf⟩ | ⟨c26, hf⟩
    · refine w_condt rfl c26 ?_
      refine awp_seq ?_
      refine w_reg ?_
      refine s_do (o_mov (.bool false) rfl) ?_
      refine w_done ?_
      refine k_seq ?_
      refine w_ret ?_
      obtain rfl := os hf
      exact r_flat ⟨trivial, trivial⟩ rfl (.refl _)
    · refine w_condf rfl (bf c26) ?_
      refine w_skip ?_
      refine k_seq ?_
      refine awp_seq ?_
      refine awp_seq ?_
      refine w_reg ?_
      refine s_do (o_q (.ptr 0 0 1) rfl trivial rfl) ?_
      refine s_do (o_q (.int .i64 c_1.Kind) rfl nle rfl) ?_
      refine s_do (o_q (.bool (c_1.Kind == 1)) rfl rfl rfl) ?_
      refine w_done ?_
      refine k_seq ?_
      rcases oi hf with ⟨c27, hf⟩ | ⟨c27, hf⟩
      · refine w_condt rfl c27 ?_
        refine awp_seq ?_
        refine w_reg ?_
        refine s_do (o_q (.ptr 0 0 4) rfl trivial rfl) ?_
        refine s_do (o_q (.int .i64 c_1.Low) rfl nle rfl) ?_
        refine s_do (o_q (.ptr 0 0 5) rfl trivial rfl) ?_
        refine s_do (o_q (.int .i64 c_1.High) rfl nle rfl) ?_
        obtain ⟨r_28, er29, hf⟩ := ob hf
        refine s_do (o_call (w_spec_l01In _ _ _ _ er29) rfl (.refl _) rfl) ?_
        refine s_do (o_mov (.bool r_28) rfl) ?_
        rcases oi hf with ⟨c30, hf⟩ | ⟨c30, hf⟩
        · refine s_lit (s := 33) (b := true) rfl c30 ?_
          refine s_on rfl ?_
          refine s_do (o_q (.ptr 0 0 5) rfl trivial rfl) ?_
          refine s_on rfl ?_
          refine s_do (o_q (.int .i64 c_1.High) rfl nle rfl) ?_
          refine s_on rfl ?_
          refine s_do (o_q (.ptr 0 0 4) rfl trivial rfl) ?_
          refine s_on rfl ?_
          refine s_do (o_q (.int .i64 c_1.Low) rfl nle rfl) ?_
          refine s_on rfl ?_
          obtain ⟨r_31, er32, hf⟩ := ob hf
          refine s_do (o_call (w_spec_l01In _ _ _ _ er32) rfl (.refl _) rfl) ?_
          refine s_do (o_q (.bool r_31) rfl trivial rfl) ?_
          refine s_do (o_mov (.bool r_31) rfl) ?_
          rcases oi hf with ⟨c33, hf⟩ | ⟨c33, hf⟩
          · refine s_lit (s := 40) (b := true) rfl c33 ?_
            refine s_on rfl ?_
            refine s_do (o_q (.ptr 0 0 6) rfl trivial rfl) ?_
            refine s_on rfl ?_
            refine s_do (o_q (.str c_1.Ref) rfl nle rfl) ?_
            refine s_on rfl ?_
            refine s_do (o_q (.bool (c_1.Ref == [])) rfl trivial rfl) ?_
            refine s_do (o_q (.bool (c_1.Ref == [])) rfl trivial rfl) ?_
            refine s_do (o_mov (.bool (c_1.Ref == [])) rfl) ?_
            rcases oi hf with ⟨c34, hf⟩ | ⟨c34, hf⟩
            · refine s_lit (s := 45) (b := true) rfl c34 ?_
              refine s_on rfl ?_
              refine s_do (o_q (.ptr 0 0 7) rfl trivial rfl) ?_
              refine s_on rfl ?_
              refine s_do (o_q (.bool c_1.Strong) rfl nle rfl) ?_
              refine s_on rfl ?_
              refine s_do (o_q (.bool (!c_1.Strong)) rfl trivial rfl) ?_
              refine s_do (o_q (.bool (!c_1.Strong)) rfl trivial rfl) ?_
              refine s_do (o_mov (.bool (!c_1.Strong)) rfl) ?_
              refine w_done ?_
              refine k_seq ?_
              refine w_ret ?_
              obtain rfl := os hf
              exact r_flat ⟨trivial, trivial⟩ rfl (.refl _)
            · refine s_lit (s := 45) (b := false) rfl (bf c34) ?_
              refine s_off rfl rfl ?_
              refine s_off rfl rfl ?_
              refine s_off rfl rfl ?_
              refine s_do (o_q (.bool false) rfl trivial rfl) ?_
              refine s_do (o_mov (.bool false) rfl) ?_
              refine w_done ?_
              refine k_seq ?_
              refine w_ret ?_
              obtain rfl := os hf
              exact r_flat ⟨trivial, trivial⟩ rfl (.refl _)
          · refine s_lit (s := 40) (b := false) rfl (bf c33) ?_
            refine s_off rfl rfl ?_
            refine s_off rfl rfl ?_
            refine s_off rfl rfl ?_
            refine s_do (o_q (.bool false) rfl trivial rfl) ?_
            refine s_do (o_mov (.bool false) rfl) ?_
            refine s_off rfl rfl ?_
            refine s_off rfl rfl ?_
            refine s_off rfl rfl ?_
            refine s_do (o_q (.bool false) rfl trivial rfl) ?_
            refine s_do (o_mov (.bool false) rfl) ?_
            refine w_done ?_
            refine k_seq ?_
            refine w_ret ?_
            obtain rfl := os hf
            exact r_flat ⟨trivial, trivial⟩ rfl (.refl _)
        · refine s_lit (s := 33) (b := false) rfl (bf c30) ?_
          refine s_off rfl rfl ?_
          refine s_off rfl rfl ?_
          refine s_off rfl rfl ?_
          refine s_off rfl rfl ?_
          refine s_off rfl rfl ?_
          refine s_do (o_q (.bool false) rfl trivial rfl) ?_
          refine s_do (o_mov (.bool false) rfl) ?_
          refine s_off rfl rfl ?_
          refine s_off rfl rfl ?_
          refine s_off rfl rfl ?_
          refine s_do (o_q (.bool false) rfl trivial rfl) ?_
          refine s_do (o_mov (.bool false) rfl) ?_
          refine s_off rfl rfl ?_
          refine s_off rfl rfl ?_
          refine s_off rfl rfl ?_
          refine s_do (o_q (.bool false) rfl trivial rfl) ?_
          refine s_do (o_mov (.bool false) rfl) ?_
          refine w_done ?_
          refine k_seq ?_
          refine w_ret ?_
          obtain rfl := os hf
          exact r_flat ⟨trivial, trivial⟩ rfl (.refl _)
      · refine w_condf rfl (bf c27) ?_
        refine w_skip ?_
        refine k_seq ?_
        refine awp_seq ?_
        refine awp_seq ?_
        obtain ⟨s57_36, hb1, hf⟩ := ob hf
        refine awp_cut ([(1, (.ptr 0 0 0)), (57, (.bool s57_36))], [.box 8 (.agg [(.str c_1.Name), (.int .i64 c_1.Kind), (.int .i64 c_1.Min), (.int .i64 c_1.Max), (.int .i64 c_1.Low), (.int .i64 c_1.High), (.str c_1.Ref), (.bool c_1.Strong)])]) ?_ ?_
        · refine w_reg ?_
          rcases oi hb1 with ⟨c38, hb1⟩ | ⟨c38, hb1⟩
          · refine s_do (o_q (.ptr 0 0 4) rfl trivial rfl) ?_
            refine s_do (o_q (.int .i64 c_1.Low) rfl nle rfl) ?_
            refine s_do (o_q (.bool (c_1.Low != 0)) rfl rfl rfl) ?_
            refine s_do (o_mov (.bool (c_1.Low != 0)) rfl) ?_
            refine s_lit (s := 53) (b := true) rfl c38 ?_
            refine s_off rfl rfl ?_
            refine s_off rfl rfl ?_
            refine s_off rfl rfl ?_
            refine s_do (o_q (.bool true) rfl trivial rfl) ?_
            refine w_done ?_
            obtain rfl := os hb1
            exact ⟨[], [0], _, _, rfl, rfl, ⟨.refl _, ⟨.refl _, trivial⟩⟩, (.refl _)⟩
          · refine s_do (o_q (.ptr 0 0 4) rfl trivial rfl) ?_
            refine s_do (o_q (.int .i64 c_1.Low) rfl nle rfl) ?_
            refine s_do (o_q (.bool (c_1.Low != 0)) rfl rfl rfl) ?_
            refine s_do (o_mov (.bool (c_1.Low != 0)) rfl) ?_
            refine s_lit (s := 53) (b := false) rfl (bf c38) ?_
            refine s_on rfl ?_
            refine s_do (o_q (.ptr 0 0 5) rfl trivial rfl) ?_
            refine s_on rfl ?_
            refine s_do (o_q (.int .i64 c_1.High) rfl nle rfl) ?_
            refine s_on rfl ?_
            refine s_do (o_q (.bool (c_1.High != 0)) rfl rfl rfl) ?_
            refine s_do (o_q (.bool (c_1.High != 0)) rfl trivial rfl) ?_
            refine w_done ?_
            obtain rfl := os hb1
            exact ⟨[], [0], _, _, rfl, rfl, ⟨.refl _, ⟨.refl _, trivial⟩⟩, (.refl _)⟩
        · rcases oi hf with ⟨c39, hf⟩ | ⟨c39, hf⟩
          · refine w_condt rfl c39 ?_
            refine awp_seq ?_
            refine w_reg ?_
            refine s_do (o_mov (.bool false) rfl) ?_
            refine w_done ?_
            refine k_seq ?_
            refine w_ret ?_
            obtain rfl := os hf
            exact r_flat ⟨trivial, trivial⟩ rfl (.refl _)
          · refine w_condf rfl (bf c39) ?_
            refine w_skip ?_
            refine k_seq ?_
            refine awp_seq ?_
            refine awp_seq ?_
            refine w_reg ?_
            refine s_do (o_q (.ptr 0 0 1) rfl trivial rfl) ?_
            refine s_do (o_q (.int .i64 c_1.Kind) rfl nle rfl) ?_
            refine s_do (o_q (.bool (c_1.Kind == 4)) rfl rfl rfl) ?_
            refine w_done ?_
            refine k_seq ?_
            rcases oi hf with ⟨c40, hf⟩ | ⟨c40, hf⟩
            · refine w_condt rfl c40 ?_
              refine awp_seq ?_
              refine w_reg ?_
              obtain ⟨r_41, er42, hf⟩ := ob hf
              rcases oi hf with ⟨c43, hf⟩ | ⟨c43, hf⟩
              · refine s_do (o_q (.ptr 0 0 6) rfl trivial rfl) ?_
                refine s_do (o_q (.str c_1.Ref) rfl nle rfl) ?_
                refine s_do (o_call (w_spec_NameOK _ _ er42) rfl (.refl _) rfl) ?_
                refine s_do (o_mov (.bool r_41) rfl) ?_
                refine s_lit (s := 64) (b := true) rfl c43 ?_
                refine s_on rfl ?_
                refine s_do (o_q (.ptr 0 0 2) rfl trivial rfl) ?_
                refine s_on rfl ?_
                refine s_do (o_q (.int .i64 c_1.Min) rfl nle rfl) ?_
                refine s_on rfl ?_
                refine s_do (o_q (.bool (c_1.Min == 0)) rfl rfl rfl) ?_
                refine s_do (o_q (.bool (c_1.Min == 0)) rfl trivial rfl) ?_
                refine s_do (o_mov (.bool (c_1.Min == 0)) rfl) ?_
                refine w_done ?_
                refine k_seq ?_
                refine w_ret ?_
                obtain rfl := os hf
                exact r_flat ⟨trivial, trivial⟩ rfl (.refl _)
              · refine s_do (o_q (.ptr 0 0 6) rfl trivial rfl) ?_
                refine s_do (o_q (.str c_1.Ref) rfl nle rfl) ?_
                refine s_do (o_call (w_spec_NameOK _ _ er42) rfl (.refl _) rfl) ?_
                refine s_do (o_mov (.bool r_41) rfl) ?_
                refine s_lit (s := 64) (b := false) rfl (bf c43) ?_
                refine s_off rfl rfl ?_
                refine s_off rfl rfl ?_
                refine s_off rfl rfl ?_
                refine s_do (o_q (.bool false) rfl trivial rfl) ?_
                refine s_do (o_mov (.bool false) rfl) ?_
                refine w_done ?_
                refine k_seq ?_
                refine w_ret ?_
                obtain rfl := os hf
                exact r_flat ⟨trivial, trivial⟩ rfl (.refl _)
            · refine w_condf rfl (bf c40) ?_
              refine w_skip ?_
              refine k_seq ?_
              refine awp_seq ?_
              refine w_reg ?_
              rcases oi hf with ⟨c44, hf⟩ | ⟨c44, hf⟩
              · refine s_do (o_q (.ptr 0 0 6) rfl trivial rfl) ?_
                refine s_do (o_q (.str c_1.Ref) rfl nle rfl) ?_
                refine s_do (o_q (.bool (c_1.Ref == [])) rfl trivial rfl) ?_
                refine s_do (o_mov (.bool (c_1.Ref == [])) rfl) ?_
                refine s_lit (s := 72) (b := true) rfl c44 ?_
                refine s_on rfl ?_
                refine s_do (o_q (.ptr 0 0 7) rfl trivial rfl) ?_
                refine s_on rfl ?_
                refine s_do (o_q (.bool c_1.Strong) rfl nle rfl) ?_
                refine s_on rfl ?_
                refine s_do (o_q (.bool (!c_1.Strong)) rfl trivial rfl) ?_
                refine s_do (o_q (.bool (!c_1.Strong)) rfl trivial rfl) ?_
                refine s_do (o_mov (.bool (!c_1.Strong)) rfl) ?_
                refine w_done ?_
                refine k_seq ?_
                refine w_ret ?_
                obtain rfl := os hf
                exact r_flat ⟨trivial, trivial⟩ rfl (.refl _)
              · refine s_do (o_q (.ptr 0 0 6) rfl trivial rfl) ?_
                refine s_do (o_q (.str c_1.Ref) rfl nle rfl) ?_
                refine s_do (o_q (.bool (c_1.Ref == [])) rfl trivial rfl) ?_
                refine s_do (o_mov (.bool (c_1.Ref == [])) rfl) ?_
                refine s_lit (s := 72) (b := false) rfl (bf c44) ?_
                refine s_off rfl rfl ?_
                refine s_off rfl rfl ?_
                refine s_off rfl rfl ?_
                refine s_do (o_q (.bool false) rfl trivial rfl) ?_
                refine s_do (o_mov (.bool false) rfl) ?_
                refine w_done ?_
                refine k_seq ?_
                refine w_ret ?_
                obtain rfl := os hf
                exact r_flat ⟨trivial, trivial⟩ rfl (.refl _)

/- spec.l04Default -/
def c129 : ACode :=
 (.seq (.reg (.q ⟨(some 1), none, .box 8 (.t 0)⟩
 (.q ⟨(some 2), none, .mov (.c .nil)⟩
 .done)))
 (.seq (.seq (.reg (.q ⟨(some 4), none, .faddr 2 (.t 1)⟩
 (.q ⟨(some 5), none, .load 1 false (.t 4)⟩
 (.q ⟨(some 6), none, .bin .eql (.t 5) (.c (.int .i64 0))⟩
 .done))))
 (.cond (.t 6) (.seq (.reg (.q ⟨(some 7), none, .bslice 3 []⟩
 (.q ⟨(some 2), none, .mov (.t 7)⟩
 .done)))
 .ret)
 .skip))
 (.seq (.reg (.q ⟨(some 8), none, .faddr 1 (.t 1)⟩
 (.q ⟨(some 9), none, .load 1 false (.t 8)⟩
 (.q ⟨(some 10), none, .build [(.int .i64 0), (.int .i64 0), (.str [])] [(0, 1, (.t 9))]⟩
 (.q ⟨(some 3), none, .box 3 (.c (.agg [(.int .i64 0), (.int .i64 0), (.str [])]))⟩
 (.q ⟨none, none, .store 3 (.t 3) (.t 10)⟩
 .done))))))
 (.seq (.seq (.reg (.q ⟨(some 11), none, .faddr 1 (.t 1)⟩
 (.q ⟨(some 12), none, .load 1 false (.t 11)⟩
 (.q ⟨(some 13), none, .bin .eql (.t 12) (.c (.int .i64 1))⟩
 .done))))
 (.cond (.t 13) (.reg (.q ⟨(some 14), none, .faddr 4 (.t 1)⟩
 (.q ⟨(some 15), none, .load 1 false (.t 14)⟩
 (.q ⟨(some 16), none, .faddr 5 (.t 1)⟩
 (.q ⟨(some 17), none, .load 1 false (.t 16)⟩
 (.q ⟨(some 18), none, .mnmx false (.t 17) (.c (.int .i64 0))⟩
 (.q ⟨(some 19), none, .mnmx true (.t 15) (.t 18)⟩
 (.q ⟨(some 20), none, .faddr 1 (.t 3)⟩
 (.q ⟨none, none, .store 1 (.t 20) (.t 19)⟩
 .done)))))))))
 .skip))
 (.cut (.seq (.reg (.q ⟨(some 21), none, .load 3 true (.t 3)⟩
 (.q ⟨(some 22), none, .bslice 3 [(.t 21)]⟩
 (.q ⟨(some 2), none, .mov (.t 22)⟩
 .done))))
 .ret))))))
theorem fc129 : fcomp Try.prog Try.f129 = some (c129.erase, [.mov (.t 2)], 23) := by kernel_rfl
def spec_l04Default (c_1 : GColumn) : Option (List GAtom) :=
    if (c_1.Min == 0) then
    some []
    else
    ((if (c_1.Kind == 1) then
    some (if (if 0 < c_1.High then 0 else c_1.High) > c_1.Low then (if 0 < c_1.High then 0 else c_1.High) else c_1.Low)
    else
    some 0 : Option Int)).bind fun x_4 =>
    some [(⟨c_1.Kind, x_4, []⟩ : GAtom)]
theorem w_spec_l04Default (c_1 : GColumn) (r : (List GAtom)) (hf : spec_l04Default c_1 = some r) : CallOK Try.prog 129 .fresh [(encGColumn c_1)] (.lst 3 (r.map encGAtom)) := by
  refine CallOK.of_awp mixed Try.func129 fc129 nle ?_
  rw [argT_eq]
  unfold spec_l04Default at hf
  unfold c129
  refine (show awp Try.prog true 0 _ (ofL [(0, (encGColumn c_1))]) [] _ from ?_)
  refine awp_seq ?_
  refine w_reg ?_
  refine s_do (o_box (j := 0) (c := (.agg [(.str c_1.Name), (.int .i64 c_1.Kind), (.int .i64 c_1.Min), (.int .i64 c_1.Max), (.int .i64 c_1.Low), (.int .i64 c_1.High), (.str c_1.Ref), (.bool c_1.Strong)])) rfl trivial rfl rfl) ?_
  refine s_do (o_mov .nil rfl) ?_
  refine w_done ?_
  refine k_seq ?_
  refine awp_seq ?_
  refine awp_seq ?_
  refine w_reg ?_
  refine s_do (o_q (.ptr 0 0 2) rfl trivial rfl) ?_
  refine s_do (o_q (.int .i64 c_1.Min) rfl nle rfl) ?_
  refine s_do (o_q (.bool (c_1.Min == 0)) rfl rfl rfl) ?_
  refine w_done ?_
  refine k_seq ?_
  rcases oi hf with ⟨c2, hf⟩ | ⟨c2, hf⟩
  · refine w_condt rfl c2 ?_
    refine awp_seq ?_
    refine w_reg ?_
    refine s_do (o_bslice (j := 1) (as' := []) rfl (fun _ => by decide) trivial (.refl _) rfl rfl rfl) ?_
    refine s_do (o_mov (.own 1 0 0) rfl) ?_
    refine w_done ?_
    refine k_seq ?_
    refine w_ret ?_
    obtain rfl := os hf
    exact r_fresh ⟨trivial, trivial⟩ rfl (by decide) (.refl _)
  · refine w_condf rfl (bf c2) ?_
    refine w_skip ?_
    refine k_seq ?_
    refine awp_seq ?_
    refine w_reg ?_
    refine s_do (o_q (.ptr 0 0 1) rfl trivial rfl) ?_
    refine s_do (o_q (.int .i64 c_1.Kind) rfl nle rfl) ?_
    refine s_do (o_q (.agg [(.int .i64 c_1.Kind), (.int .i64 0), (.str [])]) rfl ⟨⟨rfl, nle, trivial⟩, trivial⟩ rfl) ?_
    refine s_do (o_box (j := 1) (c := (.agg [(.int .i64 0), (.int .i64 0), (.str [])])) rfl trivial rfl rfl) ?_
    refine s_do0 (o_storebox (v := (.agg [(.int .i64 c_1.Kind), (.int .i64 0), (.str [])])) (y' := (.agg [(.int .i64 c_1.Kind), (.int .i64 0), (.str [])])) rfl rfl rfl trivial ⟨rfl, nle⟩ ⟨⟨rfl, trivial⟩, ⟨⟨rfl, trivial⟩, ⟨⟨rfl, trivial⟩, trivial⟩⟩⟩ rfl) ?_
    refine w_done ?_
    refine k_seq ?_
    refine awp_seq ?_
    obtain ⟨x_4, hb1, hf⟩ := ob hf
    refine awp_cut ([(3, (.ptr 0 0 0))], [.box 3 (.agg [(.int .i64 c_1.Kind), (.int .i64 x_4), (.str [])])]) ?_ ?_
    · refine awp_seq ?_
      refine w_reg ?_
      refine s_do (o_q (.ptr 0 0 1) rfl trivial rfl) ?_
      refine s_do (o_q (.int .i64 c_1.Kind) rfl nle rfl) ?_
      refine s_do (o_q (.bool (c_1.Kind == 1)) rfl rfl rfl) ?_
      refine w_done ?_
      refine k_seq ?_
      rcases oi hb1 with ⟨c6, hb1⟩ | ⟨c6, hb1⟩
      · refine w_condt rfl c6 ?_
        refine w_reg ?_
        refine s_do (o_q (.ptr 0 0 4) rfl trivial rfl) ?_
        refine s_do (o_q (.int .i64 c_1.Low) rfl nle rfl) ?_
        refine s_do (o_q (.ptr 0 0 5) rfl trivial rfl) ?_
        refine s_do (o_q (.int .i64 c_1.High) rfl nle rfl) ?_
        refine s_do (o_q (.int .i64 (if 0 < c_1.High then 0 else c_1.High)) rfl rfl rfl) ?_
        refine s_do (o_q (.int .i64 (if (if 0 < c_1.High then 0 else c_1.High) > c_1.Low then (if 0 < c_1.High then 0 else c_1.High) else c_1.Low)) rfl rfl rfl) ?_
        refine s_do (o_q (.ptr 1 0 1) rfl trivial rfl) ?_
        refine s_do0 (o_storebox (v := (.int .i64 (if (if 0 < c_1.High then 0 else c_1.High) > c_1.Low then (if 0 < c_1.High then 0 else c_1.High) else c_1.Low))) (y' := (.agg [(.int .i64 c_1.Kind), (.int .i64 (if (if 0 < c_1.High then 0 else c_1.High) > c_1.Low then (if 0 < c_1.High then 0 else c_1.High) else c_1.Low)), (.str [])])) rfl rfl rfl trivial ⟨rfl, nle⟩ ⟨⟨rfl, trivial⟩, trivial⟩ rfl) ?_
        refine w_done ?_
        obtain rfl := os hb1
        exact ⟨[], [1], _, _, rfl, rfl, ⟨.refl _, trivial⟩, (.refl _)⟩
      · refine w_condf rfl (bf c6) ?_
        refine w_skip ?_
        obtain rfl := os hb1
        exact ⟨[], [1], _, _, rfl, rfl, ⟨.refl _, trivial⟩, (.refl _)⟩
    · refine awp_seq ?_
      refine w_reg ?_
      refine s_do (o_q (.agg [(.int .i64 c_1.Kind), (.int .i64 x_4), (.str [])]) rfl nle rfl) ?_
      refine s_do (o_bslice (j := 1) (as' := [(encGAtom (⟨c_1.Kind, x_4, []⟩ : GAtom))]) rfl (fun _ => by decide) ⟨rfl, trivial⟩ (.refl _) rfl rfl rfl) ?_
      refine s_do (o_mov (.own 1 0 1) rfl) ?_
      refine w_done ?_
      refine k_seq ?_
      refine w_ret ?_
      obtain rfl := os hf
      exact r_fresh ⟨trivial, trivial⟩ rfl (by decide) (.refl _)

/- spec.DefaultOf -/
def c54 : ACode :=
 (.seq (.reg (.q ⟨(some 1), none, .box 8 (.t 0)⟩
 (.q ⟨(some 2), none, .mov (.c .nil)⟩
 (.q ⟨(some 3), none, .mov (.c (.int .i64 0))⟩
 .done))))
 (.seq (.seq (.reg (.q ⟨(some 4), none, .load 8 true (.t 1)⟩
 (.q ⟨(some 5), none, .call 128 [(.t 4)]⟩
 (.q ⟨(some 6), none, .not (.t 5)⟩
 .done))))
 (.cond (.t 6) (.seq (.reg (.q ⟨(some 7), none, .bslice 3 []⟩
 (.q ⟨(some 2), none, .mov (.t 7)⟩
 (.q ⟨(some 3), none, .mov (.c (.int .i64 1))⟩
 .done))))
 .ret)
 .skip))
 (.seq (.reg (.q ⟨(some 8), none, .load 8 true (.t 1)⟩
 (.q ⟨(some 9), none, .call 129 [(.t 8)]⟩
 (.q ⟨(some 2), none, .mov (.t 9)⟩
 (.q ⟨(some 3), none, .mov (.c (.int .i64 0))⟩
 .done)))))
 .ret)))
theorem fc54 : fcomp Try.prog Try.f54 = some (c54.erase, [.mov (.t 2), .mov (.t 3)], 10) := by kernel_rfl
def spec_DefaultOf (c_1 : GColumn) : Option ((List GAtom) × Int) :=
    (spec_ColumnOK c_1).bind fun r_2 =>
    if (!r_2) then
    some ([], 1)
    else
    (spec_l04Default c_1).bind fun r_5 =>
    some (r_5, 0)
theorem w_spec_DefaultOf (c_1 : GColumn) (r : ((List GAtom) × Int)) (hf : spec_DefaultOf c_1 = some r) : CallOK Try.prog 54 .fresh [(encGColumn c_1)] (.tup [(.lst 3 (r.1.map encGAtom)), (.int .i64 r.2)]) := by
  refine CallOK.of_awp mixed Try.func54 fc54 nle ?_
  rw [argT_eq]
  unfold spec_DefaultOf at hf
  unfold c54
  refine (show awp Try.prog true 0 _ (ofL [(0, (encGColumn c_1))]) [] _ from ?_)
  refine awp_seq ?_
  refine w_reg ?_
  refine s_do (o_box (j := 0) (c := (.agg [(.str c_1.Name), (.int .i64 c_1.Kind), (.int .i64 c_1.Min), (.int .i64 c_1.Max), (.int .i64 c_1.Low), (.int .i64 c_1.High), (.str c_1.Ref), (.bool c_1.Strong)])) rfl trivial rfl rfl) ?_
  refine s_do (o_mov .nil rfl) ?_
  refine s_do (o_mov (.int .i64 0) rfl) ?_
  refine w_done ?_
  refine k_seq ?_
  refine awp_seq ?_
  refine awp_seq ?_
  refine w_reg ?_
  obtain ⟨r_2, er3, hf⟩ := ob hf
  refine s_do (o_q (.agg [(.str c_1.Name), (.int .i64 c_1.Kind), (.int .i64 c_1.Min), (.int .i64 c_1.Max), (.int .i64 c_1.Low), (.int .i64 c_1.High), (.str c_1.Ref), (.bool c_1.Strong)]) rfl nle rfl) ?_
  refine s_do (o_call (w_spec_ColumnOK _ _ er3) rfl (.refl _) rfl) ?_
  refine s_do (o_q (.bool (!r_2)) rfl trivial rfl) ?_
  refine w_done ?_
  refine k_seq ?_
  rcases oi hf with ⟨c4, hf⟩ | ⟨c4, hf⟩
  · refine w_condt rfl c4 ?_
    refine awp_seq ?_
    refine w_reg ?_
    refine s_do (o_bslice (j := 1) (as' := []) rfl (fun _ => by decide) trivial (.refl _) rfl rfl rfl) ?_
    refine s_do (o_mov (.own 1 0 0) rfl) ?_
    refine s_do (o_mov (.int .i64 1) rfl) ?_
    refine w_done ?_
    refine k_seq ?_
    refine w_ret ?_
    obtain rfl := os hf
    exact r_fresh ⟨trivial, ⟨trivial, trivial⟩⟩ rfl (by decide) (.refl _)
  · refine w_condf rfl (bf c4) ?_
    refine w_skip ?_
    refine k_seq ?_
    refine awp_seq ?_
    refine w_reg ?_
    obtain ⟨r_5, er6, hf⟩ := ob hf
    refine s_do (o_q (.agg [(.str c_1.Name), (.int .i64 c_1.Kind), (.int .i64 c_1.Min), (.int .i64 c_1.Max), (.int .i64 c_1.Low), (.int .i64 c_1.High), (.str c_1.Ref), (.bool c_1.Strong)]) rfl nle rfl) ?_
    refine s_do (o_callf (v := (.own 1 0 r_5.length)) (h' := [.row 3 (r_5.map encGAtom)]) (w_spec_l04Default _ _ er6) rfl (.refl _) (by simp only [openV, openVs, List.length_map, List.nil_append, List.append_nil, List.cons_append]; rfl)) ?_
    refine s_do (o_mov (.own 1 0 r_5.length) rfl) ?_
    refine s_do (o_mov (.int .i64 0) rfl) ?_
    refine w_done ?_
    refine k_seq ?_
    refine w_ret ?_
    obtain rfl := os hf
    exact r_fresh ⟨trivial, ⟨trivial, trivial⟩⟩ rfl (by decide) (.tup (.cons (.of_eq (congrArg (AV.lst _) (tk (enc := encGAtom) r_5))) (.cons (.refl _) .nil)))

/- impl.isList[impl.Atom] -/
def c130 : ACode :=
 (.seq (.reg (.q ⟨(some 2), none, .mov (.c (.bool false))⟩
 .done))
 (.seq (.reg (.q ⟨(some 3), none, .mov (.t 0)⟩
 (.q ⟨(some 4), none, .len (.t 3)⟩
 (.q ⟨(some 5), none, .bin .leq (.t 4) (.c (.int .i64 4096))⟩
 (.q ⟨(some 2), none, .mov (.t 5)⟩
 .done)))))
 .ret))
theorem fc130 : fcomp Try.prog Try.f130 = some (c130.erase, [.mov (.t 2)], 6) := by kernel_rfl
def impl_isList_impl_Atom (list_1 : (List GAtom)) : Option Bool :=
    some (decide ((list_1.length : Int) ≤ 4096))
theorem w_impl_isList_impl_Atom (list_1 : (List GAtom)) (r : Bool) (hf : impl_isList_impl_Atom list_1 = some r) : CallOK Try.prog 130 .flat [(.lst 3 (list_1.map encGAtom))] (.bool r) := by
  refine CallOK.of_awp mixed Try.func130 fc130 nle ?_
  rw [argT_eq]
  unfold impl_isList_impl_Atom at hf
  unfold c130
  refine (show awp Try.prog false 0 _ (ofL [(0, (.lst 3 (list_1.map encGAtom)))]) [] _ from ?_)
  refine awp_seq ?_
  refine w_reg ?_
  refine s_do (o_mov (.bool false) rfl) ?_
  refine w_done ?_
  refine k_seq ?_
  refine awp_seq ?_
  refine w_reg ?_
  refine s_do (o_mov (.lst 3 (list_1.map encGAtom)) rfl) ?_
  refine s_dof (o_len (enc := encGAtom) rfl) fun hl2 => ?_
  refine s_do (o_q (.bool (decide ((list_1.length : Int) ≤ 4096))) rfl rfl rfl) ?_
  refine s_do (o_mov (.bool (decide ((list_1.length : Int) ≤ 4096))) rfl) ?_
  refine w_done ?_
  refine k_seq ?_
  refine w_ret ?_
  obtain rfl := os hf
  exact r_flat ⟨trivial, trivial⟩ rfl (.refl _)

/- impl.isPlain -/
def c174 : ACode :=
 (.seq (.reg (.q ⟨(some 2), none, .mov (.c (.bool false))⟩
 .done))
 (.seq (.seq (.reg (.q ⟨(some 4), none, .mov (.t 0)⟩
 (.q ⟨(some 5), none, .lenS (.t 4)⟩
 (.q ⟨(some 6), none, .mov (.c (.int .i64 0))⟩
 .done))))
 (.block 0 (.loop (.seq (.reg (.q ⟨(some 7), none, .bin .lss (.t 6) (.t 5)⟩
 .done))
 (.seq (.cond (.t 7) .skip
 (.exit 0))
 (.seq (.block 1 (.seq (.reg (.q ⟨(some 8), none, .mov (.t 6)⟩
 (.q ⟨(some 3), none, .mov (.t 8)⟩
 .done)))
 (.seq (.reg (.q ⟨(some 9), none, .mov (.t 0)⟩
 (.q ⟨(some 10), none, .mov (.t 3)⟩
 (.q ⟨(some 11), none, .idxs (.t 9) (.t 10)⟩
 (.q ⟨(some 12), none, .bin .lss (.t 11) (.c (.int .u8 32))⟩
 (.q ⟨(some 13), none, .mov (.t 12)⟩
 (.q ⟨(some 14), (some (13, false)), .mov (.t 0)⟩
 (.q ⟨(some 15), (some (13, false)), .mov (.t 3)⟩
 (.q ⟨(some 16), (some (13, false)), .idxs (.t 14) (.t 15)⟩
 (.q ⟨(some 17), (some (13, false)), .bin .gtr (.t 16) (.c (.int .u8 126))⟩
 (.q ⟨(some 18), none, .pick (.t 13) (.c (.bool true)) (.t 17)⟩
 .done)))))))))))
 (.cut (.cond (.t 18) (.seq (.reg (.q ⟨(some 2), none, .mov (.c (.bool false))⟩
 .done))
 .ret)
 .skip)))))
 (.reg (.q ⟨(some 19), none, .bin .add (.t 6) (.c (.int .i64 1))⟩
 (.q ⟨(some 6), none, .mov (.t 19)⟩
 .done)))))))))
 (.cut (.seq (.reg (.q ⟨(some 20), none, .mov (.t 0)⟩
 (.q ⟨(some 21), none, .lenS (.t 20)⟩
 (.q ⟨(some 22), none, .bin .leq (.t 21) (.c (.int .i64 200))⟩
 (.q ⟨(some 2), none, .mov (.t 22)⟩
 .done)))))
 .ret))))
theorem fc174 : fcomp Try.prog Try.f174 = some (c174.erase, [.mov (.t 2)], 23) := by kernel_rfl
def impl_isPlain_L1  : List UInt8 → Option (Fl Bool Unit)
  | [] =>
    some (.go ())
  | x_54 :: xs =>
    ((if (decide ((x_54.toNat : Int) < 32)) then
    some true
    else
    some (decide ((x_54.toNat : Int) > 126)) : Option Bool)).bind fun s18_56 =>
    if s18_56 then
    some (.ret false)
    else
    impl_isPlain_L1 xs 

def impl_isPlain (t_1 : Str) : Option Bool :=
    (impl_isPlain_L1 t_1 ).bind fun q => (match q with
    | .ret r => some r
    | .go _ =>
    some (decide ((t_1.length : Int) ≤ 200)))
theorem w_impl_isPlain (t_1 : Str) (r : Bool) (hf : impl_isPlain t_1 = some r) : CallOK Try.prog 174 .flat [(.str t_1)] (.bool r) := by
  refine CallOK.of_awp mixed Try.func174 fc174 nle ?_
  rw [argT_eq]
  unfold impl_isPlain at hf
  unfold c174
  refine (show awp Try.prog false 0 _ (ofL [(0, (.str t_1))]) [] _ from ?_)
  refine awp_seq ?_
  refine w_reg ?_
  refine s_do (o_mov (.bool false) rfl) ?_
  refine w_done ?_
  refine k_seq ?_
  refine awp_seq ?_
  refine awp_seq ?_
  refine w_reg ?_
  refine s_do (o_mov (.str t_1) rfl) ?_
  refine s_dof (o_lenS rfl) fun hl2 => ?_
  refine s_do (o_mov (.int .i64 0) rfl) ?_
  refine w_done ?_
  refine k_seq ?_
  obtain ⟨p47, hb1, hf⟩ := ob hf
  refine awp_cutx (X := {q : Unit // p47 = .go q}) (fun q => ([(0, (.str t_1))], [])) ?_ ?_
  · refine awp_loop (X := {q : Nat // impl_isPlain_L1 (t_1.drop q)  = some p47}) (fun q => ([(0, (.str t_1)), (5, (.int .i64 (t_1.length : Int))), (6, (.int .i64 (q.1 : Int)))], [])) (fun q => t_1.length - q.1) ⟨0, hb1⟩ ⟨[], [], _, _, rfl, rfl, ⟨.refl _, ⟨.refl _, ⟨.refl _, trivial⟩⟩⟩, (.refl _)⟩ ?_
    rintro ⟨s6_32, hc1⟩
    have hc1 : impl_isPlain_L1 (t_1.drop s6_32)  = some p47 := hc1
    refine (show awp Try.prog false 0 _ (ofL [(0, (.str t_1)), (5, (.int .i64 (t_1.length : Int))), (6, (.int .i64 (s6_32 : Int)))]) [] _ from ?_)
    rcases dropc t_1 s6_32 with ⟨hie50, hd53⟩ | ⟨hlt48, x_54, hx49, hd53⟩
    · rw [hd53, impl_isPlain_L1.eq_1] at hc1
      have hq52 := dlf hie50
      refine awp_seq ?_
      refine w_reg ?_
      refine s_do (o_q (.bool (decide ((s6_32 : Int) < (t_1.length : Int)))) rfl rfl rfl) ?_
      refine w_done ?_
      refine k_seq ?_
      refine awp_seq ?_
      refine w_condf rfl hq52 ?_
      refine w_exit ?_
      refine k_seqx ?_
      refine k_loopx ?_
      refine k_blkx ?_
      obtain rfl := os hc1
      exact k_cutn ⟨_, rfl⟩ ⟨[], [], _, _, rfl, rfl, ⟨.refl _, trivial⟩, (.refl _)⟩
    · rw [hd53, impl_isPlain_L1.eq_2] at hc1
      have hq52 := dlt hlt48
      refine awp_seq ?_
      refine w_reg ?_
      refine s_do (o_q (.bool (decide ((s6_32 : Int) < (t_1.length : Int)))) rfl rfl rfl) ?_
      refine w_done ?_
      refine k_seq ?_
      refine awp_seq ?_
      refine w_condt rfl hq52 ?_
      refine w_skip ?_
      refine k_seq ?_
      refine awp_seq ?_
      refine w_blk ?_
      refine awp_seq ?_
      refine w_reg ?_
      refine s_do (o_mov (.int .i64 (s6_32 : Int)) rfl) ?_
      refine s_do (o_mov (.int .i64 (s6_32 : Int)) rfl) ?_
      refine w_done ?_
      refine k_seq ?_
      refine awp_seq ?_
      obtain ⟨s18_56, hb2, hc1⟩ := ob hc1
      refine awp_cut ([(0, (.str t_1)), (5, (.int .i64 (t_1.length : Int))), (6, (.int .i64 (s6_32 : Int))), (18, (.bool s18_56))], []) ?_ ?_
      · refine w_reg ?_
        rcases oi hb2 with ⟨c58, hb2⟩ | ⟨c58, hb2⟩
        · refine s_do (o_mov (.str t_1) rfl) ?_
          refine s_do (o_mov (.int .i64 (s6_32 : Int)) rfl) ?_
          refine s_do (o_idxsn rfl rfl hx49) ?_
          refine s_do (o_q (.bool (decide ((x_54.toNat : Int) < 32))) rfl rfl rfl) ?_
          refine s_do (o_mov (.bool (decide ((x_54.toNat : Int) < 32))) rfl) ?_
          refine s_lit (s := 13) (b := true) rfl c58 ?_
          refine s_off rfl rfl ?_
          refine s_off rfl rfl ?_
          refine s_off rfl rfl ?_
          refine s_off rfl rfl ?_
          refine s_do (o_q (.bool true) rfl trivial rfl) ?_
          refine w_done ?_
          obtain rfl := os hb2
          exact ⟨[], [], _, _, rfl, rfl, ⟨.refl _, ⟨.refl _, ⟨.refl _, ⟨.refl _, trivial⟩⟩⟩⟩, (.refl _)⟩
        · refine s_do (o_mov (.str t_1) rfl) ?_
          refine s_do (o_mov (.int .i64 (s6_32 : Int)) rfl) ?_
          refine s_do (o_idxsn rfl rfl hx49) ?_
          refine s_do (o_q (.bool (decide ((x_54.toNat : Int) < 32))) rfl rfl rfl) ?_
          refine s_do (o_mov (.bool (decide ((x_54.toNat : Int) < 32))) rfl) ?_
          refine s_lit (s := 13) (b := false) rfl (bf c58) ?_
          refine s_on rfl ?_
          refine s_do (o_mov (.str t_1) rfl) ?_
          refine s_on rfl ?_
          refine s_do (o_mov (.int .i64 (s6_32 : Int)) rfl) ?_
          refine s_on rfl ?_
          refine s_do (o_idxsn rfl rfl hx49) ?_
          refine s_on rfl ?_
          refine s_do (o_q (.bool (decide ((x_54.toNat : Int) > 126))) rfl rfl rfl) ?_
          refine s_do (o_q (.bool (decide ((x_54.toNat : Int) > 126))) rfl trivial rfl) ?_
          refine w_done ?_
          obtain rfl := os hb2
          exact ⟨[], [], _, _, rfl, rfl, ⟨.refl _, ⟨.refl _, ⟨.refl _, ⟨.refl _, trivial⟩⟩⟩⟩, (.refl _)⟩
      · rcases oi hc1 with ⟨c59, hc1⟩ | ⟨c59, hc1⟩
        · refine w_condt rfl c59 ?_
          refine awp_seq ?_
          refine w_reg ?_
          refine s_do (o_mov (.bool false) rfl) ?_
          refine w_done ?_
          refine k_seq ?_
          refine w_ret ?_
          obtain rfl := os hc1
          obtain rfl := os hf
          exact r_flat ⟨trivial, trivial⟩ rfl (.refl _)
        · refine w_condf rfl (bf c59) ?_
          refine w_skip ?_
          refine k_blk ?_
          refine k_seq ?_
          refine w_reg ?_
          refine s_do (o_q (.int .i64 (w64 ((s6_32 : Int) + 1))) rfl rfl rfl) ?_
          refine s_do (o_mov (.int .i64 (w64 ((s6_32 : Int) + 1))) rfl) ?_
          refine w_done ?_
          exact k_loopn ⟨(s6_32 + 1), hc1⟩ (mul hlt48) ⟨[], [], _, _, rfl, rfl, ⟨.refl _, ⟨.refl _, ⟨.of_eq (congrArg (AV.int _) (w64_incr hlt48 hl2)), trivial⟩⟩⟩, (.refl _)⟩
  · rintro ⟨_, rfl⟩
    refine awp_seq ?_
    refine w_reg ?_
    refine s_do (o_mov (.str t_1) rfl) ?_
    refine s_dof (o_lenS rfl) fun hl60 => ?_
    refine s_do (o_q (.bool (decide ((t_1.length : Int) ≤ 200))) rfl rfl rfl) ?_
    refine s_do (o_mov (.bool (decide ((t_1.length : Int) ≤ 200))) rfl) ?_
    refine w_done ?_
    refine k_seq ?_
    refine w_ret ?_
    obtain rfl := os hf
    exact r_flat ⟨trivial, trivial⟩ rfl (.refl _)

/- impl.isId -/
def c175 : ACode :=
 (.seq (.reg (.q ⟨(some 2), none, .mov (.c (.bool false))⟩
 .done))
 (.seq (.reg (.q ⟨(some 3), none, .mov (.t 0)⟩
 (.q ⟨(some 4), none, .call 86 [(.t 3), (.c (.int .i64 1)), (.c (.int .i64 1000000))]⟩
 (.q ⟨(some 2), none, .mov (.t 4)⟩
 .done))))
 .ret))
theorem fc175 : fcomp Try.prog Try.f175 = some (c175.erase, [.mov (.t 2)], 5) := by kernel_rfl
def impl_isId (n_1 : Int) : Option Bool :=
    (impl_within n_1 1 1000000).bind fun r_2 =>
    some r_2
theorem w_impl_isId (n_1 : Int) (r : Bool) (hf : impl_isId n_1 = some r) : CallOK Try.prog 175 .flat [(.int .i64 n_1)] (.bool r) := by
  refine CallOK.of_awp mixed Try.func175 fc175 nle ?_
  rw [argT_eq]
  unfold impl_isId at hf
  unfold c175
  refine (show awp Try.prog false 0 _ (ofL [(0, (.int .i64 n_1))]) [] _ from ?_)
  refine awp_seq ?_
  refine w_reg ?_
  refine s_do (o_mov (.bool false) rfl) ?_
  refine w_done ?_
  refine k_seq ?_
  refine awp_seq ?_
  refine w_reg ?_
  obtain ⟨r_2, er3, hf⟩ := ob hf
  refine s_do (o_mov (.int .i64 n_1) rfl) ?_
  refine s_do (o_call (w_impl_within _ _ _ _ er3) rfl (.refl _) rfl) ?_
  refine s_do (o_mov (.bool r_2) rfl) ?_
  refine w_done ?_
  refine k_seq ?_
  refine w_ret ?_
  obtain rfl := os hf
  exact r_flat ⟨trivial, trivial⟩ rfl (.refl _)

end Go.R
