/- Walks. -/
import Derived.Test.YtgmkibkmcohikaaFI2
set_option linter.all false
namespace Go.R
open Go Go.Proofs
set_option linter.unusedVariables false
set_option linter.unusedSimpArgs false
set_option maxHeartbeats 8000000
/- spec.AtomOK -/
def c106 : ACode :=
 (.seq (.reg (.q ⟨(some 1), none, .box 3 (.t 0)⟩
 (.q ⟨(some 2), none, .mov (.c (.bool false))⟩
 .done)))
 (.seq (.seq (.reg (.q ⟨(some 3), none, .faddr 0 (.t 1)⟩
 (.q ⟨(some 4), none, .load 1 false (.t 3)⟩
 .done)))
 (.block 0 (.seq (.reg (.q ⟨(some 6), none, .bin .eql (.t 4) (.c (.int .i64 1))⟩
 (.q ⟨(some 5), none, .mov (.t 6)⟩
 .done)))
 (.cond (.t 5) (.seq (.reg (.q ⟨(some 7), none, .faddr 1 (.t 1)⟩
 (.q ⟨(some 8), none, .load 1 false (.t 7)⟩
 (.q ⟨(some 9), none, .call 81 [(.t 8), (.c (.int .i64 (-1000000000))), (.c (.int .i64 1000000000))]⟩
 (.q ⟨(some 10), none, .mov (.t 9)⟩
 (.q ⟨(some 11), (some (10, true)), .faddr 2 (.t 1)⟩
 (.q ⟨(some 12), (some (10, true)), .load 1 false (.t 11)⟩
 (.q ⟨(some 13), (some (10, true)), .bin .eql (.t 12) (.c (.str []))⟩
 (.q ⟨(some 14), none, .pick (.t 10) (.t 13) (.c (.bool false))⟩
 (.q ⟨(some 2), none, .mov (.t 14)⟩
 .done))))))))))
 .ret)
 (.seq (.reg (.q ⟨(some 16), none, .bin .eql (.t 4) (.c (.int .i64 2))⟩
 (.q ⟨(some 15), none, .mov (.t 16)⟩
 .done)))
 (.cond (.t 15) (.seq (.reg (.q ⟨(some 17), none, .faddr 1 (.t 1)⟩
 (.q ⟨(some 18), none, .load 1 false (.t 17)⟩
 (.q ⟨(some 19), none, .bin .eql (.t 18) (.c (.int .i64 0))⟩
 (.q ⟨(some 20), none, .mov (.t 19)⟩
 (.q ⟨(some 21), (some (20, true)), .faddr 2 (.t 1)⟩
 (.q ⟨(some 22), (some (20, true)), .load 1 false (.t 21)⟩
 (.q ⟨(some 23), (some (20, true)), .call 169 [(.t 22)]⟩
 (.q ⟨(some 24), none, .pick (.t 20) (.t 23) (.c (.bool false))⟩
 (.q ⟨(some 2), none, .mov (.t 24)⟩
 .done))))))))))
 .ret)
 (.seq (.reg (.q ⟨(some 26), none, .bin .eql (.t 4) (.c (.int .i64 3))⟩
 (.q ⟨(some 25), none, .mov (.t 26)⟩
 .done)))
 (.cond (.t 25) (.seq (.reg (.q ⟨(some 27), none, .faddr 1 (.t 1)⟩
 (.q ⟨(some 28), none, .load 1 false (.t 27)⟩
 (.q ⟨(some 29), none, .call 81 [(.t 28), (.c (.int .i64 0)), (.c (.int .i64 1))]⟩
 (.q ⟨(some 30), none, .mov (.t 29)⟩
 (.q ⟨(some 31), (some (30, true)), .faddr 2 (.t 1)⟩
 (.q ⟨(some 32), (some (30, true)), .load 1 false (.t 31)⟩
 (.q ⟨(some 33), (some (30, true)), .bin .eql (.t 32) (.c (.str []))⟩
 (.q ⟨(some 34), none, .pick (.t 30) (.t 33) (.c (.bool false))⟩
 (.q ⟨(some 2), none, .mov (.t 34)⟩
 .done))))))))))
 .ret)
 (.seq (.reg (.q ⟨(some 36), none, .bin .eql (.t 4) (.c (.int .i64 4))⟩
 (.q ⟨(some 35), none, .mov (.t 36)⟩
 .done)))
 (.cond (.t 35) (.seq (.reg (.q ⟨(some 37), none, .faddr 1 (.t 1)⟩
 (.q ⟨(some 38), none, .load 1 false (.t 37)⟩
 (.q ⟨(some 39), none, .call 81 [(.t 38), (.c (.int .i64 1)), (.c (.int .i64 1000000))]⟩
 (.q ⟨(some 40), none, .mov (.t 39)⟩
 (.q ⟨(some 41), (some (40, true)), .faddr 2 (.t 1)⟩
 (.q ⟨(some 42), (some (40, true)), .load 1 false (.t 41)⟩
 (.q ⟨(some 43), (some (40, true)), .bin .eql (.t 42) (.c (.str []))⟩
 (.q ⟨(some 44), none, .pick (.t 40) (.t 43) (.c (.bool false))⟩
 (.q ⟨(some 2), none, .mov (.t 44)⟩
 .done))))))))))
 .ret)
 .skip))))))))))
 (.seq (.reg (.q ⟨(some 2), none, .mov (.c (.bool false))⟩
 .done))
 .ret)))
theorem fc106 : fcomp Try.prog Try.f106 = some (c106.erase, [.mov (.t 2)], 45) := by kernel_rfl
def spec_AtomOK (a_1 : GAtom) : Option Bool :=
    if (a_1.Kind == 1) then
    (spec_l01In a_1.N (-1000000000) 1000000000).bind fun r_3 =>
    if r_3 then
    some (a_1.T == [])
    else
    some false
    else
    if (a_1.Kind == 2) then
    if (a_1.N == 0) then
    (spec_l01Text a_1.T).bind fun r_8 =>
    some r_8
    else
    some false
    else
    if (a_1.Kind == 3) then
    (spec_l01In a_1.N 0 1).bind fun r_11 =>
    if r_11 then
    some (a_1.T == [])
    else
    some false
    else
    if (a_1.Kind == 4) then
    (spec_l01In a_1.N 1 1000000).bind fun r_15 =>
    if r_15 then
    some (a_1.T == [])
    else
    some false
    else
    some false
theorem w_spec_AtomOK (a_1 : GAtom) (r : Bool) (hf : spec_AtomOK a_1 = some r) : CallOK Try.prog 106 .flat [(encGAtom a_1)] (.bool r) := by
  refine CallOK.of_awp mixed Try.func106 fc106 nle ?_
  rw [argT_eq]
  unfold spec_AtomOK at hf
  unfold c106
  refine (show awp Try.prog false 0 _ (ofL [(0, (encGAtom a_1))]) [] _ from ?_)
  refine awp_seq ?_
  refine w_reg ?_
  refine s_do (o_box (j := 0) (c := (.agg [(.int .i64 a_1.Kind), (.int .i64 a_1.N), (.str a_1.T)])) rfl trivial rfl rfl) ?_
  refine s_do (o_mov (.bool false) rfl) ?_
  refine w_done ?_
  refine k_seq ?_
  refine awp_seq ?_
  refine awp_seq ?_
  refine w_reg ?_
  refine s_do (o_q (.ptr 0 0 0) rfl trivial rfl) ?_
  refine s_do (o_q (.int .i64 a_1.Kind) rfl nle rfl) ?_
  refine w_done ?_
  refine k_seq ?_
  refine w_blk ?_
  refine awp_seq ?_
  refine w_reg ?_
  refine s_do (o_q (.bool (a_1.Kind == 1)) rfl rfl rfl) ?_
  refine s_do (o_mov (.bool (a_1.Kind == 1)) rfl) ?_
  refine w_done ?_
  refine k_seq ?_
  rcases oi hf with ⟨c2, hf⟩ | ⟨c2, hf⟩
  · refine w_condt rfl c2 ?_
    refine awp_seq ?_
    refine w_reg ?_
    obtain ⟨r_3, er4, hf⟩ := ob hf
    rcases oi hf with ⟨c5, hf⟩ | ⟨c5, hf⟩
    · refine s_do (o_q (.ptr 0 0 1) rfl trivial rfl) ?_
      refine s_do (o_q (.int .i64 a_1.N) rfl nle rfl) ?_
      refine s_do (o_call (w_spec_l01In _ _ _ _ er4) rfl (.refl _) rfl) ?_
      refine s_do (o_mov (.bool r_3) rfl) ?_
      refine s_lit (s := 10) (b := true) rfl c5 ?_
      refine s_on rfl ?_
      refine s_do (o_q (.ptr 0 0 2) rfl trivial rfl) ?_
      refine s_on rfl ?_
      refine s_do (o_q (.str a_1.T) rfl nle rfl) ?_
      refine s_on rfl ?_
      refine s_do (o_q (.bool (a_1.T == [])) rfl trivial rfl) ?_
      refine s_do (o_q (.bool (a_1.T == [])) rfl trivial rfl) ?_
      refine s_do (o_mov (.bool (a_1.T == [])) rfl) ?_
      refine w_done ?_
      refine k_seq ?_
      refine w_ret ?_
      obtain rfl := os hf
      exact r_flat ⟨trivial, trivial⟩ rfl (.refl _)
    · refine s_do (o_q (.ptr 0 0 1) rfl trivial rfl) ?_
      refine s_do (o_q (.int .i64 a_1.N) rfl nle rfl) ?_
      refine s_do (o_call (w_spec_l01In _ _ _ _ er4) rfl (.refl _) rfl) ?_
      refine s_do (o_mov (.bool r_3) rfl) ?_
      refine s_lit (s := 10) (b := false) rfl (bf c5) ?_
      refine s_off rfl rfl ?_
      refine s_off rfl rfl ?_
      refine s_off rfl rfl ?_
      refine s_do (o_q (.bool false) rfl trivial rfl) ?_
      refine s_do (o_mov (.bool false) rfl) ?_
      refine w_done ?_
      refine k_seq ?_
      refine w_ret ?_
      obtain rfl := os hf
      exact r_flat ⟨trivial, trivial⟩ rfl (.refl _)
  · refine w_condf rfl (bf c2) ?_
    refine awp_seq ?_
    refine w_reg ?_
    refine s_do (o_q (.bool (a_1.Kind == 2)) rfl rfl rfl) ?_
    refine s_do (o_mov (.bool (a_1.Kind == 2)) rfl) ?_
    refine w_done ?_
    refine k_seq ?_
    rcases oi hf with ⟨c6, hf⟩ | ⟨c6, hf⟩
    · refine w_condt rfl c6 ?_
      refine awp_seq ?_
      refine w_reg ?_
      rcases oi hf with ⟨c7, hf⟩ | ⟨c7, hf⟩
      · obtain ⟨r_8, er9, hf⟩ := ob hf
        refine s_do (o_q (.ptr 0 0 1) rfl trivial rfl) ?_
        refine s_do (o_q (.int .i64 a_1.N) rfl nle rfl) ?_
        refine s_do (o_q (.bool (a_1.N == 0)) rfl rfl rfl) ?_
        refine s_do (o_mov (.bool (a_1.N == 0)) rfl) ?_
        refine s_lit (s := 20) (b := true) rfl c7 ?_
        refine s_on rfl ?_
        refine s_do (o_q (.ptr 0 0 2) rfl trivial rfl) ?_
        refine s_on rfl ?_
        refine s_do (o_q (.str a_1.T) rfl nle rfl) ?_
        refine s_on rfl ?_
        refine s_do (o_call (w_spec_l01Text _ _ er9) rfl (.refl _) rfl) ?_
        refine s_do (o_q (.bool r_8) rfl trivial rfl) ?_
        refine s_do (o_mov (.bool r_8) rfl) ?_
        refine w_done ?_
        refine k_seq ?_
        refine w_ret ?_
        obtain rfl := os hf
        exact r_flat ⟨trivial, trivial⟩ rfl (.refl _)
      · refine s_do (o_q (.ptr 0 0 1) rfl trivial rfl) ?_
        refine s_do (o_q (.int .i64 a_1.N) rfl nle rfl) ?_
        refine s_do (o_q (.bool (a_1.N == 0)) rfl rfl rfl) ?_
        refine s_do (o_mov (.bool (a_1.N == 0)) rfl) ?_
        refine s_lit (s := 20) (b := false) rfl (bf c7) ?_
        refine s_off rfl rfl ?_
        refine s_off rfl rfl ?_
        refine s_off rfl rfl ?_
        refine s_do (o_q (.bool false) rfl trivial rfl) ?_
        refine s_do (o_mov (.bool false) rfl) ?_
        refine w_done ?_
        refine k_seq ?_
        refine w_ret ?_
        obtain rfl := os hf
        exact r_flat ⟨trivial, trivial⟩ rfl (.refl _)
    · refine w_condf rfl (bf c6) ?_
      refine awp_seq ?_
      refine w_reg ?_
      refine s_do (o_q (.bool (a_1.Kind == 3)) rfl rfl rfl) ?_
      refine s_do (o_mov (.bool (a_1.Kind == 3)) rfl) ?_
      refine w_done ?_
      refine k_seq ?_
      rcases oi hf with ⟨c10, hf⟩ | ⟨c10, hf⟩
      · refine w_condt rfl c10 ?_
        refine awp_seq ?_
        refine w_reg ?_
        obtain ⟨r_11, er12, hf⟩ := ob hf
        rcases oi hf with ⟨c13, hf⟩ | ⟨c13, hf⟩
        · refine s_do (o_q (.ptr 0 0 1) rfl trivial rfl) ?_
          refine s_do (o_q (.int .i64 a_1.N) rfl nle rfl) ?_
          refine s_do (o_call (w_spec_l01In _ _ _ _ er12) rfl (.refl _) rfl) ?_
          refine s_do (o_mov (.bool r_11) rfl) ?_
          refine s_lit (s := 30) (b := true) rfl c13 ?_
          refine s_on rfl ?_
          refine s_do (o_q (.ptr 0 0 2) rfl trivial rfl) ?_
          refine s_on rfl ?_
          refine s_do (o_q (.str a_1.T) rfl nle rfl) ?_
          refine s_on rfl ?_
          refine s_do (o_q (.bool (a_1.T == [])) rfl trivial rfl) ?_
          refine s_do (o_q (.bool (a_1.T == [])) rfl trivial rfl) ?_
          refine s_do (o_mov (.bool (a_1.T == [])) rfl) ?_
          refine w_done ?_
          refine k_seq ?_
          refine w_ret ?_
          obtain rfl := os hf
          exact r_flat ⟨trivial, trivial⟩ rfl (.refl _)
        · refine s_do (o_q (.ptr 0 0 1) rfl trivial rfl) ?_
          refine s_do (o_q (.int .i64 a_1.N) rfl nle rfl) ?_
          refine s_do (o_call (w_spec_l01In _ _ _ _ er12) rfl (.refl _) rfl) ?_
          refine s_do (o_mov (.bool r_11) rfl) ?_
          refine s_lit (s := 30) (b := false) rfl (bf c13) ?_
          refine s_off rfl rfl ?_
          refine s_off rfl rfl ?_
          refine s_off rfl rfl ?_
          refine s_do (o_q (.bool false) rfl trivial rfl) ?_
          refine s_do (o_mov (.bool false) rfl) ?_
          refine w_done ?_
          refine k_seq ?_
          refine w_ret ?_
          obtain rfl := os hf
          exact r_flat ⟨trivial, trivial⟩ rfl (.refl _)
      · refine w_condf rfl (bf c10) ?_
        refine awp_seq ?_
        refine w_reg ?_
        refine s_do (o_q (.bool (a_1.Kind == 4)) rfl rfl rfl) ?_
        refine s_do (o_mov (.bool (a_1.Kind == 4)) rfl) ?_
        refine w_done ?_
        refine k_seq ?_
        rcases oi hf with ⟨c14, hf⟩ | ⟨c14, hf⟩
        · refine w_condt rfl c14 ?_
          refine awp_seq ?_
          refine w_reg ?_
          obtain ⟨r_15, er16, hf⟩ := ob hf
          rcases oi hf with ⟨c17, hf⟩ | ⟨c17, hf⟩
          · refine s_do (o_q (.ptr 0 0 1) rfl trivial rfl) ?_
            refine s_do (o_q (.int .i64 a_1.N) rfl nle rfl) ?_
            refine s_do (o_call (w_spec_l01In _ _ _ _ er16) rfl (.refl _) rfl) ?_
            refine s_do (o_mov (.bool r_15) rfl) ?_
            refine s_lit (s := 40) (b := true) rfl c17 ?_
            refine s_on rfl ?_
            refine s_do (o_q (.ptr 0 0 2) rfl trivial rfl) ?_
            refine s_on rfl ?_
            refine s_do (o_q (.str a_1.T) rfl nle rfl) ?_
            refine s_on rfl ?_
            refine s_do (o_q (.bool (a_1.T == [])) rfl trivial rfl) ?_
            refine s_do (o_q (.bool (a_1.T == [])) rfl trivial rfl) ?_
            refine s_do (o_mov (.bool (a_1.T == [])) rfl) ?_
            refine w_done ?_
            refine k_seq ?_
            refine w_ret ?_
            obtain rfl := os hf
            exact r_flat ⟨trivial, trivial⟩ rfl (.refl _)
          · refine s_do (o_q (.ptr 0 0 1) rfl trivial rfl) ?_
            refine s_do (o_q (.int .i64 a_1.N) rfl nle rfl) ?_
            refine s_do (o_call (w_spec_l01In _ _ _ _ er16) rfl (.refl _) rfl) ?_
            refine s_do (o_mov (.bool r_15) rfl) ?_
            refine s_lit (s := 40) (b := false) rfl (bf c17) ?_
            refine s_off rfl rfl ?_
            refine s_off rfl rfl ?_
            refine s_off rfl rfl ?_
            refine s_do (o_q (.bool false) rfl trivial rfl) ?_
            refine s_do (o_mov (.bool false) rfl) ?_
            refine w_done ?_
            refine k_seq ?_
            refine w_ret ?_
            obtain rfl := os hf
            exact r_flat ⟨trivial, trivial⟩ rfl (.refl _)
        · refine w_condf rfl (bf c14) ?_
          refine w_skip ?_
          refine k_blk ?_
          refine k_seq ?_
          refine awp_seq ?_
          refine w_reg ?_
          refine s_do (o_mov (.bool false) rfl) ?_
          refine w_done ?_
          refine k_seq ?_
          refine w_ret ?_
          obtain rfl := os hf
          exact r_flat ⟨trivial, trivial⟩ rfl (.refl _)

/- spec.DatumOK -/
def c134 : ACode :=
 (.seq (.reg (.q ⟨(some 2), none, .mov (.c (.bool false))⟩
 .done))
 (.seq (.seq (.reg (.q ⟨(some 4), none, .mov (.t 0)⟩
 (.q ⟨(some 5), none, .len (.t 4)⟩
 (.q ⟨(some 6), none, .bin .gtr (.t 5) (.c (.int .i64 4096))⟩
 .done))))
 (.cond (.t 6) (.seq (.reg (.q ⟨(some 2), none, .mov (.c (.bool false))⟩
 .done))
 .ret)
 .skip))
 (.seq (.seq (.reg (.q ⟨(some 3), none, .mov (.c (.int .i64 0))⟩
 .done))
 (.block 0 (.loop (.seq (.seq (.reg (.q ⟨(some 7), none, .mov (.t 3)⟩
 (.q ⟨(some 8), none, .mov (.t 0)⟩
 (.q ⟨(some 9), none, .len (.t 8)⟩
 (.q ⟨(some 10), none, .bin .lss (.t 7) (.t 9)⟩
 .done)))))
 (.cond (.t 10) .skip
 (.exit 0)))
 (.seq (.block 1 (.seq (.reg (.q ⟨(some 13), none, .mov (.t 0)⟩
 (.q ⟨(some 14), none, .mov (.t 3)⟩
 (.q ⟨(some 15), none, .iaddr 3 (.t 13) (.t 14)⟩
 (.q ⟨(some 16), none, .load 3 true (.t 15)⟩
 (.l ⟨(some 17), none, .call 106 [(.t 16)]⟩ []
 (.q ⟨(some 18), none, .not (.t 17)⟩
 (.q ⟨(some 19), none, .mov (.t 18)⟩
 (.q ⟨(some 20), (some (19, false)), .mov (.t 0)⟩
 (.q ⟨(some 21), (some (19, false)), .mov (.t 3)⟩
 (.q ⟨(some 22), (some (19, false)), .iaddr 3 (.t 20) (.t 21)⟩
 (.q ⟨(some 23), (some (19, false)), .faddr 0 (.t 22)⟩
 (.q ⟨(some 24), (some (19, false)), .load 1 false (.t 23)⟩
 (.q ⟨(some 25), (some (19, false)), .mov (.t 0)⟩
 (.q ⟨(some 26), (some (19, false)), .iaddr 3 (.t 25) (.c (.int .i64 0))⟩
 (.q ⟨(some 27), (some (19, false)), .faddr 0 (.t 26)⟩
 (.q ⟨(some 28), (some (19, false)), .load 1 false (.t 27)⟩
 (.q ⟨(some 29), (some (19, false)), .bin .neq (.t 24) (.t 28)⟩
 (.q ⟨(some 30), none, .pick (.t 19) (.c (.bool true)) (.t 29)⟩
 (.q ⟨(some 31), none, .mov (.t 30)⟩
 (.q ⟨(some 32), (some (31, false)), .mov (.t 3)⟩
 (.q ⟨(some 33), (some (31, false)), .bin .gtr (.t 32) (.c (.int .i64 0))⟩
 (.q ⟨(some 34), (some (31, false)), .mov (.t 33)⟩
 (.q ⟨(some 35), (some (34, true)), .mov (.t 0)⟩
 (.q ⟨(some 36), (some (34, true)), .mov (.t 3)⟩
 (.q ⟨(some 37), (some (34, true)), .bin .sub (.t 36) (.c (.int .i64 1))⟩
 (.q ⟨(some 38), (some (34, true)), .iaddr 3 (.t 35) (.t 37)⟩
 (.q ⟨(some 39), (some (34, true)), .load 3 true (.t 38)⟩
 (.q ⟨(some 40), (some (34, true)), .mov (.t 0)⟩
 (.q ⟨(some 41), (some (34, true)), .mov (.t 3)⟩
 (.q ⟨(some 42), (some (34, true)), .iaddr 3 (.t 40) (.t 41)⟩
 (.q ⟨(some 43), (some (34, true)), .load 3 true (.t 42)⟩
 (.l ⟨(some 44), (some (34, true)), .call 190 [(.t 39), (.t 43)]⟩ []
 (.q ⟨(some 45), (some (34, true)), .bin .geq (.t 44) (.c (.int .i64 0))⟩
 (.q ⟨(some 46), (some (31, false)), .pick (.t 34) (.t 45) (.c (.bool false))⟩
 (.q ⟨(some 47), none, .pick (.t 31) (.c (.bool true)) (.t 46)⟩
 .done))) .non))))))))))))))))))))))))))) .non))))))
 (.cut (.cond (.t 47) (.seq (.reg (.q ⟨(some 2), none, .mov (.c (.bool false))⟩
 .done))
 .ret)
 .skip))))
 (.reg (.q ⟨(some 11), none, .mov (.t 3)⟩
 (.q ⟨(some 12), none, .bin .add (.t 11) (.c (.int .i64 1))⟩
 (.q ⟨(some 3), none, .mov (.t 12)⟩
 .done)))))))))
 (.cut (.seq (.reg (.q ⟨(some 48), none, .mov (.t 0)⟩
 (.q ⟨(some 49), none, .len (.t 48)⟩
 (.q ⟨(some 50), none, .bin .leq (.t 49) (.c (.int .i64 8))⟩
 (.q ⟨(some 2), none, .mov (.t 50)⟩
 .done)))))
 .ret)))))
theorem fc134 : fcomp Try.prog Try.f134 = some (c134.erase, [.mov (.t 2)], 51) := by kernel_rfl
def spec_DatumOK_L1 (d_1 : (List GAtom)) : List GAtom → Nat → Option (Fl Bool Unit)
  | [], i_83 =>
    some (.go ())
  | x_131 :: xs, i_83 =>
    (((spec_AtomOK x_131).bind fun r_147 =>
    if (!r_147) then
    some true
    else
    (idx d_1 0).bind fun x_150 =>
    if (x_131.Kind != x_150.Kind) then
    some true
    else
    if (decide ((i_83 : Int) > 0)) then
    (idx d_1 (w64 ((i_83 : Int) - 1))).bind fun x_154 =>
    (spec_l03Order x_154 x_131).bind fun r_156 =>
    some (decide (r_156 ≥ 0))
    else
    some false : Option Bool)).bind fun s47_145 =>
    if s47_145 then
    some (.ret false)
    else
    spec_DatumOK_L1 d_1 xs (i_83 + 1)

def spec_DatumOK (d_1 : (List GAtom)) : Option Bool :=
    if (decide ((d_1.length : Int) > 4096)) then
    some false
    else
    (spec_DatumOK_L1 d_1 d_1 0).bind fun q => (match q with
    | .ret r => some r
    | .go _ =>
    some (decide ((d_1.length : Int) ≤ 8)))
theorem w_spec_DatumOK (d_1 : (List GAtom)) (r : Bool) (hf : spec_DatumOK d_1 = some r) : CallOK Try.prog 134 .flat [(.lst 3 (d_1.map encGAtom))] (.bool r) := by
  refine CallOK.of_awp mixed Try.func134 fc134 nle ?_
  rw [argT_eq]
  unfold spec_DatumOK at hf
  unfold c134
  refine (show awp Try.prog false 0 _ (ofL [(0, (.lst 3 (d_1.map encGAtom)))]) [] _ from ?_)
  refine awp_seq ?_
  refine w_reg ?_
  refine s_do (o_mov (.bool false) rfl) ?_
  refine w_done ?_
  refine k_seq ?_
  refine awp_seq ?_
  refine awp_seq ?_
  refine w_reg ?_
  refine s_do (o_mov (.lst 3 (d_1.map encGAtom)) rfl) ?_
  refine s_dof (o_len (enc := encGAtom) rfl) fun hl2 => ?_
  refine s_do (o_q (.bool (decide ((d_1.length : Int) > 4096))) rfl rfl rfl) ?_
  refine w_done ?_
  refine k_seq ?_
  rcases oi hf with ⟨c3, hf⟩ | ⟨c3, hf⟩
  · refine w_condt rfl c3 ?_
    refine awp_seq ?_
    refine w_reg ?_
    refine s_do (o_mov (.bool false) rfl) ?_
    refine w_done ?_
    refine k_seq ?_
    refine w_ret ?_
    obtain rfl := os hf
    exact r_flat ⟨trivial, trivial⟩ rfl (.refl _)
  · refine w_condf rfl (bf c3) ?_
    refine w_skip ?_
    refine k_seq ?_
    refine awp_seq ?_
    refine awp_seq ?_
    refine w_reg ?_
    refine s_do (o_mov (.int .i64 0) rfl) ?_
    refine w_done ?_
    refine k_seq ?_
    obtain ⟨p124, hb1, hf⟩ := ob hf
    refine awp_cutx (X := {q : Unit // p124 = .go q}) (fun q => ([(0, (.lst 3 (d_1.map encGAtom)))], [])) ?_ ?_
    · refine awp_loop (X := {q : Nat // spec_DatumOK_L1 d_1 (d_1.drop q) q = some p124}) (fun q => ([(0, (.lst 3 (d_1.map encGAtom))), (3, (.int .i64 (q.1 : Int)))], [])) (fun q => d_1.length - q.1) ⟨0, hb1⟩ ⟨[], [], _, _, rfl, rfl, ⟨.refl _, ⟨.refl _, trivial⟩⟩, (.refl _)⟩ ?_
      rintro ⟨i_83, hc1⟩
      have hc1 : spec_DatumOK_L1 d_1 (d_1.drop i_83) i_83 = some p124 := hc1
      refine (show awp Try.prog false 0 _ (ofL [(0, (.lst 3 (d_1.map encGAtom))), (3, (.int .i64 (i_83 : Int)))]) [] _ from ?_)
      rcases dropc d_1 i_83 with ⟨hie127, hd130⟩ | ⟨hlt125, x_131, hx126, hd130⟩
      · rw [hd130, spec_DatumOK_L1.eq_1] at hc1
        have hq129 := dlf hie127
        refine awp_seq ?_
        refine awp_seq ?_
        refine w_reg ?_
        refine s_do (o_mov (.int .i64 (i_83 : Int)) rfl) ?_
        refine s_do (o_mov (.lst 3 (d_1.map encGAtom)) rfl) ?_
        refine s_dof (o_len (enc := encGAtom) rfl) fun hl132 => ?_
        refine s_do (o_q (.bool (decide ((i_83 : Int) < (d_1.length : Int)))) rfl rfl rfl) ?_
        refine w_done ?_
        refine k_seq ?_
        refine w_condf rfl hq129 ?_
        refine w_exit ?_
        refine k_seqx ?_
        refine k_loopx ?_
        refine k_blkx ?_
        obtain rfl := os hc1
        exact k_cutn ⟨_, rfl⟩ ⟨[], [], _, _, rfl, rfl, ⟨.refl _, trivial⟩, (.refl _)⟩
      · rw [hd130, spec_DatumOK_L1.eq_2] at hc1
        have hq129 := dlt hlt125
        refine awp_seq ?_
        refine awp_seq ?_
        refine w_reg ?_
        refine s_do (o_mov (.int .i64 (i_83 : Int)) rfl) ?_
        refine s_do (o_mov (.lst 3 (d_1.map encGAtom)) rfl) ?_
        refine s_dof (o_len (enc := encGAtom) rfl) fun hl133 => ?_
        refine s_do (o_q (.bool (decide ((i_83 : Int) < (d_1.length : Int)))) rfl rfl rfl) ?_
        refine w_done ?_
        refine k_seq ?_
        refine w_condt rfl hq129 ?_
        refine w_skip ?_
        refine k_seq ?_
        refine awp_seq ?_
        refine w_blk ?_
        refine awp_seq ?_
        obtain ⟨s47_145, hb2, hc1⟩ := ob hc1
        refine awp_cut ([(0, (.lst 3 (d_1.map encGAtom))), (3, (.int .i64 (i_83 : Int))), (47, (.bool s47_145))], []) ?_ ?_
        · refine w_reg ?_
          refine s_do (o_mov (.lst 3 (d_1.map encGAtom)) rfl) ?_
          refine s_do (o_mov (.int .i64 (i_83 : Int)) rfl) ?_
          refine s_do (o_iaddrn (enc := encGAtom) rfl rfl hx126) ?_
          refine s_do (o_q (encGAtom x_131) rfl nle rfl) ?_
          obtain ⟨r_147, er148, hb2⟩ := ob hb2
          refine s_dol (o_call (w_spec_AtomOK _ _ er148) rfl (.refl _) rfl) a_same trivial ?_
          refine s_do (o_q (.bool (!r_147)) rfl trivial rfl) ?_
          refine s_do (o_mov (.bool (!r_147)) rfl) ?_
          rcases oi hb2 with ⟨c149, hb2⟩ | ⟨c149, hb2⟩
          · refine s_lit (s := 19) (b := true) rfl c149 ?_
            refine s_off rfl rfl ?_
            refine s_off rfl rfl ?_
            refine s_off rfl rfl ?_
            refine s_off rfl rfl ?_
            refine s_off rfl rfl ?_
            refine s_off rfl rfl ?_
            refine s_off rfl rfl ?_
            refine s_off rfl rfl ?_
            refine s_off rfl rfl ?_
            refine s_off rfl rfl ?_
            refine s_do (o_q (.bool true) rfl trivial rfl) ?_
            refine s_do (o_mov (.bool true) rfl) ?_
            refine s_off rfl rfl ?_
            refine s_off rfl rfl ?_
            refine s_off rfl rfl ?_
            refine s_offs rfl ?_
            refine s_offs rfl ?_
            refine s_offs rfl ?_
            refine s_offs rfl ?_
            refine s_offs rfl ?_
            refine s_offs rfl ?_
            refine s_offs rfl ?_
            refine s_offs rfl ?_
            refine s_offs rfl ?_
            refine s_offsl rfl trivial ?_
            refine s_offs rfl ?_
            refine s_off rfl rfl ?_
            refine s_do (o_q (.bool true) rfl trivial rfl) ?_
            refine w_done ?_
            obtain rfl := os hb2
            exact ⟨[], [], _, _, rfl, rfl, ⟨.refl _, ⟨.refl _, ⟨.refl _, trivial⟩⟩⟩, (.refl _)⟩
          · refine s_lit (s := 19) (b := false) rfl (bf c149) ?_
            refine s_on rfl ?_
            refine s_do (o_mov (.lst 3 (d_1.map encGAtom)) rfl) ?_
            refine s_on rfl ?_
            refine s_do (o_mov (.int .i64 (i_83 : Int)) rfl) ?_
            refine s_on rfl ?_
            refine s_do (o_iaddrn (enc := encGAtom) rfl rfl hx126) ?_
            refine s_on rfl ?_
            refine s_do (o_q (.iptr (encGAtom x_131) 0) rfl trivial rfl) ?_
            refine s_on rfl ?_
            refine s_do (o_q (.int .i64 x_131.Kind) rfl nle rfl) ?_
            refine s_on rfl ?_
            refine s_do (o_mov (.lst 3 (d_1.map encGAtom)) rfl) ?_
            refine s_on rfl ?_
            obtain ⟨x_150, ex151, hb2⟩ := ob hb2
            refine s_do (o_iaddr (enc := encGAtom) rfl rfl (idx0 ex151) (idx1 ex151)) ?_
            refine s_on rfl ?_
            refine s_do (o_q (.iptr (encGAtom x_150) 0) rfl trivial rfl) ?_
            refine s_on rfl ?_
            refine s_do (o_q (.int .i64 x_150.Kind) rfl nle rfl) ?_
            refine s_on rfl ?_
            refine s_do (o_q (.bool (x_131.Kind != x_150.Kind)) rfl rfl rfl) ?_
            refine s_do (o_q (.bool (x_131.Kind != x_150.Kind)) rfl trivial rfl) ?_
            refine s_do (o_mov (.bool (x_131.Kind != x_150.Kind)) rfl) ?_
            rcases oi hb2 with ⟨c152, hb2⟩ | ⟨c152, hb2⟩
            · refine s_lit (s := 31) (b := true) rfl c152 ?_
              refine s_off rfl rfl ?_
              refine s_off rfl rfl ?_
              refine s_off rfl rfl ?_
              refine s_offs rfl ?_
              refine s_offs rfl ?_
              refine s_offs rfl ?_
              refine s_offs rfl ?_
              refine s_offs rfl ?_
              refine s_offs rfl ?_
              refine s_offs rfl ?_
              refine s_offs rfl ?_
              refine s_offs rfl ?_
              refine s_offsl rfl trivial ?_
              refine s_offs rfl ?_
              refine s_off rfl rfl ?_
              refine s_do (o_q (.bool true) rfl trivial rfl) ?_
              refine w_done ?_
              obtain rfl := os hb2
              exact ⟨[], [], _, _, rfl, rfl, ⟨.refl _, ⟨.refl _, ⟨.refl _, trivial⟩⟩⟩, (.refl _)⟩
            · refine s_lit (s := 31) (b := false) rfl (bf c152) ?_
              refine s_on rfl ?_
              refine s_do (o_mov (.int .i64 (i_83 : Int)) rfl) ?_
              refine s_on rfl ?_
              refine s_do (o_q (.bool (decide ((i_83 : Int) > 0))) rfl rfl rfl) ?_
              refine s_on rfl ?_
              refine s_do (o_mov (.bool (decide ((i_83 : Int) > 0))) rfl) ?_
              rcases oi hb2 with ⟨c153, hb2⟩ | ⟨c153, hb2⟩
              · refine s_lit (s := 34) (b := true) rfl c153 ?_
                refine s_on rfl ?_
                refine s_do (o_mov (.lst 3 (d_1.map encGAtom)) rfl) ?_
                refine s_on rfl ?_
                refine s_do (o_mov (.int .i64 (i_83 : Int)) rfl) ?_
                refine s_on rfl ?_
                refine s_do (o_q (.int .i64 (w64 ((i_83 : Int) - 1))) rfl rfl rfl) ?_
                refine s_on rfl ?_
                obtain ⟨x_154, ex155, hb2⟩ := ob hb2
                refine s_do (o_iaddr (enc := encGAtom) rfl rfl (idx0 ex155) (idx1 ex155)) ?_
                refine s_on rfl ?_
                refine s_do (o_q (encGAtom x_154) rfl nle rfl) ?_
                refine s_on rfl ?_
                refine s_do (o_mov (.lst 3 (d_1.map encGAtom)) rfl) ?_
                refine s_on rfl ?_
                refine s_do (o_mov (.int .i64 (i_83 : Int)) rfl) ?_
                refine s_on rfl ?_
                refine s_do (o_iaddrn (enc := encGAtom) rfl rfl hx126) ?_
                refine s_on rfl ?_
                refine s_do (o_q (encGAtom x_131) rfl nle rfl) ?_
                refine s_onl rfl ?_
                obtain ⟨r_156, er157, hb2⟩ := ob hb2
                refine s_dol (o_call (w_spec_l03Order _ _ _ er157) rfl (.refl _) rfl) a_same trivial ?_
                refine s_on rfl ?_
                refine s_do (o_q (.bool (decide (r_156 ≥ 0))) rfl rfl rfl) ?_
                refine s_on rfl ?_
                refine s_do (o_q (.bool (decide (r_156 ≥ 0))) rfl trivial rfl) ?_
                refine s_do (o_q (.bool (decide (r_156 ≥ 0))) rfl trivial rfl) ?_
                refine w_done ?_
                obtain rfl := os hb2
                exact ⟨[], [], _, _, rfl, rfl, ⟨.refl _, ⟨.refl _, ⟨.refl _, trivial⟩⟩⟩, (.refl _)⟩
              · refine s_lit (s := 34) (b := false) rfl (bf c153) ?_
                refine s_off rfl rfl ?_
                refine s_off rfl rfl ?_
                refine s_off rfl rfl ?_
                refine s_off rfl rfl ?_
                refine s_off rfl rfl ?_
                refine s_off rfl rfl ?_
                refine s_off rfl rfl ?_
                refine s_off rfl rfl ?_
                refine s_off rfl rfl ?_
                refine s_offl rfl rfl trivial ?_
                refine s_off rfl rfl ?_
                refine s_on rfl ?_
                refine s_do (o_q (.bool false) rfl trivial rfl) ?_
                refine s_do (o_q (.bool false) rfl trivial rfl) ?_
                refine w_done ?_
                obtain rfl := os hb2
                exact ⟨[], [], _, _, rfl, rfl, ⟨.refl _, ⟨.refl _, ⟨.refl _, trivial⟩⟩⟩, (.refl _)⟩
        · rcases oi hc1 with ⟨c158, hc1⟩ | ⟨c158, hc1⟩
          · refine w_condt rfl c158 ?_
            refine awp_seq ?_
            refine w_reg ?_
            refine s_do (o_mov (.bool false) rfl) ?_
            refine w_done ?_
            refine k_seq ?_
            refine w_ret ?_
            obtain rfl := os hc1
            obtain rfl := os hf
            exact r_flat ⟨trivial, trivial⟩ rfl (.refl _)
          · refine w_condf rfl (bf c158) ?_
            refine w_skip ?_
            refine k_blk ?_
            refine k_seq ?_
            refine w_reg ?_
            refine s_do (o_mov (.int .i64 (i_83 : Int)) rfl) ?_
            refine s_do (o_q (.int .i64 (w64 ((i_83 : Int) + 1))) rfl rfl rfl) ?_
            refine s_do (o_mov (.int .i64 (w64 ((i_83 : Int) + 1))) rfl) ?_
            refine w_done ?_
            exact k_loopn ⟨(i_83 + 1), hc1⟩ (mul hlt125) ⟨[], [], _, _, rfl, rfl, ⟨.refl _, ⟨.of_eq (congrArg (AV.int _) (w64_incr hlt125 hl133)), trivial⟩⟩, (.refl _)⟩
    · rintro ⟨_, rfl⟩
      refine awp_seq ?_
      refine w_reg ?_
      refine s_do (o_mov (.lst 3 (d_1.map encGAtom)) rfl) ?_
      refine s_dof (o_len (enc := encGAtom) rfl) fun hl159 => ?_
      refine s_do (o_q (.bool (decide ((d_1.length : Int) ≤ 8))) rfl rfl rfl) ?_
      refine s_do (o_mov (.bool (decide ((d_1.length : Int) ≤ 8))) rfl) ?_
      refine w_done ?_
      refine k_seq ?_
      refine w_ret ?_
      obtain rfl := os hf
      exact r_flat ⟨trivial, trivial⟩ rfl (.refl _)

/- spec.l04Fits -/
def c135 : ACode :=
 (.seq (.reg (.q ⟨(some 2), none, .box 8 (.t 0)⟩
 (.q ⟨(some 4), none, .mov (.c (.int .i64 0))⟩
 .done)))
 (.seq (.seq (.reg (.q ⟨(some 6), none, .mov (.t 1)⟩
 (.q ⟨(some 7), none, .len (.t 6)⟩
 (.q ⟨(some 8), none, .bin .gtr (.t 7) (.c (.int .i64 0))⟩
 (.q ⟨(some 9), none, .mov (.t 8)⟩
 (.q ⟨(some 10), (some (9, true)), .mov (.t 1)⟩
 (.q ⟨(some 11), (some (9, true)), .iaddr 3 (.t 10) (.c (.int .i64 0))⟩
 (.q ⟨(some 12), (some (9, true)), .faddr 0 (.t 11)⟩
 (.q ⟨(some 13), (some (9, true)), .load 1 false (.t 12)⟩
 (.q ⟨(some 14), (some (9, true)), .faddr 1 (.t 2)⟩
 (.q ⟨(some 15), (some (9, true)), .load 1 false (.t 14)⟩
 (.q ⟨(some 16), (some (9, true)), .bin .neq (.t 13) (.t 15)⟩
 (.q ⟨(some 17), none, .pick (.t 9) (.t 16) (.c (.bool false))⟩
 .done)))))))))))))
 (.cut (.cond (.t 17) (.seq (.reg (.q ⟨(some 4), none, .mov (.c (.int .i64 9))⟩
 .done))
 .ret)
 .skip)))
 (.seq (.seq (.reg (.q ⟨(some 18), none, .mov (.t 1)⟩
 (.q ⟨(some 19), none, .len (.t 18)⟩
 (.q ⟨(some 20), none, .faddr 2 (.t 2)⟩
 (.q ⟨(some 21), none, .load 1 false (.t 20)⟩
 (.q ⟨(some 22), none, .faddr 3 (.t 2)⟩
 (.q ⟨(some 23), none, .load 1 false (.t 22)⟩
 (.q ⟨(some 24), none, .call 81 [(.t 19), (.t 21), (.t 23)]⟩
 (.q ⟨(some 25), none, .not (.t 24)⟩
 .done)))))))))
 (.cond (.t 25) (.seq (.reg (.q ⟨(some 4), none, .mov (.c (.int .i64 6))⟩
 .done))
 .ret)
 .skip))
 (.seq (.seq (.reg (.q ⟨(some 5), none, .mov (.c (.int .i64 0))⟩
 .done))
 (.block 0 (.loop (.seq (.seq (.reg (.q ⟨(some 26), none, .mov (.t 5)⟩
 (.q ⟨(some 27), none, .mov (.t 1)⟩
 (.q ⟨(some 28), none, .len (.t 27)⟩
 (.q ⟨(some 29), none, .bin .lss (.t 26) (.t 28)⟩
 .done)))))
 (.cond (.t 29) .skip
 (.exit 0)))
 (.seq (.block 1 (.seq (.reg (.q ⟨(some 32), none, .faddr 1 (.t 2)⟩
 (.q ⟨(some 33), none, .load 1 false (.t 32)⟩
 (.q ⟨(some 34), none, .bin .eql (.t 33) (.c (.int .i64 1))⟩
 (.q ⟨(some 35), none, .mov (.t 34)⟩
 (.q ⟨(some 36), (some (35, true)), .mov (.t 1)⟩
 (.q ⟨(some 37), (some (35, true)), .mov (.t 5)⟩
 (.q ⟨(some 38), (some (35, true)), .iaddr 3 (.t 36) (.t 37)⟩
 (.q ⟨(some 39), (some (35, true)), .faddr 1 (.t 38)⟩
 (.q ⟨(some 40), (some (35, true)), .load 1 false (.t 39)⟩
 (.q ⟨(some 41), (some (35, true)), .faddr 4 (.t 2)⟩
 (.q ⟨(some 42), (some (35, true)), .load 1 false (.t 41)⟩
 (.q ⟨(some 43), (some (35, true)), .faddr 5 (.t 2)⟩
 (.q ⟨(some 44), (some (35, true)), .load 1 false (.t 43)⟩
 (.l ⟨(some 45), (some (35, true)), .call 81 [(.t 40), (.t 42), (.t 44)]⟩ []
 (.q ⟨(some 46), (some (35, true)), .not (.t 45)⟩
 (.q ⟨(some 47), none, .pick (.t 35) (.t 46) (.c (.bool false))⟩
 .done)) .non)))))))))))))))
 (.cut (.cond (.t 47) (.seq (.reg (.q ⟨(some 4), none, .mov (.c (.int .i64 4))⟩
 .done))
 .ret)
 .skip))))
 (.reg (.q ⟨(some 30), none, .mov (.t 5)⟩
 (.q ⟨(some 31), none, .bin .add (.t 30) (.c (.int .i64 1))⟩
 (.q ⟨(some 5), none, .mov (.t 31)⟩
 .done)))))))))
 (.cut (.seq (.reg (.q ⟨(some 4), none, .mov (.c (.int .i64 0))⟩
 .done))
 .ret))))))
theorem fc135 : fcomp Try.prog Try.f135 = some (c135.erase, [.mov (.t 4)], 48) := by kernel_rfl
def spec_l04Fits_L1 (c_1 : GColumn) : List GAtom → Option (Fl Int Unit)
  | [] =>
    some (.go ())
  | x_73 :: xs =>
    ((if (c_1.Kind == 1) then
    (spec_l01In x_73.N c_1.Low c_1.High).bind fun r_82 =>
    some (!r_82)
    else
    some false : Option Bool)).bind fun s47_79 =>
    if s47_79 then
    some (.ret 4)
    else
    spec_l04Fits_L1 c_1 xs 

def spec_l04Fits (c_1 : GColumn) (d_2 : (List GAtom)) : Option Int :=
    ((if (decide ((d_2.length : Int) > 0)) then
    (idx d_2 0).bind fun x_11 =>
    some (x_11.Kind != c_1.Kind)
    else
    some false : Option Bool)).bind fun s17_7 =>
    if s17_7 then
    some 9
    else
    (spec_l01In (d_2.length : Int) c_1.Min c_1.Max).bind fun r_15 =>
    if (!r_15) then
    some 6
    else
    (spec_l04Fits_L1 c_1 d_2 ).bind fun q => (match q with
    | .ret r => some r
    | .go _ =>
    some 0)
theorem w_spec_l04Fits (c_1 : GColumn) (d_2 : (List GAtom)) (r : Int) (hf : spec_l04Fits c_1 d_2 = some r) : CallOK Try.prog 135 .flat [(encGColumn c_1), (.lst 3 (d_2.map encGAtom))] (.int .i64 r) := by
  refine CallOK.of_awp mixed Try.func135 fc135 nle ?_
  rw [argT_eq]
  unfold spec_l04Fits at hf
  unfold c135
  refine (show awp Try.prog false 0 _ (ofL [(0, (encGColumn c_1)), (1, (.lst 3 (d_2.map encGAtom)))]) [] _ from ?_)
  refine awp_seq ?_
  refine w_reg ?_
  refine s_do (o_box (j := 0) (c := (.agg [(.str c_1.Name), (.int .i64 c_1.Kind), (.int .i64 c_1.Min), (.int .i64 c_1.Max), (.int .i64 c_1.Low), (.int .i64 c_1.High), (.str c_1.Ref), (.bool c_1.Strong)])) rfl trivial rfl rfl) ?_
  refine s_do (o_mov (.int .i64 0) rfl) ?_
  refine w_done ?_
  refine k_seq ?_
  refine awp_seq ?_
  refine awp_seq ?_
  obtain ⟨s17_7, hb1, hf⟩ := ob hf
  refine awp_cut ([(1, (.lst 3 (d_2.map encGAtom))), (2, (.ptr 0 0 0)), (17, (.bool s17_7))], [.box 8 (.agg [(.str c_1.Name), (.int .i64 c_1.Kind), (.int .i64 c_1.Min), (.int .i64 c_1.Max), (.int .i64 c_1.Low), (.int .i64 c_1.High), (.str c_1.Ref), (.bool c_1.Strong)])]) ?_ ?_
  · refine w_reg ?_
    rcases oi hb1 with ⟨c10, hb1⟩ | ⟨c10, hb1⟩
    · obtain ⟨x_11, ex12, hb1⟩ := ob hb1
      refine s_do (o_mov (.lst 3 (d_2.map encGAtom)) rfl) ?_
      refine s_dof (o_len (enc := encGAtom) rfl) fun hl9 => ?_
      refine s_do (o_q (.bool (decide ((d_2.length : Int) > 0))) rfl rfl rfl) ?_
      refine s_do (o_mov (.bool (decide ((d_2.length : Int) > 0))) rfl) ?_
      refine s_lit (s := 9) (b := true) rfl c10 ?_
      refine s_on rfl ?_
      refine s_do (o_mov (.lst 3 (d_2.map encGAtom)) rfl) ?_
      refine s_on rfl ?_
      refine s_do (o_iaddr (enc := encGAtom) rfl rfl (idx0 ex12) (idx1 ex12)) ?_
      refine s_on rfl ?_
      refine s_do (o_q (.iptr (encGAtom x_11) 0) rfl trivial rfl) ?_
      refine s_on rfl ?_
      refine s_do (o_q (.int .i64 x_11.Kind) rfl nle rfl) ?_
      refine s_on rfl ?_
      refine s_do (o_q (.ptr 0 0 1) rfl trivial rfl) ?_
      refine s_on rfl ?_
      refine s_do (o_q (.int .i64 c_1.Kind) rfl nle rfl) ?_
      refine s_on rfl ?_
      refine s_do (o_q (.bool (x_11.Kind != c_1.Kind)) rfl rfl rfl) ?_
      refine s_do (o_q (.bool (x_11.Kind != c_1.Kind)) rfl trivial rfl) ?_
      refine w_done ?_
      obtain rfl := os hb1
      exact ⟨[], [0], _, _, rfl, rfl, ⟨.refl _, ⟨.refl _, ⟨.refl _, trivial⟩⟩⟩, (.refl _)⟩
    · refine s_do (o_mov (.lst 3 (d_2.map encGAtom)) rfl) ?_
      refine s_dof (o_len (enc := encGAtom) rfl) fun hl9 => ?_
      refine s_do (o_q (.bool (decide ((d_2.length : Int) > 0))) rfl rfl rfl) ?_
      refine s_do (o_mov (.bool (decide ((d_2.length : Int) > 0))) rfl) ?_
      refine s_lit (s := 9) (b := false) rfl (bf c10) ?_
      refine s_off rfl rfl ?_
      refine s_off rfl rfl ?_
      refine s_off rfl rfl ?_
      refine s_off rfl rfl ?_
      refine s_off rfl rfl ?_
      refine s_off rfl rfl ?_
      refine s_off rfl rfl ?_
      refine s_do (o_q (.bool false) rfl trivial rfl) ?_
      refine w_done ?_
      obtain rfl := os hb1
      exact ⟨[], [0], _, _, rfl, rfl, ⟨.refl _, ⟨.refl _, ⟨.refl _, trivial⟩⟩⟩, (.refl _)⟩
  · rcases oi hf with ⟨c13, hf⟩ | ⟨c13, hf⟩
    · refine w_condt rfl c13 ?_
      refine awp_seq ?_
      refine w_reg ?_
      refine s_do (o_mov (.int .i64 9) rfl) ?_
      refine w_done ?_
      refine k_seq ?_
      refine w_ret ?_
      obtain rfl := os hf
      exact r_flat ⟨trivial, trivial⟩ rfl (.refl _)
    · refine w_condf rfl (bf c13) ?_
      refine w_skip ?_
      refine k_seq ?_
      refine awp_seq ?_
      refine awp_seq ?_
      refine w_reg ?_
      obtain ⟨r_15, er16, hf⟩ := ob hf
      refine s_do (o_mov (.lst 3 (d_2.map encGAtom)) rfl) ?_
      refine s_dof (o_len (enc := encGAtom) rfl) fun hl14 => ?_
      refine s_do (o_q (.ptr 0 0 2) rfl trivial rfl) ?_
      refine s_do (o_q (.int .i64 c_1.Min) rfl nle rfl) ?_
      refine s_do (o_q (.ptr 0 0 3) rfl trivial rfl) ?_
      refine s_do (o_q (.int .i64 c_1.Max) rfl nle rfl) ?_
      refine s_do (o_call (w_spec_l01In _ _ _ _ er16) rfl (.refl _) rfl) ?_
      refine s_do (o_q (.bool (!r_15)) rfl trivial rfl) ?_
      refine w_done ?_
      refine k_seq ?_
      rcases oi hf with ⟨c17, hf⟩ | ⟨c17, hf⟩
      · refine w_condt rfl c17 ?_
        refine awp_seq ?_
        refine w_reg ?_
        refine s_do (o_mov (.int .i64 6) rfl) ?_
        refine w_done ?_
        refine k_seq ?_
        refine w_ret ?_
        obtain rfl := os hf
        exact r_flat ⟨trivial, trivial⟩ rfl (.refl _)
      · refine w_condf rfl (bf c17) ?_
        refine w_skip ?_
        refine k_seq ?_
        refine awp_seq ?_
        refine awp_seq ?_
        refine w_reg ?_
        refine s_do (o_mov (.int .i64 0) rfl) ?_
        refine w_done ?_
        refine k_seq ?_
        obtain ⟨p66, hb1, hf⟩ := ob hf
        refine awp_cutx (X := {q : Unit // p66 = .go q}) (fun q => ([], [])) ?_ ?_
        · refine awp_loop (X := {q : Nat // spec_l04Fits_L1 c_1 (d_2.drop q)  = some p66}) (fun q => ([(1, (.lst 3 (d_2.map encGAtom))), (2, (.ptr 0 0 0)), (5, (.int .i64 (q.1 : Int)))], [.box 8 (.agg [(.str c_1.Name), (.int .i64 c_1.Kind), (.int .i64 c_1.Min), (.int .i64 c_1.Max), (.int .i64 c_1.Low), (.int .i64 c_1.High), (.str c_1.Ref), (.bool c_1.Strong)])])) (fun q => d_2.length - q.1) ⟨0, hb1⟩ ⟨[], [0], _, _, rfl, rfl, ⟨.refl _, ⟨.refl _, ⟨.refl _, trivial⟩⟩⟩, (.refl _)⟩ ?_
          rintro ⟨i_49, hc1⟩
          have hc1 : spec_l04Fits_L1 c_1 (d_2.drop i_49)  = some p66 := hc1
          refine (show awp Try.prog false 0 _ (ofL [(1, (.lst 3 (d_2.map encGAtom))), (2, (.ptr 0 0 0)), (5, (.int .i64 (i_49 : Int)))]) [.box 8 (.agg [(.str c_1.Name), (.int .i64 c_1.Kind), (.int .i64 c_1.Min), (.int .i64 c_1.Max), (.int .i64 c_1.Low), (.int .i64 c_1.High), (.str c_1.Ref), (.bool c_1.Strong)])] _ from ?_)
          rcases dropc d_2 i_49 with ⟨hie69, hd72⟩ | ⟨hlt67, x_73, hx68, hd72⟩
          · rw [hd72, spec_l04Fits_L1.eq_1] at hc1
            have hq71 := dlf hie69
            refine awp_seq ?_
            refine awp_seq ?_
            refine w_reg ?_
            refine s_do (o_mov (.int .i64 (i_49 : Int)) rfl) ?_
            refine s_do (o_mov (.lst 3 (d_2.map encGAtom)) rfl) ?_
            refine s_dof (o_len (enc := encGAtom) rfl) fun hl74 => ?_
            refine s_do (o_q (.bool (decide ((i_49 : Int) < (d_2.length : Int)))) rfl rfl rfl) ?_
            refine w_done ?_
            refine k_seq ?_
            refine w_condf rfl hq71 ?_
            refine w_exit ?_
            refine k_seqx ?_
            refine k_loopx ?_
            refine k_blkx ?_
            obtain rfl := os hc1
            exact k_cutn ⟨_, rfl⟩ ⟨[], [], _, _, rfl, rfl, trivial, (.refl _)⟩
          · rw [hd72, spec_l04Fits_L1.eq_2] at hc1
            have hq71 := dlt hlt67
            refine awp_seq ?_
            refine awp_seq ?_
            refine w_reg ?_
            refine s_do (o_mov (.int .i64 (i_49 : Int)) rfl) ?_
            refine s_do (o_mov (.lst 3 (d_2.map encGAtom)) rfl) ?_
            refine s_dof (o_len (enc := encGAtom) rfl) fun hl75 => ?_
            refine s_do (o_q (.bool (decide ((i_49 : Int) < (d_2.length : Int)))) rfl rfl rfl) ?_
            refine w_done ?_
            refine k_seq ?_
            refine w_condt rfl hq71 ?_
            refine w_skip ?_
            refine k_seq ?_
            refine awp_seq ?_
            refine w_blk ?_
            refine awp_seq ?_
            obtain ⟨s47_79, hb2, hc1⟩ := ob hc1
            refine awp_cut ([(1, (.lst 3 (d_2.map encGAtom))), (2, (.ptr 0 0 0)), (5, (.int .i64 (i_49 : Int))), (47, (.bool s47_79))], [.box 8 (.agg [(.str c_1.Name), (.int .i64 c_1.Kind), (.int .i64 c_1.Min), (.int .i64 c_1.Max), (.int .i64 c_1.Low), (.int .i64 c_1.High), (.str c_1.Ref), (.bool c_1.Strong)])]) ?_ ?_
            · refine w_reg ?_
              refine s_do (o_q (.ptr 0 0 1) rfl trivial rfl) ?_
              refine s_do (o_q (.int .i64 c_1.Kind) rfl nle rfl) ?_
              refine s_do (o_q (.bool (c_1.Kind == 1)) rfl rfl rfl) ?_
              refine s_do (o_mov (.bool (c_1.Kind == 1)) rfl) ?_
              rcases oi hb2 with ⟨c81, hb2⟩ | ⟨c81, hb2⟩
              · refine s_lit (s := 35) (b := true) rfl c81 ?_
                refine s_on rfl ?_
                refine s_do (o_mov (.lst 3 (d_2.map encGAtom)) rfl) ?_
                refine s_on rfl ?_
                refine s_do (o_mov (.int .i64 (i_49 : Int)) rfl) ?_
                refine s_on rfl ?_
                refine s_do (o_iaddrn (enc := encGAtom) rfl rfl hx68) ?_
                refine s_on rfl ?_
                refine s_do (o_q (.iptr (encGAtom x_73) 1) rfl trivial rfl) ?_
                refine s_on rfl ?_
                refine s_do (o_q (.int .i64 x_73.N) rfl nle rfl) ?_
                refine s_on rfl ?_
                refine s_do (o_q (.ptr 0 0 4) rfl trivial rfl) ?_
                refine s_on rfl ?_
                refine s_do (o_q (.int .i64 c_1.Low) rfl nle rfl) ?_
                refine s_on rfl ?_
                refine s_do (o_q (.ptr 0 0 5) rfl trivial rfl) ?_
                refine s_on rfl ?_
                refine s_do (o_q (.int .i64 c_1.High) rfl nle rfl) ?_
                refine s_onl rfl ?_
                obtain ⟨r_82, er83, hb2⟩ := ob hb2
                refine s_dol (o_call (w_spec_l01In _ _ _ _ er83) rfl (.refl _) rfl) a_same trivial ?_
                refine s_on rfl ?_
                refine s_do (o_q (.bool (!r_82)) rfl trivial rfl) ?_
                refine s_do (o_q (.bool (!r_82)) rfl trivial rfl) ?_
                refine w_done ?_
                obtain rfl := os hb2
                exact ⟨[], [0], _, _, rfl, rfl, ⟨.refl _, ⟨.refl _, ⟨.refl _, ⟨.refl _, trivial⟩⟩⟩⟩, (.refl _)⟩
              · refine s_lit (s := 35) (b := false) rfl (bf c81) ?_
                refine s_off rfl rfl ?_
                refine s_off rfl rfl ?_
                refine s_off rfl rfl ?_
                refine s_off rfl rfl ?_
                refine s_off rfl rfl ?_
                refine s_off rfl rfl ?_
                refine s_off rfl rfl ?_
                refine s_off rfl rfl ?_
                refine s_off rfl rfl ?_
                refine s_offl rfl rfl trivial ?_
                refine s_off rfl rfl ?_
                refine s_do (o_q (.bool false) rfl trivial rfl) ?_
                refine w_done ?_
                obtain rfl := os hb2
                exact ⟨[], [0], _, _, rfl, rfl, ⟨.refl _, ⟨.refl _, ⟨.refl _, ⟨.refl _, trivial⟩⟩⟩⟩, (.refl _)⟩
            · rcases oi hc1 with ⟨c84, hc1⟩ | ⟨c84, hc1⟩
              · refine w_condt rfl c84 ?_
                refine awp_seq ?_
                refine w_reg ?_
                refine s_do (o_mov (.int .i64 4) rfl) ?_
                refine w_done ?_
                refine k_seq ?_
                refine w_ret ?_
                obtain rfl := os hc1
                obtain rfl := os hf
                exact r_flat ⟨trivial, trivial⟩ rfl (.refl _)
              · refine w_condf rfl (bf c84) ?_
                refine w_skip ?_
                refine k_blk ?_
                refine k_seq ?_
                refine w_reg ?_
                refine s_do (o_mov (.int .i64 (i_49 : Int)) rfl) ?_
                refine s_do (o_q (.int .i64 (w64 ((i_49 : Int) + 1))) rfl rfl rfl) ?_
                refine s_do (o_mov (.int .i64 (w64 ((i_49 : Int) + 1))) rfl) ?_
                refine w_done ?_
                exact k_loopn ⟨(i_49 + 1), hc1⟩ (mul hlt67) ⟨[], [0], _, _, rfl, rfl, ⟨.refl _, ⟨.refl _, ⟨.of_eq (congrArg (AV.int _) (w64_incr hlt67 hl75)), trivial⟩⟩⟩, (.refl _)⟩
        · rintro ⟨_, rfl⟩
          refine awp_seq ?_
          refine w_reg ?_
          refine s_do (o_mov (.int .i64 0) rfl) ?_
          refine w_done ?_
          refine k_seq ?_
          refine w_ret ?_
          obtain rfl := os hf
          exact r_flat ⟨trivial, trivial⟩ rfl (.refl _)

/- spec.Fits -/
def c58 : ACode :=
 (.seq (.reg (.q ⟨(some 2), none, .box 8 (.t 0)⟩
 (.q ⟨(some 4), none, .mov (.c (.int .i64 0))⟩
 (.q ⟨(some 5), none, .mov (.c (.int .i64 0))⟩
 .done))))
 (.seq (.seq (.reg (.q ⟨(some 6), none, .mov (.t 1)⟩
 (.q ⟨(some 7), none, .len (.t 6)⟩
 (.q ⟨(some 8), none, .bin .gtr (.t 7) (.c (.int .i64 4096))⟩
 .done))))
 (.cond (.t 8) (.seq (.reg (.q ⟨(some 4), none, .mov (.c (.int .i64 0))⟩
 (.q ⟨(some 5), none, .mov (.c (.int .i64 2))⟩
 .done)))
 .ret)
 .skip))
 (.seq (.seq (.reg (.q ⟨(some 9), none, .load 8 true (.t 2)⟩
 (.q ⟨(some 10), none, .call 128 [(.t 9)]⟩
 (.q ⟨(some 11), none, .not (.t 10)⟩
 (.q ⟨(some 12), none, .mov (.t 11)⟩
 (.q ⟨(some 13), (some (12, false)), .mov (.t 1)⟩
 (.q ⟨(some 14), (some (12, false)), .call 134 [(.t 13)]⟩
 (.q ⟨(some 15), (some (12, false)), .not (.t 14)⟩
 (.q ⟨(some 16), none, .pick (.t 12) (.c (.bool true)) (.t 15)⟩
 .done)))))))))
 (.cut (.cond (.t 16) (.seq (.reg (.q ⟨(some 4), none, .mov (.c (.int .i64 0))⟩
 (.q ⟨(some 5), none, .mov (.c (.int .i64 1))⟩
 .done)))
 .ret)
 .skip)))
 (.seq (.reg (.q ⟨(some 17), none, .load 8 true (.t 2)⟩
 (.q ⟨(some 18), none, .mov (.t 1)⟩
 (.q ⟨(some 19), none, .call 135 [(.t 17), (.t 18)]⟩
 (.q ⟨(some 4), none, .mov (.t 19)⟩
 (.q ⟨(some 5), none, .mov (.c (.int .i64 0))⟩
 .done))))))
 .ret))))
theorem fc58 : fcomp Try.prog Try.f58 = some (c58.erase, [.mov (.t 4), .mov (.t 5)], 20) := by kernel_rfl
def spec_Fits (c_1 : GColumn) (d_2 : (List GAtom)) : Option (Int × Int) :=
    if (decide ((d_2.length : Int) > 4096)) then
    some (0, 2)
    else
    (((spec_ColumnOK c_1).bind fun r_12 =>
    if (!r_12) then
    some true
    else
    (spec_DatumOK d_2).bind fun r_15 =>
    some (!r_15) : Option Bool)).bind fun s16_10 =>
    if s16_10 then
    some (0, 1)
    else
    (spec_l04Fits c_1 d_2).bind fun r_18 =>
    some (r_18, 0)
theorem w_spec_Fits (c_1 : GColumn) (d_2 : (List GAtom)) (r : (Int × Int)) (hf : spec_Fits c_1 d_2 = some r) : CallOK Try.prog 58 .flat [(encGColumn c_1), (.lst 3 (d_2.map encGAtom))] (.tup [(.int .i64 r.1), (.int .i64 r.2)]) := by
  refine CallOK.of_awp mixed Try.func58 fc58 nle ?_
  rw [argT_eq]
  unfold spec_Fits at hf
  unfold c58
  refine (show awp Try.prog false 0 _ (ofL [(0, (encGColumn c_1)), (1, (.lst 3 (d_2.map encGAtom)))]) [] _ from ?_)
  refine awp_seq ?_
  refine w_reg ?_
  refine s_do (o_box (j := 0) (c := (.agg [(.str c_1.Name), (.int .i64 c_1.Kind), (.int .i64 c_1.Min), (.int .i64 c_1.Max), (.int .i64 c_1.Low), (.int .i64 c_1.High), (.str c_1.Ref), (.bool c_1.Strong)])) rfl trivial rfl rfl) ?_
  refine s_do (o_mov (.int .i64 0) rfl) ?_
  refine s_do (o_mov (.int .i64 0) rfl) ?_
  refine w_done ?_
  refine k_seq ?_
  refine awp_seq ?_
  refine awp_seq ?_
  refine w_reg ?_
  refine s_do (o_mov (.lst 3 (d_2.map encGAtom)) rfl) ?_
  refine s_dof (o_len (enc := encGAtom) rfl) fun hl3 => ?_
  refine s_do (o_q (.bool (decide ((d_2.length : Int) > 4096))) rfl rfl rfl) ?_
  refine w_done ?_
  refine k_seq ?_
  rcases oi hf with ⟨c4, hf⟩ | ⟨c4, hf⟩
  · refine w_condt rfl c4 ?_
    refine awp_seq ?_
    refine w_reg ?_
    refine s_do (o_mov (.int .i64 0) rfl) ?_
    refine s_do (o_mov (.int .i64 2) rfl) ?_
    refine w_done ?_
    refine k_seq ?_
    refine w_ret ?_
    obtain rfl := os hf
    exact r_flat ⟨trivial, ⟨trivial, trivial⟩⟩ rfl (.refl _)
  · refine w_condf rfl (bf c4) ?_
    refine w_skip ?_
    refine k_seq ?_
    refine awp_seq ?_
    refine awp_seq ?_
    obtain ⟨s16_10, hb1, hf⟩ := ob hf
    refine awp_cut ([(1, (.lst 3 (d_2.map encGAtom))), (2, (.ptr 0 0 0)), (16, (.bool s16_10))], [.box 8 (.agg [(.str c_1.Name), (.int .i64 c_1.Kind), (.int .i64 c_1.Min), (.int .i64 c_1.Max), (.int .i64 c_1.Low), (.int .i64 c_1.High), (.str c_1.Ref), (.bool c_1.Strong)])]) ?_ ?_
    · refine w_reg ?_
      obtain ⟨r_12, er13, hb1⟩ := ob hb1
      rcases oi hb1 with ⟨c14, hb1⟩ | ⟨c14, hb1⟩
      · refine s_do (o_q (.agg [(.str c_1.Name), (.int .i64 c_1.Kind), (.int .i64 c_1.Min), (.int .i64 c_1.Max), (.int .i64 c_1.Low), (.int .i64 c_1.High), (.str c_1.Ref), (.bool c_1.Strong)]) rfl nle rfl) ?_
        refine s_do (o_call (w_spec_ColumnOK _ _ er13) rfl (.refl _) rfl) ?_
        refine s_do (o_q (.bool (!r_12)) rfl trivial rfl) ?_
        refine s_do (o_mov (.bool (!r_12)) rfl) ?_
        refine s_lit (s := 12) (b := true) rfl c14 ?_
        refine s_off rfl rfl ?_
        refine s_off rfl rfl ?_
        refine s_off rfl rfl ?_
        refine s_do (o_q (.bool true) rfl trivial rfl) ?_
        refine w_done ?_
        obtain rfl := os hb1
        exact ⟨[], [0], _, _, rfl, rfl, ⟨.refl _, ⟨.refl _, ⟨.refl _, trivial⟩⟩⟩, (.refl _)⟩
      · obtain ⟨r_15, er16, hb1⟩ := ob hb1
        refine s_do (o_q (.agg [(.str c_1.Name), (.int .i64 c_1.Kind), (.int .i64 c_1.Min), (.int .i64 c_1.Max), (.int .i64 c_1.Low), (.int .i64 c_1.High), (.str c_1.Ref), (.bool c_1.Strong)]) rfl nle rfl) ?_
        refine s_do (o_call (w_spec_ColumnOK _ _ er13) rfl (.refl _) rfl) ?_
        refine s_do (o_q (.bool (!r_12)) rfl trivial rfl) ?_
        refine s_do (o_mov (.bool (!r_12)) rfl) ?_
        refine s_lit (s := 12) (b := false) rfl (bf c14) ?_
        refine s_on rfl ?_
        refine s_do (o_mov (.lst 3 (d_2.map encGAtom)) rfl) ?_
        refine s_on rfl ?_
        refine s_do (o_call (w_spec_DatumOK _ _ er16) rfl (.refl _) rfl) ?_
        refine s_on rfl ?_
        refine s_do (o_q (.bool (!r_15)) rfl trivial rfl) ?_
        refine s_do (o_q (.bool (!r_15)) rfl trivial rfl) ?_
        refine w_done ?_
        obtain rfl := os hb1
        exact ⟨[], [0], _, _, rfl, rfl, ⟨.refl _, ⟨.refl _, ⟨.refl _, trivial⟩⟩⟩, (.refl _)⟩
    · rcases oi hf with ⟨c17, hf⟩ | ⟨c17, hf⟩
      · refine w_condt rfl c17 ?_
        refine awp_seq ?_
        refine w_reg ?_
        refine s_do (o_mov (.int .i64 0) rfl) ?_
        refine s_do (o_mov (.int .i64 1) rfl) ?_
        refine w_done ?_
        refine k_seq ?_
        refine w_ret ?_
        obtain rfl := os hf
        exact r_flat ⟨trivial, ⟨trivial, trivial⟩⟩ rfl (.refl _)
      · refine w_condf rfl (bf c17) ?_
        refine w_skip ?_
        refine k_seq ?_
        refine awp_seq ?_
        refine w_reg ?_
        obtain ⟨r_18, er19, hf⟩ := ob hf
        refine s_do (o_q (.agg [(.str c_1.Name), (.int .i64 c_1.Kind), (.int .i64 c_1.Min), (.int .i64 c_1.Max), (.int .i64 c_1.Low), (.int .i64 c_1.High), (.str c_1.Ref), (.bool c_1.Strong)]) rfl nle rfl) ?_
        refine s_do (o_mov (.lst 3 (d_2.map encGAtom)) rfl) ?_
        refine s_do (o_call (w_spec_l04Fits _ _ _ er19) rfl (.refl _) rfl) ?_
        refine s_do (o_mov (.int .i64 r_18) rfl) ?_
        refine s_do (o_mov (.int .i64 0) rfl) ?_
        refine w_done ?_
        refine k_seq ?_
        refine w_ret ?_
        obtain rfl := os hf
        exact r_flat ⟨trivial, ⟨trivial, trivial⟩⟩ rfl (.refl _)

/- laws.sameDatum -/
def c59 : ACode :=
 (.seq (.reg (.q ⟨(some 4), none, .mov (.c (.bool false))⟩
 .done))
 (.seq (.seq (.reg (.q ⟨(some 6), none, .mov (.t 0)⟩
 (.q ⟨(some 7), none, .len (.t 6)⟩
 (.q ⟨(some 8), none, .mov (.t 1)⟩
 (.q ⟨(some 9), none, .len (.t 8)⟩
 (.q ⟨(some 10), none, .bin .neq (.t 7) (.t 9)⟩
 .done))))))
 (.cond (.t 10) (.seq (.reg (.q ⟨(some 4), none, .mov (.c (.bool false))⟩
 .done))
 .ret)
 .skip))
 (.seq (.seq (.reg (.q ⟨(some 5), none, .mov (.c (.int .i64 0))⟩
 .done))
 (.block 0 (.loop (.seq (.seq (.reg (.q ⟨(some 11), none, .mov (.t 5)⟩
 (.q ⟨(some 12), none, .mov (.t 0)⟩
 (.q ⟨(some 13), none, .len (.t 12)⟩
 (.q ⟨(some 14), none, .bin .lss (.t 11) (.t 13)⟩
 .done)))))
 (.cond (.t 14) .skip
 (.exit 0)))
 (.seq (.block 1 (.seq (.reg (.q ⟨(some 17), none, .mov (.t 0)⟩
 (.q ⟨(some 18), none, .mov (.t 5)⟩
 (.q ⟨(some 19), none, .iaddr 3 (.t 17) (.t 18)⟩
 (.q ⟨(some 20), none, .load 3 true (.t 19)⟩
 (.q ⟨(some 21), none, .mov (.t 1)⟩
 (.q ⟨(some 22), none, .mov (.t 5)⟩
 (.q ⟨(some 23), none, .iaddr 3 (.t 21) (.t 22)⟩
 (.q ⟨(some 24), none, .load 3 true (.t 23)⟩
 (.q ⟨(some 25), none, .eqs true [0, 0, 2] (.t 20) (.t 24)⟩
 .done))))))))))
 (.cond (.t 25) (.seq (.reg (.q ⟨(some 4), none, .mov (.c (.bool false))⟩
 .done))
 .ret)
 .skip)))
 (.reg (.q ⟨(some 15), none, .mov (.t 5)⟩
 (.q ⟨(some 16), none, .bin .add (.t 15) (.c (.int .i64 1))⟩
 (.q ⟨(some 5), none, .mov (.t 16)⟩
 .done)))))))))
 (.cut (.seq (.reg (.q ⟨(some 4), none, .mov (.c (.bool true))⟩
 .done))
 .ret)))))
theorem fc59 : fcomp Try.prog Try.f59 = some (c59.erase, [.mov (.t 4)], 26) := by kernel_rfl
def laws_sameDatum_L1 (b_2 : (List GAtom)) : List GAtom → Nat → Option (Fl Bool Unit)
  | [], i_21 =>
    some (.go ())
  | x_37 :: xs, i_21 =>
    (idx b_2 (i_21 : Int)).bind fun x_40 =>
    if (!(x_37.Kind == x_40.Kind && (x_37.N == x_40.N && (x_37.T == x_40.T && true)))) then
    some (.ret false)
    else
    laws_sameDatum_L1 b_2 xs (i_21 + 1)

def laws_sameDatum (a_1 : (List GAtom)) (b_2 : (List GAtom)) : Option Bool :=
    if ((a_1.length : Int) != (b_2.length : Int)) then
    some false
    else
    (laws_sameDatum_L1 b_2 a_1 0).bind fun q => (match q with
    | .ret r => some r
    | .go _ =>
    some true)
theorem w_laws_sameDatum (a_1 : (List GAtom)) (b_2 : (List GAtom)) (r : Bool) (hf : laws_sameDatum a_1 b_2 = some r) : CallOK Try.prog 59 .flat [(.lst 3 (a_1.map encGAtom)), (.lst 3 (b_2.map encGAtom))] (.bool r) := by
  refine CallOK.of_awp mixed Try.func59 fc59 nle ?_
  rw [argT_eq]
  unfold laws_sameDatum at hf
  unfold c59
  refine (show awp Try.prog false 0 _ (ofL [(0, (.lst 3 (a_1.map encGAtom))), (1, (.lst 3 (b_2.map encGAtom)))]) [] _ from ?_)
  refine awp_seq ?_
  refine w_reg ?_
  refine s_do (o_mov (.bool false) rfl) ?_
  refine w_done ?_
  refine k_seq ?_
  refine awp_seq ?_
  refine awp_seq ?_
  refine w_reg ?_
  refine s_do (o_mov (.lst 3 (a_1.map encGAtom)) rfl) ?_
  refine s_dof (o_len (enc := encGAtom) rfl) fun hl3 => ?_
  refine s_do (o_mov (.lst 3 (b_2.map encGAtom)) rfl) ?_
  refine s_dof (o_len (enc := encGAtom) rfl) fun hl4 => ?_
  refine s_do (o_q (.bool ((a_1.length : Int) != (b_2.length : Int))) rfl rfl rfl) ?_
  refine w_done ?_
  refine k_seq ?_
  rcases oi hf with ⟨c5, hf⟩ | ⟨c5, hf⟩
  · refine w_condt rfl c5 ?_
    refine awp_seq ?_
    refine w_reg ?_
    refine s_do (o_mov (.bool false) rfl) ?_
    refine w_done ?_
    refine k_seq ?_
    refine w_ret ?_
    obtain rfl := os hf
    exact r_flat ⟨trivial, trivial⟩ rfl (.refl _)
  · refine w_condf rfl (bf c5) ?_
    refine w_skip ?_
    refine k_seq ?_
    refine awp_seq ?_
    refine awp_seq ?_
    refine w_reg ?_
    refine s_do (o_mov (.int .i64 0) rfl) ?_
    refine w_done ?_
    refine k_seq ?_
    obtain ⟨p30, hb1, hf⟩ := ob hf
    refine awp_cutx (X := {q : Unit // p30 = .go q}) (fun q => ([], [])) ?_ ?_
    · refine awp_loop (X := {q : Nat // laws_sameDatum_L1 b_2 (a_1.drop q) q = some p30}) (fun q => ([(0, (.lst 3 (a_1.map encGAtom))), (1, (.lst 3 (b_2.map encGAtom))), (5, (.int .i64 (q.1 : Int)))], [])) (fun q => a_1.length - q.1) ⟨0, hb1⟩ ⟨[], [], _, _, rfl, rfl, ⟨.refl _, ⟨.refl _, ⟨.refl _, trivial⟩⟩⟩, (.refl _)⟩ ?_
      rintro ⟨i_21, hc1⟩
      have hc1 : laws_sameDatum_L1 b_2 (a_1.drop i_21) i_21 = some p30 := hc1
      refine (show awp Try.prog false 0 _ (ofL [(0, (.lst 3 (a_1.map encGAtom))), (1, (.lst 3 (b_2.map encGAtom))), (5, (.int .i64 (i_21 : Int)))]) [] _ from ?_)
      rcases dropc a_1 i_21 with ⟨hie33, hd36⟩ | ⟨hlt31, x_37, hx32, hd36⟩
      · rw [hd36, laws_sameDatum_L1.eq_1] at hc1
        have hq35 := dlf hie33
        refine awp_seq ?_
        refine awp_seq ?_
        refine w_reg ?_
        refine s_do (o_mov (.int .i64 (i_21 : Int)) rfl) ?_
        refine s_do (o_mov (.lst 3 (a_1.map encGAtom)) rfl) ?_
        refine s_dof (o_len (enc := encGAtom) rfl) fun hl38 => ?_
        refine s_do (o_q (.bool (decide ((i_21 : Int) < (a_1.length : Int)))) rfl rfl rfl) ?_
        refine w_done ?_
        refine k_seq ?_
        refine w_condf rfl hq35 ?_
        refine w_exit ?_
        refine k_seqx ?_
        refine k_loopx ?_
        refine k_blkx ?_
        obtain rfl := os hc1
        exact k_cutn ⟨_, rfl⟩ ⟨[], [], _, _, rfl, rfl, trivial, (.refl _)⟩
      · rw [hd36, laws_sameDatum_L1.eq_2] at hc1
        have hq35 := dlt hlt31
        refine awp_seq ?_
        refine awp_seq ?_
        refine w_reg ?_
        refine s_do (o_mov (.int .i64 (i_21 : Int)) rfl) ?_
        refine s_do (o_mov (.lst 3 (a_1.map encGAtom)) rfl) ?_
        refine s_dof (o_len (enc := encGAtom) rfl) fun hl39 => ?_
        refine s_do (o_q (.bool (decide ((i_21 : Int) < (a_1.length : Int)))) rfl rfl rfl) ?_
        refine w_done ?_
        refine k_seq ?_
        refine w_condt rfl hq35 ?_
        refine w_skip ?_
        refine k_seq ?_
        refine awp_seq ?_
        refine w_blk ?_
        refine awp_seq ?_
        refine w_reg ?_
        obtain ⟨x_40, ex41, hc1⟩ := ob hc1
        refine s_do (o_mov (.lst 3 (a_1.map encGAtom)) rfl) ?_
        refine s_do (o_mov (.int .i64 (i_21 : Int)) rfl) ?_
        refine s_do (o_iaddrn (enc := encGAtom) rfl rfl hx32) ?_
        refine s_do (o_q (encGAtom x_37) rfl nle rfl) ?_
        refine s_do (o_mov (.lst 3 (b_2.map encGAtom)) rfl) ?_
        refine s_do (o_mov (.int .i64 (i_21 : Int)) rfl) ?_
        refine s_do (o_iaddr (enc := encGAtom) rfl rfl (idx0 ex41) (idx1 ex41)) ?_
        refine s_do (o_q (encGAtom x_40) rfl nle rfl) ?_
        refine s_do (o_q (.bool (!(x_37.Kind == x_40.Kind && (x_37.N == x_40.N && (x_37.T == x_40.T && true))))) rfl ⟨⟨rfl, rfl⟩, ⟨⟨rfl, rfl⟩, ⟨rfl, trivial⟩⟩⟩ rfl) ?_
        refine w_done ?_
        refine k_seq ?_
        rcases oi hc1 with ⟨c42, hc1⟩ | ⟨c42, hc1⟩
        · refine w_condt rfl c42 ?_
          refine awp_seq ?_
          refine w_reg ?_
          refine s_do (o_mov (.bool false) rfl) ?_
          refine w_done ?_
          refine k_seq ?_
          refine w_ret ?_
          obtain rfl := os hc1
          obtain rfl := os hf
          exact r_flat ⟨trivial, trivial⟩ rfl (.refl _)
        · refine w_condf rfl (bf c42) ?_
          refine w_skip ?_
          refine k_blk ?_
          refine k_seq ?_
          refine w_reg ?_
          refine s_do (o_mov (.int .i64 (i_21 : Int)) rfl) ?_
          refine s_do (o_q (.int .i64 (w64 ((i_21 : Int) + 1))) rfl rfl rfl) ?_
          refine s_do (o_mov (.int .i64 (w64 ((i_21 : Int) + 1))) rfl) ?_
          refine w_done ?_
          exact k_loopn ⟨(i_21 + 1), hc1⟩ (mul hlt31) ⟨[], [], _, _, rfl, rfl, ⟨.refl _, ⟨.refl _, ⟨.of_eq (congrArg (AV.int _) (w64_incr hlt31 hl39)), trivial⟩⟩⟩, (.refl _)⟩
    · rintro ⟨_, rfl⟩
      refine awp_seq ?_
      refine w_reg ?_
      refine s_do (o_mov (.bool true) rfl) ?_
      refine w_done ?_
      refine k_seq ?_
      refine w_ret ?_
      obtain rfl := os hf
      exact r_flat ⟨trivial, trivial⟩ rfl (.refl _)

/- laws.FnFits -/
def c10 : ACode :=
 (.seq (.reg (.q ⟨(some 4), none, .mov (.c (.bool false))⟩
 .done))
 (.seq (.seq (.reg (.q ⟨(some 17), none, .mov (.t 0)⟩
 (.q ⟨(some 18), none, .len (.t 17)⟩
 (.q ⟨(some 19), none, .bin .gtr (.t 18) (.c (.int .i64 1048576))⟩
 (.q ⟨(some 20), none, .mov (.t 19)⟩
 (.q ⟨(some 21), (some (20, false)), .mov (.t 1)⟩
 (.q ⟨(some 22), (some (20, false)), .len (.t 21)⟩
 (.q ⟨(some 23), (some (20, false)), .bin .gtr (.t 22) (.c (.int .i64 1048576))⟩
 (.q ⟨(some 24), none, .pick (.t 20) (.c (.bool true)) (.t 23)⟩
 .done)))))))))
 (.cut (.cond (.t 24) (.seq (.reg (.q ⟨(some 4), none, .mov (.c (.bool true))⟩
 .done))
 .ret)
 .skip)))
 (.seq (.reg (.q ⟨(some 25), none, .mov (.t 0)⟩
 (.q ⟨(some 26), none, .call 52 [(.t 25)]⟩
 (.q ⟨(some 5), none, .box 8 (.c (.agg [(.str []), (.int .i64 0), (.int .i64 0), (.int .i64 0), (.int .i64 0), (.int .i64 0), (.str []), (.bool false)]))⟩
 (.q ⟨none, none, .store 8 (.t 5) (.t 26)⟩
 .done)))))
 (.seq (.reg (.q ⟨(some 28), none, .load 8 true (.t 5)⟩
 (.q ⟨(some 29), none, .call 53 [(.t 28)]⟩
 (.q ⟨(some 27), none, .mov (.t 29)⟩
 (.q ⟨(some 30), none, .extract 0 (.t 27)⟩
 (.q ⟨(some 31), none, .extract 1 (.t 27)⟩
 (.q ⟨(some 6), none, .mov (.t 30)⟩
 (.q ⟨(some 7), none, .mov (.t 31)⟩
 .done))))))))
 (.seq (.reg (.q ⟨(some 33), none, .load 8 true (.t 5)⟩
 (.q ⟨(some 34), none, .call 54 [(.t 33)]⟩
 (.q ⟨(some 32), none, .mov (.t 34)⟩
 (.q ⟨(some 35), none, .extract 0 (.t 32)⟩
 (.q ⟨(some 36), none, .extract 1 (.t 32)⟩
 (.q ⟨(some 8), none, .mov (.t 35)⟩
 (.q ⟨(some 9), none, .mov (.t 36)⟩
 .done))))))))
 (.seq (.reg (.q ⟨(some 38), none, .load 8 true (.t 5)⟩
 (.q ⟨(some 39), none, .mov (.t 6)⟩
 (.q ⟨(some 40), none, .call 55 [(.t 38), (.t 39)]⟩
 (.q ⟨(some 37), none, .mov (.t 40)⟩
 (.q ⟨(some 41), none, .extract 0 (.t 37)⟩
 (.q ⟨(some 42), none, .extract 1 (.t 37)⟩
 (.q ⟨(some 10), none, .mov (.t 41)⟩
 (.q ⟨(some 11), none, .mov (.t 42)⟩
 .done)))))))))
 (.seq (.reg (.q ⟨(some 43), none, .mov (.t 1)⟩
 (.q ⟨(some 44), none, .mov (.t 1)⟩
 (.q ⟨(some 45), none, .call 57 [(.t 44), (.c (.int .i64 0)), (.c (.int .i64 4))]⟩
 (.q ⟨(some 46), none, .bin .add (.c (.int .i64 1)) (.t 45)⟩
 (.q ⟨(some 47), none, .call 56 [(.t 43), (.t 46)]⟩
 (.q ⟨(some 12), none, .mov (.t 47)⟩
 .done)))))))
 (.seq (.reg (.q ⟨(some 49), none, .load 8 true (.t 5)⟩
 (.q ⟨(some 50), none, .mov (.t 12)⟩
 (.q ⟨(some 51), none, .call 55 [(.t 49), (.t 50)]⟩
 (.q ⟨(some 48), none, .mov (.t 51)⟩
 (.q ⟨(some 52), none, .extract 0 (.t 48)⟩
 (.q ⟨(some 53), none, .extract 1 (.t 48)⟩
 (.q ⟨(some 13), none, .mov (.t 52)⟩
 (.q ⟨(some 14), none, .mov (.t 53)⟩
 .done)))))))))
 (.seq (.reg (.q ⟨(some 55), none, .load 8 true (.t 5)⟩
 (.q ⟨(some 56), none, .mov (.t 12)⟩
 (.q ⟨(some 57), none, .call 58 [(.t 55), (.t 56)]⟩
 (.q ⟨(some 54), none, .mov (.t 57)⟩
 (.q ⟨(some 58), none, .extract 0 (.t 54)⟩
 (.q ⟨(some 59), none, .extract 1 (.t 54)⟩
 (.q ⟨(some 15), none, .mov (.t 58)⟩
 (.q ⟨(some 16), none, .mov (.t 59)⟩
 .done)))))))))
 (.seq (.reg (.q ⟨(some 60), none, .mov (.t 7)⟩
 (.q ⟨(some 61), none, .bin .eql (.t 60) (.c (.int .i64 0))⟩
 (.q ⟨(some 62), none, .mov (.t 61)⟩
 (.q ⟨(some 63), (some (62, true)), .mov (.t 6)⟩
 (.q ⟨(some 64), (some (62, true)), .mov (.t 8)⟩
 (.q ⟨(some 65), (some (62, true)), .call 59 [(.t 63), (.t 64)]⟩
 (.q ⟨(some 66), none, .pick (.t 62) (.t 65) (.c (.bool false))⟩
 (.q ⟨(some 67), none, .mov (.t 66)⟩
 (.q ⟨(some 68), (some (67, true)), .mov (.t 10)⟩
 (.q ⟨(some 69), (some (67, true)), .bin .eql (.t 68) (.c (.int .i64 0))⟩
 (.q ⟨(some 70), none, .pick (.t 67) (.t 69) (.c (.bool false))⟩
 (.q ⟨(some 71), none, .mov (.t 70)⟩
 (.q ⟨(some 72), (some (71, true)), .mov (.t 11)⟩
 (.q ⟨(some 73), (some (71, true)), .bin .eql (.t 72) (.c (.int .i64 0))⟩
 (.q ⟨(some 74), none, .pick (.t 71) (.t 73) (.c (.bool false))⟩
 (.q ⟨(some 75), none, .mov (.t 74)⟩
 (.q ⟨(some 76), (some (75, true)), .mov (.t 14)⟩
 (.q ⟨(some 77), (some (75, true)), .bin .eql (.t 76) (.c (.int .i64 0))⟩
 (.q ⟨(some 78), none, .pick (.t 75) (.t 77) (.c (.bool false))⟩
 (.q ⟨(some 79), none, .mov (.t 78)⟩
 (.q ⟨(some 80), (some (79, true)), .mov (.t 13)⟩
 (.q ⟨(some 81), (some (79, true)), .mov (.t 15)⟩
 (.q ⟨(some 82), (some (79, true)), .bin .eql (.t 80) (.t 81)⟩
 (.q ⟨(some 83), none, .pick (.t 79) (.t 82) (.c (.bool false))⟩
 (.q ⟨(some 84), none, .mov (.t 83)⟩
 (.q ⟨(some 85), (some (84, true)), .load 8 true (.t 5)⟩
 (.q ⟨(some 86), (some (84, true)), .call 60 [(.t 85)]⟩
 (.q ⟨(some 87), none, .pick (.t 84) (.t 86) (.c (.bool false))⟩
 (.q ⟨(some 88), none, .mov (.t 87)⟩
 (.q ⟨(some 89), (some (88, true)), .mov (.t 13)⟩
 (.q ⟨(some 90), (some (88, true)), .bin .neq (.t 89) (.c (.int .i64 0))⟩
 (.q ⟨(some 91), (some (88, true)), .mov (.t 90)⟩
 (.q ⟨(some 92), (some (91, false)), .mov (.t 12)⟩
 (.q ⟨(some 93), (some (91, false)), .len (.t 92)⟩
 (.q ⟨(some 94), (some (91, false)), .faddr 2 (.t 5)⟩
 (.q ⟨(some 95), (some (91, false)), .load 1 false (.t 94)⟩
 (.q ⟨(some 96), (some (91, false)), .bin .geq (.t 93) (.t 95)⟩
 (.q ⟨(some 97), (some (91, false)), .mov (.t 96)⟩
 (.q ⟨(some 98), (some (97, true)), .mov (.t 12)⟩
 (.q ⟨(some 99), (some (97, true)), .len (.t 98)⟩
 (.q ⟨(some 100), (some (97, true)), .faddr 3 (.t 5)⟩
 (.q ⟨(some 101), (some (97, true)), .load 1 false (.t 100)⟩
 (.q ⟨(some 102), (some (97, true)), .bin .leq (.t 99) (.t 101)⟩
 (.q ⟨(some 103), (some (91, false)), .pick (.t 97) (.t 102) (.c (.bool false))⟩
 (.q ⟨(some 104), (some (88, true)), .pick (.t 91) (.c (.bool true)) (.t 103)⟩
 (.q ⟨(some 105), none, .pick (.t 88) (.t 104) (.c (.bool false))⟩
 (.q ⟨(some 4), none, .mov (.t 105)⟩
 .done))))))))))))))))))))))))))))))))))))))))))))))))
 .ret))))))))))
theorem fc10 : fcomp Try.prog Try.f10 = some (c10.erase, [.mov (.t 4)], 106) := by kernel_rfl
def laws_FnFits (code_1 : (List Int)) (more_2 : (List Int)) : Option Bool :=
    ((if (decide ((code_1.length : Int) > 1048576)) then
    some true
    else
    some (decide ((more_2.length : Int) > 1048576)) : Option Bool)).bind fun s24_6 =>
    if s24_6 then
    some true
    else
    (spec_ColumnDrawn code_1).bind fun r_12 =>
    (impl_DefaultOf r_12).bind fun r_14 =>
    (spec_DefaultOf r_12).bind fun r_16 =>
    (impl_Fits r_12 r_14.1).bind fun r_18 =>
    (laws_at more_2 0 4).bind fun r_20 =>
    (spec_DatumDrawn more_2 (w64 (1 + r_20))).bind fun r_22 =>
    (impl_Fits r_12 r_22).bind fun r_24 =>
    (spec_Fits r_12 r_22).bind fun r_26 =>
    if (r_14.2 == 0) then
    (laws_sameDatum r_14.1 r_16.1).bind fun r_29 =>
    if r_29 then
    if (r_18.1 == 0) then
    if (r_18.2 == 0) then
    if (r_24.2 == 0) then
    if (r_24.1 == r_26.1) then
    (impl_ColumnOK r_12).bind fun r_36 =>
    if r_36 then
    if (r_24.1 != 0) then
    some true
    else
    if (decide ((r_22.length : Int) ≥ r_12.Min)) then
    some (decide ((r_22.length : Int) ≤ r_12.Max))
    else
    some false
    else
    some false
    else
    some false
    else
    some false
    else
    some false
    else
    some false
    else
    some false
    else
    some false
theorem w_laws_FnFits (code_1 : (List Int)) (more_2 : (List Int)) (r : Bool) (hf : laws_FnFits code_1 more_2 = some r) : CallOK Try.prog 10 .flat [(.lst 1 (code_1.map enc_u8)), (.lst 1 (more_2.map enc_u8))] (.bool r) := by
  refine CallOK.of_awp mixed Try.func10 fc10 nle ?_
  rw [argT_eq]
  unfold laws_FnFits at hf
  unfold c10
  refine (show awp Try.prog false 0 _ (ofL [(0, (.lst 1 (code_1.map enc_u8))), (1, (.lst 1 (more_2.map enc_u8)))]) [] _ from ?_)
  refine awp_seq ?_
  refine w_reg ?_
  refine s_do (o_mov (.bool false) rfl) ?_
  refine w_done ?_
  refine k_seq ?_
  refine awp_seq ?_
  refine awp_seq ?_
  obtain ⟨s24_6, hb1, hf⟩ := ob hf
  refine awp_cut ([(0, (.lst 1 (code_1.map enc_u8))), (1, (.lst 1 (more_2.map enc_u8))), (24, (.bool s24_6))], []) ?_ ?_
  · refine w_reg ?_
    rcases oi hb1 with ⟨c9, hb1⟩ | ⟨c9, hb1⟩
    · refine s_do (o_mov (.lst 1 (code_1.map enc_u8)) rfl) ?_
      refine s_dof (o_len (enc := enc_u8) rfl) fun hl8 => ?_
      refine s_do (o_q (.bool (decide ((code_1.length : Int) > 1048576))) rfl rfl rfl) ?_
      refine s_do (o_mov (.bool (decide ((code_1.length : Int) > 1048576))) rfl) ?_
      refine s_lit (s := 20) (b := true) rfl c9 ?_
      refine s_off rfl rfl ?_
      refine s_off rfl rfl ?_
      refine s_off rfl rfl ?_
      refine s_do (o_q (.bool true) rfl trivial rfl) ?_
      refine w_done ?_
      obtain rfl := os hb1
      exact ⟨[], [], _, _, rfl, rfl, ⟨.refl _, ⟨.refl _, ⟨.refl _, trivial⟩⟩⟩, (.refl _)⟩
    · refine s_do (o_mov (.lst 1 (code_1.map enc_u8)) rfl) ?_
      refine s_dof (o_len (enc := enc_u8) rfl) fun hl8 => ?_
      refine s_do (o_q (.bool (decide ((code_1.length : Int) > 1048576))) rfl rfl rfl) ?_
      refine s_do (o_mov (.bool (decide ((code_1.length : Int) > 1048576))) rfl) ?_
      refine s_lit (s := 20) (b := false) rfl (bf c9) ?_
      refine s_on rfl ?_
      refine s_do (o_mov (.lst 1 (more_2.map enc_u8)) rfl) ?_
      refine s_on rfl ?_
      refine s_dof (o_len (enc := enc_u8) rfl) fun hl10 => ?_
      refine s_on rfl ?_
      refine s_do (o_q (.bool (decide ((more_2.length : Int) > 1048576))) rfl rfl rfl) ?_
      refine s_do (o_q (.bool (decide ((more_2.length : Int) > 1048576))) rfl trivial rfl) ?_
      refine w_done ?_
      obtain rfl := os hb1
      exact ⟨[], [], _, _, rfl, rfl, ⟨.refl _, ⟨.refl _, ⟨.refl _, trivial⟩⟩⟩, (.refl _)⟩
  · rcases oi hf with ⟨c11, hf⟩ | ⟨c11, hf⟩
    · refine w_condt rfl c11 ?_
      refine awp_seq ?_
      refine w_reg ?_
      refine s_do (o_mov (.bool true) rfl) ?_
      refine w_done ?_
      refine k_seq ?_
      refine w_ret ?_
      obtain rfl := os hf
      exact r_flat ⟨trivial, trivial⟩ rfl (.refl _)
    · refine w_condf rfl (bf c11) ?_
      refine w_skip ?_
      refine k_seq ?_
      refine awp_seq ?_
      refine w_reg ?_
      obtain ⟨r_12, er13, hf⟩ := ob hf
      refine s_do (o_mov (.lst 1 (code_1.map enc_u8)) rfl) ?_
      refine s_do (o_call (w_spec_ColumnDrawn _ _ er13) rfl (.refl _) rfl) ?_
      refine s_do (o_box (j := 0) (c := (.agg [(.str []), (.int .i64 0), (.int .i64 0), (.int .i64 0), (.int .i64 0), (.int .i64 0), (.str []), (.bool false)])) rfl trivial rfl rfl) ?_
      refine s_do0 (o_storebox (v := (.agg [(.str r_12.Name), (.int .i64 r_12.Kind), (.int .i64 r_12.Min), (.int .i64 r_12.Max), (.int .i64 r_12.Low), (.int .i64 r_12.High), (.str r_12.Ref), (.bool r_12.Strong)])) (y' := (.agg [(.str r_12.Name), (.int .i64 r_12.Kind), (.int .i64 r_12.Min), (.int .i64 r_12.Max), (.int .i64 r_12.Low), (.int .i64 r_12.High), (.str r_12.Ref), (.bool r_12.Strong)])) rfl rfl rfl trivial ⟨rfl, nle⟩ ⟨⟨rfl, trivial⟩, ⟨⟨rfl, trivial⟩, ⟨⟨rfl, trivial⟩, ⟨⟨rfl, trivial⟩, ⟨⟨rfl, trivial⟩, ⟨⟨rfl, trivial⟩, ⟨⟨rfl, trivial⟩, ⟨⟨rfl, trivial⟩, trivial⟩⟩⟩⟩⟩⟩⟩⟩ rfl) ?_
      refine w_done ?_
      refine k_seq ?_
      refine awp_seq ?_
      refine w_reg ?_
      obtain ⟨r_14, er15, hf⟩ := ob hf
      refine s_do (o_q (.agg [(.str r_12.Name), (.int .i64 r_12.Kind), (.int .i64 r_12.Min), (.int .i64 r_12.Max), (.int .i64 r_12.Low), (.int .i64 r_12.High), (.str r_12.Ref), (.bool r_12.Strong)]) rfl nle rfl) ?_
      refine s_do (o_callc (w_impl_DefaultOf _ _ er15) rfl (.refl _) rfl) ?_
      refine s_do (o_mov (.tup [(.lst 3 (r_14.1.map encGAtom)), (.int .i64 r_14.2)]) rfl) ?_
      refine s_do (o_q (.lst 3 (r_14.1.map encGAtom)) rfl nle rfl) ?_
      refine s_do (o_q (.int .i64 r_14.2) rfl nle rfl) ?_
      refine s_do (o_mov (.lst 3 (r_14.1.map encGAtom)) rfl) ?_
      refine s_do (o_mov (.int .i64 r_14.2) rfl) ?_
      refine w_done ?_
      refine k_seq ?_
      refine awp_seq ?_
      refine w_reg ?_
      obtain ⟨r_16, er17, hf⟩ := ob hf
      refine s_do (o_q (.agg [(.str r_12.Name), (.int .i64 r_12.Kind), (.int .i64 r_12.Min), (.int .i64 r_12.Max), (.int .i64 r_12.Low), (.int .i64 r_12.High), (.str r_12.Ref), (.bool r_12.Strong)]) rfl nle rfl) ?_
      refine s_do (o_callc (w_spec_DefaultOf _ _ er17) rfl (.refl _) rfl) ?_
      refine s_do (o_mov (.tup [(.lst 3 (r_16.1.map encGAtom)), (.int .i64 r_16.2)]) rfl) ?_
      refine s_do (o_q (.lst 3 (r_16.1.map encGAtom)) rfl nle rfl) ?_
      refine s_do (o_q (.int .i64 r_16.2) rfl nle rfl) ?_
      refine s_do (o_mov (.lst 3 (r_16.1.map encGAtom)) rfl) ?_
      refine s_do (o_mov (.int .i64 r_16.2) rfl) ?_
      refine w_done ?_
      refine k_seq ?_
      refine awp_seq ?_
      refine w_reg ?_
      obtain ⟨r_18, er19, hf⟩ := ob hf
      refine s_do (o_q (.agg [(.str r_12.Name), (.int .i64 r_12.Kind), (.int .i64 r_12.Min), (.int .i64 r_12.Max), (.int .i64 r_12.Low), (.int .i64 r_12.High), (.str r_12.Ref), (.bool r_12.Strong)]) rfl nle rfl) ?_
      refine s_do (o_mov (.lst 3 (r_14.1.map encGAtom)) rfl) ?_
      refine s_do (o_call (w_impl_Fits _ _ _ er19) rfl (.refl _) rfl) ?_
      refine s_do (o_mov (.tup [(.int .i64 r_18.1), (.int .i64 r_18.2)]) rfl) ?_
      refine s_do (o_q (.int .i64 r_18.1) rfl nle rfl) ?_
      refine s_do (o_q (.int .i64 r_18.2) rfl nle rfl) ?_
      refine s_do (o_mov (.int .i64 r_18.1) rfl) ?_
      refine s_do (o_mov (.int .i64 r_18.2) rfl) ?_
      refine w_done ?_
      refine k_seq ?_
      refine awp_seq ?_
      refine w_reg ?_
      obtain ⟨r_20, er21, hf⟩ := ob hf
      obtain ⟨r_22, er23, hf⟩ := ob hf
      refine s_do (o_mov (.lst 1 (more_2.map enc_u8)) rfl) ?_
      refine s_do (o_mov (.lst 1 (more_2.map enc_u8)) rfl) ?_
      refine s_do (o_call (w_laws_at _ _ _ _ er21) rfl (.refl _) rfl) ?_
      refine s_do (o_q (.int .i64 (w64 (1 + r_20))) rfl rfl rfl) ?_
      refine s_do (o_callw (w_spec_DatumDrawn _ _ _ er23) rfl (.refl _) rfl rfl) ?_
      refine s_do (o_mov (.lst 3 (r_22.map encGAtom)) rfl) ?_
      refine w_done ?_
      refine k_seq ?_
      refine awp_seq ?_
      refine w_reg ?_
      obtain ⟨r_24, er25, hf⟩ := ob hf
      refine s_do (o_q (.agg [(.str r_12.Name), (.int .i64 r_12.Kind), (.int .i64 r_12.Min), (.int .i64 r_12.Max), (.int .i64 r_12.Low), (.int .i64 r_12.High), (.str r_12.Ref), (.bool r_12.Strong)]) rfl nle rfl) ?_
      refine s_do (o_mov (.lst 3 (r_22.map encGAtom)) rfl) ?_
      refine s_do (o_call (w_impl_Fits _ _ _ er25) rfl (.refl _) rfl) ?_
      refine s_do (o_mov (.tup [(.int .i64 r_24.1), (.int .i64 r_24.2)]) rfl) ?_
      refine s_do (o_q (.int .i64 r_24.1) rfl nle rfl) ?_
      refine s_do (o_q (.int .i64 r_24.2) rfl nle rfl) ?_
      refine s_do (o_mov (.int .i64 r_24.1) rfl) ?_
      refine s_do (o_mov (.int .i64 r_24.2) rfl) ?_
      refine w_done ?_
      refine k_seq ?_
      refine awp_seq ?_
      refine w_reg ?_
      obtain ⟨r_26, er27, hf⟩ := ob hf
      refine s_do (o_q (.agg [(.str r_12.Name), (.int .i64 r_12.Kind), (.int .i64 r_12.Min), (.int .i64 r_12.Max), (.int .i64 r_12.Low), (.int .i64 r_12.High), (.str r_12.Ref), (.bool r_12.Strong)]) rfl nle rfl) ?_
      refine s_do (o_mov (.lst 3 (r_22.map encGAtom)) rfl) ?_
      refine s_do (o_call (w_spec_Fits _ _ _ er27) rfl (.refl _) rfl) ?_
      refine s_do (o_mov (.tup [(.int .i64 r_26.1), (.int .i64 r_26.2)]) rfl) ?_
      refine s_do (o_q (.int .i64 r_26.1) rfl nle rfl) ?_
      refine s_do (o_q (.int .i64 r_26.2) rfl nle rfl) ?_
      refine s_do (o_mov (.int .i64 r_26.1) rfl) ?_
      refine s_do (o_mov (.int .i64 r_26.2) rfl) ?_
      refine w_done ?_
      refine k_seq ?_
      refine awp_seq ?_
      refine w_reg ?_
      refine s_do (o_mov (.int .i64 r_14.2) rfl) ?_
      refine s_do (o_q (.bool (r_14.2 == 0)) rfl rfl rfl) ?_
      refine s_do (o_mov (.bool (r_14.2 == 0)) rfl) ?_
      rcases oi hf with ⟨c28, hf⟩ | ⟨c28, hf⟩
      · refine s_lit (s := 62) (b := true) rfl c28 ?_
        refine s_on rfl ?_
        refine s_do (o_mov (.lst 3 (r_14.1.map encGAtom)) rfl) ?_
        refine s_on rfl ?_
        refine s_do (o_mov (.lst 3 (r_16.1.map encGAtom)) rfl) ?_
        refine s_on rfl ?_
        obtain ⟨r_29, er30, hf⟩ := ob hf
        refine s_do (o_call (w_laws_sameDatum _ _ _ er30) rfl (.refl _) rfl) ?_
        refine s_do (o_q (.bool r_29) rfl trivial rfl) ?_
        refine s_do (o_mov (.bool r_29) rfl) ?_
        rcases oi hf with ⟨c31, hf⟩ | ⟨c31, hf⟩
        · refine s_lit (s := 67) (b := true) rfl c31 ?_
          refine s_on rfl ?_
          refine s_do (o_mov (.int .i64 r_18.1) rfl) ?_
          refine s_on rfl ?_
          refine s_do (o_q (.bool (r_18.1 == 0)) rfl rfl rfl) ?_
          refine s_do (o_q (.bool (r_18.1 == 0)) rfl trivial rfl) ?_
          refine s_do (o_mov (.bool (r_18.1 == 0)) rfl) ?_
          rcases oi hf with ⟨c32, hf⟩ | ⟨c32, hf⟩
          · refine s_lit (s := 71) (b := true) rfl c32 ?_
            refine s_on rfl ?_
            refine s_do (o_mov (.int .i64 r_18.2) rfl) ?_
            refine s_on rfl ?_
            refine s_do (o_q (.bool (r_18.2 == 0)) rfl rfl rfl) ?_
            refine s_do (o_q (.bool (r_18.2 == 0)) rfl trivial rfl) ?_
            refine s_do (o_mov (.bool (r_18.2 == 0)) rfl) ?_
            rcases oi hf with ⟨c33, hf⟩ | ⟨c33, hf⟩
            · refine s_lit (s := 75) (b := true) rfl c33 ?_
              refine s_on rfl ?_
              refine s_do (o_mov (.int .i64 r_24.2) rfl) ?_
              refine s_on rfl ?_
              refine s_do (o_q (.bool (r_24.2 == 0)) rfl rfl rfl) ?_
              refine s_do (o_q (.bool (r_24.2 == 0)) rfl trivial rfl) ?_
              refine s_do (o_mov (.bool (r_24.2 == 0)) rfl) ?_
              rcases oi hf with ⟨c34, hf⟩ | ⟨c34, hf⟩
              · refine s_lit (s := 79) (b := true) rfl c34 ?_
                refine s_on rfl ?_
                refine s_do (o_mov (.int .i64 r_24.1) rfl) ?_
                refine s_on rfl ?_
                refine s_do (o_mov (.int .i64 r_26.1) rfl) ?_
                refine s_on rfl ?_
                refine s_do (o_q (.bool (r_24.1 == r_26.1)) rfl rfl rfl) ?_
                refine s_do (o_q (.bool (r_24.1 == r_26.1)) rfl trivial rfl) ?_
                refine s_do (o_mov (.bool (r_24.1 == r_26.1)) rfl) ?_
                rcases oi hf with ⟨c35, hf⟩ | ⟨c35, hf⟩
                · refine s_lit (s := 84) (b := true) rfl c35 ?_
                  refine s_on rfl ?_
                  refine s_do (o_q (.agg [(.str r_12.Name), (.int .i64 r_12.Kind), (.int .i64 r_12.Min), (.int .i64 r_12.Max), (.int .i64 r_12.Low), (.int .i64 r_12.High), (.str r_12.Ref), (.bool r_12.Strong)]) rfl nle rfl) ?_
                  refine s_on rfl ?_
                  obtain ⟨r_36, er37, hf⟩ := ob hf
                  refine s_do (o_call (w_impl_ColumnOK _ _ er37) rfl (.refl _) rfl) ?_
                  refine s_do (o_q (.bool r_36) rfl trivial rfl) ?_
                  refine s_do (o_mov (.bool r_36) rfl) ?_
                  rcases oi hf with ⟨c38, hf⟩ | ⟨c38, hf⟩
                  · refine s_lit (s := 88) (b := true) rfl c38 ?_
                    refine s_on rfl ?_
                    refine s_do (o_mov (.int .i64 r_24.1) rfl) ?_
                    refine s_on rfl ?_
                    refine s_do (o_q (.bool (r_24.1 != 0)) rfl rfl rfl) ?_
                    refine s_on rfl ?_
                    refine s_do (o_mov (.bool (r_24.1 != 0)) rfl) ?_
                    rcases oi hf with ⟨c39, hf⟩ | ⟨c39, hf⟩
                    · refine s_lit (s := 91) (b := true) rfl c39 ?_
                      refine s_off rfl rfl ?_
                      refine s_off rfl rfl ?_
                      refine s_off rfl rfl ?_
                      refine s_off rfl rfl ?_
                      refine s_off rfl rfl ?_
                      refine s_off rfl rfl ?_
                      refine s_offs rfl ?_
                      refine s_offs rfl ?_
                      refine s_offs rfl ?_
                      refine s_offs rfl ?_
                      refine s_offs rfl ?_
                      refine s_off rfl rfl ?_
                      refine s_on rfl ?_
                      refine s_do (o_q (.bool true) rfl trivial rfl) ?_
                      refine s_do (o_q (.bool true) rfl trivial rfl) ?_
                      refine s_do (o_mov (.bool true) rfl) ?_
                      refine w_done ?_
                      refine k_seq ?_
                      refine w_ret ?_
                      obtain rfl := os hf
                      exact r_flat ⟨trivial, trivial⟩ rfl (.refl _)
                    · refine s_lit (s := 91) (b := false) rfl (bf c39) ?_
                      refine s_on rfl ?_
                      refine s_do (o_mov (.lst 3 (r_22.map encGAtom)) rfl) ?_
                      refine s_on rfl ?_
                      refine s_dof (o_len (enc := encGAtom) rfl) fun hl40 => ?_
                      refine s_on rfl ?_
                      refine s_do (o_q (.ptr 0 0 2) rfl trivial rfl) ?_
                      refine s_on rfl ?_
                      refine s_do (o_q (.int .i64 r_12.Min) rfl nle rfl) ?_
                      refine s_on rfl ?_
                      refine s_do (o_q (.bool (decide ((r_22.length : Int) ≥ r_12.Min))) rfl rfl rfl) ?_
                      refine s_on rfl ?_
                      refine s_do (o_mov (.bool (decide ((r_22.length : Int) ≥ r_12.Min))) rfl) ?_
                      rcases oi hf with ⟨c41, hf⟩ | ⟨c41, hf⟩
                      · refine s_lit (s := 97) (b := true) rfl c41 ?_
                        refine s_on rfl ?_
                        refine s_do (o_mov (.lst 3 (r_22.map encGAtom)) rfl) ?_
                        refine s_on rfl ?_
                        refine s_dof (o_len (enc := encGAtom) rfl) fun hl42 => ?_
                        refine s_on rfl ?_
                        refine s_do (o_q (.ptr 0 0 3) rfl trivial rfl) ?_
                        refine s_on rfl ?_
                        refine s_do (o_q (.int .i64 r_12.Max) rfl nle rfl) ?_
                        refine s_on rfl ?_
                        refine s_do (o_q (.bool (decide ((r_22.length : Int) ≤ r_12.Max))) rfl rfl rfl) ?_
                        refine s_on rfl ?_
                        refine s_do (o_q (.bool (decide ((r_22.length : Int) ≤ r_12.Max))) rfl trivial rfl) ?_
                        refine s_on rfl ?_
                        refine s_do (o_q (.bool (decide ((r_22.length : Int) ≤ r_12.Max))) rfl trivial rfl) ?_
                        refine s_do (o_q (.bool (decide ((r_22.length : Int) ≤ r_12.Max))) rfl trivial rfl) ?_
                        refine s_do (o_mov (.bool (decide ((r_22.length : Int) ≤ r_12.Max))) rfl) ?_
                        refine w_done ?_
                        refine k_seq ?_
                        refine w_ret ?_
                        obtain rfl := os hf
                        exact r_flat ⟨trivial, trivial⟩ rfl (.refl _)
                      · refine s_lit (s := 97) (b := false) rfl (bf c41) ?_
                        refine s_off rfl rfl ?_
                        refine s_off rfl rfl ?_
                        refine s_off rfl rfl ?_
                        refine s_off rfl rfl ?_
                        refine s_off rfl rfl ?_
                        refine s_on rfl ?_
                        refine s_do (o_q (.bool false) rfl trivial rfl) ?_
                        refine s_on rfl ?_
                        refine s_do (o_q (.bool false) rfl trivial rfl) ?_
                        refine s_do (o_q (.bool false) rfl trivial rfl) ?_
                        refine s_do (o_mov (.bool false) rfl) ?_
                        refine w_done ?_
                        refine k_seq ?_
                        refine w_ret ?_
                        obtain rfl := os hf
                        exact r_flat ⟨trivial, trivial⟩ rfl (.refl _)
                  · refine s_lit (s := 88) (b := false) rfl (bf c38) ?_
                    refine s_off rfl rfl ?_
                    refine s_off rfl rfl ?_
                    refine s_off rfl rfl ?_
                    refine s_offs rfl ?_
                    refine s_offs rfl ?_
                    refine s_offs rfl ?_
                    refine s_offs rfl ?_
                    refine s_offs rfl ?_
                    refine s_offs rfl ?_
                    refine s_offs rfl ?_
                    refine s_offs rfl ?_
                    refine s_offs rfl ?_
                    refine s_offs rfl ?_
                    refine s_offs rfl ?_
                    refine s_offs rfl ?_
                    refine s_off rfl rfl ?_
                    refine s_do (o_q (.bool false) rfl trivial rfl) ?_
                    refine s_do (o_mov (.bool false) rfl) ?_
                    refine w_done ?_
                    refine k_seq ?_
                    refine w_ret ?_
                    obtain rfl := os hf
                    exact r_flat ⟨trivial, trivial⟩ rfl (.refl _)
                · refine s_lit (s := 84) (b := false) rfl (bf c35) ?_
                  refine s_off rfl rfl ?_
                  refine s_off rfl rfl ?_
                  refine s_do (o_q (.bool false) rfl trivial rfl) ?_
                  refine s_do (o_mov (.bool false) rfl) ?_
                  refine s_off rfl rfl ?_
                  refine s_off rfl rfl ?_
                  refine s_off rfl rfl ?_
                  refine s_offs rfl ?_
                  refine s_offs rfl ?_
                  refine s_offs rfl ?_
                  refine s_offs rfl ?_
                  refine s_offs rfl ?_
                  refine s_offs rfl ?_
                  refine s_offs rfl ?_
                  refine s_offs rfl ?_
                  refine s_offs rfl ?_
                  refine s_offs rfl ?_
                  refine s_offs rfl ?_
                  refine s_offs rfl ?_
                  refine s_off rfl rfl ?_
                  refine s_do (o_q (.bool false) rfl trivial rfl) ?_
                  refine s_do (o_mov (.bool false) rfl) ?_
                  refine w_done ?_
                  refine k_seq ?_
                  refine w_ret ?_
                  obtain rfl := os hf
                  exact r_flat ⟨trivial, trivial⟩ rfl (.refl _)
              · refine s_lit (s := 79) (b := false) rfl (bf c34) ?_
                refine s_off rfl rfl ?_
                refine s_off rfl rfl ?_
                refine s_off rfl rfl ?_
                refine s_do (o_q (.bool false) rfl trivial rfl) ?_
                refine s_do (o_mov (.bool false) rfl) ?_
                refine s_off rfl rfl ?_
                refine s_off rfl rfl ?_
                refine s_do (o_q (.bool false) rfl trivial rfl) ?_
                refine s_do (o_mov (.bool false) rfl) ?_
                refine s_off rfl rfl ?_
                refine s_off rfl rfl ?_
                refine s_off rfl rfl ?_
                refine s_offs rfl ?_
                refine s_offs rfl ?_
                refine s_offs rfl ?_
                refine s_offs rfl ?_
                refine s_offs rfl ?_
                refine s_offs rfl ?_
                refine s_offs rfl ?_
                refine s_offs rfl ?_
                refine s_offs rfl ?_
                refine s_offs rfl ?_
                refine s_offs rfl ?_
                refine s_offs rfl ?_
                refine s_off rfl rfl ?_
                refine s_do (o_q (.bool false) rfl trivial rfl) ?_
                refine s_do (o_mov (.bool false) rfl) ?_
                refine w_done ?_
                refine k_seq ?_
                refine w_ret ?_
                obtain rfl := os hf
                exact r_flat ⟨trivial, trivial⟩ rfl (.refl _)
            · refine s_lit (s := 75) (b := false) rfl (bf c33) ?_
              refine s_off rfl rfl ?_
              refine s_off rfl rfl ?_
              refine s_do (o_q (.bool false) rfl trivial rfl) ?_
              refine s_do (o_mov (.bool false) rfl) ?_
              refine s_off rfl rfl ?_
              refine s_off rfl rfl ?_
              refine s_off rfl rfl ?_
              refine s_do (o_q (.bool false) rfl trivial rfl) ?_
              refine s_do (o_mov (.bool false) rfl) ?_
              refine s_off rfl rfl ?_
              refine s_off rfl rfl ?_
              refine s_do (o_q (.bool false) rfl trivial rfl) ?_
              refine s_do (o_mov (.bool false) rfl) ?_
              refine s_off rfl rfl ?_
              refine s_off rfl rfl ?_
              refine s_off rfl rfl ?_
              refine s_offs rfl ?_
              refine s_offs rfl ?_
              refine s_offs rfl ?_
              refine s_offs rfl ?_
              refine s_offs rfl ?_
              refine s_offs rfl ?_
              refine s_offs rfl ?_
              refine s_offs rfl ?_
              refine s_offs rfl ?_
              refine s_offs rfl ?_
              refine s_offs rfl ?_
              refine s_offs rfl ?_
              refine s_off rfl rfl ?_
              refine s_do (o_q (.bool false) rfl trivial rfl) ?_
              refine s_do (o_mov (.bool false) rfl) ?_
              refine w_done ?_
              refine k_seq ?_
              refine w_ret ?_
              obtain rfl := os hf
              exact r_flat ⟨trivial, trivial⟩ rfl (.refl _)
          · refine s_lit (s := 71) (b := false) rfl (bf c32) ?_
            refine s_off rfl rfl ?_
            refine s_off rfl rfl ?_
            refine s_do (o_q (.bool false) rfl trivial rfl) ?_
            refine s_do (o_mov (.bool false) rfl) ?_
            refine s_off rfl rfl ?_
            refine s_off rfl rfl ?_
            refine s_do (o_q (.bool false) rfl trivial rfl) ?_
            refine s_do (o_mov (.bool false) rfl) ?_
            refine s_off rfl rfl ?_
            refine s_off rfl rfl ?_
            refine s_off rfl rfl ?_
            refine s_do (o_q (.bool false) rfl trivial rfl) ?_
            refine s_do (o_mov (.bool false) rfl) ?_
            refine s_off rfl rfl ?_
            refine s_off rfl rfl ?_
            refine s_do (o_q (.bool false) rfl trivial rfl) ?_
            refine s_do (o_mov (.bool false) rfl) ?_
            refine s_off rfl rfl ?_
            refine s_off rfl rfl ?_
            refine s_off rfl rfl ?_
            refine s_offs rfl ?_
            refine s_offs rfl ?_
            refine s_offs rfl ?_
            refine s_offs rfl ?_
            refine s_offs rfl ?_
            refine s_offs rfl ?_
            refine s_offs rfl ?_
            refine s_offs rfl ?_
            refine s_offs rfl ?_
            refine s_offs rfl ?_
            refine s_offs rfl ?_
            refine s_offs rfl ?_
            refine s_off rfl rfl ?_
            refine s_do (o_q (.bool false) rfl trivial rfl) ?_
            refine s_do (o_mov (.bool false) rfl) ?_
            refine w_done ?_
            refine k_seq ?_
            refine w_ret ?_
            obtain rfl := os hf
            exact r_flat ⟨trivial, trivial⟩ rfl (.refl _)
        · refine s_lit (s := 67) (b := false) rfl (bf c31) ?_
          refine s_off rfl rfl ?_
          refine s_off rfl rfl ?_
          refine s_do (o_q (.bool false) rfl trivial rfl) ?_
          refine s_do (o_mov (.bool false) rfl) ?_
          refine s_off rfl rfl ?_
          refine s_off rfl rfl ?_
          refine s_do (o_q (.bool false) rfl trivial rfl) ?_
          refine s_do (o_mov (.bool false) rfl) ?_
          refine s_off rfl rfl ?_
          refine s_off rfl rfl ?_
          refine s_do (o_q (.bool false) rfl trivial rfl) ?_
          refine s_do (o_mov (.bool false) rfl) ?_
          refine s_off rfl rfl ?_
          refine s_off rfl rfl ?_
          refine s_off rfl rfl ?_
          refine s_do (o_q (.bool false) rfl trivial rfl) ?_
          refine s_do (o_mov (.bool false) rfl) ?_
          refine s_off rfl rfl ?_
          refine s_off rfl rfl ?_
          refine s_do (o_q (.bool false) rfl trivial rfl) ?_
          refine s_do (o_mov (.bool false) rfl) ?_
          refine s_off rfl rfl ?_
          refine s_off rfl rfl ?_
          refine s_off rfl rfl ?_
          refine s_offs rfl ?_
          refine s_offs rfl ?_
          refine s_offs rfl ?_
          refine s_offs rfl ?_
          refine s_offs rfl ?_
          refine s_offs rfl ?_
          refine s_offs rfl ?_
          refine s_offs rfl ?_
          refine s_offs rfl ?_
          refine s_offs rfl ?_
          refine s_offs rfl ?_
          refine s_offs rfl ?_
          refine s_off rfl rfl ?_
          refine s_do (o_q (.bool false) rfl trivial rfl) ?_
          refine s_do (o_mov (.bool false) rfl) ?_
          refine w_done ?_
          refine k_seq ?_
          refine w_ret ?_
          obtain rfl := os hf
          exact r_flat ⟨trivial, trivial⟩ rfl (.refl _)
      · refine s_lit (s := 62) (b := false) rfl (bf c28) ?_
        refine s_off rfl rfl ?_
        refine s_off rfl rfl ?_
        refine s_off rfl rfl ?_
        refine s_do (o_q (.bool false) rfl trivial rfl) ?_
        refine s_do (o_mov (.bool false) rfl) ?_
        refine s_off rfl rfl ?_
        refine s_off rfl rfl ?_
        refine s_do (o_q (.bool false) rfl trivial rfl) ?_
        refine s_do (o_mov (.bool false) rfl) ?_
        refine s_off rfl rfl ?_
        refine s_off rfl rfl ?_
        refine s_do (o_q (.bool false) rfl trivial rfl) ?_
        refine s_do (o_mov (.bool false) rfl) ?_
        refine s_off rfl rfl ?_
        refine s_off rfl rfl ?_
        refine s_do (o_q (.bool false) rfl trivial rfl) ?_
        refine s_do (o_mov (.bool false) rfl) ?_
        refine s_off rfl rfl ?_
        refine s_off rfl rfl ?_
        refine s_off rfl rfl ?_
        refine s_do (o_q (.bool false) rfl trivial rfl) ?_
        refine s_do (o_mov (.bool false) rfl) ?_
        refine s_off rfl rfl ?_
        refine s_off rfl rfl ?_
        refine s_do (o_q (.bool false) rfl trivial rfl) ?_
        refine s_do (o_mov (.bool false) rfl) ?_
        refine s_off rfl rfl ?_
        refine s_off rfl rfl ?_
        refine s_off rfl rfl ?_
        refine s_offs rfl ?_
        refine s_offs rfl ?_
        refine s_offs rfl ?_
        refine s_offs rfl ?_
        refine s_offs rfl ?_
        refine s_offs rfl ?_
        refine s_offs rfl ?_
        refine s_offs rfl ?_
        refine s_offs rfl ?_
        refine s_offs rfl ?_
        refine s_offs rfl ?_
        refine s_offs rfl ?_
        refine s_off rfl rfl ?_
        refine s_do (o_q (.bool false) rfl trivial rfl) ?_
        refine s_do (o_mov (.bool false) rfl) ?_
        refine w_done ?_
        refine k_seq ?_
        refine w_ret ?_
        obtain rfl := os hf
        exact r_flat ⟨trivial, trivial⟩ rfl (.refl _)

end Go.R
