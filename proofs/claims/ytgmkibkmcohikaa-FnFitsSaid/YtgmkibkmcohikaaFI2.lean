/- Walks. -/
import Derived.Test.YtgmkibkmcohikaaFI1
set_option linter.all false
namespace Go.R
open Go Go.Proofs
set_option linter.unusedVariables false
set_option linter.unusedSimpArgs false
set_option maxHeartbeats 8000000
/- impl.AtomOK -/
def c109 : ACode :=
 (.seq (.reg (.q ⟨(some 1), none, .box 3 (.t 0)⟩
 (.q ⟨(some 2), none, .mov (.c (.bool false))⟩
 .done)))
 (.seq (.seq (.reg (.q ⟨(some 3), none, .faddr 0 (.t 1)⟩
 (.q ⟨(some 4), none, .load 1 false (.t 3)⟩
 .done)))
 (.block 0 (.seq (.reg (.q ⟨(some 6), none, .bin .eql (.t 4) (.c (.int .i64 1))⟩
 (.q ⟨(some 5), none, .mov (.t 6)⟩
 .done)))
 (.cond (.t 5) (.seq (.reg (.q ⟨(some 7), none, .faddr 1 (.t 1)⟩
 (.q ⟨(some 8), none, .load 1 false (.t 7)⟩
 (.q ⟨(some 9), none, .call 136 [(.t 8)]⟩
 (.q ⟨(some 10), none, .mov (.t 9)⟩
 (.q ⟨(some 11), (some (10, true)), .faddr 2 (.t 1)⟩
 (.q ⟨(some 12), (some (10, true)), .load 1 false (.t 11)⟩
 (.q ⟨(some 13), (some (10, true)), .bin .eql (.t 12) (.c (.str []))⟩
 (.q ⟨(some 14), none, .pick (.t 10) (.t 13) (.c (.bool false))⟩
 (.q ⟨(some 2), none, .mov (.t 14)⟩
 .done))))))))))
 .ret)
 (.seq (.reg (.q ⟨(some 16), none, .bin .eql (.t 4) (.c (.int .i64 2))⟩
 (.q ⟨(some 15), none, .mov (.t 16)⟩
 .done)))
 (.cond (.t 15) (.seq (.reg (.q ⟨(some 17), none, .faddr 1 (.t 1)⟩
 (.q ⟨(some 18), none, .load 1 false (.t 17)⟩
 (.q ⟨(some 19), none, .bin .eql (.t 18) (.c (.int .i64 0))⟩
 (.q ⟨(some 20), none, .mov (.t 19)⟩
 (.q ⟨(some 21), (some (20, true)), .faddr 2 (.t 1)⟩
 (.q ⟨(some 22), (some (20, true)), .load 1 false (.t 21)⟩
 (.q ⟨(some 23), (some (20, true)), .call 174 [(.t 22)]⟩
 (.q ⟨(some 24), none, .pick (.t 20) (.t 23) (.c (.bool false))⟩
 (.q ⟨(some 2), none, .mov (.t 24)⟩
 .done))))))))))
 .ret)
 (.seq (.reg (.q ⟨(some 26), none, .bin .eql (.t 4) (.c (.int .i64 3))⟩
 (.q ⟨(some 25), none, .mov (.t 26)⟩
 .done)))
 (.cond (.t 25) (.seq (.reg (.q ⟨(some 27), none, .faddr 1 (.t 1)⟩
 (.q ⟨(some 28), none, .load 1 false (.t 27)⟩
 (.q ⟨(some 29), none, .call 86 [(.t 28), (.c (.int .i64 0)), (.c (.int .i64 1))]⟩
 (.q ⟨(some 30), none, .mov (.t 29)⟩
 (.q ⟨(some 31), (some (30, true)), .faddr 2 (.t 1)⟩
 (.q ⟨(some 32), (some (30, true)), .load 1 false (.t 31)⟩
 (.q ⟨(some 33), (some (30, true)), .bin .eql (.t 32) (.c (.str []))⟩
 (.q ⟨(some 34), none, .pick (.t 30) (.t 33) (.c (.bool false))⟩
 (.q ⟨(some 2), none, .mov (.t 34)⟩
 .done))))))))))
 .ret)
 (.seq (.reg (.q ⟨(some 36), none, .bin .eql (.t 4) (.c (.int .i64 4))⟩
 (.q ⟨(some 35), none, .mov (.t 36)⟩
 .done)))
 (.cond (.t 35) (.seq (.reg (.q ⟨(some 37), none, .faddr 1 (.t 1)⟩
 (.q ⟨(some 38), none, .load 1 false (.t 37)⟩
 (.q ⟨(some 39), none, .call 175 [(.t 38)]⟩
 (.q ⟨(some 40), none, .mov (.t 39)⟩
 (.q ⟨(some 41), (some (40, true)), .faddr 2 (.t 1)⟩
 (.q ⟨(some 42), (some (40, true)), .load 1 false (.t 41)⟩
 (.q ⟨(some 43), (some (40, true)), .bin .eql (.t 42) (.c (.str []))⟩
 (.q ⟨(some 44), none, .pick (.t 40) (.t 43) (.c (.bool false))⟩
 (.q ⟨(some 2), none, .mov (.t 44)⟩
 .done))))))))))
 .ret)
 .skip))))))))))
 (.seq (.reg (.q ⟨(some 2), none, .mov (.c (.bool false))⟩
 .done))
 .ret)))
theorem fc109 : fcomp Try.prog Try.f109 = some (c109.erase, [.mov (.t 2)], 45) := by kernel_rfl
def impl_AtomOK (a_1 : GAtom) : Option Bool :=
    if (a_1.Kind == 1) then
    (impl_isNumber a_1.N).bind fun r_3 =>
    if r_3 then
    some (a_1.T == [])
    else
    some false
    else
    if (a_1.Kind == 2) then
    if (a_1.N == 0) then
    (impl_isPlain a_1.T).bind fun r_8 =>
    some r_8
    else
    some false
    else
    if (a_1.Kind == 3) then
    (impl_within a_1.N 0 1).bind fun r_11 =>
    if r_11 then
    some (a_1.T == [])
    else
    some false
    else
    if (a_1.Kind == 4) then
    (impl_isId a_1.N).bind fun r_15 =>
    if r_15 then
    some (a_1.T == [])
    else
    some false
    else
    some false
theorem w_impl_AtomOK (a_1 : GAtom) (r : Bool) (hf : impl_AtomOK a_1 = some r) : CallOK Try.prog 109 .flat [(encGAtom a_1)] (.bool r) := by
  refine CallOK.of_awp mixed Try.func109 fc109 nle ?_
  rw [argT_eq]
  unfold impl_AtomOK at hf
  unfold c109
  refine (show awp Try.prog false 0 _ (ofL [(0, (encGAtom a_1))]) [] _ from ?_)
  refine awp_seq ?_
  refine w_reg ?_
  refine s_do (o_box (j := 0) (c := (.agg [(.int .i64 a_1.Kind), (.int .i64 a_1.N), (.str a_1.T)])) rfl trivial rfl rfl) ?_
  refine s_do (o_mov (.bool false) rfl) ?_
  refine w_done ?_
  refine k_seq ?_
  refine awp_seq ?_
  refine awp_seq ?_
  refine w_reg ?_
  refine s_do (o_q (.ptr 0 0 0) rfl trivial rfl) ?_
  refine s_do (o_q (.int .i64 a_1.Kind) rfl nle rfl) ?_
  refine w_done ?_
  refine k_seq ?_
  refine w_blk ?_
  refine awp_seq ?_
  refine w_reg ?_
  refine s_do (o_q (.bool (a_1.Kind == 1)) rfl rfl rfl) ?_
  refine s_do (o_mov (.bool (a_1.Kind == 1)) rfl) ?_
  refine w_done ?_
  refine k_seq ?_
  rcases oi hf with ⟨c2, hf⟩ | ⟨c2, hf⟩
  · refine w_condt rfl c2 ?_
    refine awp_seq ?_
    refine w_reg ?_
    obtain ⟨r_3, er4, hf⟩ := ob hf
    rcases oi hf with ⟨c5, hf⟩ | ⟨c5, hf⟩
    · refine s_do (o_q (.ptr 0 0 1) rfl trivial rfl) ?_
      refine s_do (o_q (.int .i64 a_1.N) rfl nle rfl) ?_
      refine s_do (o_call (w_impl_isNumber _ _ er4) rfl (.refl _) rfl) ?_
      refine s_do (o_mov (.bool r_3) rfl) ?_
      refine s_lit (s := 10) (b := true) rfl c5 ?_
      refine s_on rfl ?_
      refine s_do (o_q (.ptr 0 0 2) rfl trivial rfl) ?_
      refine s_on rfl ?_
      refine s_do (o_q (.str a_1.T) rfl nle rfl) ?_
      refine s_on rfl ?_
      refine s_do (o_q (.bool (a_1.T == [])) rfl trivial rfl) ?_
      refine s_do (o_q (.bool (a_1.T == [])) rfl trivial rfl) ?_
      refine s_do (o_mov (.bool (a_1.T == [])) rfl) ?_
      refine w_done ?_
      refine k_seq ?_
      refine w_ret ?_
      obtain rfl := os hf
      exact r_flat ⟨trivial, trivial⟩ rfl (.refl _)
    · refine s_do (o_q (.ptr 0 0 1) rfl trivial rfl) ?_
      refine s_do (o_q (.int .i64 a_1.N) rfl nle rfl) ?_
      refine s_do (o_call (w_impl_isNumber _ _ er4) rfl (.refl _) rfl) ?_
      refine s_do (o_mov (.bool r_3) rfl) ?_
      refine s_lit (s := 10) (b := false) rfl (bf c5) ?_
      refine s_off rfl rfl ?_
      refine s_off rfl rfl ?_
      refine s_off rfl rfl ?_
      refine s_do (o_q (.bool false) rfl trivial rfl) ?_
      refine s_do (o_mov (.bool false) rfl) ?_
      refine w_done ?_
      refine k_seq ?_
      refine w_ret ?_
      obtain rfl := os hf
      exact r_flat ⟨trivial, trivial⟩ rfl (.refl _)
  · refine w_condf rfl (bf c2) ?_
    refine awp_seq ?_
    refine w_reg ?_
    refine s_do (o_q (.bool (a_1.Kind == 2)) rfl rfl rfl) ?_
    refine s_do (o_mov (.bool (a_1.Kind == 2)) rfl) ?_
    refine w_done ?_
    refine k_seq ?_
    rcases oi hf with ⟨c6, hf⟩ | ⟨c6, hf⟩
    · refine w_condt rfl c6 ?_
      refine awp_seq ?_
      refine w_reg ?_
      rcases oi hf with ⟨c7, hf⟩ | ⟨c7, hf⟩
      · obtain ⟨r_8, er9, hf⟩ := ob hf
        refine s_do (o_q (.ptr 0 0 1) rfl trivial rfl) ?_
        refine s_do (o_q (.int .i64 a_1.N) rfl nle rfl) ?_
        refine s_do (o_q (.bool (a_1.N == 0)) rfl rfl rfl) ?_
        refine s_do (o_mov (.bool (a_1.N == 0)) rfl) ?_
        refine s_lit (s := 20) (b := true) rfl c7 ?_
        refine s_on rfl ?_
        refine s_do (o_q (.ptr 0 0 2) rfl trivial rfl) ?_
        refine s_on rfl ?_
        refine s_do (o_q (.str a_1.T) rfl nle rfl) ?_
        refine s_on rfl ?_
        refine s_do (o_call (w_impl_isPlain _ _ er9) rfl (.refl _) rfl) ?_
        refine s_do (o_q (.bool r_8) rfl trivial rfl) ?_
        refine s_do (o_mov (.bool r_8) rfl) ?_
        refine w_done ?_
        refine k_seq ?_
        refine w_ret ?_
        obtain rfl := os hf
        exact r_flat ⟨trivial, trivial⟩ rfl (.refl _)
      · refine s_do (o_q (.ptr 0 0 1) rfl trivial rfl) ?_
        refine s_do (o_q (.int .i64 a_1.N) rfl nle rfl) ?_
        refine s_do (o_q (.bool (a_1.N == 0)) rfl rfl rfl) ?_
        refine s_do (o_mov (.bool (a_1.N == 0)) rfl) ?_
        refine s_lit (s := 20) (b := false) rfl (bf c7) ?_
        refine s_off rfl rfl ?_
        refine s_off rfl rfl ?_
        refine s_off rfl rfl ?_
        refine s_do (o_q (.bool false) rfl trivial rfl) ?_
        refine s_do (o_mov (.bool false) rfl) ?_
        refine w_done ?_
        refine k_seq ?_
        refine w_ret ?_
        obtain rfl := os hf
        exact r_flat ⟨trivial, trivial⟩ rfl (.refl _)
    · refine w_condf rfl (bf c6) ?_
      refine awp_seq ?_
      refine w_reg ?_
      refine s_do (o_q (.bool (a_1.Kind == 3)) rfl rfl rfl) ?_
      refine s_do (o_mov (.bool (a_1.Kind == 3)) rfl) ?_
      refine w_done ?_
      refine k_seq ?_
      rcases oi hf with ⟨c10, hf⟩ | ⟨c10, hf⟩
      · refine w_condt rfl c10 ?_
        refine awp_seq ?_
        refine w_reg ?_
        obtain ⟨r_11, er12, hf⟩ := ob hf
        rcases oi hf with ⟨c13, hf⟩ | ⟨c13, hf⟩
        · refine s_do (o_q (.ptr 0 0 1) rfl trivial rfl) ?_
          refine s_do (o_q (.int .i64 a_1.N) rfl nle rfl) ?_
          refine s_do (o_call (w_impl_within _ _ _ _ er12) rfl (.refl _) rfl) ?_
          refine s_do (o_mov (.bool r_11) rfl) ?_
          refine s_lit (s := 30) (b := true) rfl c13 ?_
          refine s_on rfl ?_
          refine s_do (o_q (.ptr 0 0 2) rfl trivial rfl) ?_
          refine s_on rfl ?_
          refine s_do (o_q (.str a_1.T) rfl nle rfl) ?_
          refine s_on rfl ?_
          refine s_do (o_q (.bool (a_1.T == [])) rfl trivial rfl) ?_
          refine s_do (o_q (.bool (a_1.T == [])) rfl trivial rfl) ?_
          refine s_do (o_mov (.bool (a_1.T == [])) rfl) ?_
          refine w_done ?_
          refine k_seq ?_
          refine w_ret ?_
          obtain rfl := os hf
          exact r_flat ⟨trivial, trivial⟩ rfl (.refl _)
        · refine s_do (o_q (.ptr 0 0 1) rfl trivial rfl) ?_
          refine s_do (o_q (.int .i64 a_1.N) rfl nle rfl) ?_
          refine s_do (o_call (w_impl_within _ _ _ _ er12) rfl (.refl _) rfl) ?_
          refine s_do (o_mov (.bool r_11) rfl) ?_
          refine s_lit (s := 30) (b := false) rfl (bf c13) ?_
          refine s_off rfl rfl ?_
          refine s_off rfl rfl ?_
          refine s_off rfl rfl ?_
          refine s_do (o_q (.bool false) rfl trivial rfl) ?_
          refine s_do (o_mov (.bool false) rfl) ?_
          refine w_done ?_
          refine k_seq ?_
          refine w_ret ?_
          obtain rfl := os hf
          exact r_flat ⟨trivial, trivial⟩ rfl (.refl _)
      · refine w_condf rfl (bf c10) ?_
        refine awp_seq ?_
        refine w_reg ?_
        refine s_do (o_q (.bool (a_1.Kind == 4)) rfl rfl rfl) ?_
        refine s_do (o_mov (.bool (a_1.Kind == 4)) rfl) ?_
        refine w_done ?_
        refine k_seq ?_
        rcases oi hf with ⟨c14, hf⟩ | ⟨c14, hf⟩
        · refine w_condt rfl c14 ?_
          refine awp_seq ?_
          refine w_reg ?_
          obtain ⟨r_15, er16, hf⟩ := ob hf
          rcases oi hf with ⟨c17, hf⟩ | ⟨c17, hf⟩
          · refine s_do (o_q (.ptr 0 0 1) rfl trivial rfl) ?_
            refine s_do (o_q (.int .i64 a_1.N) rfl nle rfl) ?_
            refine s_do (o_call (w_impl_isId _ _ er16) rfl (.refl _) rfl) ?_
            refine s_do (o_mov (.bool r_15) rfl) ?_
            refine s_lit (s := 40) (b := true) rfl c17 ?_
            refine s_on rfl ?_
            refine s_do (o_q (.ptr 0 0 2) rfl trivial rfl) ?_
            refine s_on rfl ?_
            refine s_do (o_q (.str a_1.T) rfl nle rfl) ?_
            refine s_on rfl ?_
            refine s_do (o_q (.bool (a_1.T == [])) rfl trivial rfl) ?_
            refine s_do (o_q (.bool (a_1.T == [])) rfl trivial rfl) ?_
            refine s_do (o_mov (.bool (a_1.T == [])) rfl) ?_
            refine w_done ?_
            refine k_seq ?_
            refine w_ret ?_
            obtain rfl := os hf
            exact r_flat ⟨trivial, trivial⟩ rfl (.refl _)
          · refine s_do (o_q (.ptr 0 0 1) rfl trivial rfl) ?_
            refine s_do (o_q (.int .i64 a_1.N) rfl nle rfl) ?_
            refine s_do (o_call (w_impl_isId _ _ er16) rfl (.refl _) rfl) ?_
            refine s_do (o_mov (.bool r_15) rfl) ?_
            refine s_lit (s := 40) (b := false) rfl (bf c17) ?_
            refine s_off rfl rfl ?_
            refine s_off rfl rfl ?_
            refine s_off rfl rfl ?_
            refine s_do (o_q (.bool false) rfl trivial rfl) ?_
            refine s_do (o_mov (.bool false) rfl) ?_
            refine w_done ?_
            refine k_seq ?_
            refine w_ret ?_
            obtain rfl := os hf
            exact r_flat ⟨trivial, trivial⟩ rfl (.refl _)
        · refine w_condf rfl (bf c14) ?_
          refine w_skip ?_
          refine k_blk ?_
          refine k_seq ?_
          refine awp_seq ?_
          refine w_reg ?_
          refine s_do (o_mov (.bool false) rfl) ?_
          refine w_done ?_
          refine k_seq ?_
          refine w_ret ?_
          obtain rfl := os hf
          exact r_flat ⟨trivial, trivial⟩ rfl (.refl _)

/- cmp.isNaN[int] -/
def c228 : ACode :=
 (.seq (.reg (.q ⟨(some 2), none, .mov (.c (.bool false))⟩
 .done))
 (.seq (.reg (.q ⟨(some 3), none, .mov (.t 0)⟩
 (.q ⟨(some 4), none, .mov (.t 0)⟩
 (.q ⟨(some 5), none, .bin .neq (.t 3) (.t 4)⟩
 (.q ⟨(some 2), none, .mov (.t 5)⟩
 .done)))))
 .ret))
theorem fc228 : fcomp Try.prog Try.f228 = some (c228.erase, [.mov (.t 2)], 6) := by kernel_rfl
def cmp_isNaN_int (x_1 : Int) : Option Bool :=
    some (x_1 != x_1)
theorem w_cmp_isNaN_int (x_1 : Int) (r : Bool) (hf : cmp_isNaN_int x_1 = some r) : CallOK Try.prog 228 .flat [(.int .i64 x_1)] (.bool r) := by
  refine CallOK.of_awp mixed Try.func228 fc228 nle ?_
  rw [argT_eq]
  unfold cmp_isNaN_int at hf
  unfold c228
  refine (show awp Try.prog false 0 _ (ofL [(0, (.int .i64 x_1))]) [] _ from ?_)
  refine awp_seq ?_
  refine w_reg ?_
  refine s_do (o_mov (.bool false) rfl) ?_
  refine w_done ?_
  refine k_seq ?_
  refine awp_seq ?_
  refine w_reg ?_
  refine s_do (o_mov (.int .i64 x_1) rfl) ?_
  refine s_do (o_mov (.int .i64 x_1) rfl) ?_
  refine s_do (o_q (.bool (x_1 != x_1)) rfl rfl rfl) ?_
  refine s_do (o_mov (.bool (x_1 != x_1)) rfl) ?_
  refine w_done ?_
  refine k_seq ?_
  refine w_ret ?_
  obtain rfl := os hf
  exact r_flat ⟨trivial, trivial⟩ rfl (.refl _)

/- cmp.Compare[int] -/
def c218 : ACode :=
 (.seq (.reg (.q ⟨(some 4), none, .mov (.c (.int .i64 0))⟩
 .done))
 (.seq (.reg (.q ⟨(some 7), none, .mov (.t 0)⟩
 (.q ⟨(some 8), none, .call 228 [(.t 7)]⟩
 (.q ⟨(some 5), none, .mov (.t 8)⟩
 .done))))
 (.seq (.reg (.q ⟨(some 9), none, .mov (.t 1)⟩
 (.q ⟨(some 10), none, .call 228 [(.t 9)]⟩
 (.q ⟨(some 6), none, .mov (.t 10)⟩
 .done))))
 (.seq (.seq (.reg (.q ⟨(some 11), none, .mov (.t 5)⟩
 .done))
 (.cond (.t 11) (.seq (.seq (.reg (.q ⟨(some 12), none, .mov (.t 6)⟩
 .done))
 (.cond (.t 12) (.seq (.reg (.q ⟨(some 4), none, .mov (.c (.int .i64 0))⟩
 .done))
 .ret)
 .skip))
 (.seq (.reg (.q ⟨(some 4), none, .mov (.c (.int .i64 (-1)))⟩
 .done))
 .ret))
 .skip))
 (.seq (.seq (.reg (.q ⟨(some 13), none, .mov (.t 6)⟩
 .done))
 (.cond (.t 13) (.seq (.reg (.q ⟨(some 4), none, .mov (.c (.int .i64 1))⟩
 .done))
 .ret)
 .skip))
 (.seq (.seq (.reg (.q ⟨(some 14), none, .mov (.t 0)⟩
 (.q ⟨(some 15), none, .mov (.t 1)⟩
 (.q ⟨(some 16), none, .bin .lss (.t 14) (.t 15)⟩
 .done))))
 (.cond (.t 16) (.seq (.reg (.q ⟨(some 4), none, .mov (.c (.int .i64 (-1)))⟩
 .done))
 .ret)
 .skip))
 (.seq (.seq (.reg (.q ⟨(some 17), none, .mov (.t 0)⟩
 (.q ⟨(some 18), none, .mov (.t 1)⟩
 (.q ⟨(some 19), none, .bin .gtr (.t 17) (.t 18)⟩
 .done))))
 (.cond (.t 19) (.seq (.reg (.q ⟨(some 4), none, .mov (.c (.int .i64 1))⟩
 .done))
 .ret)
 .skip))
 (.seq (.reg (.q ⟨(some 4), none, .mov (.c (.int .i64 0))⟩
 .done))
 .ret))))))))
theorem fc218 : fcomp Try.prog Try.f218 = some (c218.erase, [.mov (.t 4)], 20) := by kernel_rfl
def cmp_Compare_int (x_1 : Int) (y_2 : Int) : Option Int :=
    (cmp_isNaN_int x_1).bind fun r_3 =>
    (cmp_isNaN_int y_2).bind fun r_5 =>
    if r_3 then
    if r_5 then
    some 0
    else
    some (-1)
    else
    if r_5 then
    some 1
    else
    if (decide (x_1 < y_2)) then
    some (-1)
    else
    if (decide (x_1 > y_2)) then
    some 1
    else
    some 0
theorem w_cmp_Compare_int (x_1 : Int) (y_2 : Int) (r : Int) (hf : cmp_Compare_int x_1 y_2 = some r) : CallOK Try.prog 218 .flat [(.int .i64 x_1), (.int .i64 y_2)] (.int .i64 r) := by
  refine CallOK.of_awp mixed Try.func218 fc218 nle ?_
  rw [argT_eq]
  unfold cmp_Compare_int at hf
  unfold c218
  refine (show awp Try.prog false 0 _ (ofL [(0, (.int .i64 x_1)), (1, (.int .i64 y_2))]) [] _ from ?_)
  refine awp_seq ?_
  refine w_reg ?_
  refine s_do (o_mov (.int .i64 0) rfl) ?_
  refine w_done ?_
  refine k_seq ?_
  refine awp_seq ?_
  refine w_reg ?_
  obtain ⟨r_3, er4, hf⟩ := ob hf
  refine s_do (o_mov (.int .i64 x_1) rfl) ?_
  refine s_do (o_call (w_cmp_isNaN_int _ _ er4) rfl (.refl _) rfl) ?_
  refine s_do (o_mov (.bool r_3) rfl) ?_
  refine w_done ?_
  refine k_seq ?_
  refine awp_seq ?_
  refine w_reg ?_
  obtain ⟨r_5, er6, hf⟩ := ob hf
  refine s_do (o_mov (.int .i64 y_2) rfl) ?_
  refine s_do (o_call (w_cmp_isNaN_int _ _ er6) rfl (.refl _) rfl) ?_
  refine s_do (o_mov (.bool r_5) rfl) ?_
  refine w_done ?_
  refine k_seq ?_
  refine awp_seq ?_
  refine awp_seq ?_
  refine w_reg ?_
  refine s_do (o_mov (.bool r_3) rfl) ?_
  refine w_done ?_
  refine k_seq ?_
  rcases oi hf with ⟨c7, hf⟩ | ⟨c7, hf⟩
  · refine w_condt rfl c7 ?_
    refine awp_seq ?_
    refine awp_seq ?_
    refine w_reg ?_
    refine s_do (o_mov (.bool r_5) rfl) ?_
    refine w_done ?_
    refine k_seq ?_
    rcases oi hf with ⟨c8, hf⟩ | ⟨c8, hf⟩
    · refine w_condt rfl c8 ?_
      refine awp_seq ?_
      refine w_reg ?_
      refine s_do (o_mov (.int .i64 0) rfl) ?_
      refine w_done ?_
      refine k_seq ?_
      refine w_ret ?_
      obtain rfl := os hf
      exact r_flat ⟨trivial, trivial⟩ rfl (.refl _)
    · refine w_condf rfl (bf c8) ?_
      refine w_skip ?_
      refine k_seq ?_
      refine awp_seq ?_
      refine w_reg ?_
      refine s_do (o_mov (.int .i64 (-1)) rfl) ?_
      refine w_done ?_
      refine k_seq ?_
      refine w_ret ?_
      obtain rfl := os hf
      exact r_flat ⟨trivial, trivial⟩ rfl (.refl _)
  · refine w_condf rfl (bf c7) ?_
    refine w_skip ?_
    refine k_seq ?_
    refine awp_seq ?_
    refine awp_seq ?_
    refine w_reg ?_
    refine s_do (o_mov (.bool r_5) rfl) ?_
    refine w_done ?_
    refine k_seq ?_
    rcases oi hf with ⟨c9, hf⟩ | ⟨c9, hf⟩
    · refine w_condt rfl c9 ?_
      refine awp_seq ?_
      refine w_reg ?_
      refine s_do (o_mov (.int .i64 1) rfl) ?_
      refine w_done ?_
      refine k_seq ?_
      refine w_ret ?_
      obtain rfl := os hf
      exact r_flat ⟨trivial, trivial⟩ rfl (.refl _)
    · refine w_condf rfl (bf c9) ?_
      refine w_skip ?_
      refine k_seq ?_
      refine awp_seq ?_
      refine awp_seq ?_
      refine w_reg ?_
      refine s_do (o_mov (.int .i64 x_1) rfl) ?_
      refine s_do (o_mov (.int .i64 y_2) rfl) ?_
      refine s_do (o_q (.bool (decide (x_1 < y_2))) rfl rfl rfl) ?_
      refine w_done ?_
      refine k_seq ?_
      rcases oi hf with ⟨c10, hf⟩ | ⟨c10, hf⟩
      · refine w_condt rfl c10 ?_
        refine awp_seq ?_
        refine w_reg ?_
        refine s_do (o_mov (.int .i64 (-1)) rfl) ?_
        refine w_done ?_
        refine k_seq ?_
        refine w_ret ?_
        obtain rfl := os hf
        exact r_flat ⟨trivial, trivial⟩ rfl (.refl _)
      · refine w_condf rfl (bf c10) ?_
        refine w_skip ?_
        refine k_seq ?_
        refine awp_seq ?_
        refine awp_seq ?_
        refine w_reg ?_
        refine s_do (o_mov (.int .i64 x_1) rfl) ?_
        refine s_do (o_mov (.int .i64 y_2) rfl) ?_
        refine s_do (o_q (.bool (decide (x_1 > y_2))) rfl rfl rfl) ?_
        refine w_done ?_
        refine k_seq ?_
        rcases oi hf with ⟨c11, hf⟩ | ⟨c11, hf⟩
        · refine w_condt rfl c11 ?_
          refine awp_seq ?_
          refine w_reg ?_
          refine s_do (o_mov (.int .i64 1) rfl) ?_
          refine w_done ?_
          refine k_seq ?_
          refine w_ret ?_
          obtain rfl := os hf
          exact r_flat ⟨trivial, trivial⟩ rfl (.refl _)
        · refine w_condf rfl (bf c11) ?_
          refine w_skip ?_
          refine k_seq ?_
          refine awp_seq ?_
          refine w_reg ?_
          refine s_do (o_mov (.int .i64 0) rfl) ?_
          refine w_done ?_
          refine k_seq ?_
          refine w_ret ?_
          obtain rfl := os hf
          exact r_flat ⟨trivial, trivial⟩ rfl (.refl _)

/- internal/bytealg.CompareString -/
def internal_bytealg_CompareString (a b : Str) : Option Int := some (Lib.compareBytes a b)
set_option maxRecDepth 100000 in
open Go.RowKit in
theorem cmps_run (a b : ByteArray) (w : World) : Calls Try.prog 224 #[.string a, .string b] w fun e w' => e = .returned (.int .i64 (Lib.compareBytes a.data.toList b.data.toList)) ∧ w' = w := by
  go_enter Try.func224, (show Try.f224.ntmps = _ from rfl)
  go_wp2
  rw [run_callFunc_extern Try.func229 (by kernel_rfl) (by kernel_rfl) (by kernel_rfl) (e := Extern.BytealgCompare.compare) (by kernel_rfl), Lib.run_compareString]
  simp only [Result.andThen]
  rw [Oper.upon_value]
  go_wp2
  go_ret
  exact ⟨rfl, rfl⟩
open Go.RowKit in
theorem w_internal_bytealg_CompareString (a b : Str) (r : Int) (hf : internal_bytealg_CompareString a b = some r) : CallOK Try.prog 224 .flat [(.str a), (.str b)] (.int .i64 r) := by
  intro w vals fps hr
  simp only [RepVs, Rep] at hr
  obtain ⟨v1, vs1, f1, f2, rfl, ⟨rfl, h1, rfl⟩, ⟨v2, vs2, f3, f4, rfl, ⟨rfl, h2, rfl⟩, ⟨rfl, rfl⟩, rfl⟩, rfl⟩ := hr
  unfold internal_bytealg_CompareString at hf
  obtain rfl := os hf
  refine (cmps_run ⟨a.toArray⟩ ⟨b.toArray⟩ w).mono ?_
  rintro e w' ⟨rfl, rfl⟩
  refine ⟨Below.refl _ _, ?_⟩
  exact ⟨[.int .i64 (Lib.compareBytes a b)], rfl, by simp [Rep]⟩

/- strings.Compare -/
def c202 : ACode :=
 (.seq (.reg (.q ⟨(some 4), none, .mov (.c (.int .i64 0))⟩
 .done))
 (.seq (.reg (.q ⟨(some 5), none, .mov (.t 0)⟩
 (.q ⟨(some 6), none, .mov (.t 1)⟩
 (.q ⟨(some 7), none, .call 224 [(.t 5), (.t 6)]⟩
 (.q ⟨(some 4), none, .mov (.t 7)⟩
 .done)))))
 .ret))
theorem fc202 : fcomp Try.prog Try.f202 = some (c202.erase, [.mov (.t 4)], 8) := by kernel_rfl
def strings_Compare (a_1 : Str) (b_2 : Str) : Option Int :=
    (internal_bytealg_CompareString a_1 b_2).bind fun r_3 =>
    some r_3
theorem w_strings_Compare (a_1 : Str) (b_2 : Str) (r : Int) (hf : strings_Compare a_1 b_2 = some r) : CallOK Try.prog 202 .flat [(.str a_1), (.str b_2)] (.int .i64 r) := by
  refine CallOK.of_awp mixed Try.func202 fc202 nle ?_
  rw [argT_eq]
  unfold strings_Compare at hf
  unfold c202
  refine (show awp Try.prog false 0 _ (ofL [(0, (.str a_1)), (1, (.str b_2))]) [] _ from ?_)
  refine awp_seq ?_
  refine w_reg ?_
  refine s_do (o_mov (.int .i64 0) rfl) ?_
  refine w_done ?_
  refine k_seq ?_
  refine awp_seq ?_
  refine w_reg ?_
  obtain ⟨r_3, er4, hf⟩ := ob hf
  refine s_do (o_mov (.str a_1) rfl) ?_
  refine s_do (o_mov (.str b_2) rfl) ?_
  refine s_do (o_call (w_internal_bytealg_CompareString _ _ _ er4) rfl (.refl _) rfl) ?_
  refine s_do (o_mov (.int .i64 r_3) rfl) ?_
  refine w_done ?_
  refine k_seq ?_
  refine w_ret ?_
  obtain rfl := os hf
  exact r_flat ⟨trivial, trivial⟩ rfl (.refl _)

/- cmp.Or[int] -/
def c217 : ACode :=
 (.seq (.reg (.q ⟨(some 2), none, .mov (.c (.int .i64 0))⟩
 .done))
 (.seq (.reg (.q ⟨(some 3), none, .mov (.c (.int .i64 0))⟩
 .done))
 (.seq (.seq (.reg (.q ⟨(some 6), none, .mov (.t 0)⟩
 (.q ⟨(some 7), none, .len (.t 6)⟩
 (.q ⟨(some 8), none, .mov (.c (.int .i64 0))⟩
 .done))))
 (.block 0 (.loop (.seq (.reg (.q ⟨(some 9), none, .bin .lss (.t 8) (.t 7)⟩
 .done))
 (.seq (.cond (.t 9) .skip
 (.exit 0))
 (.seq (.block 1 (.seq (.reg (.q ⟨(some 10), none, .iaddr 1 (.t 6) (.t 8)⟩
 (.q ⟨(some 11), none, .load 1 false (.t 10)⟩
 (.q ⟨(some 5), none, .mov (.t 11)⟩
 .done))))
 (.seq (.reg (.q ⟨(some 12), none, .mov (.t 5)⟩
 (.q ⟨(some 13), none, .mov (.t 3)⟩
 (.q ⟨(some 14), none, .bin .neq (.t 12) (.t 13)⟩
 .done))))
 (.cond (.t 14) (.seq (.reg (.q ⟨(some 15), none, .mov (.t 5)⟩
 (.q ⟨(some 2), none, .mov (.t 15)⟩
 .done)))
 .ret)
 .skip))))
 (.reg (.q ⟨(some 16), none, .bin .add (.t 8) (.c (.int .i64 1))⟩
 (.q ⟨(some 8), none, .mov (.t 16)⟩
 .done)))))))))
 (.cut (.seq (.reg (.q ⟨(some 17), none, .mov (.t 3)⟩
 (.q ⟨(some 2), none, .mov (.t 17)⟩
 .done)))
 .ret)))))
theorem fc217 : fcomp Try.prog Try.f217 = some (c217.erase, [.mov (.t 2)], 18) := by kernel_rfl
def cmp_Or_int_L1  : List Int → Option (Fl Int Unit)
  | [] =>
    some (.go ())
  | x_24 :: xs =>
    if (x_24 != 0) then
    some (.ret x_24)
    else
    cmp_Or_int_L1 xs 

def cmp_Or_int (vals_1 : (List Int)) : Option Int :=
    (cmp_Or_int_L1 vals_1 ).bind fun q => (match q with
    | .ret r => some r
    | .go _ =>
    some 0)
theorem w_cmp_Or_int (vals_1 : (List Int)) (r : Int) (hf : cmp_Or_int vals_1 = some r) : CallOK Try.prog 217 .flat [(.lst 1 (vals_1.map encI))] (.int .i64 r) := by
  refine CallOK.of_awp mixed Try.func217 fc217 nle ?_
  rw [argT_eq]
  unfold cmp_Or_int at hf
  unfold c217
  refine (show awp Try.prog false 0 _ (ofL [(0, (.lst 1 (vals_1.map encI)))]) [] _ from ?_)
  refine awp_seq ?_
  refine w_reg ?_
  refine s_do (o_mov (.int .i64 0) rfl) ?_
  refine w_done ?_
  refine k_seq ?_
  refine awp_seq ?_
  refine w_reg ?_
  refine s_do (o_mov (.int .i64 0) rfl) ?_
  refine w_done ?_
  refine k_seq ?_
  refine awp_seq ?_
  refine awp_seq ?_
  refine w_reg ?_
  refine s_do (o_mov (.lst 1 (vals_1.map encI)) rfl) ?_
  refine s_dof (o_len (enc := encI) rfl) fun hl2 => ?_
  refine s_do (o_mov (.int .i64 0) rfl) ?_
  refine w_done ?_
  refine k_seq ?_
  obtain ⟨p17, hb1, hf⟩ := ob hf
  refine awp_cutx (X := {q : Unit // p17 = .go q}) (fun q => ([(3, (.int .i64 0))], [])) ?_ ?_
  · refine awp_loop (X := {q : Nat // cmp_Or_int_L1 (vals_1.drop q)  = some p17}) (fun q => ([(3, (.int .i64 0)), (6, (.lst 1 (vals_1.map encI))), (7, (.int .i64 (vals_1.length : Int))), (8, (.int .i64 (q.1 : Int)))], [])) (fun q => vals_1.length - q.1) ⟨0, hb1⟩ ⟨[], [], _, _, rfl, rfl, ⟨.refl _, ⟨.refl _, ⟨.refl _, ⟨.refl _, trivial⟩⟩⟩⟩, (.refl _)⟩ ?_
    rintro ⟨s8_12, hc1⟩
    have hc1 : cmp_Or_int_L1 (vals_1.drop s8_12)  = some p17 := hc1
    refine (show awp Try.prog false 0 _ (ofL [(3, (.int .i64 0)), (6, (.lst 1 (vals_1.map encI))), (7, (.int .i64 (vals_1.length : Int))), (8, (.int .i64 (s8_12 : Int)))]) [] _ from ?_)
    rcases dropc vals_1 s8_12 with ⟨hie20, hd23⟩ | ⟨hlt18, x_24, hx19, hd23⟩
    · rw [hd23, cmp_Or_int_L1.eq_1] at hc1
      have hq22 := dlf hie20
      refine awp_seq ?_
      refine w_reg ?_
      refine s_do (o_q (.bool (decide ((s8_12 : Int) < (vals_1.length : Int)))) rfl rfl rfl) ?_
      refine w_done ?_
      refine k_seq ?_
      refine awp_seq ?_
      refine w_condf rfl hq22 ?_
      refine w_exit ?_
      refine k_seqx ?_
      refine k_loopx ?_
      refine k_blkx ?_
      obtain rfl := os hc1
      exact k_cutn ⟨_, rfl⟩ ⟨[], [], _, _, rfl, rfl, ⟨.refl _, trivial⟩, (.refl _)⟩
    · rw [hd23, cmp_Or_int_L1.eq_2] at hc1
      have hq22 := dlt hlt18
      refine awp_seq ?_
      refine w_reg ?_
      refine s_do (o_q (.bool (decide ((s8_12 : Int) < (vals_1.length : Int)))) rfl rfl rfl) ?_
      refine w_done ?_
      refine k_seq ?_
      refine awp_seq ?_
      refine w_condt rfl hq22 ?_
      refine w_skip ?_
      refine k_seq ?_
      refine awp_seq ?_
      refine w_blk ?_
      refine awp_seq ?_
      refine w_reg ?_
      refine s_do (o_iaddrn (enc := encI) rfl rfl hx19) ?_
      refine s_do (o_q (.int .i64 x_24) rfl ⟨rfl, rfl⟩ rfl) ?_
      refine s_do (o_mov (.int .i64 x_24) rfl) ?_
      refine w_done ?_
      refine k_seq ?_
      refine awp_seq ?_
      refine w_reg ?_
      refine s_do (o_mov (.int .i64 x_24) rfl) ?_
      refine s_do (o_mov (.int .i64 0) rfl) ?_
      refine s_do (o_q (.bool (x_24 != 0)) rfl rfl rfl) ?_
      refine w_done ?_
      refine k_seq ?_
      rcases oi hc1 with ⟨c25, hc1⟩ | ⟨c25, hc1⟩
      · refine w_condt rfl c25 ?_
        refine awp_seq ?_
        refine w_reg ?_
        refine s_do (o_mov (.int .i64 x_24) rfl) ?_
        refine s_do (o_mov (.int .i64 x_24) rfl) ?_
        refine w_done ?_
        refine k_seq ?_
        refine w_ret ?_
        obtain rfl := os hc1
        obtain rfl := os hf
        exact r_flat ⟨trivial, trivial⟩ rfl (.refl _)
      · refine w_condf rfl (bf c25) ?_
        refine w_skip ?_
        refine k_blk ?_
        refine k_seq ?_
        refine w_reg ?_
        refine s_do (o_q (.int .i64 (w64 ((s8_12 : Int) + 1))) rfl rfl rfl) ?_
        refine s_do (o_mov (.int .i64 (w64 ((s8_12 : Int) + 1))) rfl) ?_
        refine w_done ?_
        exact k_loopn ⟨(s8_12 + 1), hc1⟩ (mul hlt18) ⟨[], [], _, _, rfl, rfl, ⟨.refl _, ⟨.refl _, ⟨.refl _, ⟨.of_eq (congrArg (AV.int _) (w64_incr hlt18 hl2)), trivial⟩⟩⟩⟩, (.refl _)⟩
  · rintro ⟨_, rfl⟩
    refine awp_seq ?_
    refine w_reg ?_
    refine s_do (o_mov (.int .i64 0) rfl) ?_
    refine s_do (o_mov (.int .i64 0) rfl) ?_
    refine w_done ?_
    refine k_seq ?_
    refine w_ret ?_
    obtain rfl := os hf
    exact r_flat ⟨trivial, trivial⟩ rfl (.refl _)

/- impl.compareAtoms -/
def c185 : ACode :=
 (.seq (.reg (.q ⟨(some 2), none, .box 3 (.t 0)⟩
 (.q ⟨(some 3), none, .box 3 (.t 1)⟩
 (.q ⟨(some 4), none, .mov (.c (.int .i64 0))⟩
 .done))))
 (.seq (.reg (.q ⟨(some 5), none, .faddr 0 (.t 2)⟩
 (.q ⟨(some 6), none, .load 1 false (.t 5)⟩
 (.q ⟨(some 7), none, .faddr 0 (.t 3)⟩
 (.q ⟨(some 8), none, .load 1 false (.t 7)⟩
 (.q ⟨(some 10), none, .faddr 1 (.t 2)⟩
 (.q ⟨(some 11), none, .load 1 false (.t 10)⟩
 (.q ⟨(some 12), none, .faddr 1 (.t 3)⟩
 (.q ⟨(some 13), none, .load 1 false (.t 12)⟩
 (.q ⟨(some 15), none, .faddr 2 (.t 2)⟩
 (.q ⟨(some 16), none, .load 1 false (.t 15)⟩
 (.q ⟨(some 17), none, .faddr 2 (.t 3)⟩
 (.q ⟨(some 18), none, .load 1 false (.t 17)⟩
 (.l ⟨(some 9), none, .call 218 [(.t 6), (.t 8)]⟩ [⟨(some 18), none, .load 1 false (.t 17)⟩, ⟨(some 17), none, .faddr 2 (.t 3)⟩, ⟨(some 16), none, .load 1 false (.t 15)⟩, ⟨(some 15), none, .faddr 2 (.t 2)⟩, ⟨(some 13), none, .load 1 false (.t 12)⟩, ⟨(some 12), none, .faddr 1 (.t 3)⟩, ⟨(some 11), none, .load 1 false (.t 10)⟩, ⟨(some 10), none, .faddr 1 (.t 2)⟩]
 (.l ⟨(some 14), none, .call 218 [(.t 11), (.t 13)]⟩ [⟨(some 18), none, .load 1 false (.t 17)⟩, ⟨(some 17), none, .faddr 2 (.t 3)⟩, ⟨(some 16), none, .load 1 false (.t 15)⟩, ⟨(some 15), none, .faddr 2 (.t 2)⟩]
 (.l ⟨(some 19), none, .call 202 [(.t 16), (.t 18)]⟩ []
 (.l ⟨(some 20), none, .bslice 1 [(.t 9), (.t 14), (.t 19)]⟩ []
 (.l ⟨(some 21), none, .call 217 [(.t 20)]⟩ []
 (.q ⟨(some 4), none, .mov (.t 21)⟩
 .done) .non) .non) .non) .non) .non))))))))))))))
 .ret))
theorem fc185 : fcomp Try.prog Try.f185 = some (c185.erase, [.mov (.t 4)], 22) := by kernel_rfl
def impl_compareAtoms (a_1 : GAtom) (b_2 : GAtom) : Option Int :=
    (cmp_Compare_int a_1.Kind b_2.Kind).bind fun r_3 =>
    (cmp_Compare_int a_1.N b_2.N).bind fun r_5 =>
    (strings_Compare a_1.T b_2.T).bind fun r_7 =>
    (cmp_Or_int [r_3, r_5, r_7]).bind fun r_9 =>
    some r_9
theorem w_impl_compareAtoms (a_1 : GAtom) (b_2 : GAtom) (r : Int) (hf : impl_compareAtoms a_1 b_2 = some r) : CallOK Try.prog 185 .flat [(encGAtom a_1), (encGAtom b_2)] (.int .i64 r) := by
  refine CallOK.of_awp mixed Try.func185 fc185 nle ?_
  rw [argT_eq]
  unfold impl_compareAtoms at hf
  unfold c185
  refine (show awp Try.prog false 0 _ (ofL [(0, (encGAtom a_1)), (1, (encGAtom b_2))]) [] _ from ?_)
  refine awp_seq ?_
  refine w_reg ?_
  refine s_do (o_box (j := 0) (c := (.agg [(.int .i64 a_1.Kind), (.int .i64 a_1.N), (.str a_1.T)])) rfl trivial rfl rfl) ?_
  refine s_do (o_box (j := 1) (c := (.agg [(.int .i64 b_2.Kind), (.int .i64 b_2.N), (.str b_2.T)])) rfl trivial rfl rfl) ?_
  refine s_do (o_mov (.int .i64 0) rfl) ?_
  refine w_done ?_
  refine k_seq ?_
  refine awp_seq ?_
  refine w_reg ?_
  refine s_do (o_q (.ptr 0 0 0) rfl trivial rfl) ?_
  refine s_do (o_q (.int .i64 a_1.Kind) rfl nle rfl) ?_
  refine s_do (o_q (.ptr 1 0 0) rfl trivial rfl) ?_
  refine s_do (o_q (.int .i64 b_2.Kind) rfl nle rfl) ?_
  refine s_do (o_q (.ptr 0 0 1) rfl trivial rfl) ?_
  refine s_do (o_q (.int .i64 a_1.N) rfl nle rfl) ?_
  refine s_do (o_q (.ptr 1 0 1) rfl trivial rfl) ?_
  refine s_do (o_q (.int .i64 b_2.N) rfl nle rfl) ?_
  refine s_do (o_q (.ptr 0 0 2) rfl trivial rfl) ?_
  refine s_do (o_q (.str a_1.T) rfl nle rfl) ?_
  refine s_do (o_q (.ptr 1 0 2) rfl trivial rfl) ?_
  refine s_do (o_q (.str b_2.T) rfl nle rfl) ?_
  obtain ⟨r_3, er4, hf⟩ := ob hf
  refine s_dol (o_call (w_cmp_Compare_int _ _ _ er4) rfl (.refl _) rfl) a_same trivial ?_
  obtain ⟨r_5, er6, hf⟩ := ob hf
  refine s_dol (o_call (w_cmp_Compare_int _ _ _ er6) rfl (.refl _) rfl) a_same trivial ?_
  obtain ⟨r_7, er8, hf⟩ := ob hf
  refine s_dol (o_call (w_strings_Compare _ _ _ er8) rfl (.refl _) rfl) a_same trivial ?_
  refine s_dol (o_bslice (j := 2) (as' := [(.int .i64 r_3), (.int .i64 r_5), (.int .i64 r_7)]) rfl (fun _ => by decide) ⟨rfl, ⟨rfl, ⟨rfl, trivial⟩⟩⟩ (.refl _) rfl rfl rfl) trivial trivial ?_
  obtain ⟨r_9, er10, hf⟩ := ob hf
  refine s_dol (o_call (w_cmp_Or_int _ _ er10) rfl (.cons (.of_eq (congrArg (AV.lst _) (tko [r_3, r_5, r_7]))) .nil) rfl) a_same trivial ?_
  refine s_do (o_mov (.int .i64 r_9) rfl) ?_
  refine w_done ?_
  refine k_seq ?_
  refine w_ret ?_
  obtain rfl := os hf
  exact r_flat ⟨trivial, trivial⟩ rfl (.refl _)

/- impl.DatumOK -/
def c131 : ACode :=
 (.seq (.reg (.q ⟨(some 2), none, .mov (.c (.bool false))⟩
 .done))
 (.seq (.seq (.reg (.q ⟨(some 5), none, .mov (.t 0)⟩
 (.q ⟨(some 6), none, .len (.t 5)⟩
 (.q ⟨(some 7), none, .mov (.c (.int .i64 0))⟩
 .done))))
 (.block 0 (.loop (.seq (.reg (.q ⟨(some 8), none, .bin .lss (.t 7) (.t 6)⟩
 .done))
 (.seq (.cond (.t 8) .skip
 (.exit 0))
 (.seq (.block 1 (.seq (.reg (.q ⟨(some 9), none, .mov (.t 7)⟩
 (.q ⟨(some 10), none, .iaddr 3 (.t 5) (.t 7)⟩
 (.q ⟨(some 11), none, .load 3 true (.t 10)⟩
 (.q ⟨(some 4), none, .box 3 (.c (.agg [(.int .i64 0), (.int .i64 0), (.str [])]))⟩
 (.q ⟨(some 3), none, .mov (.t 9)⟩
 (.q ⟨none, none, .store 3 (.t 4) (.t 11)⟩
 .done)))))))
 (.seq (.reg (.q ⟨(some 12), none, .load 3 true (.t 4)⟩
 (.l ⟨(some 13), none, .call 109 [(.t 12)]⟩ []
 (.q ⟨(some 14), none, .not (.t 13)⟩
 (.q ⟨(some 15), none, .mov (.t 14)⟩
 (.q ⟨(some 16), (some (15, false)), .faddr 0 (.t 4)⟩
 (.q ⟨(some 17), (some (15, false)), .load 1 false (.t 16)⟩
 (.q ⟨(some 18), (some (15, false)), .mov (.t 0)⟩
 (.q ⟨(some 19), (some (15, false)), .iaddr 3 (.t 18) (.c (.int .i64 0))⟩
 (.q ⟨(some 20), (some (15, false)), .faddr 0 (.t 19)⟩
 (.q ⟨(some 21), (some (15, false)), .load 1 false (.t 20)⟩
 (.q ⟨(some 22), (some (15, false)), .bin .neq (.t 17) (.t 21)⟩
 (.q ⟨(some 23), none, .pick (.t 15) (.c (.bool true)) (.t 22)⟩
 (.q ⟨(some 24), none, .mov (.t 23)⟩
 (.q ⟨(some 25), (some (24, false)), .mov (.t 3)⟩
 (.q ⟨(some 26), (some (24, false)), .bin .gtr (.t 25) (.c (.int .i64 0))⟩
 (.q ⟨(some 27), (some (24, false)), .mov (.t 26)⟩
 (.q ⟨(some 28), (some (27, true)), .mov (.t 0)⟩
 (.q ⟨(some 29), (some (27, true)), .mov (.t 3)⟩
 (.q ⟨(some 30), (some (27, true)), .bin .sub (.t 29) (.c (.int .i64 1))⟩
 (.q ⟨(some 31), (some (27, true)), .iaddr 3 (.t 28) (.t 30)⟩
 (.q ⟨(some 32), (some (27, true)), .load 3 true (.t 31)⟩
 (.q ⟨(some 33), (some (27, true)), .load 3 true (.t 4)⟩
 (.l ⟨(some 34), (some (27, true)), .call 185 [(.t 32), (.t 33)]⟩ []
 (.q ⟨(some 35), (some (27, true)), .bin .geq (.t 34) (.c (.int .i64 0))⟩
 (.q ⟨(some 36), (some (24, false)), .pick (.t 27) (.t 35) (.c (.bool false))⟩
 (.q ⟨(some 37), none, .pick (.t 24) (.c (.bool true)) (.t 36)⟩
 .done))) .non))))))))))))))))))))) .non)))
 (.cut (.cond (.t 37) (.seq (.reg (.q ⟨(some 2), none, .mov (.c (.bool false))⟩
 .done))
 .ret)
 .skip)))))
 (.reg (.q ⟨(some 38), none, .bin .add (.t 7) (.c (.int .i64 1))⟩
 (.q ⟨(some 7), none, .mov (.t 38)⟩
 .done)))))))))
 (.cut (.seq (.reg (.q ⟨(some 39), none, .mov (.t 0)⟩
 (.q ⟨(some 40), none, .len (.t 39)⟩
 (.q ⟨(some 41), none, .bin .leq (.t 40) (.c (.int .i64 8))⟩
 (.q ⟨(some 2), none, .mov (.t 41)⟩
 .done)))))
 .ret))))
theorem fc131 : fcomp Try.prog Try.f131 = some (c131.erase, [.mov (.t 2)], 42) := by kernel_rfl
def impl_DatumOK_L1 (d_1 : (List GAtom)) : List GAtom → Nat → Option (Fl Bool Unit)
  | [], s7_60 =>
    some (.go ())
  | x_96 :: xs, s7_60 =>
    (((impl_AtomOK x_96).bind fun r_110 =>
    if (!r_110) then
    some true
    else
    (idx d_1 0).bind fun x_113 =>
    if (x_96.Kind != x_113.Kind) then
    some true
    else
    if (decide ((s7_60 : Int) > 0)) then
    (idx d_1 (w64 ((s7_60 : Int) - 1))).bind fun x_117 =>
    (impl_compareAtoms x_117 x_96).bind fun r_119 =>
    some (decide (r_119 ≥ 0))
    else
    some false : Option Bool)).bind fun s37_108 =>
    if s37_108 then
    some (.ret false)
    else
    impl_DatumOK_L1 d_1 xs (s7_60 + 1)

def impl_DatumOK (d_1 : (List GAtom)) : Option Bool :=
    (impl_DatumOK_L1 d_1 d_1 0).bind fun q => (match q with
    | .ret r => some r
    | .go _ =>
    some (decide ((d_1.length : Int) ≤ 8)))
theorem w_impl_DatumOK (d_1 : (List GAtom)) (r : Bool) (hf : impl_DatumOK d_1 = some r) : CallOK Try.prog 131 .flat [(.lst 3 (d_1.map encGAtom))] (.bool r) := by
  refine CallOK.of_awp mixed Try.func131 fc131 nle ?_
  rw [argT_eq]
  unfold impl_DatumOK at hf
  unfold c131
  refine (show awp Try.prog false 0 _ (ofL [(0, (.lst 3 (d_1.map encGAtom)))]) [] _ from ?_)
  refine awp_seq ?_
  refine w_reg ?_
  refine s_do (o_mov (.bool false) rfl) ?_
  refine w_done ?_
  refine k_seq ?_
  refine awp_seq ?_
  refine awp_seq ?_
  refine w_reg ?_
  refine s_do (o_mov (.lst 3 (d_1.map encGAtom)) rfl) ?_
  refine s_dof (o_len (enc := encGAtom) rfl) fun hl2 => ?_
  refine s_do (o_mov (.int .i64 0) rfl) ?_
  refine w_done ?_
  refine k_seq ?_
  obtain ⟨p89, hb1, hf⟩ := ob hf
  refine awp_cutx (X := {q : Unit // p89 = .go q}) (fun q => ([(0, (.lst 3 (d_1.map encGAtom)))], [])) ?_ ?_
  · refine awp_loop (X := {q : Nat // impl_DatumOK_L1 d_1 (d_1.drop q) q = some p89}) (fun q => ([(0, (.lst 3 (d_1.map encGAtom))), (5, (.lst 3 (d_1.map encGAtom))), (6, (.int .i64 (d_1.length : Int))), (7, (.int .i64 (q.1 : Int)))], [])) (fun q => d_1.length - q.1) ⟨0, hb1⟩ ⟨[], [], _, _, rfl, rfl, ⟨.refl _, ⟨.refl _, ⟨.refl _, ⟨.refl _, trivial⟩⟩⟩⟩, (.refl _)⟩ ?_
    rintro ⟨s7_60, hc1⟩
    have hc1 : impl_DatumOK_L1 d_1 (d_1.drop s7_60) s7_60 = some p89 := hc1
    refine (show awp Try.prog false 0 _ (ofL [(0, (.lst 3 (d_1.map encGAtom))), (5, (.lst 3 (d_1.map encGAtom))), (6, (.int .i64 (d_1.length : Int))), (7, (.int .i64 (s7_60 : Int)))]) [] _ from ?_)
    rcases dropc d_1 s7_60 with ⟨hie92, hd95⟩ | ⟨hlt90, x_96, hx91, hd95⟩
    · rw [hd95, impl_DatumOK_L1.eq_1] at hc1
      have hq94 := dlf hie92
      refine awp_seq ?_
      refine w_reg ?_
      refine s_do (o_q (.bool (decide ((s7_60 : Int) < (d_1.length : Int)))) rfl rfl rfl) ?_
      refine w_done ?_
      refine k_seq ?_
      refine awp_seq ?_
      refine w_condf rfl hq94 ?_
      refine w_exit ?_
      refine k_seqx ?_
      refine k_loopx ?_
      refine k_blkx ?_
      obtain rfl := os hc1
      exact k_cutn ⟨_, rfl⟩ ⟨[], [], _, _, rfl, rfl, ⟨.refl _, trivial⟩, (.refl _)⟩
    · rw [hd95, impl_DatumOK_L1.eq_2] at hc1
      have hq94 := dlt hlt90
      refine awp_seq ?_
      refine w_reg ?_
      refine s_do (o_q (.bool (decide ((s7_60 : Int) < (d_1.length : Int)))) rfl rfl rfl) ?_
      refine w_done ?_
      refine k_seq ?_
      refine awp_seq ?_
      refine w_condt rfl hq94 ?_
      refine w_skip ?_
      refine k_seq ?_
      refine awp_seq ?_
      refine w_blk ?_
      refine awp_seq ?_
      refine w_reg ?_
      refine s_do (o_mov (.int .i64 (s7_60 : Int)) rfl) ?_
      refine s_do (o_iaddrn (enc := encGAtom) rfl rfl hx91) ?_
      refine s_do (o_q (encGAtom x_96) rfl nle rfl) ?_
      refine s_do (o_box (j := 0) (c := (.agg [(.int .i64 0), (.int .i64 0), (.str [])])) rfl trivial rfl rfl) ?_
      refine s_do (o_mov (.int .i64 (s7_60 : Int)) rfl) ?_
      refine s_do0 (o_storebox (v := (.agg [(.int .i64 x_96.Kind), (.int .i64 x_96.N), (.str x_96.T)])) (y' := (.agg [(.int .i64 x_96.Kind), (.int .i64 x_96.N), (.str x_96.T)])) rfl rfl rfl trivial ⟨rfl, nle⟩ ⟨⟨rfl, trivial⟩, ⟨⟨rfl, trivial⟩, ⟨⟨rfl, trivial⟩, trivial⟩⟩⟩ rfl) ?_
      refine w_done ?_
      refine k_seq ?_
      refine awp_seq ?_
      obtain ⟨s37_108, hb2, hc1⟩ := ob hc1
      refine awp_cut ([(0, (.lst 3 (d_1.map encGAtom))), (5, (.lst 3 (d_1.map encGAtom))), (6, (.int .i64 (d_1.length : Int))), (7, (.int .i64 (s7_60 : Int))), (37, (.bool s37_108))], []) ?_ ?_
      · refine w_reg ?_
        refine s_do (o_q (.agg [(.int .i64 x_96.Kind), (.int .i64 x_96.N), (.str x_96.T)]) rfl nle rfl) ?_
        obtain ⟨r_110, er111, hb2⟩ := ob hb2
        refine s_dol (o_call (w_impl_AtomOK _ _ er111) rfl (.refl _) rfl) a_same trivial ?_
        refine s_do (o_q (.bool (!r_110)) rfl trivial rfl) ?_
        refine s_do (o_mov (.bool (!r_110)) rfl) ?_
        rcases oi hb2 with ⟨c112, hb2⟩ | ⟨c112, hb2⟩
        · refine s_lit (s := 15) (b := true) rfl c112 ?_
          refine s_off rfl rfl ?_
          refine s_off rfl rfl ?_
          refine s_off rfl rfl ?_
          refine s_off rfl rfl ?_
          refine s_off rfl rfl ?_
          refine s_off rfl rfl ?_
          refine s_off rfl rfl ?_
          refine s_do (o_q (.bool true) rfl trivial rfl) ?_
          refine s_do (o_mov (.bool true) rfl) ?_
          refine s_off rfl rfl ?_
          refine s_off rfl rfl ?_
          refine s_off rfl rfl ?_
          refine s_offs rfl ?_
          refine s_offs rfl ?_
          refine s_offs rfl ?_
          refine s_offs rfl ?_
          refine s_offs rfl ?_
          refine s_offs rfl ?_
          refine s_offsl rfl trivial ?_
          refine s_offs rfl ?_
          refine s_off rfl rfl ?_
          refine s_do (o_q (.bool true) rfl trivial rfl) ?_
          refine w_done ?_
          obtain rfl := os hb2
          exact ⟨[], [], _, _, rfl, rfl, ⟨.refl _, ⟨.refl _, ⟨.refl _, ⟨.refl _, ⟨.refl _, trivial⟩⟩⟩⟩⟩, (.refl _)⟩
        · refine s_lit (s := 15) (b := false) rfl (bf c112) ?_
          refine s_on rfl ?_
          refine s_do (o_q (.ptr 0 0 0) rfl trivial rfl) ?_
          refine s_on rfl ?_
          refine s_do (o_q (.int .i64 x_96.Kind) rfl nle rfl) ?_
          refine s_on rfl ?_
          refine s_do (o_mov (.lst 3 (d_1.map encGAtom)) rfl) ?_
          refine s_on rfl ?_
          obtain ⟨x_113, ex114, hb2⟩ := ob hb2
          refine s_do (o_iaddr (enc := encGAtom) rfl rfl (idx0 ex114) (idx1 ex114)) ?_
          refine s_on rfl ?_
          refine s_do (o_q (.iptr (encGAtom x_113) 0) rfl trivial rfl) ?_
          refine s_on rfl ?_
          refine s_do (o_q (.int .i64 x_113.Kind) rfl nle rfl) ?_
          refine s_on rfl ?_
          refine s_do (o_q (.bool (x_96.Kind != x_113.Kind)) rfl rfl rfl) ?_
          refine s_do (o_q (.bool (x_96.Kind != x_113.Kind)) rfl trivial rfl) ?_
          refine s_do (o_mov (.bool (x_96.Kind != x_113.Kind)) rfl) ?_
          rcases oi hb2 with ⟨c115, hb2⟩ | ⟨c115, hb2⟩
          · refine s_lit (s := 24) (b := true) rfl c115 ?_
            refine s_off rfl rfl ?_
            refine s_off rfl rfl ?_
            refine s_off rfl rfl ?_
            refine s_offs rfl ?_
            refine s_offs rfl ?_
            refine s_offs rfl ?_
            refine s_offs rfl ?_
            refine s_offs rfl ?_
            refine s_offs rfl ?_
            refine s_offsl rfl trivial ?_
            refine s_offs rfl ?_
            refine s_off rfl rfl ?_
            refine s_do (o_q (.bool true) rfl trivial rfl) ?_
            refine w_done ?_
            obtain rfl := os hb2
            exact ⟨[], [], _, _, rfl, rfl, ⟨.refl _, ⟨.refl _, ⟨.refl _, ⟨.refl _, ⟨.refl _, trivial⟩⟩⟩⟩⟩, (.refl _)⟩
          · refine s_lit (s := 24) (b := false) rfl (bf c115) ?_
            refine s_on rfl ?_
            refine s_do (o_mov (.int .i64 (s7_60 : Int)) rfl) ?_
            refine s_on rfl ?_
            refine s_do (o_q (.bool (decide ((s7_60 : Int) > 0))) rfl rfl rfl) ?_
            refine s_on rfl ?_
            refine s_do (o_mov (.bool (decide ((s7_60 : Int) > 0))) rfl) ?_
            rcases oi hb2 with ⟨c116, hb2⟩ | ⟨c116, hb2⟩
            · refine s_lit (s := 27) (b := true) rfl c116 ?_
              refine s_on rfl ?_
              refine s_do (o_mov (.lst 3 (d_1.map encGAtom)) rfl) ?_
              refine s_on rfl ?_
              refine s_do (o_mov (.int .i64 (s7_60 : Int)) rfl) ?_
              refine s_on rfl ?_
              refine s_do (o_q (.int .i64 (w64 ((s7_60 : Int) - 1))) rfl rfl rfl) ?_
              refine s_on rfl ?_
              obtain ⟨x_117, ex118, hb2⟩ := ob hb2
              refine s_do (o_iaddr (enc := encGAtom) rfl rfl (idx0 ex118) (idx1 ex118)) ?_
              refine s_on rfl ?_
              refine s_do (o_q (encGAtom x_117) rfl nle rfl) ?_
              refine s_on rfl ?_
              refine s_do (o_q (.agg [(.int .i64 x_96.Kind), (.int .i64 x_96.N), (.str x_96.T)]) rfl nle rfl) ?_
              refine s_onl rfl ?_
              obtain ⟨r_119, er120, hb2⟩ := ob hb2
              refine s_dol (o_call (w_impl_compareAtoms _ _ _ er120) rfl (.refl _) rfl) a_same trivial ?_
              refine s_on rfl ?_
              refine s_do (o_q (.bool (decide (r_119 ≥ 0))) rfl rfl rfl) ?_
              refine s_on rfl ?_
              refine s_do (o_q (.bool (decide (r_119 ≥ 0))) rfl trivial rfl) ?_
              refine s_do (o_q (.bool (decide (r_119 ≥ 0))) rfl trivial rfl) ?_
              refine w_done ?_
              obtain rfl := os hb2
              exact ⟨[], [], _, _, rfl, rfl, ⟨.refl _, ⟨.refl _, ⟨.refl _, ⟨.refl _, ⟨.refl _, trivial⟩⟩⟩⟩⟩, (.refl _)⟩
            · refine s_lit (s := 27) (b := false) rfl (bf c116) ?_
              refine s_off rfl rfl ?_
              refine s_off rfl rfl ?_
              refine s_off rfl rfl ?_
              refine s_off rfl rfl ?_
              refine s_off rfl rfl ?_
              refine s_off rfl rfl ?_
              refine s_offl rfl rfl trivial ?_
              refine s_off rfl rfl ?_
              refine s_on rfl ?_
              refine s_do (o_q (.bool false) rfl trivial rfl) ?_
              refine s_do (o_q (.bool false) rfl trivial rfl) ?_
              refine w_done ?_
              obtain rfl := os hb2
              exact ⟨[], [], _, _, rfl, rfl, ⟨.refl _, ⟨.refl _, ⟨.refl _, ⟨.refl _, ⟨.refl _, trivial⟩⟩⟩⟩⟩, (.refl _)⟩
      · rcases oi hc1 with ⟨c121, hc1⟩ | ⟨c121, hc1⟩
        · refine w_condt rfl c121 ?_
          refine awp_seq ?_
          refine w_reg ?_
          refine s_do (o_mov (.bool false) rfl) ?_
          refine w_done ?_
          refine k_seq ?_
          refine w_ret ?_
          obtain rfl := os hc1
          obtain rfl := os hf
          exact r_flat ⟨trivial, trivial⟩ rfl (.refl _)
        · refine w_condf rfl (bf c121) ?_
          refine w_skip ?_
          refine k_blk ?_
          refine k_seq ?_
          refine w_reg ?_
          refine s_do (o_q (.int .i64 (w64 ((s7_60 : Int) + 1))) rfl rfl rfl) ?_
          refine s_do (o_mov (.int .i64 (w64 ((s7_60 : Int) + 1))) rfl) ?_
          refine w_done ?_
          exact k_loopn ⟨(s7_60 + 1), hc1⟩ (mul hlt90) ⟨[], [], _, _, rfl, rfl, ⟨.refl _, ⟨.refl _, ⟨.refl _, ⟨.of_eq (congrArg (AV.int _) (w64_incr hlt90 hl2)), trivial⟩⟩⟩⟩, (.refl _)⟩
  · rintro ⟨_, rfl⟩
    refine awp_seq ?_
    refine w_reg ?_
    refine s_do (o_mov (.lst 3 (d_1.map encGAtom)) rfl) ?_
    refine s_dof (o_len (enc := encGAtom) rfl) fun hl122 => ?_
    refine s_do (o_q (.bool (decide ((d_1.length : Int) ≤ 8))) rfl rfl rfl) ?_
    refine s_do (o_mov (.bool (decide ((d_1.length : Int) ≤ 8))) rfl) ?_
    refine w_done ?_
    refine k_seq ?_
    refine w_ret ?_
    obtain rfl := os hf
    exact r_flat ⟨trivial, trivial⟩ rfl (.refl _)

/- slices.IndexFunc[[]impl.Atom,impl.Atom] -/
def c219 : ACode :=
 (.seq (.reg (.q ⟨(some 4), none, .mov (.c (.int .i64 0))⟩
 .done))
 (.seq (.seq (.reg (.q ⟨(some 6), none, .mov (.t 0)⟩
 (.q ⟨(some 7), none, .len (.t 6)⟩
 (.q ⟨(some 8), none, .mov (.c (.int .i64 0))⟩
 .done))))
 (.block 0 (.loop (.seq (.reg (.q ⟨(some 9), none, .bin .lss (.t 8) (.t 7)⟩
 .done))
 (.seq (.cond (.t 9) .skip
 (.exit 0))
 (.seq (.block 1 (.seq (.reg (.q ⟨(some 10), none, .mov (.t 8)⟩
 (.q ⟨(some 5), none, .mov (.t 10)⟩
 .done)))
 (.seq (.reg (.q ⟨(some 11), none, .mov (.t 1)⟩
 (.q ⟨(some 12), none, .mov (.t 0)⟩
 (.q ⟨(some 13), none, .mov (.t 5)⟩
 (.q ⟨(some 14), none, .iaddr 3 (.t 12) (.t 13)⟩
 (.q ⟨(some 15), none, .load 3 true (.t 14)⟩
 (.q ⟨(some 16), none, .calv (.t 11) [(.t 15)]⟩
 .done)))))))
 (.cond (.t 16) (.seq (.reg (.q ⟨(some 17), none, .mov (.t 5)⟩
 (.q ⟨(some 4), none, .mov (.t 17)⟩
 .done)))
 .ret)
 .skip))))
 (.reg (.q ⟨(some 18), none, .bin .add (.t 8) (.c (.int .i64 1))⟩
 (.q ⟨(some 8), none, .mov (.t 18)⟩
 .done)))))))))
 (.cut (.seq (.reg (.q ⟨(some 4), none, .mov (.c (.int .i64 (-1)))⟩
 .done))
 .ret))))
theorem fc219 : fcomp Try.prog Try.f219 = some (c219.erase, [.mov (.t 4)], 19) := by kernel_rfl
def slices_IndexFunc_impl_Atom_impl_Atom_L1 (f_2 : (GAtom → Option Bool)) : List GAtom → Nat → Option (Fl Int Unit)
  | [], s8_17 =>
    some (.go ())
  | x_31 :: xs, s8_17 =>
    (f_2 x_31).bind fun r_32 =>
    if r_32 then
    some (.ret (s8_17 : Int))
    else
    slices_IndexFunc_impl_Atom_impl_Atom_L1 f_2 xs (s8_17 + 1)

def slices_IndexFunc_impl_Atom_impl_Atom (s_1 : (List GAtom)) (f_2 : (GAtom → Option Bool)) : Option Int :=
    (slices_IndexFunc_impl_Atom_impl_Atom_L1 f_2 s_1 0).bind fun q => (match q with
    | .ret r => some r
    | .go _ =>
    some (-1))
theorem w_slices_IndexFunc_impl_Atom_impl_Atom (s_1 : (List GAtom)) (f_2 : (GAtom → Option Bool)) (r : Int) (hf : slices_IndexFunc_impl_Atom_impl_Atom s_1 f_2 = some r) (kf_f_2 : Nat) (cf_f_2 : List AV) (okf_f_2 : okFn Try.prog kf_f_2 = true) (hcf_f_2 : ∀ h p, closeWs h p cf_f_2 = some cf_f_2) (hrf_f_2 : ∀ f, rens f cf_f_2 = cf_f_2) (hpf_f_2 : ∀ a0 r, f_2 a0 = some r → CallOK Try.prog kf_f_2 .flat ([(encGAtom a0)] ++ cf_f_2) (.bool r)) : CallOK Try.prog 219 .flat [(.lst 3 (s_1.map encGAtom)), (.fn kf_f_2 cf_f_2)] (.int .i64 r) := by
  refine CallOK.of_awp mixed Try.func219 fc219 nle ?_
  rw [argT_eq]
  unfold slices_IndexFunc_impl_Atom_impl_Atom at hf
  unfold c219
  refine (show awp Try.prog false 0 _ (ofL [(0, (.lst 3 (s_1.map encGAtom))), (1, (.fn kf_f_2 cf_f_2))]) [] _ from ?_)
  refine awp_seq ?_
  refine w_reg ?_
  refine s_do (o_mov (.int .i64 0) rfl) ?_
  refine w_done ?_
  refine k_seq ?_
  refine awp_seq ?_
  refine awp_seq ?_
  refine w_reg ?_
  refine s_do (o_mov (.lst 3 (s_1.map encGAtom)) rfl) ?_
  refine s_dof (o_len (enc := encGAtom) rfl) fun hl3 => ?_
  refine s_do (o_mov (.int .i64 0) rfl) ?_
  refine w_done ?_
  refine k_seq ?_
  obtain ⟨p24, hb1, hf⟩ := ob hf
  refine awp_cutx (X := {q : Unit // p24 = .go q}) (fun q => ([], [])) ?_ ?_
  · refine awp_loop (X := {q : Nat // slices_IndexFunc_impl_Atom_impl_Atom_L1 f_2 (s_1.drop q) q = some p24}) (fun q => ([(0, (.lst 3 (s_1.map encGAtom))), (1, (.fn kf_f_2 cf_f_2)), (7, (.int .i64 (s_1.length : Int))), (8, (.int .i64 (q.1 : Int)))], [])) (fun q => s_1.length - q.1) ⟨0, hb1⟩ ⟨[], [], _, _, rfl, rfl, ⟨.refl _, ⟨.of_eq (congrArg (AV.fn _) (hrf_f_2 _)), ⟨.refl _, ⟨.refl _, trivial⟩⟩⟩⟩, (.refl _)⟩ ?_
    rintro ⟨s8_17, hc1⟩
    have hc1 : slices_IndexFunc_impl_Atom_impl_Atom_L1 f_2 (s_1.drop s8_17) s8_17 = some p24 := hc1
    refine (show awp Try.prog false 0 _ (ofL [(0, (.lst 3 (s_1.map encGAtom))), (1, (.fn kf_f_2 cf_f_2)), (7, (.int .i64 (s_1.length : Int))), (8, (.int .i64 (s8_17 : Int)))]) [] _ from ?_)
    rcases dropc s_1 s8_17 with ⟨hie27, hd30⟩ | ⟨hlt25, x_31, hx26, hd30⟩
    · rw [hd30, slices_IndexFunc_impl_Atom_impl_Atom_L1.eq_1] at hc1
      have hq29 := dlf hie27
      refine awp_seq ?_
      refine w_reg ?_
      refine s_do (o_q (.bool (decide ((s8_17 : Int) < (s_1.length : Int)))) rfl rfl rfl) ?_
      refine w_done ?_
      refine k_seq ?_
      refine awp_seq ?_
      refine w_condf rfl hq29 ?_
      refine w_exit ?_
      refine k_seqx ?_
      refine k_loopx ?_
      refine k_blkx ?_
      obtain rfl := os hc1
      exact k_cutn ⟨_, rfl⟩ ⟨[], [], _, _, rfl, rfl, trivial, (.refl _)⟩
    · rw [hd30, slices_IndexFunc_impl_Atom_impl_Atom_L1.eq_2] at hc1
      have hq29 := dlt hlt25
      refine awp_seq ?_
      refine w_reg ?_
      refine s_do (o_q (.bool (decide ((s8_17 : Int) < (s_1.length : Int)))) rfl rfl rfl) ?_
      refine w_done ?_
      refine k_seq ?_
      refine awp_seq ?_
      refine w_condt rfl hq29 ?_
      refine w_skip ?_
      refine k_seq ?_
      refine awp_seq ?_
      refine w_blk ?_
      refine awp_seq ?_
      refine w_reg ?_
      refine s_do (o_mov (.int .i64 (s8_17 : Int)) rfl) ?_
      refine s_do (o_mov (.int .i64 (s8_17 : Int)) rfl) ?_
      refine w_done ?_
      refine k_seq ?_
      refine awp_seq ?_
      refine w_reg ?_
      obtain ⟨r_32, er33, hc1⟩ := ob hc1
      refine s_do (o_mov (.fn kf_f_2 cf_f_2) rfl) ?_
      refine s_do (o_mov (.lst 3 (s_1.map encGAtom)) rfl) ?_
      refine s_do (o_mov (.int .i64 (s8_17 : Int)) rfl) ?_
      refine s_do (o_iaddrn (enc := encGAtom) rfl rfl hx26) ?_
      refine s_do (o_q (encGAtom x_31) rfl nle rfl) ?_
      refine s_do (o_calvp (v := (.bool r_32)) rfl okf_f_2 hcf_f_2 (hpf_f_2 _ _ er33) rfl (.refl _) rfl) ?_
      refine w_done ?_
      refine k_seq ?_
      rcases oi hc1 with ⟨c34, hc1⟩ | ⟨c34, hc1⟩
      · refine w_condt rfl c34 ?_
        refine awp_seq ?_
        refine w_reg ?_
        refine s_do (o_mov (.int .i64 (s8_17 : Int)) rfl) ?_
        refine s_do (o_mov (.int .i64 (s8_17 : Int)) rfl) ?_
        refine w_done ?_
        refine k_seq ?_
        refine w_ret ?_
        obtain rfl := os hc1
        obtain rfl := os hf
        exact r_flat ⟨trivial, trivial⟩ rfl (.refl _)
      · refine w_condf rfl (bf c34) ?_
        refine w_skip ?_
        refine k_blk ?_
        refine k_seq ?_
        refine w_reg ?_
        refine s_do (o_q (.int .i64 (w64 ((s8_17 : Int) + 1))) rfl rfl rfl) ?_
        refine s_do (o_mov (.int .i64 (w64 ((s8_17 : Int) + 1))) rfl) ?_
        refine w_done ?_
        exact k_loopn ⟨(s8_17 + 1), hc1⟩ (mul hlt25) ⟨[], [], _, _, rfl, rfl, ⟨.refl _, ⟨.of_eq (congrArg (AV.fn _) (hrf_f_2 _)), ⟨.refl _, ⟨.of_eq (congrArg (AV.int _) (w64_incr hlt25 hl3)), trivial⟩⟩⟩⟩, (.refl _)⟩
  · rintro ⟨_, rfl⟩
    refine awp_seq ?_
    refine w_reg ?_
    refine s_do (o_mov (.int .i64 (-1)) rfl) ?_
    refine w_done ?_
    refine k_seq ?_
    refine w_ret ?_
    obtain rfl := os hf
    exact r_flat ⟨trivial, trivial⟩ rfl (.refl _)

/- slices.ContainsFunc[[]impl.Atom,impl.Atom] -/
def c186 : ACode :=
 (.seq (.reg (.q ⟨(some 4), none, .mov (.c (.bool false))⟩
 .done))
 (.seq (.reg (.q ⟨(some 5), none, .mov (.t 0)⟩
 (.q ⟨(some 6), none, .mov (.t 1)⟩
 (.q ⟨(some 7), none, .call 219 [(.t 5), (.t 6)]⟩
 (.q ⟨(some 8), none, .bin .geq (.t 7) (.c (.int .i64 0))⟩
 (.q ⟨(some 4), none, .mov (.t 8)⟩
 .done))))))
 .ret))
theorem fc186 : fcomp Try.prog Try.f186 = some (c186.erase, [.mov (.t 4)], 9) := by kernel_rfl
def slices_ContainsFunc_impl_Atom_impl_Atom (s_1 : (List GAtom)) (f_2 : (GAtom → Option Bool)) : Option Bool :=
    (slices_IndexFunc_impl_Atom_impl_Atom s_1 f_2).bind fun r_3 =>
    some (decide (r_3 ≥ 0))
theorem w_slices_ContainsFunc_impl_Atom_impl_Atom (s_1 : (List GAtom)) (f_2 : (GAtom → Option Bool)) (r : Bool) (hf : slices_ContainsFunc_impl_Atom_impl_Atom s_1 f_2 = some r) (kf_f_2 : Nat) (cf_f_2 : List AV) (okf_f_2 : okFn Try.prog kf_f_2 = true) (hcf_f_2 : ∀ h p, closeWs h p cf_f_2 = some cf_f_2) (hrf_f_2 : ∀ f, rens f cf_f_2 = cf_f_2) (hpf_f_2 : ∀ a0 r, f_2 a0 = some r → CallOK Try.prog kf_f_2 .flat ([(encGAtom a0)] ++ cf_f_2) (.bool r)) : CallOK Try.prog 186 .flat [(.lst 3 (s_1.map encGAtom)), (.fn kf_f_2 cf_f_2)] (.bool r) := by
  refine CallOK.of_awp mixed Try.func186 fc186 nle ?_
  rw [argT_eq]
  unfold slices_ContainsFunc_impl_Atom_impl_Atom at hf
  unfold c186
  refine (show awp Try.prog false 0 _ (ofL [(0, (.lst 3 (s_1.map encGAtom))), (1, (.fn kf_f_2 cf_f_2))]) [] _ from ?_)
  refine awp_seq ?_
  refine w_reg ?_
  refine s_do (o_mov (.bool false) rfl) ?_
  refine w_done ?_
  refine k_seq ?_
  refine awp_seq ?_
  refine w_reg ?_
  obtain ⟨r_3, er4, hf⟩ := ob hf
  refine s_do (o_mov (.lst 3 (s_1.map encGAtom)) rfl) ?_
  refine s_do (o_mov (.fn kf_f_2 cf_f_2) rfl) ?_
  refine s_do (o_call (w_slices_IndexFunc_impl_Atom_impl_Atom _ _ _ er4 kf_f_2 cf_f_2 okf_f_2 hcf_f_2 hrf_f_2 hpf_f_2) (cls_cons rfl (cls_cons (cls_fn hcf_f_2) rfl)) (.refl _) rfl) ?_
  refine s_do (o_q (.bool (decide (r_3 ≥ 0))) rfl rfl rfl) ?_
  refine s_do (o_mov (.bool (decide (r_3 ≥ 0))) rfl) ?_
  refine w_done ?_
  refine k_seq ?_
  refine w_ret ?_
  obtain rfl := os hf
  exact r_flat ⟨trivial, trivial⟩ rfl (.refl _)

/- (impl.Column).fits$1 -/
def c187 : ACode :=
 (.seq (.reg (.q ⟨(some 2), none, .box 3 (.t 0)⟩
 (.q ⟨(some 3), none, .mov (.c (.bool false))⟩
 .done)))
 (.seq (.reg (.q ⟨(some 4), none, .faddr 1 (.t 2)⟩
 (.q ⟨(some 5), none, .load 1 false (.t 4)⟩
 (.q ⟨(some 6), none, .faddr 4 (.t 1)⟩
 (.q ⟨(some 7), none, .load 1 false (.t 6)⟩
 (.q ⟨(some 8), none, .faddr 5 (.t 1)⟩
 (.q ⟨(some 9), none, .load 1 false (.t 8)⟩
 (.q ⟨(some 10), none, .call 86 [(.t 5), (.t 7), (.t 9)]⟩
 (.q ⟨(some 11), none, .not (.t 10)⟩
 (.q ⟨(some 3), none, .mov (.t 11)⟩
 .done))))))))))
 .ret))
theorem fc187 : fcomp Try.prog Try.f187 = some (c187.erase, [.mov (.t 3)], 12) := by kernel_rfl
def impl_Column_fits_1 (a_1 : GAtom) (cap_2 : GColumn) : Option Bool :=
    (impl_within a_1.N cap_2.Low cap_2.High).bind fun r_3 =>
    some (!r_3)
theorem w_impl_Column_fits_1 (a_1 : GAtom) (cap_2 : GColumn) (r : Bool) (hf : impl_Column_fits_1 a_1 cap_2 = some r) : CallOK Try.prog 187 .flat [(encGAtom a_1), (.iptr (encGColumn cap_2) 0)] (.bool r) := by
  refine CallOK.of_awp mixed Try.func187 fc187 nle ?_
  rw [argT_eq]
  unfold impl_Column_fits_1 at hf
  unfold c187
  refine (show awp Try.prog false 0 _ (ofL [(0, (encGAtom a_1)), (1, (.iptr (encGColumn cap_2) 0))]) [] _ from ?_)
  refine awp_seq ?_
  refine w_reg ?_
  refine s_do (o_box (j := 0) (c := (.agg [(.int .i64 a_1.Kind), (.int .i64 a_1.N), (.str a_1.T)])) rfl trivial rfl rfl) ?_
  refine s_do (o_mov (.bool false) rfl) ?_
  refine w_done ?_
  refine k_seq ?_
  refine awp_seq ?_
  refine w_reg ?_
  obtain ⟨r_3, er4, hf⟩ := ob hf
  refine s_do (o_q (.ptr 0 0 1) rfl trivial rfl) ?_
  refine s_do (o_q (.int .i64 a_1.N) rfl nle rfl) ?_
  refine s_do (o_q (.iptr (encGColumn cap_2) 4) rfl trivial rfl) ?_
  refine s_do (o_q (.int .i64 cap_2.Low) rfl nle rfl) ?_
  refine s_do (o_q (.iptr (encGColumn cap_2) 5) rfl trivial rfl) ?_
  refine s_do (o_q (.int .i64 cap_2.High) rfl nle rfl) ?_
  refine s_do (o_call (w_impl_within _ _ _ _ er4) rfl (.refl _) rfl) ?_
  refine s_do (o_q (.bool (!r_3)) rfl trivial rfl) ?_
  refine s_do (o_mov (.bool (!r_3)) rfl) ?_
  refine w_done ?_
  refine k_seq ?_
  refine w_ret ?_
  obtain rfl := os hf
  exact r_flat ⟨trivial, trivial⟩ rfl (.refl _)

/- (impl.Column).fits -/
def c132 : ACode :=
 (.seq (.reg (.q ⟨(some 2), none, .box 8 (.t 0)⟩
 (.q ⟨(some 4), none, .mov (.c (.int .i64 0))⟩
 .done)))
 (.seq (.block 0 (.seq (.reg (.q ⟨(some 6), none, .mov (.t 1)⟩
 (.q ⟨(some 7), none, .len (.t 6)⟩
 (.q ⟨(some 8), none, .bin .gtr (.t 7) (.c (.int .i64 0))⟩
 (.q ⟨(some 9), none, .mov (.t 8)⟩
 (.q ⟨(some 10), (some (9, true)), .mov (.t 1)⟩
 (.q ⟨(some 11), (some (9, true)), .iaddr 3 (.t 10) (.c (.int .i64 0))⟩
 (.q ⟨(some 12), (some (9, true)), .faddr 0 (.t 11)⟩
 (.q ⟨(some 13), (some (9, true)), .load 1 false (.t 12)⟩
 (.q ⟨(some 14), (some (9, true)), .faddr 1 (.t 2)⟩
 (.q ⟨(some 15), (some (9, true)), .load 1 false (.t 14)⟩
 (.q ⟨(some 16), (some (9, true)), .bin .neq (.t 13) (.t 15)⟩
 (.q ⟨(some 17), none, .pick (.t 9) (.t 16) (.c (.bool false))⟩
 (.q ⟨(some 5), none, .mov (.t 17)⟩
 .done))))))))))))))
 (.cut (.cond (.t 5) (.seq (.reg (.q ⟨(some 4), none, .mov (.c (.int .i64 9))⟩
 .done))
 .ret)
 (.seq (.reg (.q ⟨(some 19), none, .mov (.t 1)⟩
 (.q ⟨(some 20), none, .len (.t 19)⟩
 (.q ⟨(some 21), none, .faddr 2 (.t 2)⟩
 (.q ⟨(some 22), none, .load 1 false (.t 21)⟩
 (.q ⟨(some 23), none, .faddr 3 (.t 2)⟩
 (.q ⟨(some 24), none, .load 1 false (.t 23)⟩
 (.q ⟨(some 25), none, .call 86 [(.t 20), (.t 22), (.t 24)]⟩
 (.q ⟨(some 26), none, .not (.t 25)⟩
 (.q ⟨(some 18), none, .mov (.t 26)⟩
 .done))))))))))
 (.cond (.t 18) (.seq (.reg (.q ⟨(some 4), none, .mov (.c (.int .i64 6))⟩
 .done))
 .ret)
 (.seq (.reg (.q ⟨(some 28), none, .faddr 1 (.t 2)⟩
 (.q ⟨(some 29), none, .load 1 false (.t 28)⟩
 (.q ⟨(some 30), none, .bin .eql (.t 29) (.c (.int .i64 1))⟩
 (.q ⟨(some 31), none, .mov (.t 30)⟩
 (.q ⟨(some 32), (some (31, true)), .mov (.t 1)⟩
 (.q ⟨(some 33), (some (31, true)), .mkfn 187 [(.t 2)]⟩
 (.q ⟨(some 34), (some (31, true)), .call 186 [(.t 32), (.t 33)]⟩
 (.q ⟨(some 35), none, .pick (.t 31) (.t 34) (.c (.bool false))⟩
 (.q ⟨(some 27), none, .mov (.t 35)⟩
 .done))))))))))
 (.cut (.cond (.t 27) (.seq (.reg (.q ⟨(some 4), none, .mov (.c (.int .i64 4))⟩
 .done))
 .ret)
 .skip)))))))))
 (.seq (.reg (.q ⟨(some 4), none, .mov (.c (.int .i64 0))⟩
 .done))
 .ret)))
theorem fc132 : fcomp Try.prog Try.f132 = some (c132.erase, [.mov (.t 4)], 36) := by kernel_rfl
def impl_Column_fits (c_1 : GColumn) (d_2 : (List GAtom)) : Option Int :=
    ((if (decide ((d_2.length : Int) > 0)) then
    (idx d_2 0).bind fun x_11 =>
    some (x_11.Kind != c_1.Kind)
    else
    some false : Option Bool)).bind fun s5_7 =>
    if s5_7 then
    some 9
    else
    (impl_within (d_2.length : Int) c_1.Min c_1.Max).bind fun r_15 =>
    if (!r_15) then
    some 6
    else
    ((if (c_1.Kind == 1) then
    (slices_ContainsFunc_impl_Atom_impl_Atom d_2 (fun a0 => impl_Column_fits_1 a0 c_1)).bind fun r_24 =>
    some r_24
    else
    some false : Option Bool)).bind fun s27_21 =>
    if s27_21 then
    some 4
    else
    some 0
theorem w_impl_Column_fits (c_1 : GColumn) (d_2 : (List GAtom)) (r : Int) (hf : impl_Column_fits c_1 d_2 = some r) : CallOK Try.prog 132 .flat [(encGColumn c_1), (.lst 3 (d_2.map encGAtom))] (.int .i64 r) := by
  refine CallOK.of_awp mixed Try.func132 fc132 nle ?_
  rw [argT_eq]
  unfold impl_Column_fits at hf
  unfold c132
  refine (show awp Try.prog false 0 _ (ofL [(0, (encGColumn c_1)), (1, (.lst 3 (d_2.map encGAtom)))]) [] _ from ?_)
  refine awp_seq ?_
  refine w_reg ?_
  refine s_do (o_box (j := 0) (c := (.agg [(.str c_1.Name), (.int .i64 c_1.Kind), (.int .i64 c_1.Min), (.int .i64 c_1.Max), (.int .i64 c_1.Low), (.int .i64 c_1.High), (.str c_1.Ref), (.bool c_1.Strong)])) rfl trivial rfl rfl) ?_
  refine s_do (o_mov (.int .i64 0) rfl) ?_
  refine w_done ?_
  refine k_seq ?_
  refine awp_seq ?_
  refine w_blk ?_
  refine awp_seq ?_
  obtain ⟨s5_7, hb1, hf⟩ := ob hf
  refine awp_cut ([(1, (.lst 3 (d_2.map encGAtom))), (2, (.ptr 0 0 0)), (5, (.bool s5_7))], [.box 8 (.agg [(.str c_1.Name), (.int .i64 c_1.Kind), (.int .i64 c_1.Min), (.int .i64 c_1.Max), (.int .i64 c_1.Low), (.int .i64 c_1.High), (.str c_1.Ref), (.bool c_1.Strong)])]) ?_ ?_
  · refine w_reg ?_
    refine s_do (o_mov (.lst 3 (d_2.map encGAtom)) rfl) ?_
    refine s_dof (o_len (enc := encGAtom) rfl) fun hl9 => ?_
    refine s_do (o_q (.bool (decide ((d_2.length : Int) > 0))) rfl rfl rfl) ?_
    refine s_do (o_mov (.bool (decide ((d_2.length : Int) > 0))) rfl) ?_
    rcases oi hb1 with ⟨c10, hb1⟩ | ⟨c10, hb1⟩
    · refine s_lit (s := 9) (b := true) rfl c10 ?_
      refine s_on rfl ?_
      refine s_do (o_mov (.lst 3 (d_2.map encGAtom)) rfl) ?_
      refine s_on rfl ?_
      obtain ⟨x_11, ex12, hb1⟩ := ob hb1
      refine s_do (o_iaddr (enc := encGAtom) rfl rfl (idx0 ex12) (idx1 ex12)) ?_
      refine s_on rfl ?_
      refine s_do (o_q (.iptr (encGAtom x_11) 0) rfl trivial rfl) ?_
      refine s_on rfl ?_
      refine s_do (o_q (.int .i64 x_11.Kind) rfl nle rfl) ?_
      refine s_on rfl ?_
      refine s_do (o_q (.ptr 0 0 1) rfl trivial rfl) ?_
      refine s_on rfl ?_
      refine s_do (o_q (.int .i64 c_1.Kind) rfl nle rfl) ?_
      refine s_on rfl ?_
      refine s_do (o_q (.bool (x_11.Kind != c_1.Kind)) rfl rfl rfl) ?_
      refine s_do (o_q (.bool (x_11.Kind != c_1.Kind)) rfl trivial rfl) ?_
      refine s_do (o_mov (.bool (x_11.Kind != c_1.Kind)) rfl) ?_
      refine w_done ?_
      obtain rfl := os hb1
      exact ⟨[], [0], _, _, rfl, rfl, ⟨.refl _, ⟨.refl _, ⟨.refl _, trivial⟩⟩⟩, (.refl _)⟩
    · refine s_lit (s := 9) (b := false) rfl (bf c10) ?_
      refine s_off rfl rfl ?_
      refine s_off rfl rfl ?_
      refine s_off rfl rfl ?_
      refine s_off rfl rfl ?_
      refine s_off rfl rfl ?_
      refine s_off rfl rfl ?_
      refine s_off rfl rfl ?_
      refine s_do (o_q (.bool false) rfl trivial rfl) ?_
      refine s_do (o_mov (.bool false) rfl) ?_
      refine w_done ?_
      obtain rfl := os hb1
      exact ⟨[], [0], _, _, rfl, rfl, ⟨.refl _, ⟨.refl _, ⟨.refl _, trivial⟩⟩⟩, (.refl _)⟩
  · rcases oi hf with ⟨c13, hf⟩ | ⟨c13, hf⟩
    · refine w_condt rfl c13 ?_
      refine awp_seq ?_
      refine w_reg ?_
      refine s_do (o_mov (.int .i64 9) rfl) ?_
      refine w_done ?_
      refine k_seq ?_
      refine w_ret ?_
      obtain rfl := os hf
      exact r_flat ⟨trivial, trivial⟩ rfl (.refl _)
    · refine w_condf rfl (bf c13) ?_
      refine awp_seq ?_
      refine w_reg ?_
      obtain ⟨r_15, er16, hf⟩ := ob hf
      refine s_do (o_mov (.lst 3 (d_2.map encGAtom)) rfl) ?_
      refine s_dof (o_len (enc := encGAtom) rfl) fun hl14 => ?_
      refine s_do (o_q (.ptr 0 0 2) rfl trivial rfl) ?_
      refine s_do (o_q (.int .i64 c_1.Min) rfl nle rfl) ?_
      refine s_do (o_q (.ptr 0 0 3) rfl trivial rfl) ?_
      refine s_do (o_q (.int .i64 c_1.Max) rfl nle rfl) ?_
      refine s_do (o_call (w_impl_within _ _ _ _ er16) rfl (.refl _) rfl) ?_
      refine s_do (o_q (.bool (!r_15)) rfl trivial rfl) ?_
      refine s_do (o_mov (.bool (!r_15)) rfl) ?_
      refine w_done ?_
      refine k_seq ?_
      rcases oi hf with ⟨c17, hf⟩ | ⟨c17, hf⟩
      · refine w_condt rfl c17 ?_
        refine awp_seq ?_
        refine w_reg ?_
        refine s_do (o_mov (.int .i64 6) rfl) ?_
        refine w_done ?_
        refine k_seq ?_
        refine w_ret ?_
        obtain rfl := os hf
        exact r_flat ⟨trivial, trivial⟩ rfl (.refl _)
      · refine w_condf rfl (bf c17) ?_
        refine awp_seq ?_
        obtain ⟨s27_21, hb1, hf⟩ := ob hf
        refine awp_cut ([(27, (.bool s27_21))], []) ?_ ?_
        · refine w_reg ?_
          rcases oi hb1 with ⟨c23, hb1⟩ | ⟨c23, hb1⟩
          · obtain ⟨r_24, er25, hb1⟩ := ob hb1
            refine s_do (o_q (.ptr 0 0 1) rfl trivial rfl) ?_
            refine s_do (o_q (.int .i64 c_1.Kind) rfl nle rfl) ?_
            refine s_do (o_q (.bool (c_1.Kind == 1)) rfl rfl rfl) ?_
            refine s_do (o_mov (.bool (c_1.Kind == 1)) rfl) ?_
            refine s_lit (s := 31) (b := true) rfl c23 ?_
            refine s_on rfl ?_
            refine s_do (o_mov (.lst 3 (d_2.map encGAtom)) rfl) ?_
            refine s_on rfl ?_
            refine s_do (o_q (.fn 187 [(.ptr 0 0 0)]) rfl trivial rfl) ?_
            refine s_on rfl ?_
            refine s_do (o_call (w_slices_ContainsFunc_impl_Atom_impl_Atom _ _ _ er25 187 [(.iptr (encGColumn c_1) 0)] (by kernel_rfl) (fun _ _ => rfl) (fun _ => rfl) (fun a0 r h => w_impl_Column_fits_1 a0 c_1 r h)) rfl (.refl _) rfl) ?_
            refine s_do (o_q (.bool r_24) rfl trivial rfl) ?_
            refine s_do (o_mov (.bool r_24) rfl) ?_
            refine w_done ?_
            obtain rfl := os hb1
            exact ⟨[], [], _, _, rfl, rfl, ⟨.refl _, trivial⟩, (.refl _)⟩
          · refine s_do (o_q (.ptr 0 0 1) rfl trivial rfl) ?_
            refine s_do (o_q (.int .i64 c_1.Kind) rfl nle rfl) ?_
            refine s_do (o_q (.bool (c_1.Kind == 1)) rfl rfl rfl) ?_
            refine s_do (o_mov (.bool (c_1.Kind == 1)) rfl) ?_
            refine s_lit (s := 31) (b := false) rfl (bf c23) ?_
            refine s_off rfl rfl ?_
            refine s_off rfl rfl ?_
            refine s_off rfl rfl ?_
            refine s_do (o_q (.bool false) rfl trivial rfl) ?_
            refine s_do (o_mov (.bool false) rfl) ?_
            refine w_done ?_
            obtain rfl := os hb1
            exact ⟨[], [], _, _, rfl, rfl, ⟨.refl _, trivial⟩, (.refl _)⟩
        · rcases oi hf with ⟨c26, hf⟩ | ⟨c26, hf⟩
          · refine w_condt rfl c26 ?_
            refine awp_seq ?_
            refine w_reg ?_
            refine s_do (o_mov (.int .i64 4) rfl) ?_
            refine w_done ?_
            refine k_seq ?_
            refine w_ret ?_
            obtain rfl := os hf
            exact r_flat ⟨trivial, trivial⟩ rfl (.refl _)
          · refine w_condf rfl (bf c26) ?_
            refine w_skip ?_
            refine k_blk ?_
            refine k_seq ?_
            refine awp_seq ?_
            refine w_reg ?_
            refine s_do (o_mov (.int .i64 0) rfl) ?_
            refine w_done ?_
            refine k_seq ?_
            refine w_ret ?_
            obtain rfl := os hf
            exact r_flat ⟨trivial, trivial⟩ rfl (.refl _)

/- impl.Fits -/
def c55 : ACode :=
 (.seq (.reg (.q ⟨(some 2), none, .box 8 (.t 0)⟩
 (.q ⟨(some 4), none, .mov (.c (.int .i64 0))⟩
 (.q ⟨(some 5), none, .mov (.c (.int .i64 0))⟩
 .done))))
 (.seq (.block 0 (.seq (.reg (.q ⟨(some 7), none, .mov (.t 1)⟩
 (.q ⟨(some 8), none, .call 130 [(.t 7)]⟩
 (.q ⟨(some 9), none, .not (.t 8)⟩
 (.q ⟨(some 6), none, .mov (.t 9)⟩
 .done)))))
 (.cond (.t 6) (.seq (.reg (.q ⟨(some 4), none, .mov (.c (.int .i64 0))⟩
 (.q ⟨(some 5), none, .mov (.c (.int .i64 2))⟩
 .done)))
 .ret)
 (.seq (.reg (.q ⟨(some 11), none, .load 8 true (.t 2)⟩
 (.q ⟨(some 12), none, .call 60 [(.t 11)]⟩
 (.q ⟨(some 13), none, .not (.t 12)⟩
 (.q ⟨(some 14), none, .mov (.t 13)⟩
 (.q ⟨(some 15), (some (14, false)), .mov (.t 1)⟩
 (.q ⟨(some 16), (some (14, false)), .call 131 [(.t 15)]⟩
 (.q ⟨(some 17), (some (14, false)), .not (.t 16)⟩
 (.q ⟨(some 18), none, .pick (.t 14) (.c (.bool true)) (.t 17)⟩
 (.q ⟨(some 10), none, .mov (.t 18)⟩
 .done))))))))))
 (.cut (.cond (.t 10) (.seq (.reg (.q ⟨(some 4), none, .mov (.c (.int .i64 0))⟩
 (.q ⟨(some 5), none, .mov (.c (.int .i64 1))⟩
 .done)))
 .ret)
 .skip))))))
 (.seq (.reg (.q ⟨(some 19), none, .load 8 true (.t 2)⟩
 (.q ⟨(some 20), none, .mov (.t 1)⟩
 (.q ⟨(some 21), none, .call 132 [(.t 19), (.t 20)]⟩
 (.q ⟨(some 4), none, .mov (.t 21)⟩
 (.q ⟨(some 5), none, .mov (.c (.int .i64 0))⟩
 .done))))))
 .ret)))
theorem fc55 : fcomp Try.prog Try.f55 = some (c55.erase, [.mov (.t 4), .mov (.t 5)], 22) := by kernel_rfl
def impl_Fits (c_1 : GColumn) (d_2 : (List GAtom)) : Option (Int × Int) :=
    (impl_isList_impl_Atom d_2).bind fun r_3 =>
    if (!r_3) then
    some (0, 2)
    else
    (((impl_ColumnOK c_1).bind fun r_13 =>
    if (!r_13) then
    some true
    else
    (impl_DatumOK d_2).bind fun r_16 =>
    some (!r_16) : Option Bool)).bind fun s10_11 =>
    if s10_11 then
    some (0, 1)
    else
    (impl_Column_fits c_1 d_2).bind fun r_19 =>
    some (r_19, 0)
theorem w_impl_Fits (c_1 : GColumn) (d_2 : (List GAtom)) (r : (Int × Int)) (hf : impl_Fits c_1 d_2 = some r) : CallOK Try.prog 55 .flat [(encGColumn c_1), (.lst 3 (d_2.map encGAtom))] (.tup [(.int .i64 r.1), (.int .i64 r.2)]) := by
  refine CallOK.of_awp mixed Try.func55 fc55 nle ?_
  rw [argT_eq]
  unfold impl_Fits at hf
  unfold c55
  refine (show awp Try.prog false 0 _ (ofL [(0, (encGColumn c_1)), (1, (.lst 3 (d_2.map encGAtom)))]) [] _ from ?_)
  refine awp_seq ?_
  refine w_reg ?_
  refine s_do (o_box (j := 0) (c := (.agg [(.str c_1.Name), (.int .i64 c_1.Kind), (.int .i64 c_1.Min), (.int .i64 c_1.Max), (.int .i64 c_1.Low), (.int .i64 c_1.High), (.str c_1.Ref), (.bool c_1.Strong)])) rfl trivial rfl rfl) ?_
  refine s_do (o_mov (.int .i64 0) rfl) ?_
  refine s_do (o_mov (.int .i64 0) rfl) ?_
  refine w_done ?_
  refine k_seq ?_
  refine awp_seq ?_
  refine w_blk ?_
  refine awp_seq ?_
  refine w_reg ?_
  obtain ⟨r_3, er4, hf⟩ := ob hf
  refine s_do (o_mov (.lst 3 (d_2.map encGAtom)) rfl) ?_
  refine s_do (o_call (w_impl_isList_impl_Atom _ _ er4) rfl (.refl _) rfl) ?_
  refine s_do (o_q (.bool (!r_3)) rfl trivial rfl) ?_
  refine s_do (o_mov (.bool (!r_3)) rfl) ?_
  refine w_done ?_
  refine k_seq ?_
  rcases oi hf with ⟨c5, hf⟩ | ⟨c5, hf⟩
  · refine w_condt rfl c5 ?_
    refine awp_seq ?_
    refine w_reg ?_
    refine s_do (o_mov (.int .i64 0) rfl) ?_
    refine s_do (o_mov (.int .i64 2) rfl) ?_
    refine w_done ?_
    refine k_seq ?_
    refine w_ret ?_
    obtain rfl := os hf
    exact r_flat ⟨trivial, ⟨trivial, trivial⟩⟩ rfl (.refl _)
  · refine w_condf rfl (bf c5) ?_
    refine awp_seq ?_
    obtain ⟨s10_11, hb1, hf⟩ := ob hf
    refine awp_cut ([(1, (.lst 3 (d_2.map encGAtom))), (2, (.ptr 0 0 0)), (10, (.bool s10_11))], [.box 8 (.agg [(.str c_1.Name), (.int .i64 c_1.Kind), (.int .i64 c_1.Min), (.int .i64 c_1.Max), (.int .i64 c_1.Low), (.int .i64 c_1.High), (.str c_1.Ref), (.bool c_1.Strong)])]) ?_ ?_
    · refine w_reg ?_
      obtain ⟨r_13, er14, hb1⟩ := ob hb1
      rcases oi hb1 with ⟨c15, hb1⟩ | ⟨c15, hb1⟩
      · refine s_do (o_q (.agg [(.str c_1.Name), (.int .i64 c_1.Kind), (.int .i64 c_1.Min), (.int .i64 c_1.Max), (.int .i64 c_1.Low), (.int .i64 c_1.High), (.str c_1.Ref), (.bool c_1.Strong)]) rfl nle rfl) ?_
        refine s_do (o_call (w_impl_ColumnOK _ _ er14) rfl (.refl _) rfl) ?_
        refine s_do (o_q (.bool (!r_13)) rfl trivial rfl) ?_
        refine s_do (o_mov (.bool (!r_13)) rfl) ?_
        refine s_lit (s := 14) (b := true) rfl c15 ?_
        refine s_off rfl rfl ?_
        refine s_off rfl rfl ?_
        refine s_off rfl rfl ?_
        refine s_do (o_q (.bool true) rfl trivial rfl) ?_
        refine s_do (o_mov (.bool true) rfl) ?_
        refine w_done ?_
        obtain rfl := os hb1
        exact ⟨[], [0], _, _, rfl, rfl, ⟨.refl _, ⟨.refl _, ⟨.refl _, trivial⟩⟩⟩, (.refl _)⟩
      · obtain ⟨r_16, er17, hb1⟩ := ob hb1
        refine s_do (o_q (.agg [(.str c_1.Name), (.int .i64 c_1.Kind), (.int .i64 c_1.Min), (.int .i64 c_1.Max), (.int .i64 c_1.Low), (.int .i64 c_1.High), (.str c_1.Ref), (.bool c_1.Strong)]) rfl nle rfl) ?_
        refine s_do (o_call (w_impl_ColumnOK _ _ er14) rfl (.refl _) rfl) ?_
        refine s_do (o_q (.bool (!r_13)) rfl trivial rfl) ?_
        refine s_do (o_mov (.bool (!r_13)) rfl) ?_
        refine s_lit (s := 14) (b := false) rfl (bf c15) ?_
        refine s_on rfl ?_
        refine s_do (o_mov (.lst 3 (d_2.map encGAtom)) rfl) ?_
        refine s_on rfl ?_
        refine s_do (o_call (w_impl_DatumOK _ _ er17) rfl (.refl _) rfl) ?_
        refine s_on rfl ?_
        refine s_do (o_q (.bool (!r_16)) rfl trivial rfl) ?_
        refine s_do (o_q (.bool (!r_16)) rfl trivial rfl) ?_
        refine s_do (o_mov (.bool (!r_16)) rfl) ?_
        refine w_done ?_
        obtain rfl := os hb1
        exact ⟨[], [0], _, _, rfl, rfl, ⟨.refl _, ⟨.refl _, ⟨.refl _, trivial⟩⟩⟩, (.refl _)⟩
    · rcases oi hf with ⟨c18, hf⟩ | ⟨c18, hf⟩
      · refine w_condt rfl c18 ?_
        refine awp_seq ?_
        refine w_reg ?_
        refine s_do (o_mov (.int .i64 0) rfl) ?_
        refine s_do (o_mov (.int .i64 1) rfl) ?_
        refine w_done ?_
        refine k_seq ?_
        refine w_ret ?_
        obtain rfl := os hf
        exact r_flat ⟨trivial, ⟨trivial, trivial⟩⟩ rfl (.refl _)
      · refine w_condf rfl (bf c18) ?_
        refine w_skip ?_
        refine k_blk ?_
        refine k_seq ?_
        refine awp_seq ?_
        refine w_reg ?_
        obtain ⟨r_19, er20, hf⟩ := ob hf
        refine s_do (o_q (.agg [(.str c_1.Name), (.int .i64 c_1.Kind), (.int .i64 c_1.Min), (.int .i64 c_1.Max), (.int .i64 c_1.Low), (.int .i64 c_1.High), (.str c_1.Ref), (.bool c_1.Strong)]) rfl nle rfl) ?_
        refine s_do (o_mov (.lst 3 (d_2.map encGAtom)) rfl) ?_
        refine s_do (o_call (w_impl_Column_fits _ _ _ er20) rfl (.refl _) rfl) ?_
        refine s_do (o_mov (.int .i64 r_19) rfl) ?_
        refine s_do (o_mov (.int .i64 0) rfl) ?_
        refine w_done ?_
        refine k_seq ?_
        refine w_ret ?_
        obtain rfl := os hf
        exact r_flat ⟨trivial, ⟨trivial, trivial⟩⟩ rfl (.refl _)

/- laws.at -/
def c57 : ACode :=
 (.seq (.reg (.q ⟨(some 6), none, .mov (.c (.int .i64 0))⟩
 .done))
 (.seq (.seq (.reg (.q ⟨(some 7), none, .mov (.t 2)⟩
 (.q ⟨(some 8), none, .bin .leq (.t 7) (.c (.int .i64 1))⟩
 .done)))
 (.cond (.t 8) (.seq (.reg (.q ⟨(some 6), none, .mov (.c (.int .i64 0))⟩
 .done))
 .ret)
 .skip))
 (.seq (.seq (.reg (.q ⟨(some 9), none, .mov (.t 0)⟩
 (.q ⟨(some 10), none, .len (.t 9)⟩
 (.q ⟨(some 11), none, .bin .eql (.t 10) (.c (.int .i64 0))⟩
 .done))))
 (.cond (.t 11) (.seq (.reg (.q ⟨(some 12), none, .mov (.t 1)⟩
 (.q ⟨(some 13), none, .bin .mul (.t 12) (.c (.int .i64 7))⟩
 (.q ⟨(some 14), none, .mov (.t 2)⟩
 (.q ⟨(some 15), none, .bin .rem (.t 13) (.t 14)⟩
 (.q ⟨(some 6), none, .mov (.t 15)⟩
 .done))))))
 .ret)
 .skip))
 (.seq (.reg (.q ⟨(some 16), none, .mov (.t 0)⟩
 (.q ⟨(some 17), none, .mov (.t 1)⟩
 (.q ⟨(some 18), none, .mov (.t 0)⟩
 (.q ⟨(some 19), none, .len (.t 18)⟩
 (.q ⟨(some 20), none, .bin .rem (.t 17) (.t 19)⟩
 (.q ⟨(some 21), none, .iaddr 1 (.t 16) (.t 20)⟩
 (.q ⟨(some 22), none, .load 1 false (.t 21)⟩
 (.q ⟨(some 23), none, .convI .i64 (.t 22)⟩
 (.q ⟨(some 24), none, .bin .mul (.t 23) (.c (.int .i64 31))⟩
 (.q ⟨(some 25), none, .mov (.t 0)⟩
 (.q ⟨(some 26), none, .mov (.t 1)⟩
 (.q ⟨(some 27), none, .bin .add (.t 26) (.c (.int .i64 1))⟩
 (.q ⟨(some 28), none, .mov (.t 0)⟩
 (.q ⟨(some 29), none, .len (.t 28)⟩
 (.q ⟨(some 30), none, .bin .rem (.t 27) (.t 29)⟩
 (.q ⟨(some 31), none, .iaddr 1 (.t 25) (.t 30)⟩
 (.q ⟨(some 32), none, .load 1 false (.t 31)⟩
 (.q ⟨(some 33), none, .convI .i64 (.t 32)⟩
 (.q ⟨(some 34), none, .bin .add (.t 24) (.t 33)⟩
 (.q ⟨(some 35), none, .mov (.t 1)⟩
 (.q ⟨(some 36), none, .mov (.t 0)⟩
 (.q ⟨(some 37), none, .len (.t 36)⟩
 (.q ⟨(some 38), none, .bin .quo (.t 35) (.t 37)⟩
 (.q ⟨(some 39), none, .bin .add (.t 34) (.t 38)⟩
 (.q ⟨(some 40), none, .mov (.t 2)⟩
 (.q ⟨(some 41), none, .bin .rem (.t 39) (.t 40)⟩
 (.q ⟨(some 6), none, .mov (.t 41)⟩
 .done))))))))))))))))))))))))))))
 .ret))))
theorem fc57 : fcomp Try.prog Try.f57 = some (c57.erase, [.mov (.t 6)], 42) := by kernel_rfl
def laws_at (more_1 : (List Int)) (i_2 : Int) (n_3 : Int) : Option Int :=
    if (decide (n_3 ≤ 1)) then
    some 0
    else
    if ((more_1.length : Int) == 0) then
    if n_3 ≠ 0 then
    some ((w64 (i_2 * 7)).tmod n_3)
    else none
    else
    if (more_1.length : Int) ≠ 0 then
    (idx more_1 (i_2.tmod (more_1.length : Int))).bind fun x_10 =>
    if (more_1.length : Int) ≠ 0 then
    (idx more_1 ((w64 (i_2 + 1)).tmod (more_1.length : Int))).bind fun x_14 =>
    if (more_1.length : Int) ≠ 0 then
    if n_3 ≠ 0 then
    some ((w64 ((w64 ((w64 ((w64 x_10) * 31)) + (w64 x_14))) + (w64 (i_2.tdiv (more_1.length : Int))))).tmod n_3)
    else none
    else none
    else none
    else none
theorem w_laws_at (more_1 : (List Int)) (i_2 : Int) (n_3 : Int) (r : Int) (hf : laws_at more_1 i_2 n_3 = some r) : CallOK Try.prog 57 .flat [(.lst 1 (more_1.map enc_u8)), (.int .i64 i_2), (.int .i64 n_3)] (.int .i64 r) := by
  refine CallOK.of_awp mixed Try.func57 fc57 nle ?_
  rw [argT_eq]
  unfold laws_at at hf
  unfold c57
  refine (show awp Try.prog false 0 _ (ofL [(0, (.lst 1 (more_1.map enc_u8))), (1, (.int .i64 i_2)), (2, (.int .i64 n_3))]) [] _ from ?_)
  refine awp_seq ?_
  refine w_reg ?_
  refine s_do (o_mov (.int .i64 0) rfl) ?_
  refine w_done ?_
  refine k_seq ?_
  refine awp_seq ?_
  refine awp_seq ?_
  refine w_reg ?_
  refine s_do (o_mov (.int .i64 n_3) rfl) ?_
  refine s_do (o_q (.bool (decide (n_3 ≤ 1))) rfl rfl rfl) ?_
  refine w_done ?_
  refine k_seq ?_
  rcases oi hf with ⟨c4, hf⟩ | ⟨c4, hf⟩
  · refine w_condt rfl c4 ?_
    refine awp_seq ?_
    refine w_reg ?_
    refine s_do (o_mov (.int .i64 0) rfl) ?_
    refine w_done ?_
    refine k_seq ?_
    refine w_ret ?_
    obtain rfl := os hf
    exact r_flat ⟨trivial, trivial⟩ rfl (.refl _)
  · refine w_condf rfl (bf c4) ?_
    refine w_skip ?_
    refine k_seq ?_
    refine awp_seq ?_
    refine awp_seq ?_
    refine w_reg ?_
    refine s_do (o_mov (.lst 1 (more_1.map enc_u8)) rfl) ?_
    refine s_dof (o_len (enc := enc_u8) rfl) fun hl5 => ?_
    refine s_do (o_q (.bool ((more_1.length : Int) == 0)) rfl rfl rfl) ?_
    refine w_done ?_
    refine k_seq ?_
    rcases oi hf with ⟨c6, hf⟩ | ⟨c6, hf⟩
    · refine w_condt rfl c6 ?_
      refine awp_seq ?_
      refine w_reg ?_
      obtain ⟨g7, hf⟩ := og hf
      refine s_do (o_mov (.int .i64 i_2) rfl) ?_
      refine s_do (o_q (.int .i64 (w64 (i_2 * 7))) rfl rfl rfl) ?_
      refine s_do (o_mov (.int .i64 n_3) rfl) ?_
      refine s_do (o_q (.int .i64 ((w64 (i_2 * 7)).tmod n_3)) rfl ⟨rfl, g7⟩ rfl) ?_
      refine s_do (o_mov (.int .i64 ((w64 (i_2 * 7)).tmod n_3)) rfl) ?_
      refine w_done ?_
      refine k_seq ?_
      refine w_ret ?_
      obtain rfl := os hf
      exact r_flat ⟨trivial, trivial⟩ rfl (.refl _)
    · refine w_condf rfl (bf c6) ?_
      refine w_skip ?_
      refine k_seq ?_
      refine awp_seq ?_
      refine w_reg ?_
      refine s_do (o_mov (.lst 1 (more_1.map enc_u8)) rfl) ?_
      refine s_do (o_mov (.int .i64 i_2) rfl) ?_
      refine s_do (o_mov (.lst 1 (more_1.map enc_u8)) rfl) ?_
      refine s_dof (o_len (enc := enc_u8) rfl) fun hl8 => ?_
      obtain ⟨g9, hf⟩ := og hf
      refine s_do (o_q (.int .i64 (i_2.tmod (more_1.length : Int))) rfl ⟨rfl, g9⟩ rfl) ?_
      obtain ⟨x_10, ex11, hf⟩ := ob hf
      refine s_do (o_iaddr (enc := enc_u8) rfl rfl (idx0 ex11) (idx1 ex11)) ?_
      refine s_do (o_q (.int .u8 x_10) rfl ⟨rfl, rfl⟩ rfl) ?_
      refine s_do (o_q (.int .i64 (w64 x_10)) rfl trivial rfl) ?_
      refine s_do (o_q (.int .i64 (w64 ((w64 x_10) * 31))) rfl rfl rfl) ?_
      refine s_do (o_mov (.lst 1 (more_1.map enc_u8)) rfl) ?_
      refine s_do (o_mov (.int .i64 i_2) rfl) ?_
      refine s_do (o_q (.int .i64 (w64 (i_2 + 1))) rfl rfl rfl) ?_
      refine s_do (o_mov (.lst 1 (more_1.map enc_u8)) rfl) ?_
      refine s_dof (o_len (enc := enc_u8) rfl) fun hl12 => ?_
      obtain ⟨g13, hf⟩ := og hf
      refine s_do (o_q (.int .i64 ((w64 (i_2 + 1)).tmod (more_1.length : Int))) rfl ⟨rfl, g13⟩ rfl) ?_
      obtain ⟨x_14, ex15, hf⟩ := ob hf
      refine s_do (o_iaddr (enc := enc_u8) rfl rfl (idx0 ex15) (idx1 ex15)) ?_
      refine s_do (o_q (.int .u8 x_14) rfl ⟨rfl, rfl⟩ rfl) ?_
      refine s_do (o_q (.int .i64 (w64 x_14)) rfl trivial rfl) ?_
      refine s_do (o_q (.int .i64 (w64 ((w64 ((w64 x_10) * 31)) + (w64 x_14)))) rfl rfl rfl) ?_
      refine s_do (o_mov (.int .i64 i_2) rfl) ?_
      refine s_do (o_mov (.lst 1 (more_1.map enc_u8)) rfl) ?_
      refine s_dof (o_len (enc := enc_u8) rfl) fun hl16 => ?_
      obtain ⟨g17, hf⟩ := og hf
      refine s_do (o_q (.int .i64 (w64 (i_2.tdiv (more_1.length : Int)))) rfl ⟨rfl, g17⟩ rfl) ?_
      refine s_do (o_q (.int .i64 (w64 ((w64 ((w64 ((w64 x_10) * 31)) + (w64 x_14))) + (w64 (i_2.tdiv (more_1.length : Int)))))) rfl rfl rfl) ?_
      refine s_do (o_mov (.int .i64 n_3) rfl) ?_
      obtain ⟨g18, hf⟩ := og hf
      refine s_do (o_q (.int .i64 ((w64 ((w64 ((w64 ((w64 x_10) * 31)) + (w64 x_14))) + (w64 (i_2.tdiv (more_1.length : Int))))).tmod n_3)) rfl ⟨rfl, g18⟩ rfl) ?_
      refine s_do (o_mov (.int .i64 ((w64 ((w64 ((w64 ((w64 x_10) * 31)) + (w64 x_14))) + (w64 (i_2.tdiv (more_1.length : Int))))).tmod n_3)) rfl) ?_
      refine w_done ?_
      refine k_seq ?_
      refine w_ret ?_
      obtain rfl := os hf
      exact r_flat ⟨trivial, trivial⟩ rfl (.refl _)

/- spec.l00Source -/
def c98_h1 : ACode :=
 (.seq (.reg (.q ⟨(some 2), none, .mov (.c .undef)⟩
 .done))
 (.seq (.reg (.q ⟨(some 3), none, .mov (.t 0)⟩
 (.q ⟨(some 4), none, .mov (.t 0)⟩
 (.q ⟨(some 5), none, .len (.t 4)⟩
 (.q ⟨(some 6), none, .bin .rem (.t 5) (.c (.int .i64 1000))⟩
 (.q ⟨(some 7), none, .build [.nil, (.int .i64 0), (.int .i64 0)] [(0, 1, (.t 3)), (2, 1, (.t 6))]⟩
 (.q ⟨(some 8), none, .box 3 (.t 7)⟩
 (.q ⟨(some 2), none, .mov (.t 8)⟩
 .done))))))))
 .ret))
theorem fc98_h1 : fcomp Try.prog Try.f98 = some (c98_h1.erase, [.mov (.t 2)], 9) := by kernel_rfl
def spec_l00Source_h1 (code_1 : (List Int)) : Option GL00Src :=
    some (⟨code_1, 0, (code_1.length : Int).tmod 1000⟩ : GL00Src)
theorem w_spec_l00Source_h1 (code_1 : (List Int)) (r : GL00Src) (hf : spec_l00Source_h1 code_1 = some r) : CallHeap Try.prog true 98 [(.lst 1 (code_1.map enc_u8))] [] (.ptr 0 0 0) [.box 3 (.agg [(.lst 1 (r.Code.map enc_u8)), (.int .i64 r.At), (.int .i64 r.Seed)])] := by
  refine CallHeap.of_awp mixed Try.func98 fc98_h1 nle ?_
  rw [argT_eq]
  unfold spec_l00Source_h1 at hf
  unfold c98_h1
  refine (show awp Try.prog true 0 _ (ofL [(0, (.lst 1 (code_1.map enc_u8)))]) [] _ from ?_)
  refine awp_seq ?_
  refine w_reg ?_
  refine s_do (o_mov .undef rfl) ?_
  refine w_done ?_
  refine k_seq ?_
  refine awp_seq ?_
  refine w_reg ?_
  refine s_do (o_mov (.lst 1 (code_1.map enc_u8)) rfl) ?_
  refine s_do (o_mov (.lst 1 (code_1.map enc_u8)) rfl) ?_
  refine s_dof (o_len (enc := enc_u8) rfl) fun hl2 => ?_
  refine s_do (o_q (.int .i64 ((code_1.length : Int).tmod 1000)) rfl ⟨rfl, by decide⟩ rfl) ?_
  refine s_do (o_q (.agg [(.lst 1 (code_1.map enc_u8)), (.int .i64 0), (.int .i64 ((code_1.length : Int).tmod 1000))]) rfl ⟨⟨rfl, nle, trivial⟩, ⟨⟨rfl, nle, trivial⟩, trivial⟩⟩ rfl) ?_
  refine s_do (o_box (j := 0) (c := (.agg [(.lst 1 (code_1.map enc_u8)), (.int .i64 0), (.int .i64 ((code_1.length : Int).tmod 1000))])) rfl trivial rfl rfl) ?_
  refine s_do (o_mov (.ptr 0 0 0) rfl) ?_
  refine w_done ?_
  refine k_seq ?_
  refine w_ret ?_
  obtain rfl := os hf
  exact r_heap [] [0] rfl ⟨trivial, trivial⟩ rfl (.refl _) (.refl _)

/- (*spec.l00Src).byte -/
def c211_h1 : ACode :=
 (.seq (.reg (.q ⟨(some 2), none, .mov (.c (.int .i64 0))⟩
 .done))
 (.seq (.reg (.q ⟨(some 3), none, .mov (.t 0)⟩
 (.q ⟨(some 4), none, .nilck (.t 3)⟩
 (.q ⟨(some 5), none, .faddr 1 (.t 4)⟩
 (.q ⟨(some 6), none, .load 1 false (.t 5)⟩
 (.q ⟨(some 7), none, .bin .add (.t 6) (.c (.int .i64 1))⟩
 (.q ⟨(some 8), none, .nilck (.t 3)⟩
 (.q ⟨(some 9), none, .faddr 1 (.t 8)⟩
 (.q ⟨none, none, .store 1 (.t 9) (.t 7)⟩
 .done)))))))))
 (.seq (.seq (.reg (.q ⟨(some 10), none, .mov (.t 0)⟩
 (.q ⟨(some 11), none, .nilck (.t 10)⟩
 (.q ⟨(some 12), none, .faddr 1 (.t 11)⟩
 (.q ⟨(some 13), none, .load 1 false (.t 12)⟩
 (.q ⟨(some 14), none, .mov (.t 0)⟩
 (.q ⟨(some 15), none, .nilck (.t 14)⟩
 (.q ⟨(some 16), none, .faddr 0 (.t 15)⟩
 (.q ⟨(some 17), none, .load 1 false (.t 16)⟩
 (.q ⟨(some 18), none, .len (.t 17)⟩
 (.q ⟨(some 19), none, .bin .leq (.t 13) (.t 18)⟩
 .done)))))))))))
 (.cond (.t 19) (.seq (.reg (.q ⟨(some 20), none, .mov (.t 0)⟩
 (.q ⟨(some 21), none, .mov (.t 0)⟩
 (.q ⟨(some 22), none, .nilck (.t 21)⟩
 (.q ⟨(some 23), none, .faddr 2 (.t 22)⟩
 (.q ⟨(some 24), none, .load 1 false (.t 23)⟩
 (.q ⟨(some 25), none, .bin .mul (.t 24) (.c (.int .i64 31))⟩
 (.q ⟨(some 26), none, .mov (.t 0)⟩
 (.q ⟨(some 27), none, .nilck (.t 26)⟩
 (.q ⟨(some 28), none, .faddr 0 (.t 27)⟩
 (.q ⟨(some 29), none, .load 1 false (.t 28)⟩
 (.q ⟨(some 30), none, .mov (.t 0)⟩
 (.q ⟨(some 31), none, .nilck (.t 30)⟩
 (.q ⟨(some 32), none, .faddr 1 (.t 31)⟩
 (.q ⟨(some 33), none, .load 1 false (.t 32)⟩
 (.q ⟨(some 34), none, .bin .sub (.t 33) (.c (.int .i64 1))⟩
 (.q ⟨(some 35), none, .iaddr 1 (.t 29) (.t 34)⟩
 (.q ⟨(some 36), none, .load 1 false (.t 35)⟩
 (.q ⟨(some 37), none, .convI .i64 (.t 36)⟩
 (.q ⟨(some 38), none, .bin .add (.t 25) (.t 37)⟩
 (.q ⟨(some 39), none, .bin .add (.t 38) (.c (.int .i64 7))⟩
 (.q ⟨(some 40), none, .bin .rem (.t 39) (.c (.int .i64 2147483648))⟩
 (.q ⟨(some 41), none, .nilck (.t 20)⟩
 (.q ⟨(some 42), none, .faddr 2 (.t 41)⟩
 (.l ⟨none, none, .store 1 (.t 42) (.t 40)⟩ []
 .done .non)))))))))))))))))))))))))
 (.seq (.reg (.q ⟨(some 43), none, .mov (.t 0)⟩
 (.q ⟨(some 44), none, .nilck (.t 43)⟩
 (.q ⟨(some 45), none, .faddr 0 (.t 44)⟩
 (.q ⟨(some 46), none, .load 1 false (.t 45)⟩
 (.q ⟨(some 47), none, .mov (.t 0)⟩
 (.q ⟨(some 48), none, .nilck (.t 47)⟩
 (.q ⟨(some 49), none, .faddr 1 (.t 48)⟩
 (.q ⟨(some 50), none, .load 1 false (.t 49)⟩
 (.q ⟨(some 51), none, .bin .sub (.t 50) (.c (.int .i64 1))⟩
 (.q ⟨(some 52), none, .iaddr 1 (.t 46) (.t 51)⟩
 (.q ⟨(some 53), none, .load 1 false (.t 52)⟩
 (.q ⟨(some 54), none, .convI .i64 (.t 53)⟩
 (.q ⟨(some 2), none, .mov (.t 54)⟩
 .done))))))))))))))
 .ret))
 .skip))
 (.seq (.seq (.reg (.q ⟨(some 55), none, .mov (.t 0)⟩
 (.q ⟨(some 56), none, .nilck (.t 55)⟩
 (.q ⟨(some 57), none, .faddr 1 (.t 56)⟩
 (.q ⟨(some 58), none, .load 1 false (.t 57)⟩
 (.q ⟨(some 59), none, .bin .gtr (.t 58) (.c (.int .i64 3000))⟩
 .done))))))
 (.cond (.t 59) (.seq (.reg (.q ⟨(some 2), none, .mov (.c (.int .i64 0))⟩
 .done))
 .ret)
 .skip))
 (.seq (.reg (.q ⟨(some 60), none, .mov (.t 0)⟩
 (.q ⟨(some 61), none, .mov (.t 0)⟩
 (.q ⟨(some 62), none, .nilck (.t 61)⟩
 (.q ⟨(some 63), none, .faddr 2 (.t 62)⟩
 (.q ⟨(some 64), none, .load 1 false (.t 63)⟩
 (.q ⟨(some 65), none, .bin .mul (.t 64) (.c (.int .i64 1103515245))⟩
 (.q ⟨(some 66), none, .bin .add (.t 65) (.c (.int .i64 12345))⟩
 (.q ⟨(some 67), none, .bin .rem (.t 66) (.c (.int .i64 2147483648))⟩
 (.q ⟨(some 68), none, .nilck (.t 60)⟩
 (.q ⟨(some 69), none, .faddr 2 (.t 68)⟩
 (.q ⟨none, none, .store 1 (.t 69) (.t 67)⟩
 .done))))))))))))
 (.seq (.reg (.q ⟨(some 70), none, .mov (.t 0)⟩
 (.q ⟨(some 71), none, .nilck (.t 70)⟩
 (.q ⟨(some 72), none, .faddr 2 (.t 71)⟩
 (.q ⟨(some 73), none, .load 1 false (.t 72)⟩
 (.q ⟨(some 74), none, .bin .quo (.t 73) (.c (.int .i64 65536))⟩
 (.q ⟨(some 75), none, .bin .rem (.t 74) (.c (.int .i64 256))⟩
 (.q ⟨(some 2), none, .mov (.t 75)⟩
 .done))))))))
 .ret))))))
theorem fc211_h1 : fcomp Try.prog Try.f211 = some (c211_h1.erase, [.mov (.t 2)], 76) := by kernel_rfl
def spec_l00Src_byte_h1 (s_1 : GL00Src) : Option (Int × GL00Src) :=
    if (decide (w64 (s_1.At + 1) ≤ (s_1.Code.length : Int))) then
    (idx s_1.Code (w64 ((w64 (s_1.At + 1)) - 1))).bind fun x_4 =>
    (idx s_1.Code (w64 ((w64 (s_1.At + 1)) - 1))).bind fun x_6 =>
    some (w64 x_6, (⟨s_1.Code, w64 (s_1.At + 1), (w64 ((w64 ((w64 (s_1.Seed * 31)) + (w64 x_4))) + 7)).tmod 2147483648⟩ : GL00Src))
    else
    if (decide (w64 (s_1.At + 1) > 3000)) then
    some (0, (⟨s_1.Code, w64 (s_1.At + 1), s_1.Seed⟩ : GL00Src))
    else
    some ((w64 (((w64 ((w64 (s_1.Seed * 1103515245)) + 12345)).tmod 2147483648).tdiv 65536)).tmod 256, (⟨s_1.Code, w64 (s_1.At + 1), (w64 ((w64 (s_1.Seed * 1103515245)) + 12345)).tmod 2147483648⟩ : GL00Src))
theorem w_spec_l00Src_byte_h1 (s_1 : GL00Src) (r : (Int × GL00Src)) (hf : spec_l00Src_byte_h1 s_1 = some r) : CallHeap Try.prog true 211 [(.ptr 0 0 0)] [.box 3 (.agg [(.lst 1 (s_1.Code.map enc_u8)), (.int .i64 s_1.At), (.int .i64 s_1.Seed)])] (.int .i64 r.1) [.box 3 (.agg [(.lst 1 (r.2.Code.map enc_u8)), (.int .i64 r.2.At), (.int .i64 r.2.Seed)])] := by
  refine CallHeap.of_awp mixed Try.func211 fc211_h1 nle ?_
  rw [argT_eq]
  unfold spec_l00Src_byte_h1 at hf
  unfold c211_h1
  refine (show awp Try.prog true 1 _ (ofL [(0, (.ptr 0 0 0))]) [.box 3 (.agg [(.lst 1 (s_1.Code.map enc_u8)), (.int .i64 s_1.At), (.int .i64 s_1.Seed)])] _ from ?_)
  refine awp_seq ?_
  refine w_reg ?_
  refine s_do (o_mov (.int .i64 0) rfl) ?_
  refine w_done ?_
  refine k_seq ?_
  refine awp_seq ?_
  refine w_reg ?_
  refine s_do (o_mov (.ptr 0 0 0) rfl) ?_
  refine s_do (o_q (.ptr 0 0 0) rfl trivial rfl) ?_
  refine s_do (o_q (.ptr 0 0 1) rfl trivial rfl) ?_
  refine s_do (o_q (.int .i64 s_1.At) rfl nle rfl) ?_
  refine s_do (o_q (.int .i64 (w64 (s_1.At + 1))) rfl rfl rfl) ?_
  refine s_do (o_q (.ptr 0 0 0) rfl trivial rfl) ?_
  refine s_do (o_q (.ptr 0 0 1) rfl trivial rfl) ?_
  refine s_do0 (o_storebox (v := (.int .i64 (w64 (s_1.At + 1)))) (y' := (.agg [(.lst 1 (s_1.Code.map enc_u8)), (.int .i64 (w64 (s_1.At + 1))), (.int .i64 s_1.Seed)])) rfl rfl rfl trivial ⟨rfl, nle⟩ ⟨⟨rfl, trivial⟩, trivial⟩ rfl) ?_
  refine w_done ?_
  refine k_seq ?_
  refine awp_seq ?_
  refine awp_seq ?_
  refine w_reg ?_
  refine s_do (o_mov (.ptr 0 0 0) rfl) ?_
  refine s_do (o_q (.ptr 0 0 0) rfl trivial rfl) ?_
  refine s_do (o_q (.ptr 0 0 1) rfl trivial rfl) ?_
  refine s_do (o_q (.int .i64 (w64 (s_1.At + 1))) rfl nle rfl) ?_
  refine s_do (o_mov (.ptr 0 0 0) rfl) ?_
  refine s_do (o_q (.ptr 0 0 0) rfl trivial rfl) ?_
  refine s_do (o_q (.ptr 0 0 0) rfl trivial rfl) ?_
  refine s_do (o_q (.lst 1 (s_1.Code.map enc_u8)) rfl nle rfl) ?_
  refine s_dof (o_len (enc := enc_u8) rfl) fun hl2 => ?_
  refine s_do (o_q (.bool (decide (w64 (s_1.At + 1) ≤ (s_1.Code.length : Int)))) rfl rfl rfl) ?_
  refine w_done ?_
  refine k_seq ?_
  rcases oi hf with ⟨c3, hf⟩ | ⟨c3, hf⟩
  · refine w_condt rfl c3 ?_
    refine awp_seq ?_
    refine w_reg ?_
    refine s_do (o_mov (.ptr 0 0 0) rfl) ?_
    refine s_do (o_mov (.ptr 0 0 0) rfl) ?_
    refine s_do (o_q (.ptr 0 0 0) rfl trivial rfl) ?_
    refine s_do (o_q (.ptr 0 0 2) rfl trivial rfl) ?_
    refine s_do (o_q (.int .i64 s_1.Seed) rfl nle rfl) ?_
    refine s_do (o_q (.int .i64 (w64 (s_1.Seed * 31))) rfl rfl rfl) ?_
    refine s_do (o_mov (.ptr 0 0 0) rfl) ?_
    refine s_do (o_q (.ptr 0 0 0) rfl trivial rfl) ?_
    refine s_do (o_q (.ptr 0 0 0) rfl trivial rfl) ?_
    refine s_do (o_q (.lst 1 (s_1.Code.map enc_u8)) rfl nle rfl) ?_
    refine s_do (o_mov (.ptr 0 0 0) rfl) ?_
    refine s_do (o_q (.ptr 0 0 0) rfl trivial rfl) ?_
    refine s_do (o_q (.ptr 0 0 1) rfl trivial rfl) ?_
    refine s_do (o_q (.int .i64 (w64 (s_1.At + 1))) rfl nle rfl) ?_
    refine s_do (o_q (.int .i64 (w64 ((w64 (s_1.At + 1)) - 1))) rfl rfl rfl) ?_
    obtain ⟨x_4, ex5, hf⟩ := ob hf
    refine s_do (o_iaddr (enc := enc_u8) rfl rfl (idx0 ex5) (idx1 ex5)) ?_
    refine s_do (o_q (.int .u8 x_4) rfl ⟨rfl, rfl⟩ rfl) ?_
    refine s_do (o_q (.int .i64 (w64 x_4)) rfl trivial rfl) ?_
    refine s_do (o_q (.int .i64 (w64 ((w64 (s_1.Seed * 31)) + (w64 x_4)))) rfl rfl rfl) ?_
    refine s_do (o_q (.int .i64 (w64 ((w64 ((w64 (s_1.Seed * 31)) + (w64 x_4))) + 7))) rfl rfl rfl) ?_
    refine s_do (o_q (.int .i64 ((w64 ((w64 ((w64 (s_1.Seed * 31)) + (w64 x_4))) + 7)).tmod 2147483648)) rfl ⟨rfl, by decide⟩ rfl) ?_
    refine s_do (o_q (.ptr 0 0 0) rfl trivial rfl) ?_
    refine s_do (o_q (.ptr 0 0 2) rfl trivial rfl) ?_
    refine s_dol0 (o_storebox (v := (.int .i64 ((w64 ((w64 ((w64 (s_1.Seed * 31)) + (w64 x_4))) + 7)).tmod 2147483648))) (y' := (.agg [(.lst 1 (s_1.Code.map enc_u8)), (.int .i64 (w64 (s_1.At + 1))), (.int .i64 ((w64 ((w64 ((w64 (s_1.Seed * 31)) + (w64 x_4))) + 7)).tmod 2147483648))])) rfl rfl rfl trivial ⟨rfl, nle⟩ ⟨⟨rfl, trivial⟩, trivial⟩ rfl) trivial trivial ?_
    refine w_done ?_
    refine k_seq ?_
    refine awp_seq ?_
    refine w_reg ?_
    refine s_do (o_mov (.ptr 0 0 0) rfl) ?_
    refine s_do (o_q (.ptr 0 0 0) rfl trivial rfl) ?_
    refine s_do (o_q (.ptr 0 0 0) rfl trivial rfl) ?_
    refine s_do (o_q (.lst 1 (s_1.Code.map enc_u8)) rfl nle rfl) ?_
    refine s_do (o_mov (.ptr 0 0 0) rfl) ?_
    refine s_do (o_q (.ptr 0 0 0) rfl trivial rfl) ?_
    refine s_do (o_q (.ptr 0 0 1) rfl trivial rfl) ?_
    refine s_do (o_q (.int .i64 (w64 (s_1.At + 1))) rfl nle rfl) ?_
    refine s_do (o_q (.int .i64 (w64 ((w64 (s_1.At + 1)) - 1))) rfl rfl rfl) ?_
    obtain ⟨x_6, ex7, hf⟩ := ob hf
    refine s_do (o_iaddr (enc := enc_u8) rfl rfl (idx0 ex7) (idx1 ex7)) ?_
    refine s_do (o_q (.int .u8 x_6) rfl ⟨rfl, rfl⟩ rfl) ?_
    refine s_do (o_q (.int .i64 (w64 x_6)) rfl trivial rfl) ?_
    refine s_do (o_mov (.int .i64 (w64 x_6)) rfl) ?_
    refine w_done ?_
    refine k_seq ?_
    refine w_ret ?_
    obtain rfl := os hf
    exact r_heap [] [0] rfl ⟨trivial, trivial⟩ rfl (.refl _) (.refl _)
  · refine w_condf rfl (bf c3) ?_
    refine w_skip ?_
    refine k_seq ?_
    refine awp_seq ?_
    refine awp_seq ?_
    refine w_reg ?_
    refine s_do (o_mov (.ptr 0 0 0) rfl) ?_
    refine s_do (o_q (.ptr 0 0 0) rfl trivial rfl) ?_
    refine s_do (o_q (.ptr 0 0 1) rfl trivial rfl) ?_
    refine s_do (o_q (.int .i64 (w64 (s_1.At + 1))) rfl nle rfl) ?_
    refine s_do (o_q (.bool (decide (w64 (s_1.At + 1) > 3000))) rfl rfl rfl) ?_
    refine w_done ?_
    refine k_seq ?_
    rcases oi hf with ⟨c8, hf⟩ | ⟨c8, hf⟩
    · refine w_condt rfl c8 ?_
      refine awp_seq ?_
      refine w_reg ?_
      refine s_do (o_mov (.int .i64 0) rfl) ?_
      refine w_done ?_
      refine k_seq ?_
      refine w_ret ?_
      obtain rfl := os hf
      exact r_heap [] [0] rfl ⟨trivial, trivial⟩ rfl (.refl _) (.refl _)
    · refine w_condf rfl (bf c8) ?_
      refine w_skip ?_
      refine k_seq ?_
      refine awp_seq ?_
      refine w_reg ?_
      refine s_do (o_mov (.ptr 0 0 0) rfl) ?_
      refine s_do (o_mov (.ptr 0 0 0) rfl) ?_
      refine s_do (o_q (.ptr 0 0 0) rfl trivial rfl) ?_
      refine s_do (o_q (.ptr 0 0 2) rfl trivial rfl) ?_
      refine s_do (o_q (.int .i64 s_1.Seed) rfl nle rfl) ?_
      refine s_do (o_q (.int .i64 (w64 (s_1.Seed * 1103515245))) rfl rfl rfl) ?_
      refine s_do (o_q (.int .i64 (w64 ((w64 (s_1.Seed * 1103515245)) + 12345))) rfl rfl rfl) ?_
      refine s_do (o_q (.int .i64 ((w64 ((w64 (s_1.Seed * 1103515245)) + 12345)).tmod 2147483648)) rfl ⟨rfl, by decide⟩ rfl) ?_
      refine s_do (o_q (.ptr 0 0 0) rfl trivial rfl) ?_
      refine s_do (o_q (.ptr 0 0 2) rfl trivial rfl) ?_
      refine s_do0 (o_storebox (v := (.int .i64 ((w64 ((w64 (s_1.Seed * 1103515245)) + 12345)).tmod 2147483648))) (y' := (.agg [(.lst 1 (s_1.Code.map enc_u8)), (.int .i64 (w64 (s_1.At + 1))), (.int .i64 ((w64 ((w64 (s_1.Seed * 1103515245)) + 12345)).tmod 2147483648))])) rfl rfl rfl trivial ⟨rfl, nle⟩ ⟨⟨rfl, trivial⟩, trivial⟩ rfl) ?_
      refine w_done ?_
      refine k_seq ?_
      refine awp_seq ?_
      refine w_reg ?_
      refine s_do (o_mov (.ptr 0 0 0) rfl) ?_
      refine s_do (o_q (.ptr 0 0 0) rfl trivial rfl) ?_
      refine s_do (o_q (.ptr 0 0 2) rfl trivial rfl) ?_
      refine s_do (o_q (.int .i64 ((w64 ((w64 (s_1.Seed * 1103515245)) + 12345)).tmod 2147483648)) rfl nle rfl) ?_
      refine s_do (o_q (.int .i64 (w64 (((w64 ((w64 (s_1.Seed * 1103515245)) + 12345)).tmod 2147483648).tdiv 65536))) rfl ⟨rfl, by decide⟩ rfl) ?_
      refine s_do (o_q (.int .i64 ((w64 (((w64 ((w64 (s_1.Seed * 1103515245)) + 12345)).tmod 2147483648).tdiv 65536)).tmod 256)) rfl ⟨rfl, by decide⟩ rfl) ?_
      refine s_do (o_mov (.int .i64 ((w64 (((w64 ((w64 (s_1.Seed * 1103515245)) + 12345)).tmod 2147483648).tdiv 65536)).tmod 256)) rfl) ?_
      refine w_done ?_
      refine k_seq ?_
      refine w_ret ?_
      obtain rfl := os hf
      exact r_heap [] [0] rfl ⟨trivial, trivial⟩ rfl (.refl _) (.refl _)

/- (*spec.l00Src).next -/
def c161_h1 : ACode :=
 (.seq (.reg (.q ⟨(some 4), none, .mov (.c (.int .i64 0))⟩
 .done))
 (.seq (.seq (.reg (.q ⟨(some 8), none, .mov (.t 1)⟩
 (.q ⟨(some 9), none, .bin .leq (.t 8) (.c (.int .i64 1))⟩
 .done)))
 (.cond (.t 9) (.seq (.reg (.q ⟨(some 4), none, .mov (.c (.int .i64 0))⟩
 .done))
 .ret)
 .skip))
 (.seq (.seq (.reg (.q ⟨(some 10), none, .mov (.t 1)⟩
 (.q ⟨(some 11), none, .bin .leq (.t 10) (.c (.int .i64 256))⟩
 .done)))
 (.cond (.t 11) (.seq (.reg (.q ⟨(some 12), none, .mov (.t 0)⟩
 (.q ⟨(some 13), none, .call 211 [(.t 12)]⟩
 (.q ⟨(some 14), none, .mov (.t 1)⟩
 (.q ⟨(some 15), none, .bin .rem (.t 13) (.t 14)⟩
 (.q ⟨(some 4), none, .mov (.t 15)⟩
 .done))))))
 .ret)
 .skip))
 (.seq (.reg (.q ⟨(some 16), none, .mov (.t 0)⟩
 (.q ⟨(some 17), none, .call 211 [(.t 16)]⟩
 (.q ⟨(some 5), none, .mov (.t 17)⟩
 .done))))
 (.seq (.reg (.q ⟨(some 18), none, .mov (.t 0)⟩
 (.q ⟨(some 19), none, .call 211 [(.t 18)]⟩
 (.q ⟨(some 6), none, .mov (.t 19)⟩
 .done))))
 (.seq (.reg (.q ⟨(some 20), none, .mov (.t 0)⟩
 (.q ⟨(some 21), none, .call 211 [(.t 20)]⟩
 (.q ⟨(some 7), none, .mov (.t 21)⟩
 .done))))
 (.seq (.reg (.q ⟨(some 22), none, .mov (.t 5)⟩
 (.q ⟨(some 23), none, .bin .mul (.t 22) (.c (.int .i64 65536))⟩
 (.q ⟨(some 24), none, .mov (.t 6)⟩
 (.q ⟨(some 25), none, .bin .mul (.t 24) (.c (.int .i64 256))⟩
 (.q ⟨(some 26), none, .bin .add (.t 23) (.t 25)⟩
 (.q ⟨(some 27), none, .mov (.t 7)⟩
 (.q ⟨(some 28), none, .bin .add (.t 26) (.t 27)⟩
 (.q ⟨(some 29), none, .mov (.t 1)⟩
 (.q ⟨(some 30), none, .bin .rem (.t 28) (.t 29)⟩
 (.q ⟨(some 4), none, .mov (.t 30)⟩
 .done)))))))))))
 .ret)))))))
theorem fc161_h1 : fcomp Try.prog Try.f161 = some (c161_h1.erase, [.mov (.t 4)], 31) := by kernel_rfl
def spec_l00Src_next_h1 (n_1 : Int) (s_2 : GL00Src) : Option (Int × GL00Src) :=
    if (decide (n_1 ≤ 1)) then
    some (0, s_2)
    else
    if (decide (n_1 ≤ 256)) then
    (spec_l00Src_byte_h1 s_2).bind fun r_5 =>
    if n_1 ≠ 0 then
    some (r_5.1.tmod n_1, r_5.2)
    else none
    else
    (spec_l00Src_byte_h1 s_2).bind fun r_8 =>
    (spec_l00Src_byte_h1 r_8.2).bind fun r_10 =>
    (spec_l00Src_byte_h1 r_10.2).bind fun r_12 =>
    if n_1 ≠ 0 then
    some ((w64 ((w64 ((w64 (r_8.1 * 65536)) + (w64 (r_10.1 * 256)))) + r_12.1)).tmod n_1, r_12.2)
    else none
theorem w_spec_l00Src_next_h1 (n_1 : Int) (s_2 : GL00Src) (r : (Int × GL00Src)) (hf : spec_l00Src_next_h1 n_1 s_2 = some r) : CallHeap Try.prog true 161 [(.ptr 0 0 0), (.int .i64 n_1)] [.box 3 (.agg [(.lst 1 (s_2.Code.map enc_u8)), (.int .i64 s_2.At), (.int .i64 s_2.Seed)])] (.int .i64 r.1) [.box 3 (.agg [(.lst 1 (r.2.Code.map enc_u8)), (.int .i64 r.2.At), (.int .i64 r.2.Seed)])] := by
  refine CallHeap.of_awp mixed Try.func161 fc161_h1 nle ?_
  rw [argT_eq]
  unfold spec_l00Src_next_h1 at hf
  unfold c161_h1
  refine (show awp Try.prog true 1 _ (ofL [(0, (.ptr 0 0 0)), (1, (.int .i64 n_1))]) [.box 3 (.agg [(.lst 1 (s_2.Code.map enc_u8)), (.int .i64 s_2.At), (.int .i64 s_2.Seed)])] _ from ?_)
  refine awp_seq ?_
  refine w_reg ?_
  refine s_do (o_mov (.int .i64 0) rfl) ?_
  refine w_done ?_
  refine k_seq ?_
  refine awp_seq ?_
  refine awp_seq ?_
  refine w_reg ?_
  refine s_do (o_mov (.int .i64 n_1) rfl) ?_
  refine s_do (o_q (.bool (decide (n_1 ≤ 1))) rfl rfl rfl) ?_
  refine w_done ?_
  refine k_seq ?_
  rcases oi hf with ⟨c3, hf⟩ | ⟨c3, hf⟩
  · refine w_condt rfl c3 ?_
    refine awp_seq ?_
    refine w_reg ?_
    refine s_do (o_mov (.int .i64 0) rfl) ?_
    refine w_done ?_
    refine k_seq ?_
    refine w_ret ?_
    obtain rfl := os hf
    exact r_heap [] [0] rfl ⟨trivial, trivial⟩ rfl (.refl _) (.refl _)
  · refine w_condf rfl (bf c3) ?_
    refine w_skip ?_
    refine k_seq ?_
    refine awp_seq ?_
    refine awp_seq ?_
    refine w_reg ?_
    refine s_do (o_mov (.int .i64 n_1) rfl) ?_
    refine s_do (o_q (.bool (decide (n_1 ≤ 256))) rfl rfl rfl) ?_
    refine w_done ?_
    refine k_seq ?_
    rcases oi hf with ⟨c4, hf⟩ | ⟨c4, hf⟩
    · refine w_condt rfl c4 ?_
      refine awp_seq ?_
      refine w_reg ?_
      obtain ⟨r_5, er6, hf⟩ := ob hf
      obtain ⟨g7, hf⟩ := og hf
      refine s_do (o_mov (.ptr 0 0 0) rfl) ?_
      refine s_do (o_callh (v := (.int .i64 r_5.1)) (h2 := [.box 3 (.agg [(.lst 1 (r_5.2.Code.map enc_u8)), (.int .i64 r_5.2.At), (.int .i64 r_5.2.Seed)])]) [] [0] (w_spec_l00Src_byte_h1 _ _ er6) rfl (.refl _) (.refl _) rfl rfl) ?_
      refine s_do (o_mov (.int .i64 n_1) rfl) ?_
      refine s_do (o_q (.int .i64 (r_5.1.tmod n_1)) rfl ⟨rfl, g7⟩ rfl) ?_
      refine s_do (o_mov (.int .i64 (r_5.1.tmod n_1)) rfl) ?_
      refine w_done ?_
      refine k_seq ?_
      refine w_ret ?_
      obtain rfl := os hf
      exact r_heap [] [0] rfl ⟨trivial, trivial⟩ rfl (.refl _) (.refl _)
    · refine w_condf rfl (bf c4) ?_
      refine w_skip ?_
      refine k_seq ?_
      refine awp_seq ?_
      refine w_reg ?_
      obtain ⟨r_8, er9, hf⟩ := ob hf
      refine s_do (o_mov (.ptr 0 0 0) rfl) ?_
      refine s_do (o_callh (v := (.int .i64 r_8.1)) (h2 := [.box 3 (.agg [(.lst 1 (r_8.2.Code.map enc_u8)), (.int .i64 r_8.2.At), (.int .i64 r_8.2.Seed)])]) [] [0] (w_spec_l00Src_byte_h1 _ _ er9) rfl (.refl _) (.refl _) rfl rfl) ?_
      refine s_do (o_mov (.int .i64 r_8.1) rfl) ?_
      refine w_done ?_
      refine k_seq ?_
      refine awp_seq ?_
      refine w_reg ?_
      obtain ⟨r_10, er11, hf⟩ := ob hf
      refine s_do (o_mov (.ptr 0 0 0) rfl) ?_
      refine s_do (o_callh (v := (.int .i64 r_10.1)) (h2 := [.box 3 (.agg [(.lst 1 (r_10.2.Code.map enc_u8)), (.int .i64 r_10.2.At), (.int .i64 r_10.2.Seed)])]) [] [0] (w_spec_l00Src_byte_h1 _ _ er11) rfl (.refl _) (.refl _) rfl rfl) ?_
      refine s_do (o_mov (.int .i64 r_10.1) rfl) ?_
      refine w_done ?_
      refine k_seq ?_
      refine awp_seq ?_
      refine w_reg ?_
      obtain ⟨r_12, er13, hf⟩ := ob hf
      refine s_do (o_mov (.ptr 0 0 0) rfl) ?_
      refine s_do (o_callh (v := (.int .i64 r_12.1)) (h2 := [.box 3 (.agg [(.lst 1 (r_12.2.Code.map enc_u8)), (.int .i64 r_12.2.At), (.int .i64 r_12.2.Seed)])]) [] [0] (w_spec_l00Src_byte_h1 _ _ er13) rfl (.refl _) (.refl _) rfl rfl) ?_
      refine s_do (o_mov (.int .i64 r_12.1) rfl) ?_
      refine w_done ?_
      refine k_seq ?_
      refine awp_seq ?_
      refine w_reg ?_
      obtain ⟨g14, hf⟩ := og hf
      refine s_do (o_mov (.int .i64 r_8.1) rfl) ?_
      refine s_do (o_q (.int .i64 (w64 (r_8.1 * 65536))) rfl rfl rfl) ?_
      refine s_do (o_mov (.int .i64 r_10.1) rfl) ?_
      refine s_do (o_q (.int .i64 (w64 (r_10.1 * 256))) rfl rfl rfl) ?_
      refine s_do (o_q (.int .i64 (w64 ((w64 (r_8.1 * 65536)) + (w64 (r_10.1 * 256))))) rfl rfl rfl) ?_
      refine s_do (o_mov (.int .i64 r_12.1) rfl) ?_
      refine s_do (o_q (.int .i64 (w64 ((w64 ((w64 (r_8.1 * 65536)) + (w64 (r_10.1 * 256)))) + r_12.1))) rfl rfl rfl) ?_
      refine s_do (o_mov (.int .i64 n_1) rfl) ?_
      refine s_do (o_q (.int .i64 ((w64 ((w64 ((w64 (r_8.1 * 65536)) + (w64 (r_10.1 * 256)))) + r_12.1)).tmod n_1)) rfl ⟨rfl, g14⟩ rfl) ?_
      refine s_do (o_mov (.int .i64 ((w64 ((w64 ((w64 (r_8.1 * 65536)) + (w64 (r_10.1 * 256)))) + r_12.1)).tmod n_1)) rfl) ?_
      refine w_done ?_
      refine k_seq ?_
      refine w_ret ?_
      obtain rfl := os hf
      exact r_heap [] [0] rfl ⟨trivial, trivial⟩ rfl (.refl _) (.refl _)

/- (*spec.l00Src).pick -/
def c184_h1 : ACode :=
 (.seq (.reg (.q ⟨(some 4), none, .mov (.c (.str []))⟩
 .done))
 (.seq (.seq (.reg (.q ⟨(some 5), none, .mov (.t 1)⟩
 (.q ⟨(some 6), none, .len (.t 5)⟩
 (.q ⟨(some 7), none, .bin .eql (.t 6) (.c (.int .i64 0))⟩
 .done))))
 (.cond (.t 7) (.seq (.reg (.q ⟨(some 4), none, .mov (.c (.str []))⟩
 .done))
 .ret)
 .skip))
 (.seq (.reg (.q ⟨(some 8), none, .mov (.t 1)⟩
 (.q ⟨(some 9), none, .mov (.t 0)⟩
 (.q ⟨(some 10), none, .mov (.t 1)⟩
 (.q ⟨(some 11), none, .len (.t 10)⟩
 (.q ⟨(some 12), none, .call 161 [(.t 9), (.t 11)]⟩
 (.q ⟨(some 13), none, .iaddr 1 (.t 8) (.t 12)⟩
 (.q ⟨(some 14), none, .load 1 false (.t 13)⟩
 (.q ⟨(some 4), none, .mov (.t 14)⟩
 .done)))))))))
 .ret)))
theorem fc184_h1 : fcomp Try.prog Try.f184 = some (c184_h1.erase, [.mov (.t 4)], 15) := by kernel_rfl
def spec_l00Src_pick_h1 (list_1 : (List Str)) (s_2 : GL00Src) : Option (Str × GL00Src) :=
    if ((list_1.length : Int) == 0) then
    some ([], s_2)
    else
    (spec_l00Src_next_h1 (list_1.length : Int) s_2).bind fun r_6 =>
    (idx list_1 r_6.1).bind fun x_8 =>
    some (x_8, r_6.2)
theorem w_spec_l00Src_pick_h1 (list_1 : (List Str)) (s_2 : GL00Src) (r : (Str × GL00Src)) (hf : spec_l00Src_pick_h1 list_1 s_2 = some r) : CallHeap Try.prog true 184 [(.ptr 0 0 0), (.lst 1 (list_1.map AV.str))] [.box 3 (.agg [(.lst 1 (s_2.Code.map enc_u8)), (.int .i64 s_2.At), (.int .i64 s_2.Seed)])] (.str r.1) [.box 3 (.agg [(.lst 1 (r.2.Code.map enc_u8)), (.int .i64 r.2.At), (.int .i64 r.2.Seed)])] := by
  refine CallHeap.of_awp mixed Try.func184 fc184_h1 nle ?_
  rw [argT_eq]
  unfold spec_l00Src_pick_h1 at hf
  unfold c184_h1
  refine (show awp Try.prog true 1 _ (ofL [(0, (.ptr 0 0 0)), (1, (.lst 1 (list_1.map AV.str)))]) [.box 3 (.agg [(.lst 1 (s_2.Code.map enc_u8)), (.int .i64 s_2.At), (.int .i64 s_2.Seed)])] _ from ?_)
  refine awp_seq ?_
  refine w_reg ?_
  refine s_do (o_mov (.str []) rfl) ?_
  refine w_done ?_
  refine k_seq ?_
  refine awp_seq ?_
  refine awp_seq ?_
  refine w_reg ?_
  refine s_do (o_mov (.lst 1 (list_1.map AV.str)) rfl) ?_
  refine s_dof (o_len (enc := AV.str) rfl) fun hl3 => ?_
  refine s_do (o_q (.bool ((list_1.length : Int) == 0)) rfl rfl rfl) ?_
  refine w_done ?_
  refine k_seq ?_
  rcases oi hf with ⟨c4, hf⟩ | ⟨c4, hf⟩
  · refine w_condt rfl c4 ?_
    refine awp_seq ?_
    refine w_reg ?_
    refine s_do (o_mov (.str []) rfl) ?_
    refine w_done ?_
    refine k_seq ?_
    refine w_ret ?_
    obtain rfl := os hf
    exact r_heap [] [0] rfl ⟨trivial, trivial⟩ rfl (.refl _) (.refl _)
  · refine w_condf rfl (bf c4) ?_
    refine w_skip ?_
    refine k_seq ?_
    refine awp_seq ?_
    refine w_reg ?_
    obtain ⟨r_6, er7, hf⟩ := ob hf
    obtain ⟨x_8, ex9, hf⟩ := ob hf
    refine s_do (o_mov (.lst 1 (list_1.map AV.str)) rfl) ?_
    refine s_do (o_mov (.ptr 0 0 0) rfl) ?_
    refine s_do (o_mov (.lst 1 (list_1.map AV.str)) rfl) ?_
    refine s_dof (o_len (enc := AV.str) rfl) fun hl5 => ?_
    refine s_do (o_callh (v := (.int .i64 r_6.1)) (h2 := [.box 3 (.agg [(.lst 1 (r_6.2.Code.map enc_u8)), (.int .i64 r_6.2.At), (.int .i64 r_6.2.Seed)])]) [] [0] (w_spec_l00Src_next_h1 _ _ _ er7) rfl (.refl _) (.refl _) rfl rfl) ?_
    refine s_do (o_iaddr (enc := AV.str) rfl rfl (idx0 ex9) (idx1 ex9)) ?_
    refine s_do (o_q (.str x_8) rfl ⟨rfl, rfl⟩ rfl) ?_
    refine s_do (o_mov (.str x_8) rfl) ?_
    refine w_done ?_
    refine k_seq ?_
    refine w_ret ?_
    obtain rfl := os hf
    exact r_heap [] [0] rfl ⟨trivial, trivial⟩ rfl (.refl _) (.refl _)

/- (*spec.l00Src).atom -/
def c189_h0 : ACode :=
 (.seq (.reg (.q ⟨(some 4), none, .box 3 (.c (.agg [(.int .i64 0), (.int .i64 0), (.str [])]))⟩
 .done))
 (.seq (.seq (.reg (.q ⟨(some 5), none, .mov (.t 1)⟩
 .done))
 (.block 0 (.seq (.reg (.q ⟨(some 7), none, .bin .eql (.t 5) (.c (.int .i64 1))⟩
 (.q ⟨(some 6), none, .mov (.t 7)⟩
 .done)))
 (.cond (.t 6) (.seq (.reg (.q ⟨(some 8), none, .mov (.t 1)⟩
 (.q ⟨(some 9), none, .mov (.t 0)⟩
 (.q ⟨(some 10), none, .call 161 [(.t 9), (.c (.int .i64 12))]⟩
 (.q ⟨(some 11), none, .bin .sub (.t 10) (.c (.int .i64 4))⟩
 (.q ⟨(some 12), none, .build [(.int .i64 0), (.int .i64 0), (.str [])] [(0, 1, (.t 8)), (1, 1, (.t 11))]⟩
 (.q ⟨none, none, .store 3 (.t 4) (.t 12)⟩
 .done)))))))
 .ret)
 (.seq (.reg (.q ⟨(some 14), none, .bin .eql (.t 5) (.c (.int .i64 2))⟩
 (.q ⟨(some 13), none, .mov (.t 14)⟩
 .done)))
 (.cond (.t 13) (.seq (.reg (.q ⟨(some 15), none, .mov (.t 1)⟩
 (.q ⟨(some 16), none, .mov (.t 0)⟩
 (.q ⟨(some 17), none, .bslice 1 [(.c (.str [])), (.c (.str [97])), (.c (.str [98])), (.c (.str [99])), (.c (.str [110, 101, 116]))]⟩
 (.q ⟨(some 18), none, .call 184 [(.t 16), (.t 17)]⟩
 (.q ⟨(some 19), none, .build [(.int .i64 0), (.int .i64 0), (.str [])] [(0, 1, (.t 15)), (2, 1, (.t 18))]⟩
 (.q ⟨none, none, .store 3 (.t 4) (.t 19)⟩
 .done)))))))
 .ret)
 (.seq (.reg (.q ⟨(some 21), none, .bin .eql (.t 5) (.c (.int .i64 3))⟩
 (.q ⟨(some 20), none, .mov (.t 21)⟩
 .done)))
 (.cond (.t 20) (.seq (.reg (.q ⟨(some 22), none, .mov (.t 1)⟩
 (.q ⟨(some 23), none, .mov (.t 0)⟩
 (.q ⟨(some 24), none, .call 161 [(.t 23), (.c (.int .i64 2))]⟩
 (.q ⟨(some 25), none, .build [(.int .i64 0), (.int .i64 0), (.str [])] [(0, 1, (.t 22)), (1, 1, (.t 24))]⟩
 (.q ⟨none, none, .store 3 (.t 4) (.t 25)⟩
 .done))))))
 .ret)
 .skip))))))))
 (.seq (.reg (.q ⟨(some 26), none, .mov (.t 0)⟩
 (.q ⟨(some 27), none, .call 161 [(.t 26), (.c (.int .i64 6))]⟩
 (.q ⟨(some 28), none, .bin .add (.c (.int .i64 1)) (.t 27)⟩
 (.q ⟨(some 29), none, .build [(.int .i64 0), (.int .i64 0), (.str [])] [(0, 1, (.c (.int .i64 4))), (1, 1, (.t 28))]⟩
 (.q ⟨none, none, .store 3 (.t 4) (.t 29)⟩
 .done))))))
 .ret)))
theorem fc189_h0 : fcomp Try.prog Try.f189 = some (c189_h0.erase, [.load 3 true (.t 4)], 30) := by kernel_rfl
def spec_l00Src_atom (kind_1 : Int) (s_2 : GL00Src) : Option (GAtom × GL00Src) :=
    if (kind_1 == 1) then
    (spec_l00Src_next_h1 12 s_2).bind fun r_4 =>
    some ((⟨kind_1, w64 (r_4.1 - 4), []⟩ : GAtom), r_4.2)
    else
    if (kind_1 == 2) then
    (spec_l00Src_pick_h1 [[], [97], [98], [99], [110, 101, 116]] s_2).bind fun r_7 =>
    some ((⟨kind_1, 0, r_7.1⟩ : GAtom), r_7.2)
    else
    if (kind_1 == 3) then
    (spec_l00Src_next_h1 2 s_2).bind fun r_10 =>
    some ((⟨kind_1, r_10.1, []⟩ : GAtom), r_10.2)
    else
    (spec_l00Src_next_h1 6 s_2).bind fun r_12 =>
    some ((⟨4, w64 (1 + r_12.1), []⟩ : GAtom), r_12.2)
theorem w_spec_l00Src_atom (kind_1 : Int) (s_2 : GL00Src) (r : (GAtom × GL00Src)) (hf : spec_l00Src_atom kind_1 s_2 = some r) : CallHeap Try.prog true 189 [(.ptr 0 0 0), (.int .i64 kind_1)] [.box 3 (.agg [(.lst 1 (s_2.Code.map enc_u8)), (.int .i64 s_2.At), (.int .i64 s_2.Seed)])] (encGAtom r.1) [.box 3 (.agg [(.lst 1 (r.2.Code.map enc_u8)), (.int .i64 r.2.At), (.int .i64 r.2.Seed)])] := by
  refine CallHeap.of_awp mixed Try.func189 fc189_h0 nle ?_
  rw [argT_eq]
  unfold spec_l00Src_atom at hf
  unfold c189_h0
  refine (show awp Try.prog true 1 _ (ofL [(0, (.ptr 0 0 0)), (1, (.int .i64 kind_1))]) [.box 3 (.agg [(.lst 1 (s_2.Code.map enc_u8)), (.int .i64 s_2.At), (.int .i64 s_2.Seed)])] _ from ?_)
  refine awp_seq ?_
  refine w_reg ?_
  refine s_do (o_box (j := 1) (c := (.agg [(.int .i64 0), (.int .i64 0), (.str [])])) rfl trivial rfl rfl) ?_
  refine w_done ?_
  refine k_seq ?_
  refine awp_seq ?_
  refine awp_seq ?_
  refine w_reg ?_
  refine s_do (o_mov (.int .i64 kind_1) rfl) ?_
  refine w_done ?_
  refine k_seq ?_
  refine w_blk ?_
  refine awp_seq ?_
  refine w_reg ?_
  refine s_do (o_q (.bool (kind_1 == 1)) rfl rfl rfl) ?_
  refine s_do (o_mov (.bool (kind_1 == 1)) rfl) ?_
  refine w_done ?_
  refine k_seq ?_
  rcases oi hf with ⟨c3, hf⟩ | ⟨c3, hf⟩
  · refine w_condt rfl c3 ?_
    refine awp_seq ?_
    refine w_reg ?_
    obtain ⟨r_4, er5, hf⟩ := ob hf
    refine s_do (o_mov (.int .i64 kind_1) rfl) ?_
    refine s_do (o_mov (.ptr 0 0 0) rfl) ?_
    refine s_do (o_callh (v := (.int .i64 r_4.1)) (h2 := [.box 3 (.agg [(.lst 1 (r_4.2.Code.map enc_u8)), (.int .i64 r_4.2.At), (.int .i64 r_4.2.Seed)]), .box 3 (.agg [(.int .i64 0), (.int .i64 0), (.str [])])]) [] [0] (w_spec_l00Src_next_h1 _ _ _ er5) rfl (.refl _) (.refl _) rfl rfl) ?_
    refine s_do (o_q (.int .i64 (w64 (r_4.1 - 4))) rfl rfl rfl) ?_
    refine s_do (o_q (.agg [(.int .i64 kind_1), (.int .i64 (w64 (r_4.1 - 4))), (.str [])]) rfl ⟨⟨rfl, nle, trivial⟩, ⟨⟨rfl, nle, trivial⟩, trivial⟩⟩ rfl) ?_
    refine s_do0 (o_storebox (v := (.agg [(.int .i64 kind_1), (.int .i64 (w64 (r_4.1 - 4))), (.str [])])) (y' := (.agg [(.int .i64 kind_1), (.int .i64 (w64 (r_4.1 - 4))), (.str [])])) rfl rfl rfl trivial ⟨rfl, nle⟩ ⟨⟨rfl, trivial⟩, ⟨⟨rfl, trivial⟩, ⟨⟨rfl, trivial⟩, trivial⟩⟩⟩ rfl) ?_
    refine w_done ?_
    refine k_seq ?_
    refine w_ret ?_
    obtain rfl := os hf
    exact r_heap [] [0] rfl ⟨nle, trivial⟩ rfl (.refl _) (.refl _)
  · refine w_condf rfl (bf c3) ?_
    refine awp_seq ?_
    refine w_reg ?_
    refine s_do (o_q (.bool (kind_1 == 2)) rfl rfl rfl) ?_
    refine s_do (o_mov (.bool (kind_1 == 2)) rfl) ?_
    refine w_done ?_
    refine k_seq ?_
    rcases oi hf with ⟨c6, hf⟩ | ⟨c6, hf⟩
    · refine w_condt rfl c6 ?_
      refine awp_seq ?_
      refine w_reg ?_
      obtain ⟨r_7, er8, hf⟩ := ob hf
      refine s_do (o_mov (.int .i64 kind_1) rfl) ?_
      refine s_do (o_mov (.ptr 0 0 0) rfl) ?_
      refine s_do (o_bslice (j := 2) (as' := [(.str []), (.str [97]), (.str [98]), (.str [99]), (.str [110, 101, 116])]) rfl (fun _ => by decide) ⟨rfl, ⟨rfl, ⟨rfl, ⟨rfl, ⟨rfl, trivial⟩⟩⟩⟩⟩ (.refl _) rfl rfl rfl) ?_
      refine s_do (o_callh (v := (.str r_7.1)) (h2 := [.box 3 (.agg [(.lst 1 (r_7.2.Code.map enc_u8)), (.int .i64 r_7.2.At), (.int .i64 r_7.2.Seed)]), .box 3 (.agg [(.int .i64 0), (.int .i64 0), (.str [])]), .dead]) [false, true] [0] (w_spec_l00Src_pick_h1 _ _ _ er8) rfl (.cons (.refl _) (.cons (.of_eq (congrArg (AV.lst _) (tko [[], [97], [98], [99], [110, 101, 116]]))) .nil)) (.refl _) rfl rfl) ?_
      refine s_do (o_q (.agg [(.int .i64 kind_1), (.int .i64 0), (.str r_7.1)]) rfl ⟨⟨rfl, nle, trivial⟩, ⟨⟨rfl, nle, trivial⟩, trivial⟩⟩ rfl) ?_
      refine s_do0 (o_storebox (v := (.agg [(.int .i64 kind_1), (.int .i64 0), (.str r_7.1)])) (y' := (.agg [(.int .i64 kind_1), (.int .i64 0), (.str r_7.1)])) rfl rfl rfl trivial ⟨rfl, nle⟩ ⟨⟨rfl, trivial⟩, ⟨⟨rfl, trivial⟩, ⟨⟨rfl, trivial⟩, trivial⟩⟩⟩ rfl) ?_
      refine w_done ?_
      refine k_seq ?_
      refine w_ret ?_
      obtain rfl := os hf
      exact r_heap [] [0] rfl ⟨nle, trivial⟩ rfl (.refl _) (.refl _)
    · refine w_condf rfl (bf c6) ?_
      refine awp_seq ?_
      refine w_reg ?_
      refine s_do (o_q (.bool (kind_1 == 3)) rfl rfl rfl) ?_
      refine s_do (o_mov (.bool (kind_1 == 3)) rfl) ?_
      refine w_done ?_
      refine k_seq ?_
      rcases oi hf with ⟨c9, hf⟩ | ⟨c9, hf⟩
      · refine w_condt rfl c9 ?_
        refine awp_seq ?_
        refine w_reg ?_
        obtain ⟨r_10, er11, hf⟩ := ob hf
        refine s_do (o_mov (.int .i64 kind_1) rfl) ?_
        refine s_do (o_mov (.ptr 0 0 0) rfl) ?_
        refine s_do (o_callh (v := (.int .i64 r_10.1)) (h2 := [.box 3 (.agg [(.lst 1 (r_10.2.Code.map enc_u8)), (.int .i64 r_10.2.At), (.int .i64 r_10.2.Seed)]), .box 3 (.agg [(.int .i64 0), (.int .i64 0), (.str [])])]) [] [0] (w_spec_l00Src_next_h1 _ _ _ er11) rfl (.refl _) (.refl _) rfl rfl) ?_
        refine s_do (o_q (.agg [(.int .i64 kind_1), (.int .i64 r_10.1), (.str [])]) rfl ⟨⟨rfl, nle, trivial⟩, ⟨⟨rfl, nle, trivial⟩, trivial⟩⟩ rfl) ?_
        refine s_do0 (o_storebox (v := (.agg [(.int .i64 kind_1), (.int .i64 r_10.1), (.str [])])) (y' := (.agg [(.int .i64 kind_1), (.int .i64 r_10.1), (.str [])])) rfl rfl rfl trivial ⟨rfl, nle⟩ ⟨⟨rfl, trivial⟩, ⟨⟨rfl, trivial⟩, ⟨⟨rfl, trivial⟩, trivial⟩⟩⟩ rfl) ?_
        refine w_done ?_
        refine k_seq ?_
        refine w_ret ?_
        obtain rfl := os hf
        exact r_heap [] [0] rfl ⟨nle, trivial⟩ rfl (.refl _) (.refl _)
      · refine w_condf rfl (bf c9) ?_
        refine w_skip ?_
        refine k_blk ?_
        refine k_seq ?_
        refine awp_seq ?_
        refine w_reg ?_
        obtain ⟨r_12, er13, hf⟩ := ob hf
        refine s_do (o_mov (.ptr 0 0 0) rfl) ?_
        refine s_do (o_callh (v := (.int .i64 r_12.1)) (h2 := [.box 3 (.agg [(.lst 1 (r_12.2.Code.map enc_u8)), (.int .i64 r_12.2.At), (.int .i64 r_12.2.Seed)]), .box 3 (.agg [(.int .i64 0), (.int .i64 0), (.str [])])]) [] [0] (w_spec_l00Src_next_h1 _ _ _ er13) rfl (.refl _) (.refl _) rfl rfl) ?_
        refine s_do (o_q (.int .i64 (w64 (1 + r_12.1))) rfl rfl rfl) ?_
        refine s_do (o_q (.agg [(.int .i64 4), (.int .i64 (w64 (1 + r_12.1))), (.str [])]) rfl ⟨⟨rfl, nle, trivial⟩, ⟨⟨rfl, nle, trivial⟩, trivial⟩⟩ rfl) ?_
        refine s_do0 (o_storebox (v := (.agg [(.int .i64 4), (.int .i64 (w64 (1 + r_12.1))), (.str [])])) (y' := (.agg [(.int .i64 4), (.int .i64 (w64 (1 + r_12.1))), (.str [])])) rfl rfl rfl trivial ⟨rfl, nle⟩ ⟨⟨rfl, trivial⟩, ⟨⟨rfl, trivial⟩, ⟨⟨rfl, trivial⟩, trivial⟩⟩⟩ rfl) ?_
        refine w_done ?_
        refine k_seq ?_
        refine w_ret ?_
        obtain rfl := os hf
        exact r_heap [] [0] rfl ⟨nle, trivial⟩ rfl (.refl _) (.refl _)

/- spec.l03Has -/
def c220 : ACode :=
 (.seq (.reg (.q ⟨(some 3), none, .box 3 (.t 1)⟩
 (.q ⟨(some 4), none, .mov (.c (.bool false))⟩
 .done)))
 (.seq (.seq (.reg (.q ⟨(some 5), none, .mov (.c (.int .i64 0))⟩
 .done))
 (.block 0 (.loop (.seq (.seq (.reg (.q ⟨(some 6), none, .mov (.t 5)⟩
 (.q ⟨(some 7), none, .mov (.t 0)⟩
 (.q ⟨(some 8), none, .len (.t 7)⟩
 (.q ⟨(some 9), none, .bin .lss (.t 6) (.t 8)⟩
 .done)))))
 (.cond (.t 9) .skip
 (.exit 0)))
 (.seq (.block 1 (.seq (.reg (.q ⟨(some 12), none, .mov (.t 0)⟩
 (.q ⟨(some 13), none, .mov (.t 5)⟩
 (.q ⟨(some 14), none, .iaddr 3 (.t 12) (.t 13)⟩
 (.q ⟨(some 15), none, .load 3 true (.t 14)⟩
 (.q ⟨(some 16), none, .load 3 true (.t 3)⟩
 (.q ⟨(some 17), none, .eqs false [0, 0, 2] (.t 15) (.t 16)⟩
 .done)))))))
 (.cond (.t 17) (.seq (.reg (.q ⟨(some 4), none, .mov (.c (.bool true))⟩
 .done))
 .ret)
 .skip)))
 (.reg (.q ⟨(some 10), none, .mov (.t 5)⟩
 (.q ⟨(some 11), none, .bin .add (.t 10) (.c (.int .i64 1))⟩
 (.q ⟨(some 5), none, .mov (.t 11)⟩
 .done)))))))))
 (.cut (.seq (.reg (.q ⟨(some 4), none, .mov (.c (.bool false))⟩
 .done))
 .ret))))
theorem fc220 : fcomp Try.prog Try.f220 = some (c220.erase, [.mov (.t 4)], 18) := by kernel_rfl
def spec_l03Has_L1 (a_2 : GAtom) : List GAtom → Option (Fl Bool Unit)
  | [] =>
    some (.go ())
  | x_28 :: xs =>
    if (x_28.Kind == a_2.Kind && (x_28.N == a_2.N && (x_28.T == a_2.T && true))) then
    some (.ret true)
    else
    spec_l03Has_L1 a_2 xs 

def spec_l03Has (d_1 : (List GAtom)) (a_2 : GAtom) : Option Bool :=
    (spec_l03Has_L1 a_2 d_1 ).bind fun q => (match q with
    | .ret r => some r
    | .go _ =>
    some false)
theorem w_spec_l03Has (d_1 : (List GAtom)) (a_2 : GAtom) (r : Bool) (hf : spec_l03Has d_1 a_2 = some r) : CallOK Try.prog 220 .flat [(.lst 3 (d_1.map encGAtom)), (encGAtom a_2)] (.bool r) := by
  refine CallOK.of_awp mixed Try.func220 fc220 nle ?_
  rw [argT_eq]
  unfold spec_l03Has at hf
  unfold c220
  refine (show awp Try.prog false 0 _ (ofL [(0, (.lst 3 (d_1.map encGAtom))), (1, (encGAtom a_2))]) [] _ from ?_)
  refine awp_seq ?_
  refine w_reg ?_
  refine s_do (o_box (j := 0) (c := (.agg [(.int .i64 a_2.Kind), (.int .i64 a_2.N), (.str a_2.T)])) rfl trivial rfl rfl) ?_
  refine s_do (o_mov (.bool false) rfl) ?_
  refine w_done ?_
  refine k_seq ?_
  refine awp_seq ?_
  refine awp_seq ?_
  refine w_reg ?_
  refine s_do (o_mov (.int .i64 0) rfl) ?_
  refine w_done ?_
  refine k_seq ?_
  obtain ⟨p21, hb1, hf⟩ := ob hf
  refine awp_cutx (X := {q : Unit // p21 = .go q}) (fun q => ([], [])) ?_ ?_
  · refine awp_loop (X := {q : Nat // spec_l03Has_L1 a_2 (d_1.drop q)  = some p21}) (fun q => ([(0, (.lst 3 (d_1.map encGAtom))), (3, (.ptr 0 0 0)), (5, (.int .i64 (q.1 : Int)))], [.box 3 (.agg [(.int .i64 a_2.Kind), (.int .i64 a_2.N), (.str a_2.T)])])) (fun q => d_1.length - q.1) ⟨0, hb1⟩ ⟨[], [0], _, _, rfl, rfl, ⟨.refl _, ⟨.refl _, ⟨.refl _, trivial⟩⟩⟩, (.refl _)⟩ ?_
    rintro ⟨i_14, hc1⟩
    have hc1 : spec_l03Has_L1 a_2 (d_1.drop i_14)  = some p21 := hc1
    refine (show awp Try.prog false 0 _ (ofL [(0, (.lst 3 (d_1.map encGAtom))), (3, (.ptr 0 0 0)), (5, (.int .i64 (i_14 : Int)))]) [.box 3 (.agg [(.int .i64 a_2.Kind), (.int .i64 a_2.N), (.str a_2.T)])] _ from ?_)
    rcases dropc d_1 i_14 with ⟨hie24, hd27⟩ | ⟨hlt22, x_28, hx23, hd27⟩
    · rw [hd27, spec_l03Has_L1.eq_1] at hc1
      have hq26 := dlf hie24
      refine awp_seq ?_
      refine awp_seq ?_
      refine w_reg ?_
      refine s_do (o_mov (.int .i64 (i_14 : Int)) rfl) ?_
      refine s_do (o_mov (.lst 3 (d_1.map encGAtom)) rfl) ?_
      refine s_dof (o_len (enc := encGAtom) rfl) fun hl29 => ?_
      refine s_do (o_q (.bool (decide ((i_14 : Int) < (d_1.length : Int)))) rfl rfl rfl) ?_
      refine w_done ?_
      refine k_seq ?_
      refine w_condf rfl hq26 ?_
      refine w_exit ?_
      refine k_seqx ?_
      refine k_loopx ?_
      refine k_blkx ?_
      obtain rfl := os hc1
      exact k_cutn ⟨_, rfl⟩ ⟨[], [], _, _, rfl, rfl, trivial, (.refl _)⟩
    · rw [hd27, spec_l03Has_L1.eq_2] at hc1
      have hq26 := dlt hlt22
      refine awp_seq ?_
      refine awp_seq ?_
      refine w_reg ?_
      refine s_do (o_mov (.int .i64 (i_14 : Int)) rfl) ?_
      refine s_do (o_mov (.lst 3 (d_1.map encGAtom)) rfl) ?_
      refine s_dof (o_len (enc := encGAtom) rfl) fun hl30 => ?_
      refine s_do (o_q (.bool (decide ((i_14 : Int) < (d_1.length : Int)))) rfl rfl rfl) ?_
      refine w_done ?_
      refine k_seq ?_
      refine w_condt rfl hq26 ?_
      refine w_skip ?_
      refine k_seq ?_
      refine awp_seq ?_
      refine w_blk ?_
      refine awp_seq ?_
      refine w_reg ?_
      refine s_do (o_mov (.lst 3 (d_1.map encGAtom)) rfl) ?_
      refine s_do (o_mov (.int .i64 (i_14 : Int)) rfl) ?_
      refine s_do (o_iaddrn (enc := encGAtom) rfl rfl hx23) ?_
      refine s_do (o_q (encGAtom x_28) rfl nle rfl) ?_
      refine s_do (o_q (.agg [(.int .i64 a_2.Kind), (.int .i64 a_2.N), (.str a_2.T)]) rfl nle rfl) ?_
      refine s_do (o_q (.bool (x_28.Kind == a_2.Kind && (x_28.N == a_2.N && (x_28.T == a_2.T && true)))) rfl ⟨⟨rfl, rfl⟩, ⟨⟨rfl, rfl⟩, ⟨rfl, trivial⟩⟩⟩ rfl) ?_
      refine w_done ?_
      refine k_seq ?_
      rcases oi hc1 with ⟨c31, hc1⟩ | ⟨c31, hc1⟩
      · refine w_condt rfl c31 ?_
        refine awp_seq ?_
        refine w_reg ?_
        refine s_do (o_mov (.bool true) rfl) ?_
        refine w_done ?_
        refine k_seq ?_
        refine w_ret ?_
        obtain rfl := os hc1
        obtain rfl := os hf
        exact r_flat ⟨trivial, trivial⟩ rfl (.refl _)
      · refine w_condf rfl (bf c31) ?_
        refine w_skip ?_
        refine k_blk ?_
        refine k_seq ?_
        refine w_reg ?_
        refine s_do (o_mov (.int .i64 (i_14 : Int)) rfl) ?_
        refine s_do (o_q (.int .i64 (w64 ((i_14 : Int) + 1))) rfl rfl rfl) ?_
        refine s_do (o_mov (.int .i64 (w64 ((i_14 : Int) + 1))) rfl) ?_
        refine w_done ?_
        exact k_loopn ⟨(i_14 + 1), hc1⟩ (mul hlt22) ⟨[], [0], _, _, rfl, rfl, ⟨.refl _, ⟨.refl _, ⟨.of_eq (congrArg (AV.int _) (w64_incr hlt22 hl30)), trivial⟩⟩⟩, (.refl _)⟩
  · rintro ⟨_, rfl⟩
    refine awp_seq ?_
    refine w_reg ?_
    refine s_do (o_mov (.bool false) rfl) ?_
    refine w_done ?_
    refine k_seq ?_
    refine w_ret ?_
    obtain rfl := os hf
    exact r_flat ⟨trivial, trivial⟩ rfl (.refl _)

/- spec.l01Bit -/
def c215 : ACode :=
 (.seq (.reg (.q ⟨(some 2), none, .mov (.c (.int .i64 0))⟩
 .done))
 (.seq (.seq (.reg (.q ⟨(some 3), none, .mov (.t 0)⟩
 .done))
 (.cond (.t 3) (.seq (.reg (.q ⟨(some 2), none, .mov (.c (.int .i64 1))⟩
 .done))
 .ret)
 .skip))
 (.seq (.reg (.q ⟨(some 2), none, .mov (.c (.int .i64 0))⟩
 .done))
 .ret)))
theorem fc215 : fcomp Try.prog Try.f215 = some (c215.erase, [.mov (.t 2)], 4) := by kernel_rfl
def spec_l01Bit (b_1 : Bool) : Option Int :=
    if b_1 then
    some 1
    else
    some 0
theorem w_spec_l01Bit (b_1 : Bool) (r : Int) (hf : spec_l01Bit b_1 = some r) : CallOK Try.prog 215 .flat [(.bool b_1)] (.int .i64 r) := by
  refine CallOK.of_awp mixed Try.func215 fc215 nle ?_
  rw [argT_eq]
  unfold spec_l01Bit at hf
  unfold c215
  refine (show awp Try.prog false 0 _ (ofL [(0, (.bool b_1))]) [] _ from ?_)
  refine awp_seq ?_
  refine w_reg ?_
  refine s_do (o_mov (.int .i64 0) rfl) ?_
  refine w_done ?_
  refine k_seq ?_
  refine awp_seq ?_
  refine awp_seq ?_
  refine w_reg ?_
  refine s_do (o_mov (.bool b_1) rfl) ?_
  refine w_done ?_
  refine k_seq ?_
  rcases oi hf with ⟨c2, hf⟩ | ⟨c2, hf⟩
  · refine w_condt rfl c2 ?_
    refine awp_seq ?_
    refine w_reg ?_
    refine s_do (o_mov (.int .i64 1) rfl) ?_
    refine w_done ?_
    refine k_seq ?_
    refine w_ret ?_
    obtain rfl := os hf
    exact r_flat ⟨trivial, trivial⟩ rfl (.refl _)
  · refine w_condf rfl (bf c2) ?_
    refine w_skip ?_
    refine k_seq ?_
    refine awp_seq ?_
    refine w_reg ?_
    refine s_do (o_mov (.int .i64 0) rfl) ?_
    refine w_done ?_
    refine k_seq ?_
    refine w_ret ?_
    obtain rfl := os hf
    exact r_flat ⟨trivial, trivial⟩ rfl (.refl _)

/- spec.l03Order -/
def c190 : ACode :=
 (.seq (.reg (.q ⟨(some 2), none, .box 3 (.t 0)⟩
 (.q ⟨(some 3), none, .box 3 (.t 1)⟩
 (.q ⟨(some 4), none, .mov (.c (.int .i64 0))⟩
 .done))))
 (.seq (.block 0 (.seq (.reg (.q ⟨(some 6), none, .faddr 0 (.t 2)⟩
 (.q ⟨(some 7), none, .load 1 false (.t 6)⟩
 (.q ⟨(some 8), none, .faddr 0 (.t 3)⟩
 (.q ⟨(some 9), none, .load 1 false (.t 8)⟩
 (.q ⟨(some 10), none, .bin .neq (.t 7) (.t 9)⟩
 (.q ⟨(some 5), none, .mov (.t 10)⟩
 .done)))))))
 (.cond (.t 5) (.seq (.reg (.q ⟨(some 11), none, .faddr 0 (.t 2)⟩
 (.q ⟨(some 12), none, .load 1 false (.t 11)⟩
 (.q ⟨(some 13), none, .faddr 0 (.t 3)⟩
 (.q ⟨(some 14), none, .load 1 false (.t 13)⟩
 (.q ⟨(some 15), none, .bin .lss (.t 12) (.t 14)⟩
 (.q ⟨(some 16), none, .call 215 [(.t 15)]⟩
 (.q ⟨(some 17), none, .bin .mul (.c (.int .i64 2)) (.t 16)⟩
 (.q ⟨(some 18), none, .bin .sub (.c (.int .i64 1)) (.t 17)⟩
 (.q ⟨(some 4), none, .mov (.t 18)⟩
 .done))))))))))
 .ret)
 (.seq (.reg (.q ⟨(some 20), none, .faddr 1 (.t 2)⟩
 (.q ⟨(some 21), none, .load 1 false (.t 20)⟩
 (.q ⟨(some 22), none, .faddr 1 (.t 3)⟩
 (.q ⟨(some 23), none, .load 1 false (.t 22)⟩
 (.q ⟨(some 24), none, .bin .neq (.t 21) (.t 23)⟩
 (.q ⟨(some 19), none, .mov (.t 24)⟩
 .done)))))))
 (.cond (.t 19) (.seq (.reg (.q ⟨(some 25), none, .faddr 1 (.t 2)⟩
 (.q ⟨(some 26), none, .load 1 false (.t 25)⟩
 (.q ⟨(some 27), none, .faddr 1 (.t 3)⟩
 (.q ⟨(some 28), none, .load 1 false (.t 27)⟩
 (.q ⟨(some 29), none, .bin .lss (.t 26) (.t 28)⟩
 (.q ⟨(some 30), none, .call 215 [(.t 29)]⟩
 (.q ⟨(some 31), none, .bin .mul (.c (.int .i64 2)) (.t 30)⟩
 (.q ⟨(some 32), none, .bin .sub (.c (.int .i64 1)) (.t 31)⟩
 (.q ⟨(some 4), none, .mov (.t 32)⟩
 .done))))))))))
 .ret)
 (.seq (.reg (.q ⟨(some 34), none, .faddr 2 (.t 2)⟩
 (.q ⟨(some 35), none, .load 1 false (.t 34)⟩
 (.q ⟨(some 36), none, .faddr 2 (.t 3)⟩
 (.q ⟨(some 37), none, .load 1 false (.t 36)⟩
 (.q ⟨(some 38), none, .bin .neq (.t 35) (.t 37)⟩
 (.q ⟨(some 33), none, .mov (.t 38)⟩
 .done)))))))
 (.cond (.t 33) (.seq (.reg (.q ⟨(some 39), none, .faddr 2 (.t 2)⟩
 (.q ⟨(some 40), none, .load 1 false (.t 39)⟩
 (.q ⟨(some 41), none, .faddr 2 (.t 3)⟩
 (.q ⟨(some 42), none, .load 1 false (.t 41)⟩
 (.q ⟨(some 43), none, .bin .lss (.t 40) (.t 42)⟩
 (.q ⟨(some 44), none, .call 215 [(.t 43)]⟩
 (.q ⟨(some 45), none, .bin .mul (.c (.int .i64 2)) (.t 44)⟩
 (.q ⟨(some 46), none, .bin .sub (.c (.int .i64 1)) (.t 45)⟩
 (.q ⟨(some 4), none, .mov (.t 46)⟩
 .done))))))))))
 .ret)
 .skip)))))))
 (.seq (.reg (.q ⟨(some 4), none, .mov (.c (.int .i64 0))⟩
 .done))
 .ret)))
theorem fc190 : fcomp Try.prog Try.f190 = some (c190.erase, [.mov (.t 4)], 47) := by kernel_rfl
def spec_l03Order (a_1 : GAtom) (b_2 : GAtom) : Option Int :=
    if (a_1.Kind != b_2.Kind) then
    (spec_l01Bit (decide (a_1.Kind < b_2.Kind))).bind fun r_4 =>
    some (w64 (1 - (w64 (2 * r_4))))
    else
    if (a_1.N != b_2.N) then
    (spec_l01Bit (decide (a_1.N < b_2.N))).bind fun r_7 =>
    some (w64 (1 - (w64 (2 * r_7))))
    else
    if (!(a_1.T == b_2.T)) then
    (spec_l01Bit (Op.bytesLess a_1.T b_2.T)).bind fun r_10 =>
    some (w64 (1 - (w64 (2 * r_10))))
    else
    some 0
theorem w_spec_l03Order (a_1 : GAtom) (b_2 : GAtom) (r : Int) (hf : spec_l03Order a_1 b_2 = some r) : CallOK Try.prog 190 .flat [(encGAtom a_1), (encGAtom b_2)] (.int .i64 r) := by
  refine CallOK.of_awp mixed Try.func190 fc190 nle ?_
  rw [argT_eq]
  unfold spec_l03Order at hf
  unfold c190
  refine (show awp Try.prog false 0 _ (ofL [(0, (encGAtom a_1)), (1, (encGAtom b_2))]) [] _ from ?_)
  refine awp_seq ?_
  refine w_reg ?_
  refine s_do (o_box (j := 0) (c := (.agg [(.int .i64 a_1.Kind), (.int .i64 a_1.N), (.str a_1.T)])) rfl trivial rfl rfl) ?_
  refine s_do (o_box (j := 1) (c := (.agg [(.int .i64 b_2.Kind), (.int .i64 b_2.N), (.str b_2.T)])) rfl trivial rfl rfl) ?_
  refine s_do (o_mov (.int .i64 0) rfl) ?_
  refine w_done ?_
  refine k_seq ?_
  refine awp_seq ?_
  refine w_blk ?_
  refine awp_seq ?_
  refine w_reg ?_
  refine s_do (o_q (.ptr 0 0 0) rfl trivial rfl) ?_
  refine s_do (o_q (.int .i64 a_1.Kind) rfl nle rfl) ?_
  refine s_do (o_q (.ptr 1 0 0) rfl trivial rfl) ?_
  refine s_do (o_q (.int .i64 b_2.Kind) rfl nle rfl) ?_
  refine s_do (o_q (.bool (a_1.Kind != b_2.Kind)) rfl rfl rfl) ?_
  refine s_do (o_mov (.bool (a_1.Kind != b_2.Kind)) rfl) ?_
  refine w_done ?_
  refine k_seq ?_
  rcases oi hf with ⟨c3, hf⟩ | ⟨c3, hf⟩
  · refine w_condt rfl c3 ?_
    refine awp_seq ?_
    refine w_reg ?_
    obtain ⟨r_4, er5, hf⟩ := ob hf
    refine s_do (o_q (.ptr 0 0 0) rfl trivial rfl) ?_
    refine s_do (o_q (.int .i64 a_1.Kind) rfl nle rfl) ?_
    refine s_do (o_q (.ptr 1 0 0) rfl trivial rfl) ?_
    refine s_do (o_q (.int .i64 b_2.Kind) rfl nle rfl) ?_
    refine s_do (o_q (.bool (decide (a_1.Kind < b_2.Kind))) rfl rfl rfl) ?_
    refine s_do (o_call (w_spec_l01Bit _ _ er5) rfl (.refl _) rfl) ?_
    refine s_do (o_q (.int .i64 (w64 (2 * r_4))) rfl rfl rfl) ?_
    refine s_do (o_q (.int .i64 (w64 (1 - (w64 (2 * r_4))))) rfl rfl rfl) ?_
    refine s_do (o_mov (.int .i64 (w64 (1 - (w64 (2 * r_4))))) rfl) ?_
    refine w_done ?_
    refine k_seq ?_
    refine w_ret ?_
    obtain rfl := os hf
    exact r_flat ⟨trivial, trivial⟩ rfl (.refl _)
  · refine w_condf rfl (bf c3) ?_
    refine awp_seq ?_
    refine w_reg ?_
    refine s_do (o_q (.ptr 0 0 1) rfl trivial rfl) ?_
    refine s_do (o_q (.int .i64 a_1.N) rfl nle rfl) ?_
    refine s_do (o_q (.ptr 1 0 1) rfl trivial rfl) ?_
    refine s_do (o_q (.int .i64 b_2.N) rfl nle rfl) ?_
    refine s_do (o_q (.bool (a_1.N != b_2.N)) rfl rfl rfl) ?_
    refine s_do (o_mov (.bool (a_1.N != b_2.N)) rfl) ?_
    refine w_done ?_
    refine k_seq ?_
    rcases oi hf with ⟨c6, hf⟩ | ⟨c6, hf⟩
    · refine w_condt rfl c6 ?_
      refine awp_seq ?_
      refine w_reg ?_
      obtain ⟨r_7, er8, hf⟩ := ob hf
      refine s_do (o_q (.ptr 0 0 1) rfl trivial rfl) ?_
      refine s_do (o_q (.int .i64 a_1.N) rfl nle rfl) ?_
      refine s_do (o_q (.ptr 1 0 1) rfl trivial rfl) ?_
      refine s_do (o_q (.int .i64 b_2.N) rfl nle rfl) ?_
      refine s_do (o_q (.bool (decide (a_1.N < b_2.N))) rfl rfl rfl) ?_
      refine s_do (o_call (w_spec_l01Bit _ _ er8) rfl (.refl _) rfl) ?_
      refine s_do (o_q (.int .i64 (w64 (2 * r_7))) rfl rfl rfl) ?_
      refine s_do (o_q (.int .i64 (w64 (1 - (w64 (2 * r_7))))) rfl rfl rfl) ?_
      refine s_do (o_mov (.int .i64 (w64 (1 - (w64 (2 * r_7))))) rfl) ?_
      refine w_done ?_
      refine k_seq ?_
      refine w_ret ?_
      obtain rfl := os hf
      exact r_flat ⟨trivial, trivial⟩ rfl (.refl _)
    · refine w_condf rfl (bf c6) ?_
      refine awp_seq ?_
      refine w_reg ?_
      refine s_do (o_q (.ptr 0 0 2) rfl trivial rfl) ?_
      refine s_do (o_q (.str a_1.T) rfl nle rfl) ?_
      refine s_do (o_q (.ptr 1 0 2) rfl trivial rfl) ?_
      refine s_do (o_q (.str b_2.T) rfl nle rfl) ?_
      refine s_do (o_q (.bool (!(a_1.T == b_2.T))) rfl trivial rfl) ?_
      refine s_do (o_mov (.bool (!(a_1.T == b_2.T))) rfl) ?_
      refine w_done ?_
      refine k_seq ?_
      rcases oi hf with ⟨c9, hf⟩ | ⟨c9, hf⟩
      · refine w_condt rfl c9 ?_
        refine awp_seq ?_
        refine w_reg ?_
        obtain ⟨r_10, er11, hf⟩ := ob hf
        refine s_do (o_q (.ptr 0 0 2) rfl trivial rfl) ?_
        refine s_do (o_q (.str a_1.T) rfl nle rfl) ?_
        refine s_do (o_q (.ptr 1 0 2) rfl trivial rfl) ?_
        refine s_do (o_q (.str b_2.T) rfl nle rfl) ?_
        refine s_do (o_q (.bool (Op.bytesLess a_1.T b_2.T)) rfl trivial rfl) ?_
        refine s_do (o_call (w_spec_l01Bit _ _ er11) rfl (.refl _) rfl) ?_
        refine s_do (o_q (.int .i64 (w64 (2 * r_10))) rfl rfl rfl) ?_
        refine s_do (o_q (.int .i64 (w64 (1 - (w64 (2 * r_10))))) rfl rfl rfl) ?_
        refine s_do (o_mov (.int .i64 (w64 (1 - (w64 (2 * r_10))))) rfl) ?_
        refine w_done ?_
        refine k_seq ?_
        refine w_ret ?_
        obtain rfl := os hf
        exact r_flat ⟨trivial, trivial⟩ rfl (.refl _)
      · refine w_condf rfl (bf c9) ?_
        refine w_skip ?_
        refine k_blk ?_
        refine k_seq ?_
        refine awp_seq ?_
        refine w_reg ?_
        refine s_do (o_mov (.int .i64 0) rfl) ?_
        refine w_done ?_
        refine k_seq ?_
        refine w_ret ?_
        obtain rfl := os hf
        exact r_flat ⟨trivial, trivial⟩ rfl (.refl _)

/- spec.l03Put -/
def c188 : ACode :=
 (.seq (.reg (.q ⟨(some 3), none, .box 3 (.t 1)⟩
 (.q ⟨(some 4), none, .mov (.c .nil)⟩
 .done)))
 (.seq (.seq (.reg (.q ⟨(some 6), none, .mov (.t 0)⟩
 (.q ⟨(some 7), none, .load 3 true (.t 3)⟩
 (.q ⟨(some 8), none, .call 220 [(.t 6), (.t 7)]⟩
 .done))))
 (.cond (.t 8) (.seq (.reg (.q ⟨(some 9), none, .mov (.t 0)⟩
 (.q ⟨(some 4), none, .mov (.t 9)⟩
 .done)))
 .ret)
 .skip))
 (.seq (.reg (.q ⟨(some 10), none, .mov (.t 0)⟩
 (.q ⟨(some 11), none, .len (.t 10)⟩
 (.q ⟨(some 5), none, .mov (.t 11)⟩
 .done))))
 (.seq (.block 0 (.loop (.seq (.seq (.reg (.q ⟨(some 12), none, .mov (.t 5)⟩
 (.q ⟨(some 13), none, .bin .gtr (.t 12) (.c (.int .i64 0))⟩
 (.q ⟨(some 14), none, .mov (.t 13)⟩
 (.q ⟨(some 15), (some (14, true)), .mov (.t 0)⟩
 (.q ⟨(some 16), (some (14, true)), .mov (.t 5)⟩
 (.q ⟨(some 17), (some (14, true)), .bin .sub (.t 16) (.c (.int .i64 1))⟩
 (.q ⟨(some 18), (some (14, true)), .iaddr 3 (.t 15) (.t 17)⟩
 (.q ⟨(some 19), (some (14, true)), .load 3 true (.t 18)⟩
 (.q ⟨(some 20), (some (14, true)), .load 3 true (.t 3)⟩
 (.l ⟨(some 21), (some (14, true)), .call 190 [(.t 19), (.t 20)]⟩ []
 (.q ⟨(some 22), (some (14, true)), .bin .gtr (.t 21) (.c (.int .i64 0))⟩
 (.q ⟨(some 23), none, .pick (.t 14) (.t 22) (.c (.bool false))⟩
 .done)) .non)))))))))))
 (.cut (.cond (.t 23) .skip
 (.exit 0))))
 (.block 1 (.reg (.q ⟨(some 24), none, .mov (.t 5)⟩
 (.q ⟨(some 25), none, .bin .sub (.t 24) (.c (.int .i64 1))⟩
 (.q ⟨(some 5), none, .mov (.t 25)⟩
 .done))))))))
 (.cut (.seq (.reg (.q ⟨(some 27), none, .mov (.t 0)⟩
 (.q ⟨(some 28), none, .mov (.t 5)⟩
 (.q ⟨(some 29), none, .slice 3 (.t 27) none (some (.t 28))⟩
 (.q ⟨(some 31), none, .load 3 true (.t 3)⟩
 (.q ⟨(some 34), none, .mov (.t 0)⟩
 (.q ⟨(some 35), none, .mov (.t 5)⟩
 (.q ⟨(some 36), none, .slice 3 (.t 34) (some (.t 35)) none⟩
 (.l ⟨(some 26), none, .bslice 3 []⟩ [⟨(some 36), none, .slice 3 (.t 34) (some (.t 35)) none⟩, ⟨(some 31), none, .load 3 true (.t 3)⟩, ⟨(some 29), none, .slice 3 (.t 27) none (some (.t 28))⟩]
 (.l ⟨(some 30), none, .append 3 32 (.t 26) (.t 29)⟩ [⟨(some 36), none, .slice 3 (.t 34) (some (.t 35)) none⟩, ⟨(some 31), none, .load 3 true (.t 3)⟩]
 (.l ⟨(some 32), none, .bslice 3 [(.t 31)]⟩ [⟨(some 36), none, .slice 3 (.t 34) (some (.t 35)) none⟩, ⟨(some 29), none, .slice 3 (.t 27) none (some (.t 28))⟩]
 (.l ⟨(some 33), none, .append 3 32 (.t 30) (.t 32)⟩ [⟨(some 36), none, .slice 3 (.t 34) (some (.t 35)) none⟩]
 (.l ⟨(some 37), none, .append 3 32 (.t 33) (.t 36)⟩ []
 (.q ⟨(some 4), none, .mov (.t 37)⟩
 .done) .non) .non) .non) (.l ⟨(some 32), none, .bslice 3 [(.t 31)]⟩ [⟨(some 36), none, .slice 3 (.t 34) (some (.t 35)) none⟩, ⟨(some 29), none, .slice 3 (.t 27) none (some (.t 28))⟩]
 (.l ⟨(some 30), none, .append 3 32 (.t 26) (.t 29)⟩ [⟨(some 36), none, .slice 3 (.t 34) (some (.t 35)) none⟩, ⟨(some 31), none, .load 3 true (.t 3)⟩]
 (.l ⟨(some 33), none, .append 3 32 (.t 30) (.t 32)⟩ [⟨(some 36), none, .slice 3 (.t 34) (some (.t 35)) none⟩]
 (.l ⟨(some 37), none, .append 3 32 (.t 33) (.t 36)⟩ []
 (.q ⟨(some 4), none, .mov (.t 37)⟩
 .done) .non) .non) .non) .non)) (.l ⟨(some 32), none, .bslice 3 [(.t 31)]⟩ [⟨(some 36), none, .slice 3 (.t 34) (some (.t 35)) none⟩, ⟨(some 29), none, .slice 3 (.t 27) none (some (.t 28))⟩]
 (.l ⟨(some 26), none, .bslice 3 []⟩ [⟨(some 36), none, .slice 3 (.t 34) (some (.t 35)) none⟩, ⟨(some 31), none, .load 3 true (.t 3)⟩, ⟨(some 29), none, .slice 3 (.t 27) none (some (.t 28))⟩]
 (.l ⟨(some 30), none, .append 3 32 (.t 26) (.t 29)⟩ [⟨(some 36), none, .slice 3 (.t 34) (some (.t 35)) none⟩, ⟨(some 31), none, .load 3 true (.t 3)⟩]
 (.l ⟨(some 33), none, .append 3 32 (.t 30) (.t 32)⟩ [⟨(some 36), none, .slice 3 (.t 34) (some (.t 35)) none⟩]
 (.l ⟨(some 37), none, .append 3 32 (.t 33) (.t 36)⟩ []
 (.q ⟨(some 4), none, .mov (.t 37)⟩
 .done) .non) .non) .non) .non) .non))))))))))
 .ret))))))
theorem fc188 : fcomp Try.prog Try.f188 = some (c188.erase, [.mov (.t 4)], 38) := by kernel_rfl
def spec_l03Put_L1 (d_1 : (List GAtom)) (a_2 : GAtom) : Nat → Int → Option Int
  | 0, _ => none
  | k + 1, k_34 =>
    ((if (decide (k_34 > 0)) then
    (idx d_1 (w64 (k_34 - 1))).bind fun x_58 =>
    (spec_l03Order x_58 a_2).bind fun r_60 =>
    some (decide (r_60 > 0))
    else
    some false : Option Bool)).bind fun s23_55 =>
    if s23_55 then
    spec_l03Put_L1 d_1 a_2 k (w64 (k_34 - 1))
    else
    some k_34

def spec_l03Put (d_1 : (List GAtom)) (a_2 : GAtom) : Option (List GAtom) :=
    (spec_l03Has d_1 a_2).bind fun r_3 =>
    if r_3 then
    some d_1
    else
    (spec_l03Put_L1 d_1 a_2 FUEL (d_1.length : Int)).bind fun k_48 =>
    if 0 ≤ k_48 ∧ k_48 ≤ (d_1.length : Int) then
    if 0 ≤ k_48 ∧ k_48 ≤ (d_1.length : Int) then
    if ([] ++ (d_1.take k_48.toNat)).length ≤ 2 ^ 30 then
    if (([] ++ (d_1.take k_48.toNat)) ++ [a_2]).length ≤ 2 ^ 30 then
    if ((([] ++ (d_1.take k_48.toNat)) ++ [a_2]) ++ (d_1.drop k_48.toNat)).length ≤ 2 ^ 30 then
    some ((([] ++ (d_1.take k_48.toNat)) ++ [a_2]) ++ (d_1.drop k_48.toNat))
    else none
    else none
    else none
    else none
    else none
theorem w_spec_l03Put (d_1 : (List GAtom)) (a_2 : GAtom) (r : (List GAtom)) (hf : spec_l03Put d_1 a_2 = some r) : CallOK Try.prog 188 .weak [(.lst 3 (d_1.map encGAtom)), (encGAtom a_2)] (.lst 3 (r.map encGAtom)) := by
  refine CallOK.of_awp mixed Try.func188 fc188 nle ?_
  rw [argT_eq]
  unfold spec_l03Put at hf
  unfold c188
  refine (show awp Try.prog false 0 _ (ofL [(0, (.lst 3 (d_1.map encGAtom))), (1, (encGAtom a_2))]) [] _ from ?_)
  refine awp_seq ?_
  refine w_reg ?_
  refine s_do (o_box (j := 0) (c := (.agg [(.int .i64 a_2.Kind), (.int .i64 a_2.N), (.str a_2.T)])) rfl trivial rfl rfl) ?_
  refine s_do (o_mov .nil rfl) ?_
  refine w_done ?_
  refine k_seq ?_
  refine awp_seq ?_
  refine awp_seq ?_
  refine w_reg ?_
  obtain ⟨r_3, er4, hf⟩ := ob hf
  refine s_do (o_mov (.lst 3 (d_1.map encGAtom)) rfl) ?_
  refine s_do (o_q (.agg [(.int .i64 a_2.Kind), (.int .i64 a_2.N), (.str a_2.T)]) rfl nle rfl) ?_
  refine s_do (o_call (w_spec_l03Has _ _ _ er4) rfl (.refl _) rfl) ?_
  refine w_done ?_
  refine k_seq ?_
  rcases oi hf with ⟨c5, hf⟩ | ⟨c5, hf⟩
  · refine w_condt rfl c5 ?_
    refine awp_seq ?_
    refine w_reg ?_
    refine s_do (o_mov (.lst 3 (d_1.map encGAtom)) rfl) ?_
    refine s_do (o_mov (.lst 3 (d_1.map encGAtom)) rfl) ?_
    refine w_done ?_
    refine k_seq ?_
    refine w_ret ?_
    obtain rfl := os hf
    exact r_weak ⟨trivial, trivial⟩ rfl (.refl _)
  · refine w_condf rfl (bf c5) ?_
    refine w_skip ?_
    refine k_seq ?_
    refine awp_seq ?_
    refine w_reg ?_
    refine s_do (o_mov (.lst 3 (d_1.map encGAtom)) rfl) ?_
    refine s_dof (o_len (enc := encGAtom) rfl) fun hl6 => ?_
    refine s_do (o_mov (.int .i64 (d_1.length : Int)) rfl) ?_
    refine w_done ?_
    refine k_seq ?_
    refine awp_seq ?_
    obtain ⟨k_48, hb1, hf⟩ := ob hf
    refine awp_cut ([(0, (.lst 3 (d_1.map encGAtom))), (3, (.ptr 0 0 0)), (5, (.int .i64 k_48))], [.box 3 (.agg [(.int .i64 a_2.Kind), (.int .i64 a_2.N), (.str a_2.T)])]) ?_ ?_
    · refine awp_loop (X := {q : (Nat × Int) // spec_l03Put_L1 d_1 a_2 q.1 q.2 = some k_48}) (fun q => ([(0, (.lst 3 (d_1.map encGAtom))), (3, (.ptr 0 0 0)), (5, (.int .i64 q.1.2))], [.box 3 (.agg [(.int .i64 a_2.Kind), (.int .i64 a_2.N), (.str a_2.T)])])) (fun q => q.1.1) ⟨(FUEL, (d_1.length : Int)), hb1⟩ ⟨[], [0], _, _, rfl, rfl, ⟨.refl _, ⟨.refl _, ⟨.refl _, trivial⟩⟩⟩, (.refl _)⟩ ?_
      rintro ⟨⟨k, k_34⟩, hc1⟩
      have hc1 : spec_l03Put_L1 d_1 a_2 k k_34 = some k_48 := hc1
      refine (show awp Try.prog false 0 _ (ofL [(0, (.lst 3 (d_1.map encGAtom))), (3, (.ptr 0 0 0)), (5, (.int .i64 k_34))]) [.box 3 (.agg [(.int .i64 a_2.Kind), (.int .i64 a_2.N), (.str a_2.T)])] _ from ?_)
      rcases k with _ | k
      · rw [spec_l03Put_L1.eq_1] at hc1
        cases hc1
      · rw [spec_l03Put_L1.eq_2] at hc1
        refine awp_seq ?_
        refine awp_seq ?_
        obtain ⟨s23_55, hb2, hc1⟩ := ob hc1
        refine awp_cut ([(0, (.lst 3 (d_1.map encGAtom))), (3, (.ptr 0 0 0)), (5, (.int .i64 k_34)), (23, (.bool s23_55))], [.box 3 (.agg [(.int .i64 a_2.Kind), (.int .i64 a_2.N), (.str a_2.T)])]) ?_ ?_
        · refine w_reg ?_
          rcases oi hb2 with ⟨c57, hb2⟩ | ⟨c57, hb2⟩
          · obtain ⟨x_58, ex59, hb2⟩ := ob hb2
            obtain ⟨r_60, er61, hb2⟩ := ob hb2
            refine s_do (o_mov (.int .i64 k_34) rfl) ?_
            refine s_do (o_q (.bool (decide (k_34 > 0))) rfl rfl rfl) ?_
            refine s_do (o_mov (.bool (decide (k_34 > 0))) rfl) ?_
            refine s_lit (s := 14) (b := true) rfl c57 ?_
            refine s_on rfl ?_
            refine s_do (o_mov (.lst 3 (d_1.map encGAtom)) rfl) ?_
            refine s_on rfl ?_
            refine s_do (o_mov (.int .i64 k_34) rfl) ?_
            refine s_on rfl ?_
            refine s_do (o_q (.int .i64 (w64 (k_34 - 1))) rfl rfl rfl) ?_
            refine s_on rfl ?_
            refine s_do (o_iaddr (enc := encGAtom) rfl rfl (idx0 ex59) (idx1 ex59)) ?_
            refine s_on rfl ?_
            refine s_do (o_q (encGAtom x_58) rfl nle rfl) ?_
            refine s_on rfl ?_
            refine s_do (o_q (.agg [(.int .i64 a_2.Kind), (.int .i64 a_2.N), (.str a_2.T)]) rfl nle rfl) ?_
            refine s_onl rfl ?_
            refine s_dol (o_call (w_spec_l03Order _ _ _ er61) rfl (.refl _) rfl) a_same trivial ?_
            refine s_on rfl ?_
            refine s_do (o_q (.bool (decide (r_60 > 0))) rfl rfl rfl) ?_
            refine s_do (o_q (.bool (decide (r_60 > 0))) rfl trivial rfl) ?_
            refine w_done ?_
            obtain rfl := os hb2
            exact ⟨[], [0], _, _, rfl, rfl, ⟨.refl _, ⟨.refl _, ⟨.refl _, ⟨.refl _, trivial⟩⟩⟩⟩, (.refl _)⟩
          · refine s_do (o_mov (.int .i64 k_34) rfl) ?_
            refine s_do (o_q (.bool (decide (k_34 > 0))) rfl rfl rfl) ?_
            refine s_do (o_mov (.bool (decide (k_34 > 0))) rfl) ?_
            refine s_lit (s := 14) (b := false) rfl (bf c57) ?_
            refine s_off rfl rfl ?_
            refine s_off rfl rfl ?_
            refine s_off rfl rfl ?_
            refine s_off rfl rfl ?_
            refine s_off rfl rfl ?_
            refine s_off rfl rfl ?_
            refine s_offl rfl rfl trivial ?_
            refine s_off rfl rfl ?_
            refine s_do (o_q (.bool false) rfl trivial rfl) ?_
            refine w_done ?_
            obtain rfl := os hb2
            exact ⟨[], [0], _, _, rfl, rfl, ⟨.refl _, ⟨.refl _, ⟨.refl _, ⟨.refl _, trivial⟩⟩⟩⟩, (.refl _)⟩
        · rcases oi hc1 with ⟨c62, hc1⟩ | ⟨c62, hc1⟩
          · refine w_condt rfl c62 ?_
            refine w_skip ?_
            refine k_seq ?_
            refine w_blk ?_
            refine w_reg ?_
            refine s_do (o_mov (.int .i64 k_34) rfl) ?_
            refine s_do (o_q (.int .i64 (w64 (k_34 - 1))) rfl rfl rfl) ?_
            refine s_do (o_mov (.int .i64 (w64 (k_34 - 1))) rfl) ?_
            refine w_done ?_
            refine k_blk ?_
            exact k_loopn ⟨(k, w64 (k_34 - 1)), hc1⟩ (Nat.lt_succ_self _) ⟨[], [0], _, _, rfl, rfl, ⟨.refl _, ⟨.refl _, ⟨.refl _, trivial⟩⟩⟩, (.refl _)⟩
          · refine w_condf rfl (bf c62) ?_
            refine w_exit ?_
            refine k_seqx ?_
            refine k_loopx ?_
            refine k_blkx ?_
            obtain rfl := os hc1
            exact ⟨[], [0], _, _, rfl, rfl, ⟨.refl _, ⟨.refl _, ⟨.refl _, trivial⟩⟩⟩, (.refl _)⟩
    · refine awp_seq ?_
      refine w_reg ?_
      obtain ⟨g63, hf⟩ := og hf
      obtain ⟨g64, hf⟩ := og hf
      obtain ⟨g65, hf⟩ := og hf
      obtain ⟨g66, hf⟩ := og hf
      obtain ⟨g67, hf⟩ := og hf
      refine s_do (o_mov (.lst 3 (d_1.map encGAtom)) rfl) ?_
      refine s_do (o_mov (.int .i64 k_48) rfl) ?_
      refine s_do (o_slt (enc := encGAtom) rfl rfl g63.1 g63.2) ?_
      refine s_do (o_q (.agg [(.int .i64 a_2.Kind), (.int .i64 a_2.N), (.str a_2.T)]) rfl nle rfl) ?_
      refine s_do (o_mov (.lst 3 (d_1.map encGAtom)) rfl) ?_
      refine s_do (o_mov (.int .i64 k_48) rfl) ?_
      refine s_do (o_sld (enc := encGAtom) rfl rfl g64.1 g64.2) ?_
      refine s_dol (o_bslice (j := 1) (as' := []) rfl (fun _ => by decide) trivial (.refl _) rfl rfl rfl) (.inr ⟨(ag_sld (enc := encGAtom) rfl rfl g64.1 g64.2), ⟨⟨nle, rfl⟩, ⟨(ag_slt (enc := encGAtom) rfl rfl g63.1 g63.2), trivial⟩⟩⟩) ?_ ?_
      · refine s_dol (o_bslice (j := 1) (as' := [(encGAtom a_2)]) rfl (fun _ => by decide) ⟨rfl, trivial⟩ (.refl _) rfl rfl rfl) (.inr ⟨(ag_sld (enc := encGAtom) rfl rfl g64.1 g64.2), ⟨(ag_slt (enc := encGAtom) rfl rfl g63.1 g63.2), trivial⟩⟩) trivial ?_
        refine s_dol (o_bslice (j := 2) (as' := []) rfl (fun _ => by decide) trivial (.refl _) rfl rfl rfl) (.inr ⟨(ag_sld (enc := encGAtom) rfl rfl g64.1 g64.2), ⟨⟨nle, rfl⟩, ⟨(ag_slt (enc := encGAtom) rfl rfl g63.1 g63.2), trivial⟩⟩⟩) trivial ?_
        refine s_dol (o_appendw (j := 3) (L := (([] ++ (d_1.take k_48.toNat)).map encGAtom)) (len := ([] ++ (d_1.take k_48.toNat)).length) rfl rfl ((by simp)) (by simp <;> omega) g65 rfl rfl) (.inr ⟨(ag_sld (enc := encGAtom) rfl rfl g64.1 g64.2), ⟨⟨nle, rfl⟩, trivial⟩⟩) trivial ?_
        refine s_dol (o_appendw (j := 4) (L := ((([] ++ (d_1.take k_48.toNat)) ++ [a_2]).map encGAtom)) (len := (([] ++ (d_1.take k_48.toNat)) ++ [a_2]).length) rfl rfl (apo (enc := encGAtom) ([] ++ (d_1.take k_48.toNat)) [a_2]) (by simp <;> omega) g66 rfl rfl) (.inr ⟨(ag_sld (enc := encGAtom) rfl rfl g64.1 g64.2), trivial⟩) trivial ?_
        refine s_dol (o_appendw (j := 5) (L := (((([] ++ (d_1.take k_48.toNat)) ++ [a_2]) ++ (d_1.drop k_48.toNat)).map encGAtom)) (len := ((([] ++ (d_1.take k_48.toNat)) ++ [a_2]) ++ (d_1.drop k_48.toNat)).length) rfl rfl (apl (enc := encGAtom) (([] ++ (d_1.take k_48.toNat)) ++ [a_2]) (d_1.drop k_48.toNat)) (by simp <;> omega) g67 rfl rfl) trivial trivial ?_
        refine s_do (o_mov (.own 5 0 (((([] ++ (d_1.take k_48.toNat)) ++ [a_2]) ++ (d_1.drop k_48.toNat)).length)) rfl) ?_
        refine w_done ?_
        refine k_seq ?_
        refine w_ret ?_
        obtain rfl := os hf
        exact r_weak ⟨trivial, trivial⟩ rfl (.of_eq (congrArg (AV.lst _) (tko (enc := encGAtom) ((([] ++ (d_1.take k_48.toNat)) ++ [a_2]) ++ (d_1.drop k_48.toNat)))))
      · refine s_dol (o_appendw (j := 2) (L := (([] ++ (d_1.take k_48.toNat)).map encGAtom)) (len := ([] ++ (d_1.take k_48.toNat)).length) rfl rfl ((by simp)) (by simp <;> omega) g65 rfl rfl) (.inr ⟨(ag_sld (enc := encGAtom) rfl rfl g64.1 g64.2), ⟨⟨nle, rfl⟩, trivial⟩⟩) ?_ ?_
        · refine s_dol (o_bslice (j := 2) (as' := [(encGAtom a_2)]) rfl (fun _ => by decide) ⟨rfl, trivial⟩ (.refl _) rfl rfl rfl) (.inr ⟨(ag_sld (enc := encGAtom) rfl rfl g64.1 g64.2), ⟨(ag_slt (enc := encGAtom) rfl rfl g63.1 g63.2), trivial⟩⟩) trivial ?_
          refine s_dol (o_appendw (j := 3) (L := (([] ++ (d_1.take k_48.toNat)).map encGAtom)) (len := ([] ++ (d_1.take k_48.toNat)).length) rfl rfl ((by simp)) (by simp <;> omega) g65 rfl rfl) (.inr ⟨(ag_sld (enc := encGAtom) rfl rfl g64.1 g64.2), ⟨⟨nle, rfl⟩, trivial⟩⟩) trivial ?_
          refine s_dol (o_appendw (j := 4) (L := ((([] ++ (d_1.take k_48.toNat)) ++ [a_2]).map encGAtom)) (len := (([] ++ (d_1.take k_48.toNat)) ++ [a_2]).length) rfl rfl (apo (enc := encGAtom) ([] ++ (d_1.take k_48.toNat)) [a_2]) (by simp <;> omega) g66 rfl rfl) (.inr ⟨(ag_sld (enc := encGAtom) rfl rfl g64.1 g64.2), trivial⟩) trivial ?_
          refine s_dol (o_appendw (j := 5) (L := (((([] ++ (d_1.take k_48.toNat)) ++ [a_2]) ++ (d_1.drop k_48.toNat)).map encGAtom)) (len := ((([] ++ (d_1.take k_48.toNat)) ++ [a_2]) ++ (d_1.drop k_48.toNat)).length) rfl rfl (apl (enc := encGAtom) (([] ++ (d_1.take k_48.toNat)) ++ [a_2]) (d_1.drop k_48.toNat)) (by simp <;> omega) g67 rfl rfl) trivial trivial ?_
          refine s_do (o_mov (.own 5 0 (((([] ++ (d_1.take k_48.toNat)) ++ [a_2]) ++ (d_1.drop k_48.toNat)).length)) rfl) ?_
          refine w_done ?_
          refine k_seq ?_
          refine w_ret ?_
          obtain rfl := os hf
          exact r_weak ⟨trivial, trivial⟩ rfl (.of_eq (congrArg (AV.lst _) (tko (enc := encGAtom) ((([] ++ (d_1.take k_48.toNat)) ++ [a_2]) ++ (d_1.drop k_48.toNat)))))
        · refine s_dol (o_bslice (j := 3) (as' := [(encGAtom a_2)]) rfl (fun _ => by decide) ⟨rfl, trivial⟩ (.refl _) rfl rfl rfl) (.inr ⟨(ag_sld (enc := encGAtom) rfl rfl g64.1 g64.2), ⟨(ag_slt (enc := encGAtom) rfl rfl g63.1 g63.2), trivial⟩⟩) trivial ?_
          refine s_dol (o_appendw (j := 4) (L := ((([] ++ (d_1.take k_48.toNat)) ++ [a_2]).map encGAtom)) (len := (([] ++ (d_1.take k_48.toNat)) ++ [a_2]).length) rfl rfl (apo (enc := encGAtom) ([] ++ (d_1.take k_48.toNat)) [a_2]) (by simp <;> omega) g66 rfl rfl) (.inr ⟨(ag_sld (enc := encGAtom) rfl rfl g64.1 g64.2), trivial⟩) trivial ?_
          refine s_dol (o_appendw (j := 5) (L := (((([] ++ (d_1.take k_48.toNat)) ++ [a_2]) ++ (d_1.drop k_48.toNat)).map encGAtom)) (len := ((([] ++ (d_1.take k_48.toNat)) ++ [a_2]) ++ (d_1.drop k_48.toNat)).length) rfl rfl (apl (enc := encGAtom) (([] ++ (d_1.take k_48.toNat)) ++ [a_2]) (d_1.drop k_48.toNat)) (by simp <;> omega) g67 rfl rfl) trivial trivial ?_
          refine s_do (o_mov (.own 5 0 (((([] ++ (d_1.take k_48.toNat)) ++ [a_2]) ++ (d_1.drop k_48.toNat)).length)) rfl) ?_
          refine w_done ?_
          refine k_seq ?_
          refine w_ret ?_
          obtain rfl := os hf
          exact r_weak ⟨trivial, trivial⟩ rfl (.of_eq (congrArg (AV.lst _) (tko (enc := encGAtom) ((([] ++ (d_1.take k_48.toNat)) ++ [a_2]) ++ (d_1.drop k_48.toNat)))))

/- (*spec.l00Src).datum -/
def c133_h0 : ACode :=
 (.seq (.reg (.q ⟨(some 4), none, .mov (.c .nil)⟩
 .done))
 (.seq (.reg (.q ⟨(some 7), none, .bslice 3 []⟩
 (.q ⟨(some 5), none, .mov (.t 7)⟩
 .done)))
 (.seq (.seq (.reg (.q ⟨(some 8), none, .mov (.t 0)⟩
 (.q ⟨(some 9), none, .call 161 [(.t 8), (.c (.int .i64 5))]⟩
 (.q ⟨(some 6), none, .mov (.t 9)⟩
 .done))))
 (.block 0 (.loop (.seq (.seq (.reg (.q ⟨(some 10), none, .mov (.t 6)⟩
 (.q ⟨(some 11), none, .bin .gtr (.t 10) (.c (.int .i64 0))⟩
 .done)))
 (.cond (.t 11) .skip
 (.exit 0)))
 (.seq (.block 1 (.reg (.q ⟨(some 14), none, .mov (.t 5)⟩
 (.q ⟨(some 15), none, .mov (.t 0)⟩
 (.q ⟨(some 16), none, .mov (.t 1)⟩
 (.q ⟨(some 17), none, .call 189 [(.t 15), (.t 16)]⟩
 (.q ⟨(some 18), none, .call 188 [(.t 14), (.t 17)]⟩
 (.q ⟨(some 5), none, .mov (.t 18)⟩
 .done))))))))
 (.reg (.q ⟨(some 12), none, .mov (.t 6)⟩
 (.q ⟨(some 13), none, .bin .sub (.t 12) (.c (.int .i64 1))⟩
 (.q ⟨(some 6), none, .mov (.t 13)⟩
 .done)))))))))
 (.cut (.seq (.reg (.q ⟨(some 19), none, .mov (.t 5)⟩
 (.q ⟨(some 4), none, .mov (.t 19)⟩
 .done)))
 .ret)))))
theorem fc133_h0 : fcomp Try.prog Try.f133 = some (c133_h0.erase, [.mov (.t 4)], 20) := by kernel_rfl
def spec_l00Src_datum_L1 (kind_1 : Int) : Nat → (List GAtom) → Int → (List Int) → Int → Int → Option ((List GAtom) × (List Int) × Int × Int)
  | 0, _, _, _, _, _ => none
  | k + 1, out_20, i_21, x_22, x_23, x_24 =>
    if (decide (i_21 > 0)) then
    (spec_l00Src_atom kind_1 (⟨x_22, x_23, x_24⟩ : GL00Src)).bind fun r_36 =>
    (spec_l03Put out_20 r_36.1).bind fun r_38 =>
    spec_l00Src_datum_L1 kind_1 k r_38 (w64 (i_21 - 1)) r_36.2.Code r_36.2.At r_36.2.Seed
    else
    some (out_20, x_22, x_23, x_24)

def spec_l00Src_datum (kind_1 : Int) (s_2 : GL00Src) : Option ((List GAtom) × GL00Src) :=
    (spec_l00Src_next_h1 5 s_2).bind fun r_3 =>
    (spec_l00Src_datum_L1 kind_1 FUEL [] r_3.1 r_3.2.Code r_3.2.At r_3.2.Seed).bind fun p34 =>
    (match p34 with
    | (out_30, x_31, x_32, x_33) =>
    some (out_30, (⟨x_31, x_32, x_33⟩ : GL00Src)))
theorem w_spec_l00Src_datum (kind_1 : Int) (s_2 : GL00Src) (r : ((List GAtom) × GL00Src)) (hf : spec_l00Src_datum kind_1 s_2 = some r) : CallHeap Try.prog true 133 [(.ptr 0 0 0), (.int .i64 kind_1)] [.box 3 (.agg [(.lst 1 (s_2.Code.map enc_u8)), (.int .i64 s_2.At), (.int .i64 s_2.Seed)])] (.lst 3 (r.1.map encGAtom)) [.box 3 (.agg [(.lst 1 (r.2.Code.map enc_u8)), (.int .i64 r.2.At), (.int .i64 r.2.Seed)])] := by
  refine CallHeap.of_awp mixed Try.func133 fc133_h0 nle ?_
  rw [argT_eq]
  unfold spec_l00Src_datum at hf
  unfold c133_h0
  refine (show awp Try.prog true 1 _ (ofL [(0, (.ptr 0 0 0)), (1, (.int .i64 kind_1))]) [.box 3 (.agg [(.lst 1 (s_2.Code.map enc_u8)), (.int .i64 s_2.At), (.int .i64 s_2.Seed)])] _ from ?_)
  refine awp_seq ?_
  refine w_reg ?_
  refine s_do (o_mov .nil rfl) ?_
  refine w_done ?_
  refine k_seq ?_
  refine awp_seq ?_
  refine w_reg ?_
  refine s_do (o_bslice (j := 1) (as' := []) rfl (fun _ => by decide) trivial (.refl _) rfl rfl rfl) ?_
  refine s_do (o_mov (.own 1 0 0) rfl) ?_
  refine w_done ?_
  refine k_seq ?_
  refine awp_seq ?_
  refine awp_seq ?_
  refine w_reg ?_
  obtain ⟨r_3, er4, hf⟩ := ob hf
  refine s_do (o_mov (.ptr 0 0 0) rfl) ?_
  refine s_do (o_callh (v := (.int .i64 r_3.1)) (h2 := [.box 3 (.agg [(.lst 1 (r_3.2.Code.map enc_u8)), (.int .i64 r_3.2.At), (.int .i64 r_3.2.Seed)]), .row 3 ([].map encGAtom)]) [] [0] (w_spec_l00Src_next_h1 _ _ _ er4) rfl (.refl _) (.refl _) rfl rfl) ?_
  refine s_do (o_mov (.int .i64 r_3.1) rfl) ?_
  refine w_done ?_
  refine k_seq ?_
  obtain ⟨p34, hb1, hf⟩ := ob hf
  refine awp_cut ([(5, (.lst 3 (p34.1.map encGAtom)))], [.box 3 (.agg [(.lst 1 (p34.2.1.map enc_u8)), (.int .i64 p34.2.2.1), (.int .i64 p34.2.2.2)])]) ?_ ?_
  · refine awp_loop (X := {q : (Nat × (List GAtom) × Int × (List Int) × Int × Int) // spec_l00Src_datum_L1 kind_1 q.1 q.2.1 q.2.2.1 q.2.2.2.1 q.2.2.2.2.1 q.2.2.2.2.2 = some p34}) (fun q => ([(0, (.ptr 0 0 0)), (1, (.int .i64 kind_1)), (5, (.lst 3 (q.1.2.1.map encGAtom))), (6, (.int .i64 q.1.2.2.1))], [.box 3 (.agg [(.lst 1 (q.1.2.2.2.1.map enc_u8)), (.int .i64 q.1.2.2.2.2.1), (.int .i64 q.1.2.2.2.2.2)])])) (fun q => q.1.1) ⟨(FUEL, [], r_3.1, r_3.2.Code, r_3.2.At, r_3.2.Seed), hb1⟩ ⟨[.frz 5], [0], _, _, rfl, rfl, ⟨.refl _, ⟨.refl _, ⟨.of_eq (congrArg (AV.lst _) (tko [])), ⟨.refl _, trivial⟩⟩⟩⟩, (.refl _)⟩ ?_
    rintro ⟨⟨k, out_20, i_21, x_22, x_23, x_24⟩, hc1⟩
    have hc1 : spec_l00Src_datum_L1 kind_1 k out_20 i_21 x_22 x_23 x_24 = some p34 := hc1
    refine (show awp Try.prog true 1 _ (ofL [(0, (.ptr 0 0 0)), (1, (.int .i64 kind_1)), (5, (.lst 3 (out_20.map encGAtom))), (6, (.int .i64 i_21))]) [.box 3 (.agg [(.lst 1 (x_22.map enc_u8)), (.int .i64 x_23), (.int .i64 x_24)])] _ from ?_)
    rcases k with _ | k
    · rw [spec_l00Src_datum_L1.eq_1] at hc1
      cases hc1
    · rw [spec_l00Src_datum_L1.eq_2] at hc1
      refine awp_seq ?_
      refine awp_seq ?_
      refine w_reg ?_
      refine s_do (o_mov (.int .i64 i_21) rfl) ?_
      refine s_do (o_q (.bool (decide (i_21 > 0))) rfl rfl rfl) ?_
      refine w_done ?_
      refine k_seq ?_
      rcases oi hc1 with ⟨c35, hc1⟩ | ⟨c35, hc1⟩
      · refine w_condt rfl c35 ?_
        refine w_skip ?_
        refine k_seq ?_
        refine awp_seq ?_
        refine w_blk ?_
        refine w_reg ?_
        obtain ⟨r_36, er37, hc1⟩ := ob hc1
        obtain ⟨r_38, er39, hc1⟩ := ob hc1
        refine s_do (o_mov (.lst 3 (out_20.map encGAtom)) rfl) ?_
        refine s_do (o_mov (.ptr 0 0 0) rfl) ?_
        refine s_do (o_mov (.int .i64 kind_1) rfl) ?_
        refine s_do (o_callh (v := (encGAtom r_36.1)) (h2 := [.box 3 (.agg [(.lst 1 (r_36.2.Code.map enc_u8)), (.int .i64 r_36.2.At), (.int .i64 r_36.2.Seed)])]) [] [0] (w_spec_l00Src_atom _ _ _ er37) rfl (.refl _) (.refl _) rfl rfl) ?_
        refine s_do (o_callw (w_spec_l03Put _ _ _ er39) rfl (.refl _) rfl rfl) ?_
        refine s_do (o_mov (.lst 3 (r_38.map encGAtom)) rfl) ?_
        refine w_done ?_
        refine k_blk ?_
        refine k_seq ?_
        refine w_reg ?_
        refine s_do (o_mov (.int .i64 i_21) rfl) ?_
        refine s_do (o_q (.int .i64 (w64 (i_21 - 1))) rfl rfl rfl) ?_
        refine s_do (o_mov (.int .i64 (w64 (i_21 - 1))) rfl) ?_
        refine w_done ?_
        exact k_loopn ⟨(k, r_38, w64 (i_21 - 1), r_36.2.Code, r_36.2.At, r_36.2.Seed), hc1⟩ (Nat.lt_succ_self _) ⟨[], [0], _, _, rfl, rfl, ⟨.refl _, ⟨.refl _, ⟨.refl _, ⟨.refl _, trivial⟩⟩⟩⟩, (.refl _)⟩
      · refine w_condf rfl (bf c35) ?_
        refine w_exit ?_
        refine k_seqx ?_
        refine k_loopx ?_
        refine k_blkx ?_
        obtain rfl := os hc1
        exact ⟨[], [0], _, _, rfl, rfl, ⟨.refl _, trivial⟩, (.refl _)⟩
  · obtain ⟨out_30, x_31, x_32, x_33⟩ := p34
    refine awp_seq ?_
    refine w_reg ?_
    refine s_do (o_mov (.lst 3 (out_30.map encGAtom)) rfl) ?_
    refine s_do (o_mov (.lst 3 (out_30.map encGAtom)) rfl) ?_
    refine w_done ?_
    refine k_seq ?_
    refine w_ret ?_
    obtain rfl := os hf
    exact r_heap [] [0] rfl ⟨trivial, trivial⟩ rfl (.refl _) (.refl _)

/- (*spec.l00Src).atom -/
def c189_h1 : ACode :=
 (.seq (.reg (.q ⟨(some 4), none, .box 3 (.c (.agg [(.int .i64 0), (.int .i64 0), (.str [])]))⟩
 .done))
 (.seq (.seq (.reg (.q ⟨(some 5), none, .mov (.t 1)⟩
 .done))
 (.block 0 (.seq (.reg (.q ⟨(some 7), none, .bin .eql (.t 5) (.c (.int .i64 1))⟩
 (.q ⟨(some 6), none, .mov (.t 7)⟩
 .done)))
 (.cond (.t 6) (.seq (.reg (.q ⟨(some 8), none, .mov (.t 1)⟩
 (.q ⟨(some 9), none, .mov (.t 0)⟩
 (.q ⟨(some 10), none, .call 161 [(.t 9), (.c (.int .i64 12))]⟩
 (.q ⟨(some 11), none, .bin .sub (.t 10) (.c (.int .i64 4))⟩
 (.q ⟨(some 12), none, .build [(.int .i64 0), (.int .i64 0), (.str [])] [(0, 1, (.t 8)), (1, 1, (.t 11))]⟩
 (.q ⟨none, none, .store 3 (.t 4) (.t 12)⟩
 .done)))))))
 .ret)
 (.seq (.reg (.q ⟨(some 14), none, .bin .eql (.t 5) (.c (.int .i64 2))⟩
 (.q ⟨(some 13), none, .mov (.t 14)⟩
 .done)))
 (.cond (.t 13) (.seq (.reg (.q ⟨(some 15), none, .mov (.t 1)⟩
 (.q ⟨(some 16), none, .mov (.t 0)⟩
 (.q ⟨(some 17), none, .bslice 1 [(.c (.str [])), (.c (.str [97])), (.c (.str [98])), (.c (.str [99])), (.c (.str [110, 101, 116]))]⟩
 (.q ⟨(some 18), none, .call 184 [(.t 16), (.t 17)]⟩
 (.q ⟨(some 19), none, .build [(.int .i64 0), (.int .i64 0), (.str [])] [(0, 1, (.t 15)), (2, 1, (.t 18))]⟩
 (.q ⟨none, none, .store 3 (.t 4) (.t 19)⟩
 .done)))))))
 .ret)
 (.seq (.reg (.q ⟨(some 21), none, .bin .eql (.t 5) (.c (.int .i64 3))⟩
 (.q ⟨(some 20), none, .mov (.t 21)⟩
 .done)))
 (.cond (.t 20) (.seq (.reg (.q ⟨(some 22), none, .mov (.t 1)⟩
 (.q ⟨(some 23), none, .mov (.t 0)⟩
 (.q ⟨(some 24), none, .call 161 [(.t 23), (.c (.int .i64 2))]⟩
 (.q ⟨(some 25), none, .build [(.int .i64 0), (.int .i64 0), (.str [])] [(0, 1, (.t 22)), (1, 1, (.t 24))]⟩
 (.q ⟨none, none, .store 3 (.t 4) (.t 25)⟩
 .done))))))
 .ret)
 .skip))))))))
 (.seq (.reg (.q ⟨(some 26), none, .mov (.t 0)⟩
 (.q ⟨(some 27), none, .call 161 [(.t 26), (.c (.int .i64 6))]⟩
 (.q ⟨(some 28), none, .bin .add (.c (.int .i64 1)) (.t 27)⟩
 (.q ⟨(some 29), none, .build [(.int .i64 0), (.int .i64 0), (.str [])] [(0, 1, (.c (.int .i64 4))), (1, 1, (.t 28))]⟩
 (.q ⟨none, none, .store 3 (.t 4) (.t 29)⟩
 .done))))))
 .ret)))
theorem fc189_h1 : fcomp Try.prog Try.f189 = some (c189_h1.erase, [.load 3 true (.t 4)], 30) := by kernel_rfl
def spec_l00Src_atom_h1 (kind_1 : Int) (s_2 : GL00Src) : Option (GAtom × GL00Src) :=
    if (kind_1 == 1) then
    (spec_l00Src_next 12 s_2).bind fun r_4 =>
    some ((⟨kind_1, w64 (r_4.1 - 4), []⟩ : GAtom), r_4.2)
    else
    if (kind_1 == 2) then
    (spec_l00Src_pick [[], [97], [98], [99], [110, 101, 116]] s_2).bind fun r_7 =>
    some ((⟨kind_1, 0, r_7.1⟩ : GAtom), r_7.2)
    else
    if (kind_1 == 3) then
    (spec_l00Src_next 2 s_2).bind fun r_10 =>
    some ((⟨kind_1, r_10.1, []⟩ : GAtom), r_10.2)
    else
    (spec_l00Src_next 6 s_2).bind fun r_12 =>
    some ((⟨4, w64 (1 + r_12.1), []⟩ : GAtom), r_12.2)
theorem w_spec_l00Src_atom_h1 (kind_1 : Int) (s_2 : GL00Src) (r : (GAtom × GL00Src)) (hf : spec_l00Src_atom_h1 kind_1 s_2 = some r) : CallHeap Try.prog false 189 [(.ptr 0 0 0), (.int .i64 kind_1)] [.box 3 (.agg [(.lst 1 (s_2.Code.map enc_u8)), (.int .i64 s_2.At), (.int .i64 s_2.Seed)])] (encGAtom r.1) [.box 3 (.agg [(.lst 1 (r.2.Code.map enc_u8)), (.int .i64 r.2.At), (.int .i64 r.2.Seed)])] := by
  refine CallHeap.of_awp mixed Try.func189 fc189_h1 nle ?_
  rw [argT_eq]
  unfold spec_l00Src_atom_h1 at hf
  unfold c189_h1
  refine (show awp Try.prog false 1 _ (ofL [(0, (.ptr 0 0 0)), (1, (.int .i64 kind_1))]) [.box 3 (.agg [(.lst 1 (s_2.Code.map enc_u8)), (.int .i64 s_2.At), (.int .i64 s_2.Seed)])] _ from ?_)
  refine awp_seq ?_
  refine w_reg ?_
  refine s_do (o_box (j := 1) (c := (.agg [(.int .i64 0), (.int .i64 0), (.str [])])) rfl trivial rfl rfl) ?_
  refine w_done ?_
  refine k_seq ?_
  refine awp_seq ?_
  refine awp_seq ?_
  refine w_reg ?_
  refine s_do (o_mov (.int .i64 kind_1) rfl) ?_
  refine w_done ?_
  refine k_seq ?_
  refine w_blk ?_
  refine awp_seq ?_
  refine w_reg ?_
  refine s_do (o_q (.bool (kind_1 == 1)) rfl rfl rfl) ?_
  refine s_do (o_mov (.bool (kind_1 == 1)) rfl) ?_
  refine w_done ?_
  refine k_seq ?_
  rcases oi hf with ⟨c3, hf⟩ | ⟨c3, hf⟩
  · refine w_condt rfl c3 ?_
    refine awp_seq ?_
    refine w_reg ?_
    obtain ⟨r_4, er5, hf⟩ := ob hf
    refine s_do (o_mov (.int .i64 kind_1) rfl) ?_
    refine s_do (o_mov (.ptr 0 0 0) rfl) ?_
    refine s_do (o_callh (v := (.int .i64 r_4.1)) (h2 := [.box 3 (.agg [(.lst 1 (r_4.2.Code.map enc_u8)), (.int .i64 r_4.2.At), (.int .i64 r_4.2.Seed)]), .box 3 (.agg [(.int .i64 0), (.int .i64 0), (.str [])])]) [] [0] (w_spec_l00Src_next _ _ _ er5) rfl (.refl _) (.refl _) rfl rfl) ?_
    refine s_do (o_q (.int .i64 (w64 (r_4.1 - 4))) rfl rfl rfl) ?_
    refine s_do (o_q (.agg [(.int .i64 kind_1), (.int .i64 (w64 (r_4.1 - 4))), (.str [])]) rfl ⟨⟨rfl, nle, trivial⟩, ⟨⟨rfl, nle, trivial⟩, trivial⟩⟩ rfl) ?_
    refine s_do0 (o_storebox (v := (.agg [(.int .i64 kind_1), (.int .i64 (w64 (r_4.1 - 4))), (.str [])])) (y' := (.agg [(.int .i64 kind_1), (.int .i64 (w64 (r_4.1 - 4))), (.str [])])) rfl rfl rfl trivial ⟨rfl, nle⟩ ⟨⟨rfl, trivial⟩, ⟨⟨rfl, trivial⟩, ⟨⟨rfl, trivial⟩, trivial⟩⟩⟩ rfl) ?_
    refine w_done ?_
    refine k_seq ?_
    refine w_ret ?_
    obtain rfl := os hf
    exact r_heap [] [0] rfl ⟨nle, trivial⟩ rfl (.refl _) (.refl _)
  · refine w_condf rfl (bf c3) ?_
    refine awp_seq ?_
    refine w_reg ?_
    refine s_do (o_q (.bool (kind_1 == 2)) rfl rfl rfl) ?_
    refine s_do (o_mov (.bool (kind_1 == 2)) rfl) ?_
    refine w_done ?_
    refine k_seq ?_
    rcases oi hf with ⟨c6, hf⟩ | ⟨c6, hf⟩
    · refine w_condt rfl c6 ?_
      refine awp_seq ?_
      refine w_reg ?_
      obtain ⟨r_7, er8, hf⟩ := ob hf
      refine s_do (o_mov (.int .i64 kind_1) rfl) ?_
      refine s_do (o_mov (.ptr 0 0 0) rfl) ?_
      refine s_do (o_bslice (j := 2) (as' := [(.str []), (.str [97]), (.str [98]), (.str [99]), (.str [110, 101, 116])]) rfl (fun _ => by decide) ⟨rfl, ⟨rfl, ⟨rfl, ⟨rfl, ⟨rfl, trivial⟩⟩⟩⟩⟩ (.refl _) rfl rfl rfl) ?_
      refine s_do (o_callh (v := (.str r_7.1)) (h2 := [.box 3 (.agg [(.lst 1 (r_7.2.Code.map enc_u8)), (.int .i64 r_7.2.At), (.int .i64 r_7.2.Seed)]), .box 3 (.agg [(.int .i64 0), (.int .i64 0), (.str [])]), .dead]) [false, true] [0] (w_spec_l00Src_pick _ _ _ er8) rfl (.cons (.refl _) (.cons (.of_eq (congrArg (AV.lst _) (tko [[], [97], [98], [99], [110, 101, 116]]))) .nil)) (.refl _) rfl rfl) ?_
      refine s_do (o_q (.agg [(.int .i64 kind_1), (.int .i64 0), (.str r_7.1)]) rfl ⟨⟨rfl, nle, trivial⟩, ⟨⟨rfl, nle, trivial⟩, trivial⟩⟩ rfl) ?_
      refine s_do0 (o_storebox (v := (.agg [(.int .i64 kind_1), (.int .i64 0), (.str r_7.1)])) (y' := (.agg [(.int .i64 kind_1), (.int .i64 0), (.str r_7.1)])) rfl rfl rfl trivial ⟨rfl, nle⟩ ⟨⟨rfl, trivial⟩, ⟨⟨rfl, trivial⟩, ⟨⟨rfl, trivial⟩, trivial⟩⟩⟩ rfl) ?_
      refine w_done ?_
      refine k_seq ?_
      refine w_ret ?_
      obtain rfl := os hf
      exact r_heap [] [0] rfl ⟨nle, trivial⟩ rfl (.refl _) (.refl _)
    · refine w_condf rfl (bf c6) ?_
      refine awp_seq ?_
      refine w_reg ?_
      refine s_do (o_q (.bool (kind_1 == 3)) rfl rfl rfl) ?_
      refine s_do (o_mov (.bool (kind_1 == 3)) rfl) ?_
      refine w_done ?_
      refine k_seq ?_
      rcases oi hf with ⟨c9, hf⟩ | ⟨c9, hf⟩
      · refine w_condt rfl c9 ?_
        refine awp_seq ?_
        refine w_reg ?_
        obtain ⟨r_10, er11, hf⟩ := ob hf
        refine s_do (o_mov (.int .i64 kind_1) rfl) ?_
        refine s_do (o_mov (.ptr 0 0 0) rfl) ?_
        refine s_do (o_callh (v := (.int .i64 r_10.1)) (h2 := [.box 3 (.agg [(.lst 1 (r_10.2.Code.map enc_u8)), (.int .i64 r_10.2.At), (.int .i64 r_10.2.Seed)]), .box 3 (.agg [(.int .i64 0), (.int .i64 0), (.str [])])]) [] [0] (w_spec_l00Src_next _ _ _ er11) rfl (.refl _) (.refl _) rfl rfl) ?_
        refine s_do (o_q (.agg [(.int .i64 kind_1), (.int .i64 r_10.1), (.str [])]) rfl ⟨⟨rfl, nle, trivial⟩, ⟨⟨rfl, nle, trivial⟩, trivial⟩⟩ rfl) ?_
        refine s_do0 (o_storebox (v := (.agg [(.int .i64 kind_1), (.int .i64 r_10.1), (.str [])])) (y' := (.agg [(.int .i64 kind_1), (.int .i64 r_10.1), (.str [])])) rfl rfl rfl trivial ⟨rfl, nle⟩ ⟨⟨rfl, trivial⟩, ⟨⟨rfl, trivial⟩, ⟨⟨rfl, trivial⟩, trivial⟩⟩⟩ rfl) ?_
        refine w_done ?_
        refine k_seq ?_
        refine w_ret ?_
        obtain rfl := os hf
        exact r_heap [] [0] rfl ⟨nle, trivial⟩ rfl (.refl _) (.refl _)
      · refine w_condf rfl (bf c9) ?_
        refine w_skip ?_
        refine k_blk ?_
        refine k_seq ?_
        refine awp_seq ?_
        refine w_reg ?_
        obtain ⟨r_12, er13, hf⟩ := ob hf
        refine s_do (o_mov (.ptr 0 0 0) rfl) ?_
        refine s_do (o_callh (v := (.int .i64 r_12.1)) (h2 := [.box 3 (.agg [(.lst 1 (r_12.2.Code.map enc_u8)), (.int .i64 r_12.2.At), (.int .i64 r_12.2.Seed)]), .box 3 (.agg [(.int .i64 0), (.int .i64 0), (.str [])])]) [] [0] (w_spec_l00Src_next _ _ _ er13) rfl (.refl _) (.refl _) rfl rfl) ?_
        refine s_do (o_q (.int .i64 (w64 (1 + r_12.1))) rfl rfl rfl) ?_
        refine s_do (o_q (.agg [(.int .i64 4), (.int .i64 (w64 (1 + r_12.1))), (.str [])]) rfl ⟨⟨rfl, nle, trivial⟩, ⟨⟨rfl, nle, trivial⟩, trivial⟩⟩ rfl) ?_
        refine s_do0 (o_storebox (v := (.agg [(.int .i64 4), (.int .i64 (w64 (1 + r_12.1))), (.str [])])) (y' := (.agg [(.int .i64 4), (.int .i64 (w64 (1 + r_12.1))), (.str [])])) rfl rfl rfl trivial ⟨rfl, nle⟩ ⟨⟨rfl, trivial⟩, ⟨⟨rfl, trivial⟩, ⟨⟨rfl, trivial⟩, trivial⟩⟩⟩ rfl) ?_
        refine w_done ?_
        refine k_seq ?_
        refine w_ret ?_
        obtain rfl := os hf
        exact r_heap [] [0] rfl ⟨nle, trivial⟩ rfl (.refl _) (.refl _)

/- (*spec.l00Src).datum -/
def c133_h1 : ACode :=
 (.seq (.reg (.q ⟨(some 4), none, .mov (.c .nil)⟩
 .done))
 (.seq (.reg (.q ⟨(some 7), none, .bslice 3 []⟩
 (.q ⟨(some 5), none, .mov (.t 7)⟩
 .done)))
 (.seq (.seq (.reg (.q ⟨(some 8), none, .mov (.t 0)⟩
 (.q ⟨(some 9), none, .call 161 [(.t 8), (.c (.int .i64 5))]⟩
 (.q ⟨(some 6), none, .mov (.t 9)⟩
 .done))))
 (.block 0 (.loop (.seq (.seq (.reg (.q ⟨(some 10), none, .mov (.t 6)⟩
 (.q ⟨(some 11), none, .bin .gtr (.t 10) (.c (.int .i64 0))⟩
 .done)))
 (.cond (.t 11) .skip
 (.exit 0)))
 (.seq (.block 1 (.reg (.q ⟨(some 14), none, .mov (.t 5)⟩
 (.q ⟨(some 15), none, .mov (.t 0)⟩
 (.q ⟨(some 16), none, .mov (.t 1)⟩
 (.q ⟨(some 17), none, .call 189 [(.t 15), (.t 16)]⟩
 (.q ⟨(some 18), none, .call 188 [(.t 14), (.t 17)]⟩
 (.q ⟨(some 5), none, .mov (.t 18)⟩
 .done))))))))
 (.reg (.q ⟨(some 12), none, .mov (.t 6)⟩
 (.q ⟨(some 13), none, .bin .sub (.t 12) (.c (.int .i64 1))⟩
 (.q ⟨(some 6), none, .mov (.t 13)⟩
 .done)))))))))
 (.cut (.seq (.reg (.q ⟨(some 19), none, .mov (.t 5)⟩
 (.q ⟨(some 4), none, .mov (.t 19)⟩
 .done)))
 .ret)))))
theorem fc133_h1 : fcomp Try.prog Try.f133 = some (c133_h1.erase, [.mov (.t 4)], 20) := by kernel_rfl
def spec_l00Src_datum_h1_L1 (kind_1 : Int) : Nat → (List GAtom) → Int → (List Int) → Int → Int → Option ((List GAtom) × (List Int) × Int × Int)
  | 0, _, _, _, _, _ => none
  | k + 1, out_20, i_21, x_22, x_23, x_24 =>
    if (decide (i_21 > 0)) then
    (spec_l00Src_atom_h1 kind_1 (⟨x_22, x_23, x_24⟩ : GL00Src)).bind fun r_36 =>
    (spec_l03Put out_20 r_36.1).bind fun r_38 =>
    spec_l00Src_datum_h1_L1 kind_1 k r_38 (w64 (i_21 - 1)) r_36.2.Code r_36.2.At r_36.2.Seed
    else
    some (out_20, x_22, x_23, x_24)

def spec_l00Src_datum_h1 (kind_1 : Int) (s_2 : GL00Src) : Option ((List GAtom) × GL00Src) :=
    (spec_l00Src_next 5 s_2).bind fun r_3 =>
    (spec_l00Src_datum_h1_L1 kind_1 FUEL [] r_3.1 r_3.2.Code r_3.2.At r_3.2.Seed).bind fun p34 =>
    (match p34 with
    | (out_30, x_31, x_32, x_33) =>
    some (out_30, (⟨x_31, x_32, x_33⟩ : GL00Src)))
theorem w_spec_l00Src_datum_h1 (kind_1 : Int) (s_2 : GL00Src) (r : ((List GAtom) × GL00Src)) (hf : spec_l00Src_datum_h1 kind_1 s_2 = some r) : CallHeap Try.prog false 133 [(.ptr 0 0 0), (.int .i64 kind_1)] [.box 3 (.agg [(.lst 1 (s_2.Code.map enc_u8)), (.int .i64 s_2.At), (.int .i64 s_2.Seed)])] (.lst 3 (r.1.map encGAtom)) [.box 3 (.agg [(.lst 1 (r.2.Code.map enc_u8)), (.int .i64 r.2.At), (.int .i64 r.2.Seed)])] := by
  refine CallHeap.of_awp mixed Try.func133 fc133_h1 nle ?_
  rw [argT_eq]
  unfold spec_l00Src_datum_h1 at hf
  unfold c133_h1
  refine (show awp Try.prog false 1 _ (ofL [(0, (.ptr 0 0 0)), (1, (.int .i64 kind_1))]) [.box 3 (.agg [(.lst 1 (s_2.Code.map enc_u8)), (.int .i64 s_2.At), (.int .i64 s_2.Seed)])] _ from ?_)
  refine awp_seq ?_
  refine w_reg ?_
  refine s_do (o_mov .nil rfl) ?_
  refine w_done ?_
  refine k_seq ?_
  refine awp_seq ?_
  refine w_reg ?_
  refine s_do (o_bslice (j := 1) (as' := []) rfl (fun _ => by decide) trivial (.refl _) rfl rfl rfl) ?_
  refine s_do (o_mov (.own 1 0 0) rfl) ?_
  refine w_done ?_
  refine k_seq ?_
  refine awp_seq ?_
  refine awp_seq ?_
  refine w_reg ?_
  obtain ⟨r_3, er4, hf⟩ := ob hf
  refine s_do (o_mov (.ptr 0 0 0) rfl) ?_
  refine s_do (o_callh (v := (.int .i64 r_3.1)) (h2 := [.box 3 (.agg [(.lst 1 (r_3.2.Code.map enc_u8)), (.int .i64 r_3.2.At), (.int .i64 r_3.2.Seed)]), .row 3 ([].map encGAtom)]) [] [0] (w_spec_l00Src_next _ _ _ er4) rfl (.refl _) (.refl _) rfl rfl) ?_
  refine s_do (o_mov (.int .i64 r_3.1) rfl) ?_
  refine w_done ?_
  refine k_seq ?_
  obtain ⟨p34, hb1, hf⟩ := ob hf
  refine awp_cut ([(5, (.lst 3 (p34.1.map encGAtom)))], [.box 3 (.agg [(.lst 1 (p34.2.1.map enc_u8)), (.int .i64 p34.2.2.1), (.int .i64 p34.2.2.2)])]) ?_ ?_
  · refine awp_loop (X := {q : (Nat × (List GAtom) × Int × (List Int) × Int × Int) // spec_l00Src_datum_h1_L1 kind_1 q.1 q.2.1 q.2.2.1 q.2.2.2.1 q.2.2.2.2.1 q.2.2.2.2.2 = some p34}) (fun q => ([(0, (.ptr 0 0 0)), (1, (.int .i64 kind_1)), (5, (.lst 3 (q.1.2.1.map encGAtom))), (6, (.int .i64 q.1.2.2.1))], [.box 3 (.agg [(.lst 1 (q.1.2.2.2.1.map enc_u8)), (.int .i64 q.1.2.2.2.2.1), (.int .i64 q.1.2.2.2.2.2)])])) (fun q => q.1.1) ⟨(FUEL, [], r_3.1, r_3.2.Code, r_3.2.At, r_3.2.Seed), hb1⟩ ⟨[.frz 5], [0], _, _, rfl, rfl, ⟨.refl _, ⟨.refl _, ⟨.of_eq (congrArg (AV.lst _) (tko [])), ⟨.refl _, trivial⟩⟩⟩⟩, (.refl _)⟩ ?_
    rintro ⟨⟨k, out_20, i_21, x_22, x_23, x_24⟩, hc1⟩
    have hc1 : spec_l00Src_datum_h1_L1 kind_1 k out_20 i_21 x_22 x_23 x_24 = some p34 := hc1
    refine (show awp Try.prog false 1 _ (ofL [(0, (.ptr 0 0 0)), (1, (.int .i64 kind_1)), (5, (.lst 3 (out_20.map encGAtom))), (6, (.int .i64 i_21))]) [.box 3 (.agg [(.lst 1 (x_22.map enc_u8)), (.int .i64 x_23), (.int .i64 x_24)])] _ from ?_)
    rcases k with _ | k
    · rw [spec_l00Src_datum_h1_L1.eq_1] at hc1
      cases hc1
    · rw [spec_l00Src_datum_h1_L1.eq_2] at hc1
      refine awp_seq ?_
      refine awp_seq ?_
      refine w_reg ?_
      refine s_do (o_mov (.int .i64 i_21) rfl) ?_
      refine s_do (o_q (.bool (decide (i_21 > 0))) rfl rfl rfl) ?_
      refine w_done ?_
      refine k_seq ?_
      rcases oi hc1 with ⟨c35, hc1⟩ | ⟨c35, hc1⟩
      · refine w_condt rfl c35 ?_
        refine w_skip ?_
        refine k_seq ?_
        refine awp_seq ?_
        refine w_blk ?_
        refine w_reg ?_
        obtain ⟨r_36, er37, hc1⟩ := ob hc1
        obtain ⟨r_38, er39, hc1⟩ := ob hc1
        refine s_do (o_mov (.lst 3 (out_20.map encGAtom)) rfl) ?_
        refine s_do (o_mov (.ptr 0 0 0) rfl) ?_
        refine s_do (o_mov (.int .i64 kind_1) rfl) ?_
        refine s_do (o_callh (v := (encGAtom r_36.1)) (h2 := [.box 3 (.agg [(.lst 1 (r_36.2.Code.map enc_u8)), (.int .i64 r_36.2.At), (.int .i64 r_36.2.Seed)])]) [] [0] (w_spec_l00Src_atom_h1 _ _ _ er37) rfl (.refl _) (.refl _) rfl rfl) ?_
        refine s_do (o_callw (w_spec_l03Put _ _ _ er39) rfl (.refl _) rfl rfl) ?_
        refine s_do (o_mov (.lst 3 (r_38.map encGAtom)) rfl) ?_
        refine w_done ?_
        refine k_blk ?_
        refine k_seq ?_
        refine w_reg ?_
        refine s_do (o_mov (.int .i64 i_21) rfl) ?_
        refine s_do (o_q (.int .i64 (w64 (i_21 - 1))) rfl rfl rfl) ?_
        refine s_do (o_mov (.int .i64 (w64 (i_21 - 1))) rfl) ?_
        refine w_done ?_
        exact k_loopn ⟨(k, r_38, w64 (i_21 - 1), r_36.2.Code, r_36.2.At, r_36.2.Seed), hc1⟩ (Nat.lt_succ_self _) ⟨[], [0], _, _, rfl, rfl, ⟨.refl _, ⟨.refl _, ⟨.refl _, ⟨.refl _, trivial⟩⟩⟩⟩, (.refl _)⟩
      · refine w_condf rfl (bf c35) ?_
        refine w_exit ?_
        refine k_seqx ?_
        refine k_loopx ?_
        refine k_blkx ?_
        obtain rfl := os hc1
        exact ⟨[], [0], _, _, rfl, rfl, ⟨.refl _, trivial⟩, (.refl _)⟩
  · obtain ⟨out_30, x_31, x_32, x_33⟩ := p34
    refine awp_seq ?_
    refine w_reg ?_
    refine s_do (o_mov (.lst 3 (out_30.map encGAtom)) rfl) ?_
    refine s_do (o_mov (.lst 3 (out_30.map encGAtom)) rfl) ?_
    refine w_done ?_
    refine k_seq ?_
    refine w_ret ?_
    obtain rfl := os hf
    exact r_heap [] [0] rfl ⟨trivial, trivial⟩ rfl (.refl _) (.refl _)

/- spec.DatumDrawn -/
def c56 : ACode :=
 (.seq (.reg (.q ⟨(some 4), none, .mov (.c .nil)⟩
 .done))
 (.seq (.reg (.q ⟨(some 5), none, .mov (.t 0)⟩
 (.q ⟨(some 6), none, .call 98 [(.t 5)]⟩
 (.q ⟨(some 7), none, .mov (.t 1)⟩
 (.q ⟨(some 8), none, .call 133 [(.t 6), (.t 7)]⟩
 (.q ⟨(some 4), none, .mov (.t 8)⟩
 .done))))))
 .ret))
theorem fc56 : fcomp Try.prog Try.f56 = some (c56.erase, [.mov (.t 4)], 9) := by kernel_rfl
def spec_DatumDrawn (code_1 : (List Int)) (kind_2 : Int) : Option (List GAtom) :=
    (spec_l00Source code_1).bind fun r_3 =>
    (spec_l00Src_datum_h1 kind_2 r_3).bind fun r_5 =>
    some r_5.1
theorem w_spec_DatumDrawn (code_1 : (List Int)) (kind_2 : Int) (r : (List GAtom)) (hf : spec_DatumDrawn code_1 kind_2 = some r) : CallOK Try.prog 56 .weak [(.lst 1 (code_1.map enc_u8)), (.int .i64 kind_2)] (.lst 3 (r.map encGAtom)) := by
  refine CallOK.of_awp mixed Try.func56 fc56 nle ?_
  rw [argT_eq]
  unfold spec_DatumDrawn at hf
  unfold c56
  refine (show awp Try.prog false 0 _ (ofL [(0, (.lst 1 (code_1.map enc_u8))), (1, (.int .i64 kind_2))]) [] _ from ?_)
  refine awp_seq ?_
  refine w_reg ?_
  refine s_do (o_mov .nil rfl) ?_
  refine w_done ?_
  refine k_seq ?_
  refine awp_seq ?_
  refine w_reg ?_
  obtain ⟨r_3, er4, hf⟩ := ob hf
  obtain ⟨r_5, er6, hf⟩ := ob hf
  refine s_do (o_mov (.lst 1 (code_1.map enc_u8)) rfl) ?_
  refine s_do (o_callh (v := (.ptr 0 0 0)) (h2 := [.box 3 (.agg [(.lst 1 (r_3.Code.map enc_u8)), (.int .i64 r_3.At), (.int .i64 r_3.Seed)])]) [] [] (w_spec_l00Source _ _ er4) rfl (.refl _) (.refl _) rfl rfl) ?_
  refine s_do (o_mov (.int .i64 kind_2) rfl) ?_
  refine s_do (o_callh (v := (.lst 3 (r_5.1.map encGAtom))) (h2 := [.box 3 (.agg [(.lst 1 (r_5.2.Code.map enc_u8)), (.int .i64 r_5.2.At), (.int .i64 r_5.2.Seed)])]) [] [0] (w_spec_l00Src_datum_h1 _ _ _ er6) rfl (.refl _) (.refl _) rfl rfl) ?_
  refine s_do (o_mov (.lst 3 (r_5.1.map encGAtom)) rfl) ?_
  refine w_done ?_
  refine k_seq ?_
  refine w_ret ?_
  obtain rfl := os hf
  exact r_weak ⟨trivial, trivial⟩ rfl (.refl _)

/- spec.l01Text -/
def c169 : ACode :=
 (.seq (.reg (.q ⟨(some 2), none, .mov (.c (.bool false))⟩
 .done))
 (.seq (.seq (.reg (.q ⟨(some 3), none, .mov (.c (.int .i64 0))⟩
 .done))
 (.block 0 (.loop (.seq (.seq (.reg (.q ⟨(some 4), none, .mov (.t 3)⟩
 (.q ⟨(some 5), none, .mov (.t 0)⟩
 (.q ⟨(some 6), none, .lenS (.t 5)⟩
 (.q ⟨(some 7), none, .bin .lss (.t 4) (.t 6)⟩
 .done)))))
 (.cond (.t 7) .skip
 (.exit 0)))
 (.seq (.block 1 (.seq (.reg (.q ⟨(some 10), none, .mov (.t 0)⟩
 (.q ⟨(some 11), none, .mov (.t 3)⟩
 (.q ⟨(some 12), none, .idxs (.t 10) (.t 11)⟩
 (.q ⟨(some 13), none, .bin .lss (.t 12) (.c (.int .u8 32))⟩
 (.q ⟨(some 14), none, .mov (.t 13)⟩
 (.q ⟨(some 15), (some (14, false)), .mov (.t 0)⟩
 (.q ⟨(some 16), (some (14, false)), .mov (.t 3)⟩
 (.q ⟨(some 17), (some (14, false)), .idxs (.t 15) (.t 16)⟩
 (.q ⟨(some 18), (some (14, false)), .bin .gtr (.t 17) (.c (.int .u8 126))⟩
 (.q ⟨(some 19), none, .pick (.t 14) (.c (.bool true)) (.t 18)⟩
 .done)))))))))))
 (.cut (.cond (.t 19) (.seq (.reg (.q ⟨(some 2), none, .mov (.c (.bool false))⟩
 .done))
 .ret)
 .skip))))
 (.reg (.q ⟨(some 8), none, .mov (.t 3)⟩
 (.q ⟨(some 9), none, .bin .add (.t 8) (.c (.int .i64 1))⟩
 (.q ⟨(some 3), none, .mov (.t 9)⟩
 .done)))))))))
 (.cut (.seq (.reg (.q ⟨(some 20), none, .mov (.t 0)⟩
 (.q ⟨(some 21), none, .lenS (.t 20)⟩
 (.q ⟨(some 22), none, .bin .leq (.t 21) (.c (.int .i64 200))⟩
 (.q ⟨(some 2), none, .mov (.t 22)⟩
 .done)))))
 .ret))))
theorem fc169 : fcomp Try.prog Try.f169 = some (c169.erase, [.mov (.t 2)], 23) := by kernel_rfl
def spec_l01Text_L1  : List UInt8 → Option (Fl Bool Unit)
  | [] =>
    some (.go ())
  | x_57 :: xs =>
    ((if (decide ((x_57.toNat : Int) < 32)) then
    some true
    else
    some (decide ((x_57.toNat : Int) > 126)) : Option Bool)).bind fun s19_61 =>
    if s19_61 then
    some (.ret false)
    else
    spec_l01Text_L1 xs 

def spec_l01Text (t_1 : Str) : Option Bool :=
    (spec_l01Text_L1 t_1 ).bind fun q => (match q with
    | .ret r => some r
    | .go _ =>
    some (decide ((t_1.length : Int) ≤ 200)))
theorem w_spec_l01Text (t_1 : Str) (r : Bool) (hf : spec_l01Text t_1 = some r) : CallOK Try.prog 169 .flat [(.str t_1)] (.bool r) := by
  refine CallOK.of_awp mixed Try.func169 fc169 nle ?_
  rw [argT_eq]
  unfold spec_l01Text at hf
  unfold c169
  refine (show awp Try.prog false 0 _ (ofL [(0, (.str t_1))]) [] _ from ?_)
  refine awp_seq ?_
  refine w_reg ?_
  refine s_do (o_mov (.bool false) rfl) ?_
  refine w_done ?_
  refine k_seq ?_
  refine awp_seq ?_
  refine awp_seq ?_
  refine w_reg ?_
  refine s_do (o_mov (.int .i64 0) rfl) ?_
  refine w_done ?_
  refine k_seq ?_
  obtain ⟨p50, hb1, hf⟩ := ob hf
  refine awp_cutx (X := {q : Unit // p50 = .go q}) (fun q => ([(0, (.str t_1))], [])) ?_ ?_
  · refine awp_loop (X := {q : Nat // spec_l01Text_L1 (t_1.drop q)  = some p50}) (fun q => ([(0, (.str t_1)), (3, (.int .i64 (q.1 : Int)))], [])) (fun q => t_1.length - q.1) ⟨0, hb1⟩ ⟨[], [], _, _, rfl, rfl, ⟨.refl _, ⟨.refl _, trivial⟩⟩, (.refl _)⟩ ?_
    rintro ⟨i_33, hc1⟩
    have hc1 : spec_l01Text_L1 (t_1.drop i_33)  = some p50 := hc1
    refine (show awp Try.prog false 0 _ (ofL [(0, (.str t_1)), (3, (.int .i64 (i_33 : Int)))]) [] _ from ?_)
    rcases dropc t_1 i_33 with ⟨hie53, hd56⟩ | ⟨hlt51, x_57, hx52, hd56⟩
    · rw [hd56, spec_l01Text_L1.eq_1] at hc1
      have hq55 := dlf hie53
      refine awp_seq ?_
      refine awp_seq ?_
      refine w_reg ?_
      refine s_do (o_mov (.int .i64 (i_33 : Int)) rfl) ?_
      refine s_do (o_mov (.str t_1) rfl) ?_
      refine s_dof (o_lenS rfl) fun hl58 => ?_
      refine s_do (o_q (.bool (decide ((i_33 : Int) < (t_1.length : Int)))) rfl rfl rfl) ?_
      refine w_done ?_
      refine k_seq ?_
      refine w_condf rfl hq55 ?_
      refine w_exit ?_
      refine k_seqx ?_
      refine k_loopx ?_
      refine k_blkx ?_
      obtain rfl := os hc1
      exact k_cutn ⟨_, rfl⟩ ⟨[], [], _, _, rfl, rfl, ⟨.refl _, trivial⟩, (.refl _)⟩
    · rw [hd56, spec_l01Text_L1.eq_2] at hc1
      have hq55 := dlt hlt51
      refine awp_seq ?_
      refine awp_seq ?_
      refine w_reg ?_
      refine s_do (o_mov (.int .i64 (i_33 : Int)) rfl) ?_
      refine s_do (o_mov (.str t_1) rfl) ?_
      refine s_dof (o_lenS rfl) fun hl59 => ?_
      refine s_do (o_q (.bool (decide ((i_33 : Int) < (t_1.length : Int)))) rfl rfl rfl) ?_
      refine w_done ?_
      refine k_seq ?_
      refine w_condt rfl hq55 ?_
      refine w_skip ?_
      refine k_seq ?_
      refine awp_seq ?_
      refine w_blk ?_
      refine awp_seq ?_
      obtain ⟨s19_61, hb2, hc1⟩ := ob hc1
      refine awp_cut ([(0, (.str t_1)), (3, (.int .i64 (i_33 : Int))), (19, (.bool s19_61))], []) ?_ ?_
      · refine w_reg ?_
        rcases oi hb2 with ⟨c63, hb2⟩ | ⟨c63, hb2⟩
        · refine s_do (o_mov (.str t_1) rfl) ?_
          refine s_do (o_mov (.int .i64 (i_33 : Int)) rfl) ?_
          refine s_do (o_idxsn rfl rfl hx52) ?_
          refine s_do (o_q (.bool (decide ((x_57.toNat : Int) < 32))) rfl rfl rfl) ?_
          refine s_do (o_mov (.bool (decide ((x_57.toNat : Int) < 32))) rfl) ?_
          refine s_lit (s := 14) (b := true) rfl c63 ?_
          refine s_off rfl rfl ?_
          refine s_off rfl rfl ?_
          refine s_off rfl rfl ?_
          refine s_off rfl rfl ?_
          refine s_do (o_q (.bool true) rfl trivial rfl) ?_
          refine w_done ?_
          obtain rfl := os hb2
          exact ⟨[], [], _, _, rfl, rfl, ⟨.refl _, ⟨.refl _, ⟨.refl _, trivial⟩⟩⟩, (.refl _)⟩
        · refine s_do (o_mov (.str t_1) rfl) ?_
          refine s_do (o_mov (.int .i64 (i_33 : Int)) rfl) ?_
          refine s_do (o_idxsn rfl rfl hx52) ?_
          refine s_do (o_q (.bool (decide ((x_57.toNat : Int) < 32))) rfl rfl rfl) ?_
          refine s_do (o_mov (.bool (decide ((x_57.toNat : Int) < 32))) rfl) ?_
          refine s_lit (s := 14) (b := false) rfl (bf c63) ?_
          refine s_on rfl ?_
          refine s_do (o_mov (.str t_1) rfl) ?_
          refine s_on rfl ?_
          refine s_do (o_mov (.int .i64 (i_33 : Int)) rfl) ?_
          refine s_on rfl ?_
          refine s_do (o_idxsn rfl rfl hx52) ?_
          refine s_on rfl ?_
          refine s_do (o_q (.bool (decide ((x_57.toNat : Int) > 126))) rfl rfl rfl) ?_
          refine s_do (o_q (.bool (decide ((x_57.toNat : Int) > 126))) rfl trivial rfl) ?_
          refine w_done ?_
          obtain rfl := os hb2
          exact ⟨[], [], _, _, rfl, rfl, ⟨.refl _, ⟨.refl _, ⟨.refl _, trivial⟩⟩⟩, (.refl _)⟩
      · rcases oi hc1 with ⟨c64, hc1⟩ | ⟨c64, hc1⟩
        · refine w_condt rfl c64 ?_
          refine awp_seq ?_
          refine w_reg ?_
          refine s_do (o_mov (.bool false) rfl) ?_
          refine w_done ?_
          refine k_seq ?_
          refine w_ret ?_
          obtain rfl := os hc1
          obtain rfl := os hf
          exact r_flat ⟨trivial, trivial⟩ rfl (.refl _)
        · refine w_condf rfl (bf c64) ?_
          refine w_skip ?_
          refine k_blk ?_
          refine k_seq ?_
          refine w_reg ?_
          refine s_do (o_mov (.int .i64 (i_33 : Int)) rfl) ?_
          refine s_do (o_q (.int .i64 (w64 ((i_33 : Int) + 1))) rfl rfl rfl) ?_
          refine s_do (o_mov (.int .i64 (w64 ((i_33 : Int) + 1))) rfl) ?_
          refine w_done ?_
          exact k_loopn ⟨(i_33 + 1), hc1⟩ (mul hlt51) ⟨[], [], _, _, rfl, rfl, ⟨.refl _, ⟨.of_eq (congrArg (AV.int _) (w64_incr hlt51 hl59)), trivial⟩⟩, (.refl _)⟩
  · rintro ⟨_, rfl⟩
    refine awp_seq ?_
    refine w_reg ?_
    refine s_do (o_mov (.str t_1) rfl) ?_
    refine s_dof (o_lenS rfl) fun hl65 => ?_
    refine s_do (o_q (.bool (decide ((t_1.length : Int) ≤ 200))) rfl rfl rfl) ?_
    refine s_do (o_mov (.bool (decide ((t_1.length : Int) ≤ 200))) rfl) ?_
    refine w_done ?_
    refine k_seq ?_
    refine w_ret ?_
    obtain rfl := os hf
    exact r_flat ⟨trivial, trivial⟩ rfl (.refl _)

end Go.R
