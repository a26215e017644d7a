/- Walks. -/
import Derived.Test.YtgmkibkmcohikaaSR1
set_option linter.all false
namespace Go.R
open Go Go.Proofs
set_option linter.unusedVariables false
set_option linter.unusedSimpArgs false
/- laws.FnExactSameRows -/
def c5 : ACode :=
 (.seq (.reg (.q ⟨(some 4), none, .mov (.c (.bool false))⟩
 .done))
 (.seq (.reg (.q ⟨(some 5), none, .mov (.c (.int .i64 1048576))⟩
 .done))
 (.seq (.reg (.q ⟨(some 10), none, .mov (.t 0)⟩
 (.q ⟨(some 11), none, .mov (.t 5)⟩
 (.q ⟨(some 12), none, .call 25 [(.t 10), (.t 11)]⟩
 (.q ⟨(some 5), none, .mov (.t 12)⟩
 .done)))))
 (.seq (.seq (.reg (.q ⟨(some 13), none, .mov (.t 5)⟩
 (.q ⟨(some 14), none, .bin .lss (.t 13) (.c (.int .i64 0))⟩
 .done)))
 (.cond (.t 14) (.seq (.reg (.q ⟨(some 4), none, .mov (.c (.bool true))⟩
 .done))
 .ret)
 .skip))
 (.seq (.reg (.q ⟨(some 15), none, .mov (.t 1)⟩
 (.q ⟨(some 16), none, .mov (.t 5)⟩
 (.q ⟨(some 17), none, .call 25 [(.t 15), (.t 16)]⟩
 (.q ⟨(some 5), none, .mov (.t 17)⟩
 .done)))))
 (.seq (.seq (.reg (.q ⟨(some 18), none, .mov (.t 5)⟩
 (.q ⟨(some 19), none, .bin .lss (.t 18) (.c (.int .i64 0))⟩
 .done)))
 (.cond (.t 19) (.seq (.reg (.q ⟨(some 4), none, .mov (.c (.bool true))⟩
 .done))
 .ret)
 .skip))
 (.seq (.reg (.q ⟨(some 20), none, .mov (.t 0)⟩
 (.q ⟨(some 21), none, .call 27 [(.t 20)]⟩
 (.q ⟨(some 22), none, .mov (.t 1)⟩
 (.q ⟨(some 23), none, .call 27 [(.t 22)]⟩
 (.q ⟨(some 24), none, .call 26 [(.t 21), (.t 23)]⟩
 (.q ⟨(some 6), none, .mov (.t 24)⟩
 .done)))))))
 (.seq (.reg (.q ⟨(some 25), none, .mov (.t 0)⟩
 (.q ⟨(some 26), none, .call 27 [(.t 25)]⟩
 (.q ⟨(some 7), none, .mov (.t 26)⟩
 .done))))
 (.seq (.reg (.q ⟨(some 27), none, .mov (.t 1)⟩
 (.q ⟨(some 28), none, .call 27 [(.t 27)]⟩
 (.q ⟨(some 8), none, .mov (.t 28)⟩
 .done))))
 (.seq (.reg (.q ⟨(some 29), none, .mov (.t 7)⟩
 (.q ⟨(some 30), none, .mov (.t 8)⟩
 (.q ⟨(some 31), none, .call 28 [(.t 29), (.t 30)]⟩
 (.q ⟨(some 9), none, .mov (.t 31)⟩
 .done)))))
 (.seq (.seq (.reg (.q ⟨(some 32), none, .mov (.t 9)⟩
 (.q ⟨(some 33), none, .mov (.t 6)⟩
 (.q ⟨(some 34), none, .eqB true (.t 32) (.t 33)⟩
 .done))))
 (.cond (.t 34) (.seq (.reg (.q ⟨(some 4), none, .mov (.c (.bool false))⟩
 .done))
 .ret)
 .skip))
 (.seq (.seq (.reg (.q ⟨(some 35), none, .mov (.t 7)⟩
 (.q ⟨(some 36), none, .mov (.t 0)⟩
 (.q ⟨(some 37), none, .call 27 [(.t 36)]⟩
 (.q ⟨(some 38), none, .call 29 [(.t 35), (.t 37)]⟩
 (.q ⟨(some 39), none, .not (.t 38)⟩
 .done))))))
 (.cond (.t 39) (.seq (.reg (.q ⟨(some 4), none, .mov (.c (.bool false))⟩
 .done))
 .ret)
 .skip))
 (.seq (.seq (.reg (.q ⟨(some 40), none, .mov (.t 8)⟩
 (.q ⟨(some 41), none, .mov (.t 1)⟩
 (.q ⟨(some 42), none, .call 27 [(.t 41)]⟩
 (.q ⟨(some 43), none, .call 29 [(.t 40), (.t 42)]⟩
 (.q ⟨(some 44), none, .not (.t 43)⟩
 .done))))))
 (.cond (.t 44) (.seq (.reg (.q ⟨(some 4), none, .mov (.c (.bool false))⟩
 .done))
 .ret)
 .skip))
 (.seq (.reg (.q ⟨(some 4), none, .mov (.c (.bool true))⟩
 .done))
 .ret))))))))))))))
theorem fc5 : fcomp Try.prog Try.f5 = some (c5.erase, [.mov (.t 4)], 45) := by kernel_rfl
def laws_FnExactSameRows (aA_1 : (List GRow)) (aB_2 : (List GRow)) : Option Bool :=
    (laws_szRowS aA_1 1048576).bind fun r_3 =>
    if (decide (r_3 < 0)) then
    some true
    else
    (laws_szRowS aB_2 r_3).bind fun r_6 =>
    if (decide (r_6 < 0)) then
    some true
    else
    (laws_toRowS aA_1).bind fun r_9 =>
    (laws_toRowS aB_2).bind fun r_11 =>
    (spec_SameRows r_9 r_11).bind fun r_13 =>
    (laws_toRowS aA_1).bind fun r_15 =>
    (laws_toRowS aB_2).bind fun r_17 =>
    (impl_SameRows r_15 r_17).bind fun r_19 =>
    if (!(r_19 == r_13)) then
    some false
    else
    (laws_toRowS aA_1).bind fun r_22 =>
    (laws_eqRowS r_15 r_22).bind fun r_24 =>
    if (!r_24) then
    some false
    else
    (laws_toRowS aB_2).bind fun r_27 =>
    (laws_eqRowS r_17 r_27).bind fun r_29 =>
    if (!r_29) then
    some false
    else
    some true
theorem w_laws_FnExactSameRows (aA_1 : (List GRow)) (aB_2 : (List GRow)) (r : Bool) (hf : laws_FnExactSameRows aA_1 aB_2 = some r) : CallOK Try.prog 5 .flat [(.lst 2 (aA_1.map encGRow)), (.lst 2 (aB_2.map encGRow))] (.bool r) := by
  refine CallOK.of_awp mixed Try.func5 fc5 nle ?_
  rw [argT_eq]
  unfold laws_FnExactSameRows at hf
  unfold c5
  refine (show awp Try.prog false 0 _ (ofL [(0, (.lst 2 (aA_1.map encGRow))), (1, (.lst 2 (aB_2.map encGRow)))]) [] _ from ?_)
  refine awp_seq ?_
  refine w_reg ?_
  refine s_do (o_mov (.bool false) rfl) ?_
  refine w_done ?_
  refine k_seq ?_
  refine awp_seq ?_
  refine w_reg ?_
  refine s_do (o_mov (.int .i64 1048576) rfl) ?_
  refine w_done ?_
  refine k_seq ?_
  refine awp_seq ?_
  refine w_reg ?_
  obtain ⟨r_3, er4, hf⟩ := ob hf
  refine s_do (o_mov (.lst 2 (aA_1.map encGRow)) rfl) ?_
  refine s_do (o_mov (.int .i64 1048576) rfl) ?_
  refine s_do (o_call (w_laws_szRowS _ _ _ er4) rfl (.refl _) rfl) ?_
  refine s_do (o_mov (.int .i64 r_3) rfl) ?_
  refine w_done ?_
  refine k_seq ?_
  refine awp_seq ?_
  refine awp_seq ?_
  refine w_reg ?_
  refine s_do (o_mov (.int .i64 r_3) rfl) ?_
  refine s_do (o_q (.bool (decide (r_3 < 0))) rfl rfl rfl) ?_
  refine w_done ?_
  refine k_seq ?_
  rcases oi hf with ⟨c5, hf⟩ | ⟨c5, hf⟩
  · refine w_condt rfl c5 ?_
    refine awp_seq ?_
    refine w_reg ?_
    refine s_do (o_mov (.bool true) rfl) ?_
    refine w_done ?_
    refine k_seq ?_
    refine w_ret ?_
    obtain rfl := os hf
    exact r_flat ⟨trivial, trivial⟩ rfl (.refl _)
  · refine w_condf rfl (bf c5) ?_
    refine w_skip ?_
    refine k_seq ?_
    refine awp_seq ?_
    refine w_reg ?_
    obtain ⟨r_6, er7, hf⟩ := ob hf
    refine s_do (o_mov (.lst 2 (aB_2.map encGRow)) rfl) ?_
    refine s_do (o_mov (.int .i64 r_3) rfl) ?_
    refine s_do (o_call (w_laws_szRowS _ _ _ er7) rfl (.refl _) rfl) ?_
    refine s_do (o_mov (.int .i64 r_6) rfl) ?_
    refine w_done ?_
    refine k_seq ?_
    refine awp_seq ?_
    refine awp_seq ?_
    refine w_reg ?_
    refine s_do (o_mov (.int .i64 r_6) rfl) ?_
    refine s_do (o_q (.bool (decide (r_6 < 0))) rfl rfl rfl) ?_
    refine w_done ?_
    refine k_seq ?_
    rcases oi hf with ⟨c8, hf⟩ | ⟨c8, hf⟩
    · refine w_condt rfl c8 ?_
      refine awp_seq ?_
      refine w_reg ?_
      refine s_do (o_mov (.bool true) rfl) ?_
      refine w_done ?_
      refine k_seq ?_
      refine w_ret ?_
      obtain rfl := os hf
      exact r_flat ⟨trivial, trivial⟩ rfl (.refl _)
    · refine w_condf rfl (bf c8) ?_
      refine w_skip ?_
      refine k_seq ?_
      refine awp_seq ?_
      refine w_reg ?_
      obtain ⟨r_9, er10, hf⟩ := ob hf
      obtain ⟨r_11, er12, hf⟩ := ob hf
      obtain ⟨r_13, er14, hf⟩ := ob hf
      refine s_do (o_mov (.lst 2 (aA_1.map encGRow)) rfl) ?_
      refine s_do (o_callc (w_laws_toRowS _ _ er10) rfl (.refl _) rfl) ?_
      refine s_do (o_mov (.lst 2 (aB_2.map encGRow)) rfl) ?_
      refine s_do (o_callc (w_laws_toRowS _ _ er12) rfl (.refl _) rfl) ?_
      refine s_do (o_call (w_spec_SameRows _ _ _ er14) rfl (.refl _) rfl) ?_
      refine s_do (o_mov (.bool r_13) rfl) ?_
      refine w_done ?_
      refine k_seq ?_
      refine awp_seq ?_
      refine w_reg ?_
      obtain ⟨r_15, er16, hf⟩ := ob hf
      refine s_do (o_mov (.lst 2 (aA_1.map encGRow)) rfl) ?_
      refine s_do (o_callc (w_laws_toRowS _ _ er16) rfl (.refl _) rfl) ?_
      refine s_do (o_mov (.lst 2 (r_15.map encGRow)) rfl) ?_
      refine w_done ?_
      refine k_seq ?_
      refine awp_seq ?_
      refine w_reg ?_
      obtain ⟨r_17, er18, hf⟩ := ob hf
      refine s_do (o_mov (.lst 2 (aB_2.map encGRow)) rfl) ?_
      refine s_do (o_callc (w_laws_toRowS _ _ er18) rfl (.refl _) rfl) ?_
      refine s_do (o_mov (.lst 2 (r_17.map encGRow)) rfl) ?_
      refine w_done ?_
      refine k_seq ?_
      refine awp_seq ?_
      refine w_reg ?_
      obtain ⟨r_19, er20, hf⟩ := ob hf
      refine s_do (o_mov (.lst 2 (r_15.map encGRow)) rfl) ?_
      refine s_do (o_mov (.lst 2 (r_17.map encGRow)) rfl) ?_
      refine s_do (o_call (w_impl_SameRows _ _ _ er20) rfl (.refl _) rfl) ?_
      refine s_do (o_mov (.bool r_19) rfl) ?_
      refine w_done ?_
      refine k_seq ?_
      refine awp_seq ?_
      refine awp_seq ?_
      refine w_reg ?_
      refine s_do (o_mov (.bool r_19) rfl) ?_
      refine s_do (o_mov (.bool r_13) rfl) ?_
      refine s_do (o_q (.bool (!(r_19 == r_13))) rfl trivial rfl) ?_
      refine w_done ?_
      refine k_seq ?_
      rcases oi hf with ⟨c21, hf⟩ | ⟨c21, hf⟩
      · refine w_condt rfl c21 ?_
        refine awp_seq ?_
        refine w_reg ?_
        refine s_do (o_mov (.bool false) rfl) ?_
        refine w_done ?_
        refine k_seq ?_
        refine w_ret ?_
        obtain rfl := os hf
        exact r_flat ⟨trivial, trivial⟩ rfl (.refl _)
      · refine w_condf rfl (bf c21) ?_
        refine w_skip ?_
        refine k_seq ?_
        refine awp_seq ?_
        refine awp_seq ?_
        refine w_reg ?_
        obtain ⟨r_22, er23, hf⟩ := ob hf
        obtain ⟨r_24, er25, hf⟩ := ob hf
        refine s_do (o_mov (.lst 2 (r_15.map encGRow)) rfl) ?_
        refine s_do (o_mov (.lst 2 (aA_1.map encGRow)) rfl) ?_
        refine s_do (o_callc (w_laws_toRowS _ _ er23) rfl (.refl _) rfl) ?_
        refine s_do (o_call (w_laws_eqRowS _ _ _ er25) rfl (.refl _) rfl) ?_
        refine s_do (o_q (.bool (!r_24)) rfl trivial rfl) ?_
        refine w_done ?_
        refine k_seq ?_
        rcases oi hf with ⟨c26, hf⟩ | ⟨c26, hf⟩
        · refine w_condt rfl c26 ?_
          refine awp_seq ?_
          refine w_reg ?_
          refine s_do (o_mov (.bool false) rfl) ?_
          refine w_done ?_
          refine k_seq ?_
          refine w_ret ?_
          obtain rfl := os hf
          exact r_flat ⟨trivial, trivial⟩ rfl (.refl _)
        · refine w_condf rfl (bf c26) ?_
          refine w_skip ?_
          refine k_seq ?_
          refine awp_seq ?_
          refine awp_seq ?_
          refine w_reg ?_
          obtain ⟨r_27, er28, hf⟩ := ob hf
          obtain ⟨r_29, er30, hf⟩ := ob hf
          refine s_do (o_mov (.lst 2 (r_17.map encGRow)) rfl) ?_
          refine s_do (o_mov (.lst 2 (aB_2.map encGRow)) rfl) ?_
          refine s_do (o_callc (w_laws_toRowS _ _ er28) rfl (.refl _) rfl) ?_
          refine s_do (o_call (w_laws_eqRowS _ _ _ er30) rfl (.refl _) rfl) ?_
          refine s_do (o_q (.bool (!r_29)) rfl trivial rfl) ?_
          refine w_done ?_
          refine k_seq ?_
          rcases oi hf with ⟨c31, hf⟩ | ⟨c31, hf⟩
          · refine w_condt rfl c31 ?_
            refine awp_seq ?_
            refine w_reg ?_
            refine s_do (o_mov (.bool false) rfl) ?_
            refine w_done ?_
            refine k_seq ?_
            refine w_ret ?_
            obtain rfl := os hf
            exact r_flat ⟨trivial, trivial⟩ rfl (.refl _)
          · refine w_condf rfl (bf c31) ?_
            refine w_skip ?_
            refine k_seq ?_
            refine awp_seq ?_
            refine w_reg ?_
            refine s_do (o_mov (.bool true) rfl) ?_
            refine w_done ?_
            refine k_seq ?_
            refine w_ret ?_
            obtain rfl := os hf
            exact r_flat ⟨trivial, trivial⟩ rfl (.refl _)

end Go.R
