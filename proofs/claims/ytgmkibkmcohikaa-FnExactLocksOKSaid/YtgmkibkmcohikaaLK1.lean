/- Walks. -/
import Derived.Test.YtgmkibkmcohikaaLKT
set_option linter.all false
namespace Go.R
open Go Go.Proofs
set_option linter.unusedVariables false
set_option linter.unusedSimpArgs false
/- laws.szIntS -/
def c149 : ACode :=
 (.seq (.reg (.q ⟨(some 4), none, .mov (.c (.int .i64 0))⟩
 .done))
 (.seq (.reg (.q ⟨(some 5), none, .mov (.t 1)⟩
 (.q ⟨(some 6), none, .mov (.t 0)⟩
 (.q ⟨(some 7), none, .len (.t 6)⟩
 (.q ⟨(some 8), none, .bin .sub (.t 5) (.t 7)⟩
 (.q ⟨(some 1), none, .mov (.t 8)⟩
 .done))))))
 (.seq (.seq (.reg (.q ⟨(some 9), none, .mov (.t 1)⟩
 (.q ⟨(some 10), none, .bin .lss (.t 9) (.c (.int .i64 0))⟩
 .done)))
 (.cond (.t 10) (.seq (.reg (.q ⟨(some 4), none, .mov (.c (.int .i64 (-1)))⟩
 .done))
 .ret)
 .skip))
 (.seq (.reg (.q ⟨(some 11), none, .mov (.t 1)⟩
 (.q ⟨(some 4), none, .mov (.t 11)⟩
 .done)))
 .ret))))
theorem fc149 : fcomp Try.prog Try.f149 = some (c149.erase, [.mov (.t 4)], 12) := by kernel_rfl
def laws_szIntS (a_1 : (List Int)) (left_2 : Int) : Option Int :=
    if (decide (w64 (left_2 - (a_1.length : Int)) < 0)) then
    some (-1)
    else
    some (w64 (left_2 - (a_1.length : Int)))
theorem w_laws_szIntS (a_1 : (List Int)) (left_2 : Int) (r : Int) (hf : laws_szIntS a_1 left_2 = some r) : CallOK Try.prog 149 .flat [(.lst 1 (a_1.map encI)), (.int .i64 left_2)] (.int .i64 r) := by
  refine CallOK.of_awp mixed Try.func149 fc149 nle ?_
  rw [argT_eq]
  unfold laws_szIntS at hf
  unfold c149
  refine (show awp Try.prog false 0 _ (ofL [(0, (.lst 1 (a_1.map encI))), (1, (.int .i64 left_2))]) [] _ from ?_)
  refine awp_seq ?_
  refine w_reg ?_
  refine s_do (o_mov (.int .i64 0) rfl) ?_
  refine w_done ?_
  refine k_seq ?_
  refine awp_seq ?_
  refine w_reg ?_
  refine s_do (o_mov (.int .i64 left_2) rfl) ?_
  refine s_do (o_mov (.lst 1 (a_1.map encI)) rfl) ?_
  refine s_dof (o_len (enc := encI) rfl) fun hl3 => ?_
  refine s_do (o_q (.int .i64 (w64 (left_2 - (a_1.length : Int)))) rfl rfl rfl) ?_
  refine s_do (o_mov (.int .i64 (w64 (left_2 - (a_1.length : Int)))) rfl) ?_
  refine w_done ?_
  refine k_seq ?_
  refine awp_seq ?_
  refine awp_seq ?_
  refine w_reg ?_
  refine s_do (o_mov (.int .i64 (w64 (left_2 - (a_1.length : Int)))) rfl) ?_
  refine s_do (o_q (.bool (decide (w64 (left_2 - (a_1.length : Int)) < 0))) rfl rfl rfl) ?_
  refine w_done ?_
  refine k_seq ?_
  rcases oi hf with ⟨c4, hf⟩ | ⟨c4, hf⟩
  · refine w_condt rfl c4 ?_
    refine awp_seq ?_
    refine w_reg ?_
    refine s_do (o_mov (.int .i64 (-1)) rfl) ?_
    refine w_done ?_
    refine k_seq ?_
    refine w_ret ?_
    obtain rfl := os hf
    exact r_flat ⟨trivial, trivial⟩ rfl (.refl _)
  · refine w_condf rfl (bf c4) ?_
    refine w_skip ?_
    refine k_seq ?_
    refine awp_seq ?_
    refine w_reg ?_
    refine s_do (o_mov (.int .i64 (w64 (left_2 - (a_1.length : Int)))) rfl) ?_
    refine s_do (o_mov (.int .i64 (w64 (left_2 - (a_1.length : Int)))) rfl) ?_
    refine w_done ?_
    refine k_seq ?_
    refine w_ret ?_
    obtain rfl := os hf
    exact r_flat ⟨trivial, trivial⟩ rfl (.refl _)

/- laws.szLock -/
def c79 : ACode :=
 (.seq (.reg (.q ⟨(some 2), none, .box 2 (.t 0)⟩
 (.q ⟨(some 4), none, .mov (.c (.int .i64 0))⟩
 .done)))
 (.seq (.reg (.q ⟨(some 5), none, .mov (.t 1)⟩
 (.q ⟨(some 6), none, .faddr 0 (.t 2)⟩
 (.q ⟨(some 7), none, .load 1 false (.t 6)⟩
 (.q ⟨(some 8), none, .lenS (.t 7)⟩
 (.q ⟨(some 9), none, .bin .sub (.t 5) (.t 8)⟩
 (.q ⟨(some 1), none, .mov (.t 9)⟩
 .done)))))))
 (.seq (.seq (.reg (.q ⟨(some 10), none, .mov (.t 1)⟩
 (.q ⟨(some 11), none, .bin .lss (.t 10) (.c (.int .i64 0))⟩
 .done)))
 (.cond (.t 11) (.seq (.reg (.q ⟨(some 4), none, .mov (.c (.int .i64 (-1)))⟩
 .done))
 .ret)
 .skip))
 (.seq (.reg (.q ⟨(some 12), none, .faddr 1 (.t 2)⟩
 (.q ⟨(some 13), none, .load 1 false (.t 12)⟩
 (.q ⟨(some 14), none, .mov (.t 1)⟩
 (.q ⟨(some 15), none, .call 149 [(.t 13), (.t 14)]⟩
 (.q ⟨(some 1), none, .mov (.t 15)⟩
 .done))))))
 (.seq (.seq (.reg (.q ⟨(some 16), none, .mov (.t 1)⟩
 (.q ⟨(some 17), none, .bin .lss (.t 16) (.c (.int .i64 0))⟩
 .done)))
 (.cond (.t 17) (.seq (.reg (.q ⟨(some 4), none, .mov (.c (.int .i64 (-1)))⟩
 .done))
 .ret)
 .skip))
 (.seq (.reg (.q ⟨(some 18), none, .mov (.t 1)⟩
 (.q ⟨(some 4), none, .mov (.t 18)⟩
 .done)))
 .ret))))))
theorem fc79 : fcomp Try.prog Try.f79 = some (c79.erase, [.mov (.t 4)], 19) := by kernel_rfl
def laws_szLock (a_1 : GLock) (left_2 : Int) : Option Int :=
    if (decide (w64 (left_2 - (a_1.Name.length : Int)) < 0)) then
    some (-1)
    else
    (laws_szIntS a_1.Queue (w64 (left_2 - (a_1.Name.length : Int)))).bind fun r_5 =>
    if (decide (r_5 < 0)) then
    some (-1)
    else
    some r_5
theorem w_laws_szLock (a_1 : GLock) (left_2 : Int) (r : Int) (hf : laws_szLock a_1 left_2 = some r) : CallOK Try.prog 79 .flat [(encGLock a_1), (.int .i64 left_2)] (.int .i64 r) := by
  refine CallOK.of_awp mixed Try.func79 fc79 nle ?_
  rw [argT_eq]
  unfold laws_szLock at hf
  unfold c79
  refine (show awp Try.prog false 0 _ (ofL [(0, (encGLock a_1)), (1, (.int .i64 left_2))]) [] _ from ?_)
  refine awp_seq ?_
  refine w_reg ?_
  refine s_do (o_box (j := 0) (c := (.agg [(.str a_1.Name), (.lst 1 (a_1.Queue.map encI))])) rfl trivial rfl rfl) ?_
  refine s_do (o_mov (.int .i64 0) rfl) ?_
  refine w_done ?_
  refine k_seq ?_
  refine awp_seq ?_
  refine w_reg ?_
  refine s_do (o_mov (.int .i64 left_2) rfl) ?_
  refine s_do (o_q (.ptr 0 0 0) rfl trivial rfl) ?_
  refine s_do (o_q (.str a_1.Name) rfl nle rfl) ?_
  refine s_dof (o_lenS rfl) fun hl3 => ?_
  refine s_do (o_q (.int .i64 (w64 (left_2 - (a_1.Name.length : Int)))) rfl rfl rfl) ?_
  refine s_do (o_mov (.int .i64 (w64 (left_2 - (a_1.Name.length : Int)))) rfl) ?_
  refine w_done ?_
  refine k_seq ?_
  refine awp_seq ?_
  refine awp_seq ?_
  refine w_reg ?_
  refine s_do (o_mov (.int .i64 (w64 (left_2 - (a_1.Name.length : Int)))) rfl) ?_
  refine s_do (o_q (.bool (decide (w64 (left_2 - (a_1.Name.length : Int)) < 0))) rfl rfl rfl) ?_
  refine w_done ?_
  refine k_seq ?_
  rcases oi hf with ⟨c4, hf⟩ | ⟨c4, hf⟩
  · refine w_condt rfl c4 ?_
    refine awp_seq ?_
    refine w_reg ?_
    refine s_do (o_mov (.int .i64 (-1)) rfl) ?_
    refine w_done ?_
    refine k_seq ?_
    refine w_ret ?_
    obtain rfl := os hf
    exact r_flat ⟨trivial, trivial⟩ rfl (.refl _)
  · refine w_condf rfl (bf c4) ?_
    refine w_skip ?_
    refine k_seq ?_
    refine awp_seq ?_
    refine w_reg ?_
    obtain ⟨r_5, er6, hf⟩ := ob hf
    refine s_do (o_q (.ptr 0 0 1) rfl trivial rfl) ?_
    refine s_do (o_q (.lst 1 (a_1.Queue.map encI)) rfl nle rfl) ?_
    refine s_do (o_mov (.int .i64 (w64 (left_2 - (a_1.Name.length : Int)))) rfl) ?_
    refine s_do (o_call (w_laws_szIntS _ _ _ er6) rfl (.refl _) rfl) ?_
    refine s_do (o_mov (.int .i64 r_5) rfl) ?_
    refine w_done ?_
    refine k_seq ?_
    refine awp_seq ?_
    refine awp_seq ?_
    refine w_reg ?_
    refine s_do (o_mov (.int .i64 r_5) rfl) ?_
    refine s_do (o_q (.bool (decide (r_5 < 0))) rfl rfl rfl) ?_
    refine w_done ?_
    refine k_seq ?_
    rcases oi hf with ⟨c7, hf⟩ | ⟨c7, hf⟩
    · refine w_condt rfl c7 ?_
      refine awp_seq ?_
      refine w_reg ?_
      refine s_do (o_mov (.int .i64 (-1)) rfl) ?_
      refine w_done ?_
      refine k_seq ?_
      refine w_ret ?_
      obtain rfl := os hf
      exact r_flat ⟨trivial, trivial⟩ rfl (.refl _)
    · refine w_condf rfl (bf c7) ?_
      refine w_skip ?_
      refine k_seq ?_
      refine awp_seq ?_
      refine w_reg ?_
      refine s_do (o_mov (.int .i64 r_5) rfl) ?_
      refine s_do (o_mov (.int .i64 r_5) rfl) ?_
      refine w_done ?_
      refine k_seq ?_
      refine w_ret ?_
      obtain rfl := os hf
      exact r_flat ⟨trivial, trivial⟩ rfl (.refl _)

/- laws.szLockS -/
def c15 : ACode :=
 (.seq (.reg (.q ⟨(some 4), none, .mov (.c (.int .i64 0))⟩
 .done))
 (.seq (.reg (.q ⟨(some 6), none, .mov (.t 1)⟩
 (.q ⟨(some 7), none, .mov (.t 0)⟩
 (.q ⟨(some 8), none, .len (.t 7)⟩
 (.q ⟨(some 9), none, .bin .sub (.t 6) (.t 8)⟩
 (.q ⟨(some 1), none, .mov (.t 9)⟩
 .done))))))
 (.seq (.seq (.reg (.q ⟨(some 10), none, .mov (.t 1)⟩
 (.q ⟨(some 11), none, .bin .lss (.t 10) (.c (.int .i64 0))⟩
 .done)))
 (.cond (.t 11) (.seq (.reg (.q ⟨(some 4), none, .mov (.c (.int .i64 (-1)))⟩
 .done))
 .ret)
 .skip))
 (.seq (.seq (.reg (.q ⟨(some 5), none, .mov (.c (.int .i64 0))⟩
 .done))
 (.block 0 (.loop (.seq (.seq (.reg (.q ⟨(some 12), none, .mov (.t 5)⟩
 (.q ⟨(some 13), none, .mov (.t 0)⟩
 (.q ⟨(some 14), none, .len (.t 13)⟩
 (.q ⟨(some 15), none, .bin .lss (.t 12) (.t 14)⟩
 .done)))))
 (.cond (.t 15) .skip
 (.exit 0)))
 (.seq (.block 1 (.seq (.reg (.q ⟨(some 18), none, .mov (.t 0)⟩
 (.q ⟨(some 19), none, .mov (.t 5)⟩
 (.q ⟨(some 20), none, .iaddr 2 (.t 18) (.t 19)⟩
 (.q ⟨(some 21), none, .load 2 true (.t 20)⟩
 (.q ⟨(some 22), none, .mov (.t 1)⟩
 (.q ⟨(some 23), none, .call 79 [(.t 21), (.t 22)]⟩
 (.q ⟨(some 1), none, .mov (.t 23)⟩
 .done))))))))
 (.seq (.reg (.q ⟨(some 24), none, .mov (.t 1)⟩
 (.q ⟨(some 25), none, .bin .lss (.t 24) (.c (.int .i64 0))⟩
 .done)))
 (.cond (.t 25) (.seq (.reg (.q ⟨(some 4), none, .mov (.c (.int .i64 (-1)))⟩
 .done))
 .ret)
 .skip))))
 (.reg (.q ⟨(some 16), none, .mov (.t 5)⟩
 (.q ⟨(some 17), none, .bin .add (.t 16) (.c (.int .i64 1))⟩
 (.q ⟨(some 5), none, .mov (.t 17)⟩
 .done)))))))))
 (.cut (.seq (.reg (.q ⟨(some 26), none, .mov (.t 1)⟩
 (.q ⟨(some 4), none, .mov (.t 26)⟩
 .done)))
 .ret))))))
theorem fc15 : fcomp Try.prog Try.f15 = some (c15.erase, [.mov (.t 4)], 27) := by kernel_rfl
def laws_szLockS_L1  : List GLock → Int → Option (Fl Int Int)
  | [], left_21 =>
    some (.go left_21)
  | x_39 :: xs, left_21 =>
    (laws_szLock x_39 left_21).bind fun r_42 =>
    if (decide (r_42 < 0)) then
    some (.ret (-1))
    else
    laws_szLockS_L1 xs r_42 

def laws_szLockS (a_1 : (List GLock)) (left_2 : Int) : Option Int :=
    if (decide (w64 (left_2 - (a_1.length : Int)) < 0)) then
    some (-1)
    else
    (laws_szLockS_L1 a_1 (w64 (left_2 - (a_1.length : Int)))).bind fun q => (match q with
    | .ret r => some r
    | .go left_31 =>
    some left_31)
theorem w_laws_szLockS (a_1 : (List GLock)) (left_2 : Int) (r : Int) (hf : laws_szLockS a_1 left_2 = some r) : CallOK Try.prog 15 .flat [(.lst 2 (a_1.map encGLock)), (.int .i64 left_2)] (.int .i64 r) := by
  refine CallOK.of_awp mixed Try.func15 fc15 nle ?_
  rw [argT_eq]
  unfold laws_szLockS at hf
  unfold c15
  refine (show awp Try.prog false 0 _ (ofL [(0, (.lst 2 (a_1.map encGLock))), (1, (.int .i64 left_2))]) [] _ from ?_)
  refine awp_seq ?_
  refine w_reg ?_
  refine s_do (o_mov (.int .i64 0) rfl) ?_
  refine w_done ?_
  refine k_seq ?_
  refine awp_seq ?_
  refine w_reg ?_
  refine s_do (o_mov (.int .i64 left_2) rfl) ?_
  refine s_do (o_mov (.lst 2 (a_1.map encGLock)) rfl) ?_
  refine s_dof (o_len (enc := encGLock) rfl) fun hl3 => ?_
  refine s_do (o_q (.int .i64 (w64 (left_2 - (a_1.length : Int)))) rfl rfl rfl) ?_
  refine s_do (o_mov (.int .i64 (w64 (left_2 - (a_1.length : Int)))) rfl) ?_
  refine w_done ?_
  refine k_seq ?_
  refine awp_seq ?_
  refine awp_seq ?_
  refine w_reg ?_
  refine s_do (o_mov (.int .i64 (w64 (left_2 - (a_1.length : Int)))) rfl) ?_
  refine s_do (o_q (.bool (decide (w64 (left_2 - (a_1.length : Int)) < 0))) rfl rfl rfl) ?_
  refine w_done ?_
  refine k_seq ?_
  rcases oi hf with ⟨c4, hf⟩ | ⟨c4, hf⟩
  · refine w_condt rfl c4 ?_
    refine awp_seq ?_
    refine w_reg ?_
    refine s_do (o_mov (.int .i64 (-1)) rfl) ?_
    refine w_done ?_
    refine k_seq ?_
    refine w_ret ?_
    obtain rfl := os hf
    exact r_flat ⟨trivial, trivial⟩ rfl (.refl _)
  · refine w_condf rfl (bf c4) ?_
    refine w_skip ?_
    refine k_seq ?_
    refine awp_seq ?_
    refine awp_seq ?_
    refine w_reg ?_
    refine s_do (o_mov (.int .i64 0) rfl) ?_
    refine w_done ?_
    refine k_seq ?_
    obtain ⟨p32, hb1, hf⟩ := ob hf
    refine awp_cutx (X := {q : Int // p32 = .go q}) (fun q => ([(1, (.int .i64 q.1))], [])) ?_ ?_
    · refine awp_loop (X := {q : (Int × Nat) // laws_szLockS_L1 (a_1.drop q.2) q.1 = some p32}) (fun q => ([(0, (.lst 2 (a_1.map encGLock))), (1, (.int .i64 q.1.1)), (5, (.int .i64 (q.1.2 : Int)))], [])) (fun q => a_1.length - q.1.2) ⟨(w64 (left_2 - (a_1.length : Int)), 0), hb1⟩ ⟨[], [], _, _, rfl, rfl, ⟨.refl _, ⟨.refl _, ⟨.refl _, trivial⟩⟩⟩, .refl _⟩ ?_
      rintro ⟨⟨left_21, i_22⟩, hc1⟩
      have hc1 : laws_szLockS_L1 (a_1.drop i_22) left_21 = some p32 := hc1
      refine (show awp Try.prog false 0 _ (ofL [(0, (.lst 2 (a_1.map encGLock))), (1, (.int .i64 left_21)), (5, (.int .i64 (i_22 : Int)))]) [] _ from ?_)
      rcases dropc a_1 i_22 with ⟨hie35, hd38⟩ | ⟨hlt33, x_39, hx34, hd38⟩
      · rw [hd38, laws_szLockS_L1.eq_1] at hc1
        have hq37 := dlf hie35
        refine awp_seq ?_
        refine awp_seq ?_
        refine w_reg ?_
        refine s_do (o_mov (.int .i64 (i_22 : Int)) rfl) ?_
        refine s_do (o_mov (.lst 2 (a_1.map encGLock)) rfl) ?_
        refine s_dof (o_len (enc := encGLock) rfl) fun hl40 => ?_
        refine s_do (o_q (.bool (decide ((i_22 : Int) < (a_1.length : Int)))) rfl rfl rfl) ?_
        refine w_done ?_
        refine k_seq ?_
        refine w_condf rfl hq37 ?_
        refine w_exit ?_
        refine k_seqx ?_
        refine k_loopx ?_
        refine k_blkx ?_
        obtain rfl := os hc1
        exact k_cutn ⟨_, rfl⟩ ⟨[], [], _, _, rfl, rfl, ⟨.refl _, trivial⟩, .refl _⟩
      · rw [hd38, laws_szLockS_L1.eq_2] at hc1
        have hq37 := dlt hlt33
        refine awp_seq ?_
        refine awp_seq ?_
        refine w_reg ?_
        refine s_do (o_mov (.int .i64 (i_22 : Int)) rfl) ?_
        refine s_do (o_mov (.lst 2 (a_1.map encGLock)) rfl) ?_
        refine s_dof (o_len (enc := encGLock) rfl) fun hl41 => ?_
        refine s_do (o_q (.bool (decide ((i_22 : Int) < (a_1.length : Int)))) rfl rfl rfl) ?_
        refine w_done ?_
        refine k_seq ?_
        refine w_condt rfl hq37 ?_
        refine w_skip ?_
        refine k_seq ?_
        refine awp_seq ?_
        refine w_blk ?_
        refine awp_seq ?_
        refine w_reg ?_
        obtain ⟨r_42, er43, hc1⟩ := ob hc1
        refine s_do (o_mov (.lst 2 (a_1.map encGLock)) rfl) ?_
        refine s_do (o_mov (.int .i64 (i_22 : Int)) rfl) ?_
        refine s_do (o_iaddrn (enc := encGLock) rfl rfl hx34) ?_
        refine s_do (o_q (encGLock x_39) rfl nle rfl) ?_
        refine s_do (o_mov (.int .i64 left_21) rfl) ?_
        refine s_do (o_call (w_laws_szLock _ _ _ er43) rfl (.refl _) rfl) ?_
        refine s_do (o_mov (.int .i64 r_42) rfl) ?_
        refine w_done ?_
        refine k_seq ?_
        refine awp_seq ?_
        refine w_reg ?_
        refine s_do (o_mov (.int .i64 r_42) rfl) ?_
        refine s_do (o_q (.bool (decide (r_42 < 0))) rfl rfl rfl) ?_
        refine w_done ?_
        refine k_seq ?_
        rcases oi hc1 with ⟨c44, hc1⟩ | ⟨c44, hc1⟩
        · refine w_condt rfl c44 ?_
          refine awp_seq ?_
          refine w_reg ?_
          refine s_do (o_mov (.int .i64 (-1)) rfl) ?_
          refine w_done ?_
          refine k_seq ?_
          refine w_ret ?_
          obtain rfl := os hc1
          obtain rfl := os hf
          exact r_flat ⟨trivial, trivial⟩ rfl (.refl _)
        · refine w_condf rfl (bf c44) ?_
          refine w_skip ?_
          refine k_blk ?_
          refine k_seq ?_
          refine w_reg ?_
          refine s_do (o_mov (.int .i64 (i_22 : Int)) rfl) ?_
          refine s_do (o_q (.int .i64 (w64 ((i_22 : Int) + 1))) rfl rfl rfl) ?_
          refine s_do (o_mov (.int .i64 (w64 ((i_22 : Int) + 1))) rfl) ?_
          refine w_done ?_
          exact k_loopn ⟨(r_42, (i_22 + 1)), hc1⟩ (mul hlt33) ⟨[], [], _, _, rfl, rfl, ⟨.refl _, ⟨.refl _, ⟨.of_eq (congrArg (AV.int _) (w64_incr hlt33 hl41)), trivial⟩⟩⟩, .refl _⟩
    · rintro ⟨left_31, rfl⟩
      refine awp_seq ?_
      refine w_reg ?_
      refine s_do (o_mov (.int .i64 left_31) rfl) ?_
      refine s_do (o_mov (.int .i64 left_31) rfl) ?_
      refine w_done ?_
      refine k_seq ?_
      refine w_ret ?_
      obtain rfl := os hf
      exact r_flat ⟨trivial, trivial⟩ rfl (.refl _)

/- laws.toIntS -/
def c151 : ACode :=
 (.seq (.reg (.q ⟨(some 2), none, .mov (.c .nil)⟩
 .done))
 (.seq (.reg (.q ⟨(some 5), none, .mov (.t 0)⟩
 (.q ⟨(some 6), none, .len (.t 5)⟩
 (.q ⟨(some 7), none, .mkslice 1 8 (.int .i64 0) (.t 6) (.t 6)⟩
 (.q ⟨(some 3), none, .mov (.t 7)⟩
 .done)))))
 (.seq (.seq (.reg (.q ⟨(some 4), none, .mov (.c (.int .i64 0))⟩
 .done))
 (.block 0 (.loop (.seq (.seq (.reg (.q ⟨(some 8), none, .mov (.t 4)⟩
 (.q ⟨(some 9), none, .mov (.t 0)⟩
 (.q ⟨(some 10), none, .len (.t 9)⟩
 (.q ⟨(some 11), none, .bin .lss (.t 8) (.t 10)⟩
 .done)))))
 (.cond (.t 11) .skip
 (.exit 0)))
 (.seq (.block 1 (.reg (.q ⟨(some 14), none, .mov (.t 3)⟩
 (.q ⟨(some 15), none, .mov (.t 4)⟩
 (.q ⟨(some 16), none, .mov (.t 0)⟩
 (.q ⟨(some 17), none, .mov (.t 4)⟩
 (.q ⟨(some 18), none, .iaddr 1 (.t 16) (.t 17)⟩
 (.q ⟨(some 19), none, .load 1 false (.t 18)⟩
 (.q ⟨(some 20), none, .iaddr 1 (.t 14) (.t 15)⟩
 (.q ⟨none, none, .store 1 (.t 20) (.t 19)⟩
 .done))))))))))
 (.reg (.q ⟨(some 12), none, .mov (.t 4)⟩
 (.q ⟨(some 13), none, .bin .add (.t 12) (.c (.int .i64 1))⟩
 (.q ⟨(some 4), none, .mov (.t 13)⟩
 .done)))))))))
 (.cut (.seq (.reg (.q ⟨(some 21), none, .mov (.t 3)⟩
 (.q ⟨(some 2), none, .mov (.t 21)⟩
 .done)))
 .ret)))))
theorem fc151 : fcomp Try.prog Try.f151 = some (c151.erase, [.mov (.t 2)], 22) := by kernel_rfl
def laws_toIntS_L1  : List Int → Nat → (List Int) → Option (List Int)
  | [], i_20, out_21 =>
    some out_21
  | x_38 :: xs, i_20, out_21 =>
    if i_20 < out_21.length then
    (out_21[i_20]?).bind fun x_42 =>
    laws_toIntS_L1 xs (i_20 + 1) (out_21.set i_20 x_38)
    else none

def laws_toIntS (a_1 : (List Int)) : Option (List Int) :=
    if (a_1.length : Int) ≤ 2 ^ 30 then
    (laws_toIntS_L1 a_1 0 (List.replicate a_1.length 0)).bind fun out_30 =>
    some out_30
    else none
theorem w_laws_toIntS (a_1 : (List Int)) (r : (List Int)) (hf : laws_toIntS a_1 = some r) : CallOK Try.prog 151 .fresh [(.lst 1 (a_1.map encI))] (.lst 1 (r.map encI)) := by
  refine CallOK.of_awp mixed Try.func151 fc151 nle ?_
  rw [argT_eq]
  unfold laws_toIntS at hf
  unfold c151
  refine (show awp Try.prog true 0 _ (ofL [(0, (.lst 1 (a_1.map encI)))]) [] _ from ?_)
  refine awp_seq ?_
  refine w_reg ?_
  refine s_do (o_mov .nil rfl) ?_
  refine w_done ?_
  refine k_seq ?_
  refine awp_seq ?_
  refine w_reg ?_
  obtain ⟨g3, hf⟩ := og hf
  refine s_do (o_mov (.lst 1 (a_1.map encI)) rfl) ?_
  refine s_dof (o_len (enc := encI) rfl) fun hl2 => ?_
  refine s_do (o_mkslice (j := 0) (enc := encI) (m := a_1.length) 0 (.refl _) rfl rfl (Int.le_refl _) g3 rfl) ?_
  refine s_do (o_mov (.own 0 0 a_1.length) rfl) ?_
  refine w_done ?_
  refine k_seq ?_
  refine awp_seq ?_
  refine awp_seq ?_
  refine w_reg ?_
  refine s_do (o_mov (.int .i64 0) rfl) ?_
  refine w_done ?_
  refine k_seq ?_
  obtain ⟨out_30, hb1, hf⟩ := ob hf
  refine awp_cut ([(3, (.own 0 0 out_30.length))], [.row 1 (out_30.map encI)]) ?_ ?_
  · refine awp_loop (X := {q : (Nat × (List Int)) // laws_toIntS_L1 (a_1.drop q.1) q.1 q.2 = some out_30}) (fun q => ([(0, (.lst 1 (a_1.map encI))), (3, (.own 0 0 q.1.2.length)), (4, (.int .i64 (q.1.1 : Int)))], [.row 1 (q.1.2.map encI)])) (fun q => a_1.length - q.1.1) ⟨(0, List.replicate a_1.length 0), hb1⟩ ⟨[], [0], _, _, rfl, rfl, ⟨.refl _, ⟨.of_eq (congrArg (AV.own _ 0) (by simp)), ⟨.refl _, trivial⟩⟩⟩, .refl _⟩ ?_
    rintro ⟨⟨i_20, out_21⟩, hc1⟩
    have hc1 : laws_toIntS_L1 (a_1.drop i_20) i_20 out_21 = some out_30 := hc1
    refine (show awp Try.prog true 0 _ (ofL [(0, (.lst 1 (a_1.map encI))), (3, (.own 0 0 out_21.length)), (4, (.int .i64 (i_20 : Int)))]) [.row 1 (out_21.map encI)] _ from ?_)
    rcases dropc a_1 i_20 with ⟨hie34, hd37⟩ | ⟨hlt32, x_38, hx33, hd37⟩
    · rw [hd37, laws_toIntS_L1.eq_1] at hc1
      have hq36 := dlf hie34
      refine awp_seq ?_
      refine awp_seq ?_
      refine w_reg ?_
      refine s_do (o_mov (.int .i64 (i_20 : Int)) rfl) ?_
      refine s_do (o_mov (.lst 1 (a_1.map encI)) rfl) ?_
      refine s_dof (o_len (enc := encI) rfl) fun hl39 => ?_
      refine s_do (o_q (.bool (decide ((i_20 : Int) < (a_1.length : Int)))) rfl rfl rfl) ?_
      refine w_done ?_
      refine k_seq ?_
      refine w_condf rfl hq36 ?_
      refine w_exit ?_
      refine k_seqx ?_
      refine k_loopx ?_
      refine k_blkx ?_
      obtain rfl := os hc1
      exact ⟨[], [0], _, _, rfl, rfl, ⟨.refl _, trivial⟩, .refl _⟩
    · rw [hd37, laws_toIntS_L1.eq_2] at hc1
      have hq36 := dlt hlt32
      refine awp_seq ?_
      refine awp_seq ?_
      refine w_reg ?_
      refine s_do (o_mov (.int .i64 (i_20 : Int)) rfl) ?_
      refine s_do (o_mov (.lst 1 (a_1.map encI)) rfl) ?_
      refine s_dof (o_len (enc := encI) rfl) fun hl40 => ?_
      refine s_do (o_q (.bool (decide ((i_20 : Int) < (a_1.length : Int)))) rfl rfl rfl) ?_
      refine w_done ?_
      refine k_seq ?_
      refine w_condt rfl hq36 ?_
      refine w_skip ?_
      refine k_seq ?_
      refine awp_seq ?_
      refine w_blk ?_
      refine w_reg ?_
      obtain ⟨g41, hc1⟩ := og hc1
      obtain ⟨x_42, ex43, hc1⟩ := ob hc1
      refine s_do (o_mov (.own 0 0 out_21.length) rfl) ?_
      refine s_do (o_mov (.int .i64 (i_20 : Int)) rfl) ?_
      refine s_do (o_mov (.lst 1 (a_1.map encI)) rfl) ?_
      refine s_do (o_mov (.int .i64 (i_20 : Int)) rfl) ?_
      refine s_do (o_iaddrn (enc := encI) rfl rfl hx33) ?_
      refine s_do (o_q (.int .i64 x_38) rfl ⟨rfl, rfl⟩ rfl) ?_
      refine s_do (o_iaddrownn rfl rfl g41 rfl rfl) ?_
      refine s_do0 (o_storerow (v' := (.int .i64 x_38)) (e' := x_38) rfl rfl ex43 rfl rfl rfl (by decide) (fun _ => by decide) ⟨rfl, rfl, rfl⟩ (.refl _) rfl) ?_
      refine w_done ?_
      refine k_blk ?_
      refine k_seq ?_
      refine w_reg ?_
      refine s_do (o_mov (.int .i64 (i_20 : Int)) rfl) ?_
      refine s_do (o_q (.int .i64 (w64 ((i_20 : Int) + 1))) rfl rfl rfl) ?_
      refine s_do (o_mov (.int .i64 (w64 ((i_20 : Int) + 1))) rfl) ?_
      refine w_done ?_
      exact k_loopn ⟨((i_20 + 1), out_21.set i_20 x_38), hc1⟩ (mul hlt32) ⟨[], [0], _, _, rfl, rfl, ⟨.refl _, ⟨.of_eq (congrArg (AV.own _ 0) (by simp)), ⟨.of_eq (congrArg (AV.int _) (w64_incr hlt32 hl40)), trivial⟩⟩⟩, .refl _⟩
  · refine awp_seq ?_
    refine w_reg ?_
    refine s_do (o_mov (.own 0 0 out_30.length) rfl) ?_
    refine s_do (o_mov (.own 0 0 out_30.length) rfl) ?_
    refine w_done ?_
    refine k_seq ?_
    refine w_ret ?_
    obtain rfl := os hf
    exact r_fresh ⟨trivial, trivial⟩ rfl (by decide) (.of_eq (congrArg (AV.lst _) (tk (enc := encI) out_30)))

/- laws.toLock -/
def c84 : ACode :=
 (.seq (.reg (.q ⟨(some 1), none, .box 2 (.t 0)⟩
 (.q ⟨(some 2), none, .box 2 (.c (.agg [(.str []), .nil]))⟩
 .done)))
 (.seq (.reg (.q ⟨(some 3), none, .box 2 (.c (.agg [(.str []), .nil]))⟩
 .done))
 (.seq (.reg (.q ⟨(some 4), none, .faddr 0 (.t 1)⟩
 (.q ⟨(some 5), none, .load 1 false (.t 4)⟩
 (.q ⟨(some 6), none, .faddr 0 (.t 3)⟩
 (.q ⟨none, none, .store 1 (.t 6) (.t 5)⟩
 .done)))))
 (.seq (.reg (.q ⟨(some 7), none, .faddr 1 (.t 1)⟩
 (.q ⟨(some 8), none, .load 1 false (.t 7)⟩
 (.q ⟨(some 9), none, .call 151 [(.t 8)]⟩
 (.q ⟨(some 10), none, .faddr 1 (.t 3)⟩
 (.q ⟨none, none, .store 1 (.t 10) (.t 9)⟩
 .done))))))
 (.seq (.reg (.q ⟨(some 11), none, .load 2 true (.t 3)⟩
 (.q ⟨none, none, .store 2 (.t 2) (.t 11)⟩
 .done)))
 .ret)))))
theorem fc84 : fcomp Try.prog Try.f84 = some (c84.erase, [.load 2 true (.t 2)], 12) := by kernel_rfl
def laws_toLock (a_1 : GLock) : Option GLock :=
    (laws_toIntS a_1.Queue).bind fun r_2 =>
    some (⟨a_1.Name, r_2⟩ : GLock)
theorem w_laws_toLock (a_1 : GLock) (r : GLock) (hf : laws_toLock a_1 = some r) : CallOK Try.prog 84 .fresh [(encGLock a_1)] (encGLock r) := by
  refine CallOK.of_awp mixed Try.func84 fc84 nle ?_
  rw [argT_eq]
  unfold laws_toLock at hf
  unfold c84
  refine (show awp Try.prog true 0 _ (ofL [(0, (encGLock a_1))]) [] _ from ?_)
  refine awp_seq ?_
  refine w_reg ?_
  refine s_do (o_box (j := 0) (c := (.agg [(.str a_1.Name), (.lst 1 (a_1.Queue.map encI))])) rfl trivial rfl rfl) ?_
  refine s_do (o_box (j := 1) (c := (.agg [(.str []), .nil])) rfl trivial rfl rfl) ?_
  refine w_done ?_
  refine k_seq ?_
  refine awp_seq ?_
  refine w_reg ?_
  refine s_do (o_box (j := 2) (c := (.agg [(.str []), .nil])) rfl trivial rfl rfl) ?_
  refine w_done ?_
  refine k_seq ?_
  refine awp_seq ?_
  refine w_reg ?_
  refine s_do (o_q (.ptr 0 0 0) rfl trivial rfl) ?_
  refine s_do (o_q (.str a_1.Name) rfl nle rfl) ?_
  refine s_do (o_q (.ptr 2 0 0) rfl trivial rfl) ?_
  refine s_do0 (o_storebox (v := (.str a_1.Name)) (y' := (.agg [(.str a_1.Name), .nil])) rfl rfl rfl trivial ⟨rfl, nle⟩ ⟨⟨rfl, trivial⟩, trivial⟩ rfl) ?_
  refine w_done ?_
  refine k_seq ?_
  refine awp_seq ?_
  refine w_reg ?_
  obtain ⟨r_2, er3, hf⟩ := ob hf
  refine s_do (o_q (.ptr 0 0 1) rfl trivial rfl) ?_
  refine s_do (o_q (.lst 1 (a_1.Queue.map encI)) rfl nle rfl) ?_
  refine s_do (o_callf (v := (.own 3 0 r_2.length)) (h' := [.row 1 (r_2.map encI)]) (w_laws_toIntS _ _ er3) rfl (.refl _) (by simp only [openV, openVs, List.length_map, List.nil_append, List.append_nil, List.cons_append]; rfl)) ?_
  refine s_do (o_q (.ptr 2 0 1) rfl trivial rfl) ?_
  refine s_do0 (o_storebox (v := (.own 3 0 r_2.length)) (y' := (.agg [(.str a_1.Name), (.own 3 0 r_2.length)])) rfl rfl rfl trivial ⟨rfl, nle⟩ ⟨⟨rfl, trivial⟩, trivial⟩ rfl) ?_
  refine w_done ?_
  refine k_seq ?_
  refine awp_seq ?_
  refine w_reg ?_
  refine s_do (o_q (.agg [(.str a_1.Name), (.own 3 0 r_2.length)]) rfl nle rfl) ?_
  refine s_do0 (o_storebox (v := (.agg [(.str a_1.Name), (.own 3 0 r_2.length)])) (y' := (.agg [(.str a_1.Name), (.own 3 0 r_2.length)])) rfl rfl rfl trivial ⟨rfl, nle⟩ ⟨⟨rfl, trivial⟩, ⟨⟨rfl, trivial⟩, trivial⟩⟩ rfl) ?_
  refine w_done ?_
  refine k_seq ?_
  refine w_ret ?_
  obtain rfl := os hf
  exact r_fresh ⟨nle, trivial⟩ rfl (by decide) (.agg (.cons (.refl _) (.cons (.of_eq (congrArg (AV.lst _) (tk (enc := encI) r_2))) .nil)))

/- laws.toLockS -/
def c17 : ACode :=
 (.seq (.reg (.q ⟨(some 2), none, .mov (.c .nil)⟩
 .done))
 (.seq (.reg (.q ⟨(some 5), none, .mov (.t 0)⟩
 (.q ⟨(some 6), none, .len (.t 5)⟩
 (.q ⟨(some 7), none, .mkslice 2 40 (.agg [(.str []), .nil]) (.t 6) (.t 6)⟩
 (.q ⟨(some 3), none, .mov (.t 7)⟩
 .done)))))
 (.seq (.seq (.reg (.q ⟨(some 4), none, .mov (.c (.int .i64 0))⟩
 .done))
 (.block 0 (.loop (.seq (.seq (.reg (.q ⟨(some 8), none, .mov (.t 4)⟩
 (.q ⟨(some 9), none, .mov (.t 0)⟩
 (.q ⟨(some 10), none, .len (.t 9)⟩
 (.q ⟨(some 11), none, .bin .lss (.t 8) (.t 10)⟩
 .done)))))
 (.cond (.t 11) .skip
 (.exit 0)))
 (.seq (.block 1 (.reg (.q ⟨(some 14), none, .mov (.t 3)⟩
 (.q ⟨(some 15), none, .mov (.t 4)⟩
 (.q ⟨(some 16), none, .mov (.t 0)⟩
 (.q ⟨(some 17), none, .mov (.t 4)⟩
 (.q ⟨(some 18), none, .iaddr 2 (.t 16) (.t 17)⟩
 (.q ⟨(some 19), none, .load 2 true (.t 18)⟩
 (.q ⟨(some 20), none, .call 84 [(.t 19)]⟩
 (.q ⟨(some 21), none, .iaddr 2 (.t 14) (.t 15)⟩
 (.q ⟨none, none, .store 2 (.t 21) (.t 20)⟩
 .done)))))))))))
 (.reg (.q ⟨(some 12), none, .mov (.t 4)⟩
 (.q ⟨(some 13), none, .bin .add (.t 12) (.c (.int .i64 1))⟩
 (.q ⟨(some 4), none, .mov (.t 13)⟩
 .done)))))))))
 (.cut (.seq (.reg (.q ⟨(some 22), none, .mov (.t 3)⟩
 (.q ⟨(some 2), none, .mov (.t 22)⟩
 .done)))
 .ret)))))
theorem fc17 : fcomp Try.prog Try.f17 = some (c17.erase, [.mov (.t 2)], 23) := by kernel_rfl
def laws_toLockS_L1  : List GLock → Nat → (List GLock) → Option (List GLock)
  | [], i_24, out_25 =>
    some out_25
  | x_44 :: xs, i_24, out_25 =>
    (laws_toLock x_44).bind fun r_47 =>
    if i_24 < out_25.length then
    (out_25[i_24]?).bind fun x_50 =>
    laws_toLockS_L1 xs (i_24 + 1) (out_25.set i_24 r_47)
    else none

def laws_toLockS (a_1 : (List GLock)) : Option (List GLock) :=
    if (a_1.length : Int) ≤ 2 ^ 30 then
    (laws_toLockS_L1 a_1 0 (List.replicate a_1.length (⟨[], []⟩ : GLock))).bind fun out_36 =>
    some out_36
    else none
theorem w_laws_toLockS (a_1 : (List GLock)) (r : (List GLock)) (hf : laws_toLockS a_1 = some r) : CallOK Try.prog 17 .fresh [(.lst 2 (a_1.map encGLock))] (.lst 2 (r.map encGLock)) := by
  refine CallOK.of_awp mixed Try.func17 fc17 nle ?_
  rw [argT_eq]
  unfold laws_toLockS at hf
  unfold c17
  refine (show awp Try.prog true 0 _ (ofL [(0, (.lst 2 (a_1.map encGLock)))]) [] _ from ?_)
  refine awp_seq ?_
  refine w_reg ?_
  refine s_do (o_mov .nil rfl) ?_
  refine w_done ?_
  refine k_seq ?_
  refine awp_seq ?_
  refine w_reg ?_
  obtain ⟨g3, hf⟩ := og hf
  refine s_do (o_mov (.lst 2 (a_1.map encGLock)) rfl) ?_
  refine s_dof (o_len (enc := encGLock) rfl) fun hl2 => ?_
  refine s_do (o_mkslice (j := 0) (enc := encGLock) (m := a_1.length) (⟨[], []⟩ : GLock) (.agg (.cons (.refl _) (.cons (.nil _) .nil))) rfl rfl (Int.le_refl _) g3 rfl) ?_
  refine s_do (o_mov (.own 0 0 a_1.length) rfl) ?_
  refine w_done ?_
  refine k_seq ?_
  refine awp_seq ?_
  refine awp_seq ?_
  refine w_reg ?_
  refine s_do (o_mov (.int .i64 0) rfl) ?_
  refine w_done ?_
  refine k_seq ?_
  obtain ⟨out_36, hb1, hf⟩ := ob hf
  refine awp_cut ([(3, (.own 0 0 out_36.length))], [.row 2 (out_36.map encGLock)]) ?_ ?_
  · refine awp_loop (X := {q : (Nat × (List GLock)) // laws_toLockS_L1 (a_1.drop q.1) q.1 q.2 = some out_36}) (fun q => ([(0, (.lst 2 (a_1.map encGLock))), (3, (.own 0 0 q.1.2.length)), (4, (.int .i64 (q.1.1 : Int)))], [.row 2 (q.1.2.map encGLock)])) (fun q => a_1.length - q.1.1) ⟨(0, List.replicate a_1.length (⟨[], []⟩ : GLock)), hb1⟩ ⟨[], [0], _, _, rfl, rfl, ⟨.refl _, ⟨.of_eq (congrArg (AV.own _ 0) (by simp)), ⟨.refl _, trivial⟩⟩⟩, .refl _⟩ ?_
    rintro ⟨⟨i_24, out_25⟩, hc1⟩
    have hc1 : laws_toLockS_L1 (a_1.drop i_24) i_24 out_25 = some out_36 := hc1
    refine (show awp Try.prog true 0 _ (ofL [(0, (.lst 2 (a_1.map encGLock))), (3, (.own 0 0 out_25.length)), (4, (.int .i64 (i_24 : Int)))]) [.row 2 (out_25.map encGLock)] _ from ?_)
    rcases dropc a_1 i_24 with ⟨hie40, hd43⟩ | ⟨hlt38, x_44, hx39, hd43⟩
    · rw [hd43, laws_toLockS_L1.eq_1] at hc1
      have hq42 := dlf hie40
      refine awp_seq ?_
      refine awp_seq ?_
      refine w_reg ?_
      refine s_do (o_mov (.int .i64 (i_24 : Int)) rfl) ?_
      refine s_do (o_mov (.lst 2 (a_1.map encGLock)) rfl) ?_
      refine s_dof (o_len (enc := encGLock) rfl) fun hl45 => ?_
      refine s_do (o_q (.bool (decide ((i_24 : Int) < (a_1.length : Int)))) rfl rfl rfl) ?_
      refine w_done ?_
      refine k_seq ?_
      refine w_condf rfl hq42 ?_
      refine w_exit ?_
      refine k_seqx ?_
      refine k_loopx ?_
      refine k_blkx ?_
      obtain rfl := os hc1
      exact ⟨[], [0], _, _, rfl, rfl, ⟨.refl _, trivial⟩, .refl _⟩
    · rw [hd43, laws_toLockS_L1.eq_2] at hc1
      have hq42 := dlt hlt38
      refine awp_seq ?_
      refine awp_seq ?_
      refine w_reg ?_
      refine s_do (o_mov (.int .i64 (i_24 : Int)) rfl) ?_
      refine s_do (o_mov (.lst 2 (a_1.map encGLock)) rfl) ?_
      refine s_dof (o_len (enc := encGLock) rfl) fun hl46 => ?_
      refine s_do (o_q (.bool (decide ((i_24 : Int) < (a_1.length : Int)))) rfl rfl rfl) ?_
      refine w_done ?_
      refine k_seq ?_
      refine w_condt rfl hq42 ?_
      refine w_skip ?_
      refine k_seq ?_
      refine awp_seq ?_
      refine w_blk ?_
      refine w_reg ?_
      obtain ⟨r_47, er48, hc1⟩ := ob hc1
      obtain ⟨g49, hc1⟩ := og hc1
      obtain ⟨x_50, ex51, hc1⟩ := ob hc1
      refine s_do (o_mov (.own 0 0 out_25.length) rfl) ?_
      refine s_do (o_mov (.int .i64 (i_24 : Int)) rfl) ?_
      refine s_do (o_mov (.lst 2 (a_1.map encGLock)) rfl) ?_
      refine s_do (o_mov (.int .i64 (i_24 : Int)) rfl) ?_
      refine s_do (o_iaddrn (enc := encGLock) rfl rfl hx39) ?_
      refine s_do (o_q (encGLock x_44) rfl nle rfl) ?_
      refine s_do (o_callf (v := (.agg [(.str r_47.Name), (.own 1 0 r_47.Queue.length)])) (h' := [.row 1 (r_47.Queue.map encI)]) (w_laws_toLock _ _ er48) rfl (.refl _) (by simp only [openV, openVs, List.length_map, encGLock_eq, List.nil_append, List.append_nil, List.cons_append]; rfl)) ?_
      refine s_do (o_iaddrownn rfl rfl g49 rfl rfl) ?_
      refine s_do0 (o_storerow (v' := (.agg [(.str r_47.Name), (.lst 1 (r_47.Queue.map encI))])) (e' := r_47) rfl rfl ex51 rfl rfl (by simp only [tk, tko, List.take_length]) (by decide) (fun _ => by decide) ⟨rfl, nle⟩ (.refl _) rfl) ?_
      refine w_done ?_
      refine k_blk ?_
      refine k_seq ?_
      refine w_reg ?_
      refine s_do (o_mov (.int .i64 (i_24 : Int)) rfl) ?_
      refine s_do (o_q (.int .i64 (w64 ((i_24 : Int) + 1))) rfl rfl rfl) ?_
      refine s_do (o_mov (.int .i64 (w64 ((i_24 : Int) + 1))) rfl) ?_
      refine w_done ?_
      exact k_loopn ⟨((i_24 + 1), out_25.set i_24 r_47), hc1⟩ (mul hlt38) ⟨[], [0], _, _, rfl, rfl, ⟨.refl _, ⟨.of_eq (congrArg (AV.own _ 0) (by simp)), ⟨.of_eq (congrArg (AV.int _) (w64_incr hlt38 hl46)), trivial⟩⟩⟩, .refl _⟩
  · refine awp_seq ?_
    refine w_reg ?_
    refine s_do (o_mov (.own 0 0 out_36.length) rfl) ?_
    refine s_do (o_mov (.own 0 0 out_36.length) rfl) ?_
    refine w_done ?_
    refine k_seq ?_
    refine w_ret ?_
    obtain rfl := os hf
    exact r_fresh ⟨trivial, trivial⟩ rfl (by decide) (.of_eq (congrArg (AV.lst _) (tk (enc := encGLock) out_36)))

/- spec.l00Letter -/
def c207 : ACode :=
 (.seq (.reg (.q ⟨(some 2), none, .mov (.c (.bool false))⟩
 .done))
 (.seq (.reg (.q ⟨(some 3), none, .mov (.t 0)⟩
 (.q ⟨(some 4), none, .bin .geq (.t 3) (.c (.int .u8 97))⟩
 (.q ⟨(some 5), none, .mov (.t 4)⟩
 (.q ⟨(some 6), (some (5, true)), .mov (.t 0)⟩
 (.q ⟨(some 7), (some (5, true)), .bin .leq (.t 6) (.c (.int .u8 122))⟩
 (.q ⟨(some 8), none, .pick (.t 5) (.t 7) (.c (.bool false))⟩
 (.q ⟨(some 9), none, .mov (.t 8)⟩
 (.q ⟨(some 10), (some (9, false)), .mov (.t 0)⟩
 (.q ⟨(some 11), (some (9, false)), .bin .geq (.t 10) (.c (.int .u8 65))⟩
 (.q ⟨(some 12), (some (9, false)), .mov (.t 11)⟩
 (.q ⟨(some 13), (some (12, true)), .mov (.t 0)⟩
 (.q ⟨(some 14), (some (12, true)), .bin .leq (.t 13) (.c (.int .u8 90))⟩
 (.q ⟨(some 15), (some (9, false)), .pick (.t 12) (.t 14) (.c (.bool false))⟩
 (.q ⟨(some 16), none, .pick (.t 9) (.c (.bool true)) (.t 15)⟩
 (.q ⟨(some 17), none, .mov (.t 16)⟩
 (.q ⟨(some 18), (some (17, false)), .mov (.t 0)⟩
 (.q ⟨(some 19), (some (17, false)), .bin .eql (.t 18) (.c (.int .u8 95))⟩
 (.q ⟨(some 20), none, .pick (.t 17) (.c (.bool true)) (.t 19)⟩
 (.q ⟨(some 2), none, .mov (.t 20)⟩
 .done))))))))))))))))))))
 .ret))
theorem fc207 : fcomp Try.prog Try.f207 = some (c207.erase, [.mov (.t 2)], 21) := by kernel_rfl
def spec_l00Letter (c_1 : Int) : Option Bool :=
    if (decide (c_1 ≥ 97)) then
    if (decide (c_1 ≤ 122)) then
    some true
    else
    if (decide (c_1 ≥ 65)) then
    if (decide (c_1 ≤ 90)) then
    some true
    else
    some (c_1 == 95)
    else
    some (c_1 == 95)
    else
    if (decide (c_1 ≥ 65)) then
    if (decide (c_1 ≤ 90)) then
    some true
    else
    some (c_1 == 95)
    else
    some (c_1 == 95)
theorem w_spec_l00Letter (c_1 : Int) (r : Bool) (hf : spec_l00Letter c_1 = some r) : CallOK Try.prog 207 .flat [(.int .u8 c_1)] (.bool r) := by
  refine CallOK.of_awp mixed Try.func207 fc207 nle ?_
  rw [argT_eq]
  unfold spec_l00Letter at hf
  unfold c207
  refine (show awp Try.prog false 0 _ (ofL [(0, (.int .u8 c_1))]) [] _ from ?_)
  refine awp_seq ?_
  refine w_reg ?_
  refine s_do (o_mov (.bool false) rfl) ?_
  refine w_done ?_
  refine k_seq ?_
  refine awp_seq ?_
  refine w_reg ?_
  rcases oi hf with ⟨c2, hf⟩ | ⟨c2, hf⟩
  · rcases oi hf with ⟨c3, hf⟩ | ⟨c3, hf⟩
    · refine s_do (o_mov (.int .u8 c_1) rfl) ?_
      refine s_do (o_q (.bool (decide (c_1 ≥ 97))) rfl rfl rfl) ?_
      refine s_do (o_mov (.bool (decide (c_1 ≥ 97))) rfl) ?_
      refine s_lit (s := 5) (b := true) rfl c2 ?_
      refine s_on rfl ?_
      refine s_do (o_mov (.int .u8 c_1) rfl) ?_
      refine s_on rfl ?_
      refine s_do (o_q (.bool (decide (c_1 ≤ 122))) rfl rfl rfl) ?_
      refine s_do (o_q (.bool (decide (c_1 ≤ 122))) rfl trivial rfl) ?_
      refine s_do (o_mov (.bool (decide (c_1 ≤ 122))) rfl) ?_
      refine s_lit (s := 9) (b := true) rfl c3 ?_
      refine s_off rfl rfl ?_
      refine s_off rfl rfl ?_
      refine s_off rfl rfl ?_
      refine s_offs rfl ?_
      refine s_offs rfl ?_
      refine s_off rfl rfl ?_
      refine s_do (o_q (.bool true) rfl trivial rfl) ?_
      refine s_do (o_mov (.bool true) rfl) ?_
      refine s_off rfl rfl ?_
      refine s_off rfl rfl ?_
      refine s_do (o_q (.bool true) rfl trivial rfl) ?_
      refine s_do (o_mov (.bool true) rfl) ?_
      refine w_done ?_
      refine k_seq ?_
      refine w_ret ?_
      obtain rfl := os hf
      exact r_flat ⟨trivial, trivial⟩ rfl (.refl _)
    · rcases oi hf with ⟨c4, hf⟩ | ⟨c4, hf⟩
      · rcases oi hf with ⟨c5, hf⟩ | ⟨c5, hf⟩
        · refine s_do (o_mov (.int .u8 c_1) rfl) ?_
          refine s_do (o_q (.bool (decide (c_1 ≥ 97))) rfl rfl rfl) ?_
          refine s_do (o_mov (.bool (decide (c_1 ≥ 97))) rfl) ?_
          refine s_lit (s := 5) (b := true) rfl c2 ?_
          refine s_on rfl ?_
          refine s_do (o_mov (.int .u8 c_1) rfl) ?_
          refine s_on rfl ?_
          refine s_do (o_q (.bool (decide (c_1 ≤ 122))) rfl rfl rfl) ?_
          refine s_do (o_q (.bool (decide (c_1 ≤ 122))) rfl trivial rfl) ?_
          refine s_do (o_mov (.bool (decide (c_1 ≤ 122))) rfl) ?_
          refine s_lit (s := 9) (b := false) rfl (bf c3) ?_
          refine s_on rfl ?_
          refine s_do (o_mov (.int .u8 c_1) rfl) ?_
          refine s_on rfl ?_
          refine s_do (o_q (.bool (decide (c_1 ≥ 65))) rfl rfl rfl) ?_
          refine s_on rfl ?_
          refine s_do (o_mov (.bool (decide (c_1 ≥ 65))) rfl) ?_
          refine s_lit (s := 12) (b := true) rfl c4 ?_
          refine s_on rfl ?_
          refine s_do (o_mov (.int .u8 c_1) rfl) ?_
          refine s_on rfl ?_
          refine s_do (o_q (.bool (decide (c_1 ≤ 90))) rfl rfl rfl) ?_
          refine s_on rfl ?_
          refine s_do (o_q (.bool (decide (c_1 ≤ 90))) rfl trivial rfl) ?_
          refine s_do (o_q (.bool (decide (c_1 ≤ 90))) rfl trivial rfl) ?_
          refine s_do (o_mov (.bool (decide (c_1 ≤ 90))) rfl) ?_
          refine s_lit (s := 17) (b := true) rfl c5 ?_
          refine s_off rfl rfl ?_
          refine s_off rfl rfl ?_
          refine s_do (o_q (.bool true) rfl trivial rfl) ?_
          refine s_do (o_mov (.bool true) rfl) ?_
          refine w_done ?_
          refine k_seq ?_
          refine w_ret ?_
          obtain rfl := os hf
          exact r_flat ⟨trivial, trivial⟩ rfl (.refl _)
        · refine s_do (o_mov (.int .u8 c_1) rfl) ?_
          refine s_do (o_q (.bool (decide (c_1 ≥ 97))) rfl rfl rfl) ?_
          refine s_do (o_mov (.bool (decide (c_1 ≥ 97))) rfl) ?_
          refine s_lit (s := 5) (b := true) rfl c2 ?_
          refine s_on rfl ?_
          refine s_do (o_mov (.int .u8 c_1) rfl) ?_
          refine s_on rfl ?_
          refine s_do (o_q (.bool (decide (c_1 ≤ 122))) rfl rfl rfl) ?_
          refine s_do (o_q (.bool (decide (c_1 ≤ 122))) rfl trivial rfl) ?_
          refine s_do (o_mov (.bool (decide (c_1 ≤ 122))) rfl) ?_
          refine s_lit (s := 9) (b := false) rfl (bf c3) ?_
          refine s_on rfl ?_
          refine s_do (o_mov (.int .u8 c_1) rfl) ?_
          refine s_on rfl ?_
          refine s_do (o_q (.bool (decide (c_1 ≥ 65))) rfl rfl rfl) ?_
          refine s_on rfl ?_
          refine s_do (o_mov (.bool (decide (c_1 ≥ 65))) rfl) ?_
          refine s_lit (s := 12) (b := true) rfl c4 ?_
          refine s_on rfl ?_
          refine s_do (o_mov (.int .u8 c_1) rfl) ?_
          refine s_on rfl ?_
          refine s_do (o_q (.bool (decide (c_1 ≤ 90))) rfl rfl rfl) ?_
          refine s_on rfl ?_
          refine s_do (o_q (.bool (decide (c_1 ≤ 90))) rfl trivial rfl) ?_
          refine s_do (o_q (.bool (decide (c_1 ≤ 90))) rfl trivial rfl) ?_
          refine s_do (o_mov (.bool (decide (c_1 ≤ 90))) rfl) ?_
          refine s_lit (s := 17) (b := false) rfl (bf c5) ?_
          refine s_on rfl ?_
          refine s_do (o_mov (.int .u8 c_1) rfl) ?_
          refine s_on rfl ?_
          refine s_do (o_q (.bool (c_1 == 95)) rfl rfl rfl) ?_
          refine s_do (o_q (.bool (c_1 == 95)) rfl trivial rfl) ?_
          refine s_do (o_mov (.bool (c_1 == 95)) rfl) ?_
          refine w_done ?_
          refine k_seq ?_
          refine w_ret ?_
          obtain rfl := os hf
          exact r_flat ⟨trivial, trivial⟩ rfl (.refl _)
      · refine s_do (o_mov (.int .u8 c_1) rfl) ?_
        refine s_do (o_q (.bool (decide (c_1 ≥ 97))) rfl rfl rfl) ?_
        refine s_do (o_mov (.bool (decide (c_1 ≥ 97))) rfl) ?_
        refine s_lit (s := 5) (b := true) rfl c2 ?_
        refine s_on rfl ?_
        refine s_do (o_mov (.int .u8 c_1) rfl) ?_
        refine s_on rfl ?_
        refine s_do (o_q (.bool (decide (c_1 ≤ 122))) rfl rfl rfl) ?_
        refine s_do (o_q (.bool (decide (c_1 ≤ 122))) rfl trivial rfl) ?_
        refine s_do (o_mov (.bool (decide (c_1 ≤ 122))) rfl) ?_
        refine s_lit (s := 9) (b := false) rfl (bf c3) ?_
        refine s_on rfl ?_
        refine s_do (o_mov (.int .u8 c_1) rfl) ?_
        refine s_on rfl ?_
        refine s_do (o_q (.bool (decide (c_1 ≥ 65))) rfl rfl rfl) ?_
        refine s_on rfl ?_
        refine s_do (o_mov (.bool (decide (c_1 ≥ 65))) rfl) ?_
        refine s_lit (s := 12) (b := false) rfl (bf c4) ?_
        refine s_off rfl rfl ?_
        refine s_off rfl rfl ?_
        refine s_on rfl ?_
        refine s_do (o_q (.bool false) rfl trivial rfl) ?_
        refine s_do (o_q (.bool false) rfl trivial rfl) ?_
        refine s_do (o_mov (.bool false) rfl) ?_
        refine s_on rfl ?_
        refine s_do (o_mov (.int .u8 c_1) rfl) ?_
        refine s_on rfl ?_
        refine s_do (o_q (.bool (c_1 == 95)) rfl rfl rfl) ?_
        refine s_do (o_q (.bool (c_1 == 95)) rfl trivial rfl) ?_
        refine s_do (o_mov (.bool (c_1 == 95)) rfl) ?_
        refine w_done ?_
        refine k_seq ?_
        refine w_ret ?_
        obtain rfl := os hf
        exact r_flat ⟨trivial, trivial⟩ rfl (.refl _)
  · rcases oi hf with ⟨c6, hf⟩ | ⟨c6, hf⟩
    · rcases oi hf with ⟨c7, hf⟩ | ⟨c7, hf⟩
      · refine s_do (o_mov (.int .u8 c_1) rfl) ?_
        refine s_do (o_q (.bool (decide (c_1 ≥ 97))) rfl rfl rfl) ?_
        refine s_do (o_mov (.bool (decide (c_1 ≥ 97))) rfl) ?_
        refine s_lit (s := 5) (b := false) rfl (bf c2) ?_
        refine s_off rfl rfl ?_
        refine s_off rfl rfl ?_
        refine s_do (o_q (.bool false) rfl trivial rfl) ?_
        refine s_do (o_mov (.bool false) rfl) ?_
        refine s_on rfl ?_
        refine s_do (o_mov (.int .u8 c_1) rfl) ?_
        refine s_on rfl ?_
        refine s_do (o_q (.bool (decide (c_1 ≥ 65))) rfl rfl rfl) ?_
        refine s_on rfl ?_
        refine s_do (o_mov (.bool (decide (c_1 ≥ 65))) rfl) ?_
        refine s_lit (s := 12) (b := true) rfl c6 ?_
        refine s_on rfl ?_
        refine s_do (o_mov (.int .u8 c_1) rfl) ?_
        refine s_on rfl ?_
        refine s_do (o_q (.bool (decide (c_1 ≤ 90))) rfl rfl rfl) ?_
        refine s_on rfl ?_
        refine s_do (o_q (.bool (decide (c_1 ≤ 90))) rfl trivial rfl) ?_
        refine s_do (o_q (.bool (decide (c_1 ≤ 90))) rfl trivial rfl) ?_
        refine s_do (o_mov (.bool (decide (c_1 ≤ 90))) rfl) ?_
        refine s_lit (s := 17) (b := true) rfl c7 ?_
        refine s_off rfl rfl ?_
        refine s_off rfl rfl ?_
        refine s_do (o_q (.bool true) rfl trivial rfl) ?_
        refine s_do (o_mov (.bool true) rfl) ?_
        refine w_done ?_
        refine k_seq ?_
        refine w_ret ?_
        obtain rfl := os hf
        exact r_flat ⟨trivial, trivial⟩ rfl (.refl _)
      · refine s_do (o_mov (.int .u8 c_1) rfl) ?_
        refine s_do (o_q (.bool (decide (c_1 ≥ 97))) rfl rfl rfl) ?_
        refine s_do (o_mov (.bool (decide (c_1 ≥ 97))) rfl) ?_
        refine s_lit (s := 5) (b := false) rfl (bf c2) ?_
        refine s_off rfl rfl ?_
        refine s_off rfl rfl ?_
        refine s_do (o_q (.bool false) rfl trivial rfl) ?_
        refine s_do (o_mov (.bool false) rfl) ?_
        refine s_on rfl ?_
        refine s_do (o_mov (.int .u8 c_1) rfl) ?_
        refine s_on rfl ?_
        refine s_do (o_q (.bool (decide (c_1 ≥ 65))) rfl rfl rfl) ?_
        refine s_on rfl ?_
        refine s_do (o_mov (.bool (decide (c_1 ≥ 65))) rfl) ?_
        refine s_lit (s := 12) (b := true) rfl c6 ?_
        refine s_on rfl ?_
        refine s_do (o_mov (.int .u8 c_1) rfl) ?_
        refine s_on rfl ?_
        refine s_do (o_q (.bool (decide (c_1 ≤ 90))) rfl rfl rfl) ?_
        refine s_on rfl ?_
        refine s_do (o_q (.bool (decide (c_1 ≤ 90))) rfl trivial rfl) ?_
        refine s_do (o_q (.bool (decide (c_1 ≤ 90))) rfl trivial rfl) ?_
        refine s_do (o_mov (.bool (decide (c_1 ≤ 90))) rfl) ?_
        refine s_lit (s := 17) (b := false) rfl (bf c7) ?_
        refine s_on rfl ?_
        refine s_do (o_mov (.int .u8 c_1) rfl) ?_
        refine s_on rfl ?_
        refine s_do (o_q (.bool (c_1 == 95)) rfl rfl rfl) ?_
        refine s_do (o_q (.bool (c_1 == 95)) rfl trivial rfl) ?_
        refine s_do (o_mov (.bool (c_1 == 95)) rfl) ?_
        refine w_done ?_
        refine k_seq ?_
        refine w_ret ?_
        obtain rfl := os hf
        exact r_flat ⟨trivial, trivial⟩ rfl (.refl _)
    · refine s_do (o_mov (.int .u8 c_1) rfl) ?_
      refine s_do (o_q (.bool (decide (c_1 ≥ 97))) rfl rfl rfl) ?_
      refine s_do (o_mov (.bool (decide (c_1 ≥ 97))) rfl) ?_
      refine s_lit (s := 5) (b := false) rfl (bf c2) ?_
      refine s_off rfl rfl ?_
      refine s_off rfl rfl ?_
      refine s_do (o_q (.bool false) rfl trivial rfl) ?_
      refine s_do (o_mov (.bool false) rfl) ?_
      refine s_on rfl ?_
      refine s_do (o_mov (.int .u8 c_1) rfl) ?_
      refine s_on rfl ?_
      refine s_do (o_q (.bool (decide (c_1 ≥ 65))) rfl rfl rfl) ?_
      refine s_on rfl ?_
      refine s_do (o_mov (.bool (decide (c_1 ≥ 65))) rfl) ?_
      refine s_lit (s := 12) (b := false) rfl (bf c6) ?_
      refine s_off rfl rfl ?_
      refine s_off rfl rfl ?_
      refine s_on rfl ?_
      refine s_do (o_q (.bool false) rfl trivial rfl) ?_
      refine s_do (o_q (.bool false) rfl trivial rfl) ?_
      refine s_do (o_mov (.bool false) rfl) ?_
      refine s_on rfl ?_
      refine s_do (o_mov (.int .u8 c_1) rfl) ?_
      refine s_on rfl ?_
      refine s_do (o_q (.bool (c_1 == 95)) rfl rfl rfl) ?_
      refine s_do (o_q (.bool (c_1 == 95)) rfl trivial rfl) ?_
      refine s_do (o_mov (.bool (c_1 == 95)) rfl) ?_
      refine w_done ?_
      refine k_seq ?_
      refine w_ret ?_
      obtain rfl := os hf
      exact r_flat ⟨trivial, trivial⟩ rfl (.refl _)

/- spec.l00Digit -/
def c208 : ACode :=
 (.seq (.reg (.q ⟨(some 2), none, .mov (.c (.bool false))⟩
 .done))
 (.seq (.reg (.q ⟨(some 3), none, .mov (.t 0)⟩
 (.q ⟨(some 4), none, .bin .geq (.t 3) (.c (.int .u8 48))⟩
 (.q ⟨(some 5), none, .mov (.t 4)⟩
 (.q ⟨(some 6), (some (5, true)), .mov (.t 0)⟩
 (.q ⟨(some 7), (some (5, true)), .bin .leq (.t 6) (.c (.int .u8 57))⟩
 (.q ⟨(some 8), none, .pick (.t 5) (.t 7) (.c (.bool false))⟩
 (.q ⟨(some 2), none, .mov (.t 8)⟩
 .done))))))))
 .ret))
theorem fc208 : fcomp Try.prog Try.f208 = some (c208.erase, [.mov (.t 2)], 9) := by kernel_rfl
def spec_l00Digit (c_1 : Int) : Option Bool :=
    if (decide (c_1 ≥ 48)) then
    some (decide (c_1 ≤ 57))
    else
    some false
theorem w_spec_l00Digit (c_1 : Int) (r : Bool) (hf : spec_l00Digit c_1 = some r) : CallOK Try.prog 208 .flat [(.int .u8 c_1)] (.bool r) := by
  refine CallOK.of_awp mixed Try.func208 fc208 nle ?_
  rw [argT_eq]
  unfold spec_l00Digit at hf
  unfold c208
  refine (show awp Try.prog false 0 _ (ofL [(0, (.int .u8 c_1))]) [] _ from ?_)
  refine awp_seq ?_
  refine w_reg ?_
  refine s_do (o_mov (.bool false) rfl) ?_
  refine w_done ?_
  refine k_seq ?_
  refine awp_seq ?_
  refine w_reg ?_
  rcases oi hf with ⟨c2, hf⟩ | ⟨c2, hf⟩
  · refine s_do (o_mov (.int .u8 c_1) rfl) ?_
    refine s_do (o_q (.bool (decide (c_1 ≥ 48))) rfl rfl rfl) ?_
    refine s_do (o_mov (.bool (decide (c_1 ≥ 48))) rfl) ?_
    refine s_lit (s := 5) (b := true) rfl c2 ?_
    refine s_on rfl ?_
    refine s_do (o_mov (.int .u8 c_1) rfl) ?_
    refine s_on rfl ?_
    refine s_do (o_q (.bool (decide (c_1 ≤ 57))) rfl rfl rfl) ?_
    refine s_do (o_q (.bool (decide (c_1 ≤ 57))) rfl trivial rfl) ?_
    refine s_do (o_mov (.bool (decide (c_1 ≤ 57))) rfl) ?_
    refine w_done ?_
    refine k_seq ?_
    refine w_ret ?_
    obtain rfl := os hf
    exact r_flat ⟨trivial, trivial⟩ rfl (.refl _)
  · refine s_do (o_mov (.int .u8 c_1) rfl) ?_
    refine s_do (o_q (.bool (decide (c_1 ≥ 48))) rfl rfl rfl) ?_
    refine s_do (o_mov (.bool (decide (c_1 ≥ 48))) rfl) ?_
    refine s_lit (s := 5) (b := false) rfl (bf c2) ?_
    refine s_off rfl rfl ?_
    refine s_off rfl rfl ?_
    refine s_do (o_q (.bool false) rfl trivial rfl) ?_
    refine s_do (o_mov (.bool false) rfl) ?_
    refine w_done ?_
    refine k_seq ?_
    refine w_ret ?_
    obtain rfl := os hf
    exact r_flat ⟨trivial, trivial⟩ rfl (.refl _)

/- spec.l00Word -/
def c150 : ACode :=
 (.seq (.reg (.q ⟨(some 2), none, .mov (.c (.bool false))⟩
 .done))
 (.seq (.seq (.reg (.q ⟨(some 4), none, .mov (.t 0)⟩
 (.q ⟨(some 5), none, .lenS (.t 4)⟩
 (.q ⟨(some 6), none, .bin .lss (.t 5) (.c (.int .i64 1))⟩
 (.q ⟨(some 7), none, .mov (.t 6)⟩
 (.q ⟨(some 8), (some (7, false)), .mov (.t 0)⟩
 (.q ⟨(some 9), (some (7, false)), .lenS (.t 8)⟩
 (.q ⟨(some 10), (some (7, false)), .bin .gtr (.t 9) (.c (.int .i64 40))⟩
 (.q ⟨(some 11), none, .pick (.t 7) (.c (.bool true)) (.t 10)⟩
 (.q ⟨(some 12), none, .mov (.t 11)⟩
 (.q ⟨(some 13), (some (12, false)), .mov (.t 0)⟩
 (.q ⟨(some 14), (some (12, false)), .idxs (.t 13) (.c (.int .i64 0))⟩
 (.q ⟨(some 15), (some (12, false)), .call 207 [(.t 14)]⟩
 (.q ⟨(some 16), (some (12, false)), .not (.t 15)⟩
 (.q ⟨(some 17), none, .pick (.t 12) (.c (.bool true)) (.t 16)⟩
 .done)))))))))))))))
 (.cut (.cond (.t 17) (.seq (.reg (.q ⟨(some 2), none, .mov (.c (.bool false))⟩
 .done))
 .ret)
 .skip)))
 (.seq (.seq (.reg (.q ⟨(some 3), none, .mov (.c (.int .i64 1))⟩
 .done))
 (.block 0 (.loop (.seq (.seq (.reg (.q ⟨(some 18), none, .mov (.t 3)⟩
 (.q ⟨(some 19), none, .mov (.t 0)⟩
 (.q ⟨(some 20), none, .lenS (.t 19)⟩
 (.q ⟨(some 21), none, .bin .lss (.t 18) (.t 20)⟩
 .done)))))
 (.cond (.t 21) .skip
 (.exit 0)))
 (.seq (.block 1 (.seq (.reg (.q ⟨(some 24), none, .mov (.t 0)⟩
 (.q ⟨(some 25), none, .mov (.t 3)⟩
 (.q ⟨(some 26), none, .idxs (.t 24) (.t 25)⟩
 (.q ⟨(some 27), none, .call 207 [(.t 26)]⟩
 (.q ⟨(some 28), none, .not (.t 27)⟩
 (.q ⟨(some 29), none, .mov (.t 28)⟩
 (.q ⟨(some 30), (some (29, true)), .mov (.t 0)⟩
 (.q ⟨(some 31), (some (29, true)), .mov (.t 3)⟩
 (.q ⟨(some 32), (some (29, true)), .idxs (.t 30) (.t 31)⟩
 (.q ⟨(some 33), (some (29, true)), .call 208 [(.t 32)]⟩
 (.q ⟨(some 34), (some (29, true)), .not (.t 33)⟩
 (.q ⟨(some 35), none, .pick (.t 29) (.t 34) (.c (.bool false))⟩
 .done)))))))))))))
 (.cut (.cond (.t 35) (.seq (.reg (.q ⟨(some 2), none, .mov (.c (.bool false))⟩
 .done))
 .ret)
 .skip))))
 (.reg (.q ⟨(some 22), none, .mov (.t 3)⟩
 (.q ⟨(some 23), none, .bin .add (.t 22) (.c (.int .i64 1))⟩
 (.q ⟨(some 3), none, .mov (.t 23)⟩
 .done)))))))))
 (.cut (.seq (.reg (.q ⟨(some 2), none, .mov (.c (.bool true))⟩
 .done))
 .ret)))))
theorem fc150 : fcomp Try.prog Try.f150 = some (c150.erase, [.mov (.t 2)], 36) := by kernel_rfl
def spec_l00Word_L1  : List UInt8 → Option (Fl Bool Unit)
  | [] =>
    some (.go ())
  | x_100 :: xs =>
    ((spec_l00Letter (x_100.toNat : Int)).bind fun r_110 =>
    if (!r_110) then
    (spec_l00Digit (x_100.toNat : Int)).bind fun r_113 =>
    some (!r_113)
    else
    some false).bind fun s35_108 =>
    if s35_108 then
    some (.ret false)
    else
    spec_l00Word_L1 xs 

def spec_l00Word (t_1 : Str) : Option Bool :=
    (if (decide ((t_1.length : Int) < 1)) then
    some true
    else
    if (decide ((t_1.length : Int) > 40)) then
    some true
    else
    (idx t_1 0).bind fun b_16 =>
    (spec_l00Letter (b_16.toNat : Int)).bind fun r_18 =>
    some (!r_18)).bind fun s17_10 =>
    if s17_10 then
    some false
    else
    (spec_l00Word_L1 (t_1.drop 1) ).bind fun q => (match q with
    | .ret r => some r
    | .go _ =>
    some true)
theorem w_spec_l00Word (t_1 : Str) (r : Bool) (hf : spec_l00Word t_1 = some r) : CallOK Try.prog 150 .flat [(.str t_1)] (.bool r) := by
  refine CallOK.of_awp mixed Try.func150 fc150 nle ?_
  rw [argT_eq]
  unfold spec_l00Word at hf
  unfold c150
  refine (show awp Try.prog false 0 _ (ofL [(0, (.str t_1))]) [] _ from ?_)
  refine awp_seq ?_
  refine w_reg ?_
  refine s_do (o_mov (.bool false) rfl) ?_
  refine w_done ?_
  refine k_seq ?_
  refine awp_seq ?_
  refine awp_seq ?_
  obtain ⟨s17_10, hb1, hf⟩ := ob hf
  refine awp_cut ([(0, (.str t_1)), (17, (.bool s17_10))], []) ?_ ?_
  · refine w_reg ?_
    rcases oi hb1 with ⟨c13, hb1⟩ | ⟨c13, hb1⟩
    · refine s_do (o_mov (.str t_1) rfl) ?_
      refine s_dof (o_lenS rfl) fun hl12 => ?_
      refine s_do (o_q (.bool (decide ((t_1.length : Int) < 1))) rfl rfl rfl) ?_
      refine s_do (o_mov (.bool (decide ((t_1.length : Int) < 1))) rfl) ?_
      refine s_lit (s := 7) (b := true) rfl c13 ?_
      refine s_off rfl rfl ?_
      refine s_off rfl rfl ?_
      refine s_off rfl rfl ?_
      refine s_do (o_q (.bool true) rfl trivial rfl) ?_
      refine s_do (o_mov (.bool true) rfl) ?_
      refine s_off rfl rfl ?_
      refine s_off rfl rfl ?_
      refine s_off rfl rfl ?_
      refine s_off rfl rfl ?_
      refine s_do (o_q (.bool true) rfl trivial rfl) ?_
      refine w_done ?_
      obtain rfl := os hb1
      exact ⟨[], [], _, _, rfl, rfl, ⟨.refl _, ⟨.refl _, trivial⟩⟩, .refl _⟩
    · rcases oi hb1 with ⟨c15, hb1⟩ | ⟨c15, hb1⟩
      · refine s_do (o_mov (.str t_1) rfl) ?_
        refine s_dof (o_lenS rfl) fun hl12 => ?_
        refine s_do (o_q (.bool (decide ((t_1.length : Int) < 1))) rfl rfl rfl) ?_
        refine s_do (o_mov (.bool (decide ((t_1.length : Int) < 1))) rfl) ?_
        refine s_lit (s := 7) (b := false) rfl (bf c13) ?_
        refine s_on rfl ?_
        refine s_do (o_mov (.str t_1) rfl) ?_
        refine s_on rfl ?_
        refine s_dof (o_lenS rfl) fun hl14 => ?_
        refine s_on rfl ?_
        refine s_do (o_q (.bool (decide ((t_1.length : Int) > 40))) rfl rfl rfl) ?_
        refine s_do (o_q (.bool (decide ((t_1.length : Int) > 40))) rfl trivial rfl) ?_
        refine s_do (o_mov (.bool (decide ((t_1.length : Int) > 40))) rfl) ?_
        refine s_lit (s := 12) (b := true) rfl c15 ?_
        refine s_off rfl rfl ?_
        refine s_off rfl rfl ?_
        refine s_off rfl rfl ?_
        refine s_off rfl rfl ?_
        refine s_do (o_q (.bool true) rfl trivial rfl) ?_
        refine w_done ?_
        obtain rfl := os hb1
        exact ⟨[], [], _, _, rfl, rfl, ⟨.refl _, ⟨.refl _, trivial⟩⟩, .refl _⟩
      · obtain ⟨b_16, eb17, hb1⟩ := ob hb1
        obtain ⟨r_18, er19, hb1⟩ := ob hb1
        refine s_do (o_mov (.str t_1) rfl) ?_
        refine s_dof (o_lenS rfl) fun hl12 => ?_
        refine s_do (o_q (.bool (decide ((t_1.length : Int) < 1))) rfl rfl rfl) ?_
        refine s_do (o_mov (.bool (decide ((t_1.length : Int) < 1))) rfl) ?_
        refine s_lit (s := 7) (b := false) rfl (bf c13) ?_
        refine s_on rfl ?_
        refine s_do (o_mov (.str t_1) rfl) ?_
        refine s_on rfl ?_
        refine s_dof (o_lenS rfl) fun hl14 => ?_
        refine s_on rfl ?_
        refine s_do (o_q (.bool (decide ((t_1.length : Int) > 40))) rfl rfl rfl) ?_
        refine s_do (o_q (.bool (decide ((t_1.length : Int) > 40))) rfl trivial rfl) ?_
        refine s_do (o_mov (.bool (decide ((t_1.length : Int) > 40))) rfl) ?_
        refine s_lit (s := 12) (b := false) rfl (bf c15) ?_
        refine s_on rfl ?_
        refine s_do (o_mov (.str t_1) rfl) ?_
        refine s_on rfl ?_
        refine s_do (o_idxs rfl rfl (idx0 eb17) (idx1 eb17)) ?_
        refine s_on rfl ?_
        refine s_do (o_call (w_spec_l00Letter _ _ er19) rfl (.refl _) rfl) ?_
        refine s_on rfl ?_
        refine s_do (o_q (.bool (!r_18)) rfl trivial rfl) ?_
        refine s_do (o_q (.bool (!r_18)) rfl trivial rfl) ?_
        refine w_done ?_
        obtain rfl := os hb1
        exact ⟨[], [], _, _, rfl, rfl, ⟨.refl _, ⟨.refl _, trivial⟩⟩, .refl _⟩
  · rcases oi hf with ⟨c20, hf⟩ | ⟨c20, hf⟩
    · refine w_condt rfl c20 ?_
      refine awp_seq ?_
      refine w_reg ?_
      refine s_do (o_mov (.bool false) rfl) ?_
      refine w_done ?_
      refine k_seq ?_
      refine w_ret ?_
      obtain rfl := os hf
      exact r_flat ⟨trivial, trivial⟩ rfl (.refl _)
    · refine w_condf rfl (bf c20) ?_
      refine w_skip ?_
      refine k_seq ?_
      refine awp_seq ?_
      refine awp_seq ?_
      refine w_reg ?_
      refine s_do (o_mov (.int .i64 1) rfl) ?_
      refine w_done ?_
      refine k_seq ?_
      obtain ⟨p93, hb1, hf⟩ := ob hf
      refine awp_cutx (X := {q : Unit // p93 = .go q}) (fun q => ([], [])) ?_ ?_
      · refine awp_loop (X := {q : Nat // spec_l00Word_L1 (t_1.drop q)  = some p93}) (fun q => ([(0, (.str t_1)), (3, (.int .i64 (q.1 : Int)))], [])) (fun q => t_1.length - q.1) ⟨1, hb1⟩ ⟨[], [], _, _, rfl, rfl, ⟨.refl _, ⟨.refl _, trivial⟩⟩, .refl _⟩ ?_
        rintro ⟨i_68, hc1⟩
        have hc1 : spec_l00Word_L1 (t_1.drop i_68)  = some p93 := hc1
        refine (show awp Try.prog false 0 _ (ofL [(0, (.str t_1)), (3, (.int .i64 (i_68 : Int)))]) [] _ from ?_)
        rcases dropc t_1 i_68 with ⟨hie96, hd99⟩ | ⟨hlt94, x_100, hx95, hd99⟩
        · rw [hd99, spec_l00Word_L1.eq_1] at hc1
          have hq98 := dlf hie96
          refine awp_seq ?_
          refine awp_seq ?_
          refine w_reg ?_
          refine s_do (o_mov (.int .i64 (i_68 : Int)) rfl) ?_
          refine s_do (o_mov (.str t_1) rfl) ?_
          refine s_dof (o_lenS rfl) fun hl101 => ?_
          refine s_do (o_q (.bool (decide ((i_68 : Int) < (t_1.length : Int)))) rfl rfl rfl) ?_
          refine w_done ?_
          refine k_seq ?_
          refine w_condf rfl hq98 ?_
          refine w_exit ?_
          refine k_seqx ?_
          refine k_loopx ?_
          refine k_blkx ?_
          obtain rfl := os hc1
          exact k_cutn ⟨_, rfl⟩ ⟨[], [], _, _, rfl, rfl, trivial, .refl _⟩
        · rw [hd99, spec_l00Word_L1.eq_2] at hc1
          have hq98 := dlt hlt94
          refine awp_seq ?_
          refine awp_seq ?_
          refine w_reg ?_
          refine s_do (o_mov (.int .i64 (i_68 : Int)) rfl) ?_
          refine s_do (o_mov (.str t_1) rfl) ?_
          refine s_dof (o_lenS rfl) fun hl102 => ?_
          refine s_do (o_q (.bool (decide ((i_68 : Int) < (t_1.length : Int)))) rfl rfl rfl) ?_
          refine w_done ?_
          refine k_seq ?_
          refine w_condt rfl hq98 ?_
          refine w_skip ?_
          refine k_seq ?_
          refine awp_seq ?_
          refine w_blk ?_
          refine awp_seq ?_
          obtain ⟨s35_108, hb2, hc1⟩ := ob hc1
          refine awp_cut ([(0, (.str t_1)), (3, (.int .i64 (i_68 : Int))), (35, (.bool s35_108))], []) ?_ ?_
          · refine w_reg ?_
            obtain ⟨r_110, er111, hb2⟩ := ob hb2
            rcases oi hb2 with ⟨c112, hb2⟩ | ⟨c112, hb2⟩
            · obtain ⟨r_113, er114, hb2⟩ := ob hb2
              refine s_do (o_mov (.str t_1) rfl) ?_
              refine s_do (o_mov (.int .i64 (i_68 : Int)) rfl) ?_
              refine s_do (o_idxsn rfl rfl hx95) ?_
              refine s_do (o_call (w_spec_l00Letter _ _ er111) rfl (.refl _) rfl) ?_
              refine s_do (o_q (.bool (!r_110)) rfl trivial rfl) ?_
              refine s_do (o_mov (.bool (!r_110)) rfl) ?_
              refine s_lit (s := 29) (b := true) rfl c112 ?_
              refine s_on rfl ?_
              refine s_do (o_mov (.str t_1) rfl) ?_
              refine s_on rfl ?_
              refine s_do (o_mov (.int .i64 (i_68 : Int)) rfl) ?_
              refine s_on rfl ?_
              refine s_do (o_idxsn rfl rfl hx95) ?_
              refine s_on rfl ?_
              refine s_do (o_call (w_spec_l00Digit _ _ er114) rfl (.refl _) rfl) ?_
              refine s_on rfl ?_
              refine s_do (o_q (.bool (!r_113)) rfl trivial rfl) ?_
              refine s_do (o_q (.bool (!r_113)) rfl trivial rfl) ?_
              refine w_done ?_
              obtain rfl := os hb2
              exact ⟨[], [], _, _, rfl, rfl, ⟨.refl _, ⟨.refl _, ⟨.refl _, trivial⟩⟩⟩, .refl _⟩
            · refine s_do (o_mov (.str t_1) rfl) ?_
              refine s_do (o_mov (.int .i64 (i_68 : Int)) rfl) ?_
              refine s_do (o_idxsn rfl rfl hx95) ?_
              refine s_do (o_call (w_spec_l00Letter _ _ er111) rfl (.refl _) rfl) ?_
              refine s_do (o_q (.bool (!r_110)) rfl trivial rfl) ?_
              refine s_do (o_mov (.bool (!r_110)) rfl) ?_
              refine s_lit (s := 29) (b := false) rfl (bf c112) ?_
              refine s_off rfl rfl ?_
              refine s_off rfl rfl ?_
              refine s_off rfl rfl ?_
              refine s_off rfl rfl ?_
              refine s_off rfl rfl ?_
              refine s_do (o_q (.bool false) rfl trivial rfl) ?_
              refine w_done ?_
              obtain rfl := os hb2
              exact ⟨[], [], _, _, rfl, rfl, ⟨.refl _, ⟨.refl _, ⟨.refl _, trivial⟩⟩⟩, .refl _⟩
          · rcases oi hc1 with ⟨c115, hc1⟩ | ⟨c115, hc1⟩
            · refine w_condt rfl c115 ?_
              refine awp_seq ?_
              refine w_reg ?_
              refine s_do (o_mov (.bool false) rfl) ?_
              refine w_done ?_
              refine k_seq ?_
              refine w_ret ?_
              obtain rfl := os hc1
              obtain rfl := os hf
              exact r_flat ⟨trivial, trivial⟩ rfl (.refl _)
            · refine w_condf rfl (bf c115) ?_
              refine w_skip ?_
              refine k_blk ?_
              refine k_seq ?_
              refine w_reg ?_
              refine s_do (o_mov (.int .i64 (i_68 : Int)) rfl) ?_
              refine s_do (o_q (.int .i64 (w64 ((i_68 : Int) + 1))) rfl rfl rfl) ?_
              refine s_do (o_mov (.int .i64 (w64 ((i_68 : Int) + 1))) rfl) ?_
              refine w_done ?_
              exact k_loopn ⟨(i_68 + 1), hc1⟩ (mul hlt94) ⟨[], [], _, _, rfl, rfl, ⟨.refl _, ⟨.of_eq (congrArg (AV.int _) (w64_incr hlt94 hl102)), trivial⟩⟩, .refl _⟩
      · rintro ⟨_, rfl⟩
        refine awp_seq ?_
        refine w_reg ?_
        refine s_do (o_mov (.bool true) rfl) ?_
        refine w_done ?_
        refine k_seq ?_
        refine w_ret ?_
        obtain rfl := os hf
        exact r_flat ⟨trivial, trivial⟩ rfl (.refl _)

/- spec.NameOK -/
def c80 : ACode :=
 (.seq (.reg (.q ⟨(some 2), none, .mov (.c (.bool false))⟩
 .done))
 (.seq (.reg (.q ⟨(some 3), none, .mov (.t 0)⟩
 (.q ⟨(some 4), none, .call 150 [(.t 3)]⟩
 (.q ⟨(some 2), none, .mov (.t 4)⟩
 .done))))
 .ret))
theorem fc80 : fcomp Try.prog Try.f80 = some (c80.erase, [.mov (.t 2)], 5) := by kernel_rfl
def spec_NameOK (t_1 : Str) : Option Bool :=
    (spec_l00Word t_1).bind fun r_2 =>
    some r_2
theorem w_spec_NameOK (t_1 : Str) (r : Bool) (hf : spec_NameOK t_1 = some r) : CallOK Try.prog 80 .flat [(.str t_1)] (.bool r) := by
  refine CallOK.of_awp mixed Try.func80 fc80 nle ?_
  rw [argT_eq]
  unfold spec_NameOK at hf
  unfold c80
  refine (show awp Try.prog false 0 _ (ofL [(0, (.str t_1))]) [] _ from ?_)
  refine awp_seq ?_
  refine w_reg ?_
  refine s_do (o_mov (.bool false) rfl) ?_
  refine w_done ?_
  refine k_seq ?_
  refine awp_seq ?_
  refine w_reg ?_
  obtain ⟨r_2, er3, hf⟩ := ob hf
  refine s_do (o_mov (.str t_1) rfl) ?_
  refine s_do (o_call (w_spec_l00Word _ _ er3) rfl (.refl _) rfl) ?_
  refine s_do (o_mov (.bool r_2) rfl) ?_
  refine w_done ?_
  refine k_seq ?_
  refine w_ret ?_
  obtain rfl := os hf
  exact r_flat ⟨trivial, trivial⟩ rfl (.refl _)

/- spec.l01In -/
def c81 : ACode :=
 (.seq (.reg (.q ⟨(some 6), none, .mov (.c (.bool false))⟩
 .done))
 (.seq (.reg (.q ⟨(some 7), none, .mov (.t 1)⟩
 (.q ⟨(some 8), none, .mov (.t 0)⟩
 (.q ⟨(some 9), none, .bin .leq (.t 7) (.t 8)⟩
 (.q ⟨(some 10), none, .mov (.t 9)⟩
 (.q ⟨(some 11), (some (10, true)), .mov (.t 0)⟩
 (.q ⟨(some 12), (some (10, true)), .mov (.t 2)⟩
 (.q ⟨(some 13), (some (10, true)), .bin .leq (.t 11) (.t 12)⟩
 (.q ⟨(some 14), none, .pick (.t 10) (.t 13) (.c (.bool false))⟩
 (.q ⟨(some 6), none, .mov (.t 14)⟩
 .done))))))))))
 .ret))
theorem fc81 : fcomp Try.prog Try.f81 = some (c81.erase, [.mov (.t 6)], 15) := by kernel_rfl
def spec_l01In (n_1 : Int) (low_2 : Int) (high_3 : Int) : Option Bool :=
    if (decide (low_2 ≤ n_1)) then
    some (decide (n_1 ≤ high_3))
    else
    some false
theorem w_spec_l01In (n_1 : Int) (low_2 : Int) (high_3 : Int) (r : Bool) (hf : spec_l01In n_1 low_2 high_3 = some r) : CallOK Try.prog 81 .flat [(.int .i64 n_1), (.int .i64 low_2), (.int .i64 high_3)] (.bool r) := by
  refine CallOK.of_awp mixed Try.func81 fc81 nle ?_
  rw [argT_eq]
  unfold spec_l01In at hf
  unfold c81
  refine (show awp Try.prog false 0 _ (ofL [(0, (.int .i64 n_1)), (1, (.int .i64 low_2)), (2, (.int .i64 high_3))]) [] _ from ?_)
  refine awp_seq ?_
  refine w_reg ?_
  refine s_do (o_mov (.bool false) rfl) ?_
  refine w_done ?_
  refine k_seq ?_
  refine awp_seq ?_
  refine w_reg ?_
  rcases oi hf with ⟨c4, hf⟩ | ⟨c4, hf⟩
  · refine s_do (o_mov (.int .i64 low_2) rfl) ?_
    refine s_do (o_mov (.int .i64 n_1) rfl) ?_
    refine s_do (o_q (.bool (decide (low_2 ≤ n_1))) rfl rfl rfl) ?_
    refine s_do (o_mov (.bool (decide (low_2 ≤ n_1))) rfl) ?_
    refine s_lit (s := 10) (b := true) rfl c4 ?_
    refine s_on rfl ?_
    refine s_do (o_mov (.int .i64 n_1) rfl) ?_
    refine s_on rfl ?_
    refine s_do (o_mov (.int .i64 high_3) rfl) ?_
    refine s_on rfl ?_
    refine s_do (o_q (.bool (decide (n_1 ≤ high_3))) rfl rfl rfl) ?_
    refine s_do (o_q (.bool (decide (n_1 ≤ high_3))) rfl trivial rfl) ?_
    refine s_do (o_mov (.bool (decide (n_1 ≤ high_3))) rfl) ?_
    refine w_done ?_
    refine k_seq ?_
    refine w_ret ?_
    obtain rfl := os hf
    exact r_flat ⟨trivial, trivial⟩ rfl (.refl _)
  · refine s_do (o_mov (.int .i64 low_2) rfl) ?_
    refine s_do (o_mov (.int .i64 n_1) rfl) ?_
    refine s_do (o_q (.bool (decide (low_2 ≤ n_1))) rfl rfl rfl) ?_
    refine s_do (o_mov (.bool (decide (low_2 ≤ n_1))) rfl) ?_
    refine s_lit (s := 10) (b := false) rfl (bf c4) ?_
    refine s_off rfl rfl ?_
    refine s_off rfl rfl ?_
    refine s_off rfl rfl ?_
    refine s_do (o_q (.bool false) rfl trivial rfl) ?_
    refine s_do (o_mov (.bool false) rfl) ?_
    refine w_done ?_
    refine k_seq ?_
    refine w_ret ?_
    obtain rfl := os hf
    exact r_flat ⟨trivial, trivial⟩ rfl (.refl _)

/- spec.l12Session -/
def c82 : ACode :=
 (.seq (.reg (.q ⟨(some 2), none, .mov (.c (.bool false))⟩
 .done))
 (.seq (.reg (.q ⟨(some 3), none, .mov (.t 0)⟩
 (.q ⟨(some 4), none, .call 81 [(.t 3), (.c (.int .i64 0)), (.c (.int .i64 2))]⟩
 (.q ⟨(some 2), none, .mov (.t 4)⟩
 .done))))
 .ret))
theorem fc82 : fcomp Try.prog Try.f82 = some (c82.erase, [.mov (.t 2)], 5) := by kernel_rfl
def spec_l12Session (n_1 : Int) : Option Bool :=
    (spec_l01In n_1 0 2).bind fun r_2 =>
    some r_2
theorem w_spec_l12Session (n_1 : Int) (r : Bool) (hf : spec_l12Session n_1 = some r) : CallOK Try.prog 82 .flat [(.int .i64 n_1)] (.bool r) := by
  refine CallOK.of_awp mixed Try.func82 fc82 nle ?_
  rw [argT_eq]
  unfold spec_l12Session at hf
  unfold c82
  refine (show awp Try.prog false 0 _ (ofL [(0, (.int .i64 n_1))]) [] _ from ?_)
  refine awp_seq ?_
  refine w_reg ?_
  refine s_do (o_mov (.bool false) rfl) ?_
  refine w_done ?_
  refine k_seq ?_
  refine awp_seq ?_
  refine w_reg ?_
  obtain ⟨r_2, er3, hf⟩ := ob hf
  refine s_do (o_mov (.int .i64 n_1) rfl) ?_
  refine s_do (o_call (w_spec_l01In _ _ _ _ er3) rfl (.refl _) rfl) ?_
  refine s_do (o_mov (.bool r_2) rfl) ?_
  refine w_done ?_
  refine k_seq ?_
  refine w_ret ?_
  obtain rfl := os hf
  exact r_flat ⟨trivial, trivial⟩ rfl (.refl _)

/- spec.l12In -/
def c83 : ACode :=
 (.seq (.reg (.q ⟨(some 4), none, .mov (.c (.bool false))⟩
 .done))
 (.seq (.seq (.reg (.q ⟨(some 5), none, .mov (.c (.int .i64 0))⟩
 .done))
 (.block 0 (.loop (.seq (.seq (.reg (.q ⟨(some 6), none, .mov (.t 5)⟩
 (.q ⟨(some 7), none, .mov (.t 0)⟩
 (.q ⟨(some 8), none, .len (.t 7)⟩
 (.q ⟨(some 9), none, .bin .lss (.t 6) (.t 8)⟩
 .done)))))
 (.cond (.t 9) .skip
 (.exit 0)))
 (.seq (.block 1 (.seq (.reg (.q ⟨(some 12), none, .mov (.t 0)⟩
 (.q ⟨(some 13), none, .mov (.t 5)⟩
 (.q ⟨(some 14), none, .iaddr 1 (.t 12) (.t 13)⟩
 (.q ⟨(some 15), none, .load 1 false (.t 14)⟩
 (.q ⟨(some 16), none, .mov (.t 1)⟩
 (.q ⟨(some 17), none, .bin .eql (.t 15) (.t 16)⟩
 .done)))))))
 (.cond (.t 17) (.seq (.reg (.q ⟨(some 4), none, .mov (.c (.bool true))⟩
 .done))
 .ret)
 .skip)))
 (.reg (.q ⟨(some 10), none, .mov (.t 5)⟩
 (.q ⟨(some 11), none, .bin .add (.t 10) (.c (.int .i64 1))⟩
 (.q ⟨(some 5), none, .mov (.t 11)⟩
 .done)))))))))
 (.cut (.seq (.reg (.q ⟨(some 4), none, .mov (.c (.bool false))⟩
 .done))
 .ret))))
theorem fc83 : fcomp Try.prog Try.f83 = some (c83.erase, [.mov (.t 4)], 18) := by kernel_rfl
def spec_l12In_L1 (n_2 : Int) : List Int → Option (Fl Bool Unit)
  | [] =>
    some (.go ())
  | x_28 :: xs =>
    if (x_28 == n_2) then
    some (.ret true)
    else
    spec_l12In_L1 n_2 xs 

def spec_l12In (list_1 : (List Int)) (n_2 : Int) : Option Bool :=
    (spec_l12In_L1 n_2 list_1 ).bind fun q => (match q with
    | .ret r => some r
    | .go _ =>
    some false)
theorem w_spec_l12In (list_1 : (List Int)) (n_2 : Int) (r : Bool) (hf : spec_l12In list_1 n_2 = some r) : CallOK Try.prog 83 .flat [(.lst 1 (list_1.map encI)), (.int .i64 n_2)] (.bool r) := by
  refine CallOK.of_awp mixed Try.func83 fc83 nle ?_
  rw [argT_eq]
  unfold spec_l12In at hf
  unfold c83
  refine (show awp Try.prog false 0 _ (ofL [(0, (.lst 1 (list_1.map encI))), (1, (.int .i64 n_2))]) [] _ from ?_)
  refine awp_seq ?_
  refine w_reg ?_
  refine s_do (o_mov (.bool false) rfl) ?_
  refine w_done ?_
  refine k_seq ?_
  refine awp_seq ?_
  refine awp_seq ?_
  refine w_reg ?_
  refine s_do (o_mov (.int .i64 0) rfl) ?_
  refine w_done ?_
  refine k_seq ?_
  obtain ⟨p21, hb1, hf⟩ := ob hf
  refine awp_cutx (X := {q : Unit // p21 = .go q}) (fun q => ([], [])) ?_ ?_
  · refine awp_loop (X := {q : Nat // spec_l12In_L1 n_2 (list_1.drop q)  = some p21}) (fun q => ([(0, (.lst 1 (list_1.map encI))), (1, (.int .i64 n_2)), (5, (.int .i64 (q.1 : Int)))], [])) (fun q => list_1.length - q.1) ⟨0, hb1⟩ ⟨[], [], _, _, rfl, rfl, ⟨.refl _, ⟨.refl _, ⟨.refl _, trivial⟩⟩⟩, .refl _⟩ ?_
    rintro ⟨i_14, hc1⟩
    have hc1 : spec_l12In_L1 n_2 (list_1.drop i_14)  = some p21 := hc1
    refine (show awp Try.prog false 0 _ (ofL [(0, (.lst 1 (list_1.map encI))), (1, (.int .i64 n_2)), (5, (.int .i64 (i_14 : Int)))]) [] _ from ?_)
    rcases dropc list_1 i_14 with ⟨hie24, hd27⟩ | ⟨hlt22, x_28, hx23, hd27⟩
    · rw [hd27, spec_l12In_L1.eq_1] at hc1
      have hq26 := dlf hie24
      refine awp_seq ?_
      refine awp_seq ?_
      refine w_reg ?_
      refine s_do (o_mov (.int .i64 (i_14 : Int)) rfl) ?_
      refine s_do (o_mov (.lst 1 (list_1.map encI)) rfl) ?_
      refine s_dof (o_len (enc := encI) rfl) fun hl29 => ?_
      refine s_do (o_q (.bool (decide ((i_14 : Int) < (list_1.length : Int)))) rfl rfl rfl) ?_
      refine w_done ?_
      refine k_seq ?_
      refine w_condf rfl hq26 ?_
      refine w_exit ?_
      refine k_seqx ?_
      refine k_loopx ?_
      refine k_blkx ?_
      obtain rfl := os hc1
      exact k_cutn ⟨_, rfl⟩ ⟨[], [], _, _, rfl, rfl, trivial, .refl _⟩
    · rw [hd27, spec_l12In_L1.eq_2] at hc1
      have hq26 := dlt hlt22
      refine awp_seq ?_
      refine awp_seq ?_
      refine w_reg ?_
      refine s_do (o_mov (.int .i64 (i_14 : Int)) rfl) ?_
      refine s_do (o_mov (.lst 1 (list_1.map encI)) rfl) ?_
      refine s_dof (o_len (enc := encI) rfl) fun hl30 => ?_
      refine s_do (o_q (.bool (decide ((i_14 : Int) < (list_1.length : Int)))) rfl rfl rfl) ?_
      refine w_done ?_
      refine k_seq ?_
      refine w_condt rfl hq26 ?_
      refine w_skip ?_
      refine k_seq ?_
      refine awp_seq ?_
      refine w_blk ?_
      refine awp_seq ?_
      refine w_reg ?_
      refine s_do (o_mov (.lst 1 (list_1.map encI)) rfl) ?_
      refine s_do (o_mov (.int .i64 (i_14 : Int)) rfl) ?_
      refine s_do (o_iaddrn (enc := encI) rfl rfl hx23) ?_
      refine s_do (o_q (.int .i64 x_28) rfl ⟨rfl, rfl⟩ rfl) ?_
      refine s_do (o_mov (.int .i64 n_2) rfl) ?_
      refine s_do (o_q (.bool (x_28 == n_2)) rfl rfl rfl) ?_
      refine w_done ?_
      refine k_seq ?_
      rcases oi hc1 with ⟨c31, hc1⟩ | ⟨c31, hc1⟩
      · refine w_condt rfl c31 ?_
        refine awp_seq ?_
        refine w_reg ?_
        refine s_do (o_mov (.bool true) rfl) ?_
        refine w_done ?_
        refine k_seq ?_
        refine w_ret ?_
        obtain rfl := os hc1
        obtain rfl := os hf
        exact r_flat ⟨trivial, trivial⟩ rfl (.refl _)
      · refine w_condf rfl (bf c31) ?_
        refine w_skip ?_
        refine k_blk ?_
        refine k_seq ?_
        refine w_reg ?_
        refine s_do (o_mov (.int .i64 (i_14 : Int)) rfl) ?_
        refine s_do (o_q (.int .i64 (w64 ((i_14 : Int) + 1))) rfl rfl rfl) ?_
        refine s_do (o_mov (.int .i64 (w64 ((i_14 : Int) + 1))) rfl) ?_
        refine w_done ?_
        exact k_loopn ⟨(i_14 + 1), hc1⟩ (mul hlt22) ⟨[], [], _, _, rfl, rfl, ⟨.refl _, ⟨.refl _, ⟨.of_eq (congrArg (AV.int _) (w64_incr hlt22 hl30)), trivial⟩⟩⟩, .refl _⟩
  · rintro ⟨_, rfl⟩
    refine awp_seq ?_
    refine w_reg ?_
    refine s_do (o_mov (.bool false) rfl) ?_
    refine w_done ?_
    refine k_seq ?_
    refine w_ret ?_
    obtain rfl := os hf
    exact r_flat ⟨trivial, trivial⟩ rfl (.refl _)

/- spec.LocksOK -/
def c16 : ACode :=
 (.seq (.reg (.q ⟨(some 2), none, .mov (.c (.bool false))⟩
 .done))
 (.seq (.seq (.reg (.q ⟨(some 5), none, .mov (.t 0)⟩
 (.q ⟨(some 6), none, .len (.t 5)⟩
 (.q ⟨(some 7), none, .bin .gtr (.t 6) (.c (.int .i64 4096))⟩
 .done))))
 (.cond (.t 7) (.seq (.reg (.q ⟨(some 2), none, .mov (.c (.bool false))⟩
 .done))
 .ret)
 .skip))
 (.seq (.seq (.reg (.q ⟨(some 3), none, .mov (.c (.int .i64 0))⟩
 .done))
 (.block 0 (.loop (.seq (.seq (.reg (.q ⟨(some 8), none, .mov (.t 3)⟩
 (.q ⟨(some 9), none, .mov (.t 0)⟩
 (.q ⟨(some 10), none, .len (.t 9)⟩
 (.q ⟨(some 11), none, .bin .lss (.t 8) (.t 10)⟩
 .done)))))
 (.cond (.t 11) .skip
 (.exit 0)))
 (.seq (.block 1 (.seq (.seq (.reg (.q ⟨(some 14), none, .mov (.t 0)⟩
 (.q ⟨(some 15), none, .mov (.t 3)⟩
 (.q ⟨(some 16), none, .iaddr 2 (.t 14) (.t 15)⟩
 (.q ⟨(some 17), none, .faddr 0 (.t 16)⟩
 (.q ⟨(some 18), none, .load 1 false (.t 17)⟩
 (.l ⟨(some 19), none, .call 80 [(.t 18)]⟩ []
 (.q ⟨(some 20), none, .not (.t 19)⟩
 (.q ⟨(some 21), none, .mov (.t 20)⟩
 (.q ⟨(some 22), (some (21, false)), .mov (.t 3)⟩
 (.q ⟨(some 23), (some (21, false)), .bin .gtr (.t 22) (.c (.int .i64 0))⟩
 (.q ⟨(some 24), (some (21, false)), .mov (.t 23)⟩
 (.q ⟨(some 25), (some (24, true)), .mov (.t 0)⟩
 (.q ⟨(some 26), (some (24, true)), .mov (.t 3)⟩
 (.q ⟨(some 27), (some (24, true)), .bin .sub (.t 26) (.c (.int .i64 1))⟩
 (.q ⟨(some 28), (some (24, true)), .iaddr 2 (.t 25) (.t 27)⟩
 (.q ⟨(some 29), (some (24, true)), .faddr 0 (.t 28)⟩
 (.q ⟨(some 30), (some (24, true)), .load 1 false (.t 29)⟩
 (.q ⟨(some 31), (some (24, true)), .mov (.t 0)⟩
 (.q ⟨(some 32), (some (24, true)), .mov (.t 3)⟩
 (.q ⟨(some 33), (some (24, true)), .iaddr 2 (.t 31) (.t 32)⟩
 (.q ⟨(some 34), (some (24, true)), .faddr 0 (.t 33)⟩
 (.q ⟨(some 35), (some (24, true)), .load 1 false (.t 34)⟩
 (.q ⟨(some 36), (some (24, true)), .bin .geq (.t 30) (.t 35)⟩
 (.q ⟨(some 37), (some (21, false)), .pick (.t 24) (.t 36) (.c (.bool false))⟩
 (.q ⟨(some 38), none, .pick (.t 21) (.c (.bool true)) (.t 37)⟩
 (.q ⟨(some 39), none, .mov (.t 38)⟩
 (.q ⟨(some 40), (some (39, false)), .mov (.t 0)⟩
 (.q ⟨(some 41), (some (39, false)), .mov (.t 3)⟩
 (.q ⟨(some 42), (some (39, false)), .iaddr 2 (.t 40) (.t 41)⟩
 (.q ⟨(some 43), (some (39, false)), .faddr 1 (.t 42)⟩
 (.q ⟨(some 44), (some (39, false)), .load 1 false (.t 43)⟩
 (.q ⟨(some 45), (some (39, false)), .len (.t 44)⟩
 (.l ⟨(some 46), (some (39, false)), .call 81 [(.t 45), (.c (.int .i64 1)), (.c (.int .i64 3))]⟩ []
 (.q ⟨(some 47), (some (39, false)), .not (.t 46)⟩
 (.q ⟨(some 48), none, .pick (.t 39) (.c (.bool true)) (.t 47)⟩
 .done)) .non))))))))))))))))))))))))))) .non)))))))
 (.cut (.cond (.t 48) (.seq (.reg (.q ⟨(some 2), none, .mov (.c (.bool false))⟩
 .done))
 .ret)
 .skip)))
 (.seq (.reg (.q ⟨(some 4), none, .mov (.c (.int .i64 0))⟩
 .done))
 (.block 2 (.loop (.seq (.seq (.reg (.q ⟨(some 49), none, .mov (.t 4)⟩
 (.q ⟨(some 50), none, .mov (.t 0)⟩
 (.q ⟨(some 51), none, .mov (.t 3)⟩
 (.q ⟨(some 52), none, .iaddr 2 (.t 50) (.t 51)⟩
 (.q ⟨(some 53), none, .faddr 1 (.t 52)⟩
 (.q ⟨(some 54), none, .load 1 false (.t 53)⟩
 (.q ⟨(some 55), none, .len (.t 54)⟩
 (.q ⟨(some 56), none, .bin .lss (.t 49) (.t 55)⟩
 .done)))))))))
 (.cond (.t 56) .skip
 (.exit 2)))
 (.seq (.block 3 (.seq (.reg (.q ⟨(some 59), none, .mov (.t 0)⟩
 (.q ⟨(some 60), none, .mov (.t 3)⟩
 (.q ⟨(some 61), none, .iaddr 2 (.t 59) (.t 60)⟩
 (.q ⟨(some 62), none, .faddr 1 (.t 61)⟩
 (.q ⟨(some 63), none, .load 1 false (.t 62)⟩
 (.q ⟨(some 64), none, .mov (.t 4)⟩
 (.q ⟨(some 65), none, .iaddr 1 (.t 63) (.t 64)⟩
 (.q ⟨(some 66), none, .load 1 false (.t 65)⟩
 (.l ⟨(some 67), none, .call 82 [(.t 66)]⟩ []
 (.q ⟨(some 68), none, .not (.t 67)⟩
 (.q ⟨(some 69), none, .mov (.t 68)⟩
 (.q ⟨(some 70), (some (69, false)), .mov (.t 0)⟩
 (.q ⟨(some 71), (some (69, false)), .mov (.t 3)⟩
 (.q ⟨(some 72), (some (69, false)), .iaddr 2 (.t 70) (.t 71)⟩
 (.q ⟨(some 73), (some (69, false)), .faddr 1 (.t 72)⟩
 (.q ⟨(some 74), (some (69, false)), .load 1 false (.t 73)⟩
 (.q ⟨(some 75), (some (69, false)), .mov (.t 4)⟩
 (.q ⟨(some 76), (some (69, false)), .slice 1 (.t 74) none (some (.t 75))⟩
 (.q ⟨(some 77), (some (69, false)), .mov (.t 0)⟩
 (.q ⟨(some 78), (some (69, false)), .mov (.t 3)⟩
 (.q ⟨(some 79), (some (69, false)), .iaddr 2 (.t 77) (.t 78)⟩
 (.q ⟨(some 80), (some (69, false)), .faddr 1 (.t 79)⟩
 (.q ⟨(some 81), (some (69, false)), .load 1 false (.t 80)⟩
 (.q ⟨(some 82), (some (69, false)), .mov (.t 4)⟩
 (.q ⟨(some 83), (some (69, false)), .iaddr 1 (.t 81) (.t 82)⟩
 (.q ⟨(some 84), (some (69, false)), .load 1 false (.t 83)⟩
 (.l ⟨(some 85), (some (69, false)), .call 83 [(.t 76), (.t 84)]⟩ []
 (.q ⟨(some 86), none, .pick (.t 69) (.c (.bool true)) (.t 85)⟩
 .done) .non)))))))))))))))))) .non))))))))))
 (.cut (.cond (.t 86) (.seq (.reg (.q ⟨(some 2), none, .mov (.c (.bool false))⟩
 .done))
 .ret)
 .skip))))
 (.reg (.q ⟨(some 57), none, .mov (.t 4)⟩
 (.q ⟨(some 58), none, .bin .add (.t 57) (.c (.int .i64 1))⟩
 (.q ⟨(some 4), none, .mov (.t 58)⟩
 .done)))))))))))
 (.cut (.reg (.q ⟨(some 12), none, .mov (.t 3)⟩
 (.q ⟨(some 13), none, .bin .add (.t 12) (.c (.int .i64 1))⟩
 (.q ⟨(some 3), none, .mov (.t 13)⟩
 .done))))))))))
 (.cut (.seq (.reg (.q ⟨(some 87), none, .mov (.t 0)⟩
 (.q ⟨(some 88), none, .len (.t 87)⟩
 (.q ⟨(some 89), none, .bin .leq (.t 88) (.c (.int .i64 6))⟩
 (.q ⟨(some 2), none, .mov (.t 89)⟩
 .done)))))
 .ret)))))
theorem fc16 : fcomp Try.prog Try.f16 = some (c16.erase, [.mov (.t 2)], 90) := by kernel_rfl
def spec_LocksOK_L2 (x_998 : GLock) : List Int → Nat → Option (Fl Bool Unit)
  | [], k_1081 =>
    some (.go ())
  | x_1115 :: xs, k_1081 =>
    ((spec_l12Session x_1115).bind fun r_1126 =>
    if (!r_1126) then
    some true
    else
    if 0 ≤ (k_1081 : Int) ∧ (k_1081 : Int) ≤ (x_998.Queue.length : Int) then
    (spec_l12In (x_998.Queue.take k_1081) x_1115).bind fun r_1130 =>
    some r_1130
    else none).bind fun s86_1124 =>
    if s86_1124 then
    some (.ret false)
    else
    spec_LocksOK_L2 x_998 xs (k_1081 + 1)

def spec_LocksOK_L1 (list_1 : (List GLock)) : List GLock → Nat → Option (Fl Bool Unit)
  | [], i_661 =>
    some (.go ())
  | x_998 :: xs, i_661 =>
    ((spec_NameOK x_998.Name).bind fun r_1016 =>
    if (!r_1016) then
    some true
    else
    if (decide ((i_661 : Int) > 0)) then
    (idx list_1 (w64 ((i_661 : Int) - 1))).bind fun x_1020 =>
    if (!Op.bytesLess x_1020.Name x_998.Name) then
    some true
    else
    (spec_l01In (x_998.Queue.length : Int) 1 3).bind fun r_1024 =>
    some (!r_1024)
    else
    (spec_l01In (x_998.Queue.length : Int) 1 3).bind fun r_1027 =>
    some (!r_1027)).bind fun s48_1014 =>
    if s48_1014 then
    some (.ret false)
    else
    (spec_LocksOK_L2 x_998 x_998.Queue 0).bind fun q => (match q with
    | .ret r => some (.ret r)
    | .go _ =>
    spec_LocksOK_L1 list_1 xs (i_661 + 1))

def spec_LocksOK (list_1 : (List GLock)) : Option Bool :=
    if (decide ((list_1.length : Int) > 4096)) then
    some false
    else
    (spec_LocksOK_L1 list_1 list_1 0).bind fun q => (match q with
    | .ret r => some r
    | .go _ =>
    some (decide ((list_1.length : Int) ≤ 6)))
theorem w_spec_LocksOK (list_1 : (List GLock)) (r : Bool) (hf : spec_LocksOK list_1 = some r) : CallOK Try.prog 16 .flat [(.lst 2 (list_1.map encGLock))] (.bool r) := by
  refine CallOK.of_awp mixed Try.func16 fc16 nle ?_
  rw [argT_eq]
  unfold spec_LocksOK at hf
  unfold c16
  refine (show awp Try.prog false 0 _ (ofL [(0, (.lst 2 (list_1.map encGLock)))]) [] _ from ?_)
  refine awp_seq ?_
  refine w_reg ?_
  refine s_do (o_mov (.bool false) rfl) ?_
  refine w_done ?_
  refine k_seq ?_
  refine awp_seq ?_
  refine awp_seq ?_
  refine w_reg ?_
  refine s_do (o_mov (.lst 2 (list_1.map encGLock)) rfl) ?_
  refine s_dof (o_len (enc := encGLock) rfl) fun hl2 => ?_
  refine s_do (o_q (.bool (decide ((list_1.length : Int) > 4096))) rfl rfl rfl) ?_
  refine w_done ?_
  refine k_seq ?_
  rcases oi hf with ⟨c3, hf⟩ | ⟨c3, hf⟩
  · refine w_condt rfl c3 ?_
    refine awp_seq ?_
    refine w_reg ?_
    refine s_do (o_mov (.bool false) rfl) ?_
    refine w_done ?_
    refine k_seq ?_
    refine w_ret ?_
    obtain rfl := os hf
    exact r_flat ⟨trivial, trivial⟩ rfl (.refl _)
  · refine w_condf rfl (bf c3) ?_
    refine w_skip ?_
    refine k_seq ?_
    refine awp_seq ?_
    refine awp_seq ?_
    refine w_reg ?_
    refine s_do (o_mov (.int .i64 0) rfl) ?_
    refine w_done ?_
    refine k_seq ?_
    obtain ⟨p991, hb1, hf⟩ := ob hf
    refine awp_cutx (X := {q : Unit // p991 = .go q}) (fun q => ([(0, (.lst 2 (list_1.map encGLock)))], [])) ?_ ?_
    · refine awp_loop (X := {q : Nat // spec_LocksOK_L1 list_1 (list_1.drop q) q = some p991}) (fun q => ([(0, (.lst 2 (list_1.map encGLock))), (3, (.int .i64 (q.1 : Int)))], [])) (fun q => list_1.length - q.1) ⟨0, hb1⟩ ⟨[], [], _, _, rfl, rfl, ⟨.refl _, ⟨.refl _, trivial⟩⟩, .refl _⟩ ?_
      rintro ⟨i_661, hc1⟩
      have hc1 : spec_LocksOK_L1 list_1 (list_1.drop i_661) i_661 = some p991 := hc1
      refine (show awp Try.prog false 0 _ (ofL [(0, (.lst 2 (list_1.map encGLock))), (3, (.int .i64 (i_661 : Int)))]) [] _ from ?_)
      rcases dropc list_1 i_661 with ⟨hie994, hd997⟩ | ⟨hlt992, x_998, hx993, hd997⟩
      · rw [hd997, spec_LocksOK_L1.eq_1] at hc1
        have hq996 := dlf hie994
        refine awp_seq ?_
        refine awp_seq ?_
        refine w_reg ?_
        refine s_do (o_mov (.int .i64 (i_661 : Int)) rfl) ?_
        refine s_do (o_mov (.lst 2 (list_1.map encGLock)) rfl) ?_
        refine s_dof (o_len (enc := encGLock) rfl) fun hl999 => ?_
        refine s_do (o_q (.bool (decide ((i_661 : Int) < (list_1.length : Int)))) rfl rfl rfl) ?_
        refine w_done ?_
        refine k_seq ?_
        refine w_condf rfl hq996 ?_
        refine w_exit ?_
        refine k_seqx ?_
        refine k_loopx ?_
        refine k_blkx ?_
        obtain rfl := os hc1
        exact k_cutn ⟨_, rfl⟩ ⟨[], [], _, _, rfl, rfl, ⟨.refl _, trivial⟩, .refl _⟩
      · rw [hd997, spec_LocksOK_L1.eq_2] at hc1
        have hq996 := dlt hlt992
        refine awp_seq ?_
        refine awp_seq ?_
        refine w_reg ?_
        refine s_do (o_mov (.int .i64 (i_661 : Int)) rfl) ?_
        refine s_do (o_mov (.lst 2 (list_1.map encGLock)) rfl) ?_
        refine s_dof (o_len (enc := encGLock) rfl) fun hl1000 => ?_
        refine s_do (o_q (.bool (decide ((i_661 : Int) < (list_1.length : Int)))) rfl rfl rfl) ?_
        refine w_done ?_
        refine k_seq ?_
        refine w_condt rfl hq996 ?_
        refine w_skip ?_
        refine k_seq ?_
        refine awp_seq ?_
        refine w_blk ?_
        refine awp_seq ?_
        refine awp_seq ?_
        obtain ⟨s48_1014, hb2, hc1⟩ := ob hc1
        refine awp_cut ([(0, (.lst 2 (list_1.map encGLock))), (3, (.int .i64 (i_661 : Int))), (48, (.bool s48_1014))], []) ?_ ?_
        · refine w_reg ?_
          obtain ⟨r_1016, er1017, hb2⟩ := ob hb2
          rcases oi hb2 with ⟨c1018, hb2⟩ | ⟨c1018, hb2⟩
          · refine s_do (o_mov (.lst 2 (list_1.map encGLock)) rfl) ?_
            refine s_do (o_mov (.int .i64 (i_661 : Int)) rfl) ?_
            refine s_do (o_iaddrn (enc := encGLock) rfl rfl hx993) ?_
            refine s_do (o_q (.iptr (encGLock x_998) 0) rfl trivial rfl) ?_
            refine s_do (o_q (.str x_998.Name) rfl nle rfl) ?_
            refine s_dol (o_call (w_spec_NameOK _ _ er1017) rfl (.refl _) rfl) a_same trivial ?_
            refine s_do (o_q (.bool (!r_1016)) rfl trivial rfl) ?_
            refine s_do (o_mov (.bool (!r_1016)) rfl) ?_
            refine s_lit (s := 21) (b := true) rfl c1018 ?_
            refine s_off rfl rfl ?_
            refine s_off rfl rfl ?_
            refine s_off rfl rfl ?_
            refine s_offs rfl ?_
            refine s_offs rfl ?_
            refine s_offs rfl ?_
            refine s_offs rfl ?_
            refine s_offs rfl ?_
            refine s_offs rfl ?_
            refine s_offs rfl ?_
            refine s_offs rfl ?_
            refine s_offs rfl ?_
            refine s_offs rfl ?_
            refine s_offs rfl ?_
            refine s_offs rfl ?_
            refine s_off rfl rfl ?_
            refine s_do (o_q (.bool true) rfl trivial rfl) ?_
            refine s_do (o_mov (.bool true) rfl) ?_
            refine s_off rfl rfl ?_
            refine s_off rfl rfl ?_
            refine s_off rfl rfl ?_
            refine s_off rfl rfl ?_
            refine s_off rfl rfl ?_
            refine s_off rfl rfl ?_
            refine s_offl rfl rfl trivial ?_
            refine s_off rfl rfl ?_
            refine s_do (o_q (.bool true) rfl trivial rfl) ?_
            refine w_done ?_
            obtain rfl := os hb2
            exact ⟨[], [], _, _, rfl, rfl, ⟨.refl _, ⟨.refl _, ⟨.refl _, trivial⟩⟩⟩, .refl _⟩
          · rcases oi hb2 with ⟨c1019, hb2⟩ | ⟨c1019, hb2⟩
            · obtain ⟨x_1020, ex1021, hb2⟩ := ob hb2
              rcases oi hb2 with ⟨c1022, hb2⟩ | ⟨c1022, hb2⟩
              · refine s_do (o_mov (.lst 2 (list_1.map encGLock)) rfl) ?_
                refine s_do (o_mov (.int .i64 (i_661 : Int)) rfl) ?_
                refine s_do (o_iaddrn (enc := encGLock) rfl rfl hx993) ?_
                refine s_do (o_q (.iptr (encGLock x_998) 0) rfl trivial rfl) ?_
                refine s_do (o_q (.str x_998.Name) rfl nle rfl) ?_
                refine s_dol (o_call (w_spec_NameOK _ _ er1017) rfl (.refl _) rfl) a_same trivial ?_
                refine s_do (o_q (.bool (!r_1016)) rfl trivial rfl) ?_
                refine s_do (o_mov (.bool (!r_1016)) rfl) ?_
                refine s_lit (s := 21) (b := false) rfl (bf c1018) ?_
                refine s_on rfl ?_
                refine s_do (o_mov (.int .i64 (i_661 : Int)) rfl) ?_
                refine s_on rfl ?_
                refine s_do (o_q (.bool (decide ((i_661 : Int) > 0))) rfl rfl rfl) ?_
                refine s_on rfl ?_
                refine s_do (o_mov (.bool (decide ((i_661 : Int) > 0))) rfl) ?_
                refine s_lit (s := 24) (b := true) rfl c1019 ?_
                refine s_on rfl ?_
                refine s_do (o_mov (.lst 2 (list_1.map encGLock)) rfl) ?_
                refine s_on rfl ?_
                refine s_do (o_mov (.int .i64 (i_661 : Int)) rfl) ?_
                refine s_on rfl ?_
                refine s_do (o_q (.int .i64 (w64 ((i_661 : Int) - 1))) rfl rfl rfl) ?_
                refine s_on rfl ?_
                refine s_do (o_iaddr (enc := encGLock) rfl rfl (idx0 ex1021) (idx1 ex1021)) ?_
                refine s_on rfl ?_
                refine s_do (o_q (.iptr (encGLock x_1020) 0) rfl trivial rfl) ?_
                refine s_on rfl ?_
                refine s_do (o_q (.str x_1020.Name) rfl nle rfl) ?_
                refine s_on rfl ?_
                refine s_do (o_mov (.lst 2 (list_1.map encGLock)) rfl) ?_
                refine s_on rfl ?_
                refine s_do (o_mov (.int .i64 (i_661 : Int)) rfl) ?_
                refine s_on rfl ?_
                refine s_do (o_iaddrn (enc := encGLock) rfl rfl hx993) ?_
                refine s_on rfl ?_
                refine s_do (o_q (.iptr (encGLock x_998) 0) rfl trivial rfl) ?_
                refine s_on rfl ?_
                refine s_do (o_q (.str x_998.Name) rfl nle rfl) ?_
                refine s_on rfl ?_
                refine s_do (o_q (.bool (!Op.bytesLess x_1020.Name x_998.Name)) rfl trivial rfl) ?_
                refine s_on rfl ?_
                refine s_do (o_q (.bool (!Op.bytesLess x_1020.Name x_998.Name)) rfl trivial rfl) ?_
                refine s_do (o_q (.bool (!Op.bytesLess x_1020.Name x_998.Name)) rfl trivial rfl) ?_
                refine s_do (o_mov (.bool (!Op.bytesLess x_1020.Name x_998.Name)) rfl) ?_
                refine s_lit (s := 39) (b := true) rfl c1022 ?_
                refine s_off rfl rfl ?_
                refine s_off rfl rfl ?_
                refine s_off rfl rfl ?_
                refine s_off rfl rfl ?_
                refine s_off rfl rfl ?_
                refine s_off rfl rfl ?_
                refine s_offl rfl rfl trivial ?_
                refine s_off rfl rfl ?_
                refine s_do (o_q (.bool true) rfl trivial rfl) ?_
                refine w_done ?_
                obtain rfl := os hb2
                exact ⟨[], [], _, _, rfl, rfl, ⟨.refl _, ⟨.refl _, ⟨.refl _, trivial⟩⟩⟩, .refl _⟩
              · obtain ⟨r_1024, er1025, hb2⟩ := ob hb2
                refine s_do (o_mov (.lst 2 (list_1.map encGLock)) rfl) ?_
                refine s_do (o_mov (.int .i64 (i_661 : Int)) rfl) ?_
                refine s_do (o_iaddrn (enc := encGLock) rfl rfl hx993) ?_
                refine s_do (o_q (.iptr (encGLock x_998) 0) rfl trivial rfl) ?_
                refine s_do (o_q (.str x_998.Name) rfl nle rfl) ?_
                refine s_dol (o_call (w_spec_NameOK _ _ er1017) rfl (.refl _) rfl) a_same trivial ?_
                refine s_do (o_q (.bool (!r_1016)) rfl trivial rfl) ?_
                refine s_do (o_mov (.bool (!r_1016)) rfl) ?_
                refine s_lit (s := 21) (b := false) rfl (bf c1018) ?_
                refine s_on rfl ?_
                refine s_do (o_mov (.int .i64 (i_661 : Int)) rfl) ?_
                refine s_on rfl ?_
                refine s_do (o_q (.bool (decide ((i_661 : Int) > 0))) rfl rfl rfl) ?_
                refine s_on rfl ?_
                refine s_do (o_mov (.bool (decide ((i_661 : Int) > 0))) rfl) ?_
                refine s_lit (s := 24) (b := true) rfl c1019 ?_
                refine s_on rfl ?_
                refine s_do (o_mov (.lst 2 (list_1.map encGLock)) rfl) ?_
                refine s_on rfl ?_
                refine s_do (o_mov (.int .i64 (i_661 : Int)) rfl) ?_
                refine s_on rfl ?_
                refine s_do (o_q (.int .i64 (w64 ((i_661 : Int) - 1))) rfl rfl rfl) ?_
                refine s_on rfl ?_
                refine s_do (o_iaddr (enc := encGLock) rfl rfl (idx0 ex1021) (idx1 ex1021)) ?_
                refine s_on rfl ?_
                refine s_do (o_q (.iptr (encGLock x_1020) 0) rfl trivial rfl) ?_
                refine s_on rfl ?_
                refine s_do (o_q (.str x_1020.Name) rfl nle rfl) ?_
                refine s_on rfl ?_
                refine s_do (o_mov (.lst 2 (list_1.map encGLock)) rfl) ?_
                refine s_on rfl ?_
                refine s_do (o_mov (.int .i64 (i_661 : Int)) rfl) ?_
                refine s_on rfl ?_
                refine s_do (o_iaddrn (enc := encGLock) rfl rfl hx993) ?_
                refine s_on rfl ?_
                refine s_do (o_q (.iptr (encGLock x_998) 0) rfl trivial rfl) ?_
                refine s_on rfl ?_
                refine s_do (o_q (.str x_998.Name) rfl nle rfl) ?_
                refine s_on rfl ?_
                refine s_do (o_q (.bool (!Op.bytesLess x_1020.Name x_998.Name)) rfl trivial rfl) ?_
                refine s_on rfl ?_
                refine s_do (o_q (.bool (!Op.bytesLess x_1020.Name x_998.Name)) rfl trivial rfl) ?_
                refine s_do (o_q (.bool (!Op.bytesLess x_1020.Name x_998.Name)) rfl trivial rfl) ?_
                refine s_do (o_mov (.bool (!Op.bytesLess x_1020.Name x_998.Name)) rfl) ?_
                refine s_lit (s := 39) (b := false) rfl (bf c1022) ?_
                refine s_on rfl ?_
                refine s_do (o_mov (.lst 2 (list_1.map encGLock)) rfl) ?_
                refine s_on rfl ?_
                refine s_do (o_mov (.int .i64 (i_661 : Int)) rfl) ?_
                refine s_on rfl ?_
                refine s_do (o_iaddrn (enc := encGLock) rfl rfl hx993) ?_
                refine s_on rfl ?_
                refine s_do (o_q (.iptr (encGLock x_998) 1) rfl trivial rfl) ?_
                refine s_on rfl ?_
                refine s_do (o_q (.lst 1 (x_998.Queue.map encI)) rfl nle rfl) ?_
                refine s_on rfl ?_
                refine s_dof (o_len (enc := encI) rfl) fun hl1023 => ?_
                refine s_onl rfl ?_
                refine s_dol (o_call (w_spec_l01In _ _ _ _ er1025) rfl (.refl _) rfl) a_same trivial ?_
                refine s_on rfl ?_
                refine s_do (o_q (.bool (!r_1024)) rfl trivial rfl) ?_
                refine s_do (o_q (.bool (!r_1024)) rfl trivial rfl) ?_
                refine w_done ?_
                obtain rfl := os hb2
                exact ⟨[], [], _, _, rfl, rfl, ⟨.refl _, ⟨.refl _, ⟨.refl _, trivial⟩⟩⟩, .refl _⟩
            · obtain ⟨r_1027, er1028, hb2⟩ := ob hb2
              refine s_do (o_mov (.lst 2 (list_1.map encGLock)) rfl) ?_
              refine s_do (o_mov (.int .i64 (i_661 : Int)) rfl) ?_
              refine s_do (o_iaddrn (enc := encGLock) rfl rfl hx993) ?_
              refine s_do (o_q (.iptr (encGLock x_998) 0) rfl trivial rfl) ?_
              refine s_do (o_q (.str x_998.Name) rfl nle rfl) ?_
              refine s_dol (o_call (w_spec_NameOK _ _ er1017) rfl (.refl _) rfl) a_same trivial ?_
              refine s_do (o_q (.bool (!r_1016)) rfl trivial rfl) ?_
              refine s_do (o_mov (.bool (!r_1016)) rfl) ?_
              refine s_lit (s := 21) (b := false) rfl (bf c1018) ?_
              refine s_on rfl ?_
              refine s_do (o_mov (.int .i64 (i_661 : Int)) rfl) ?_
              refine s_on rfl ?_
              refine s_do (o_q (.bool (decide ((i_661 : Int) > 0))) rfl rfl rfl) ?_
              refine s_on rfl ?_
              refine s_do (o_mov (.bool (decide ((i_661 : Int) > 0))) rfl) ?_
              refine s_lit (s := 24) (b := false) rfl (bf c1019) ?_
              refine s_off rfl rfl ?_
              refine s_off rfl rfl ?_
              refine s_off rfl rfl ?_
              refine s_off rfl rfl ?_
              refine s_off rfl rfl ?_
              refine s_off rfl rfl ?_
              refine s_off rfl rfl ?_
              refine s_off rfl rfl ?_
              refine s_off rfl rfl ?_
              refine s_off rfl rfl ?_
              refine s_off rfl rfl ?_
              refine s_off rfl rfl ?_
              refine s_on rfl ?_
              refine s_do (o_q (.bool false) rfl trivial rfl) ?_
              refine s_do (o_q (.bool false) rfl trivial rfl) ?_
              refine s_do (o_mov (.bool false) rfl) ?_
              refine s_on rfl ?_
              refine s_do (o_mov (.lst 2 (list_1.map encGLock)) rfl) ?_
              refine s_on rfl ?_
              refine s_do (o_mov (.int .i64 (i_661 : Int)) rfl) ?_
              refine s_on rfl ?_
              refine s_do (o_iaddrn (enc := encGLock) rfl rfl hx993) ?_
              refine s_on rfl ?_
              refine s_do (o_q (.iptr (encGLock x_998) 1) rfl trivial rfl) ?_
              refine s_on rfl ?_
              refine s_do (o_q (.lst 1 (x_998.Queue.map encI)) rfl nle rfl) ?_
              refine s_on rfl ?_
              refine s_dof (o_len (enc := encI) rfl) fun hl1026 => ?_
              refine s_onl rfl ?_
              refine s_dol (o_call (w_spec_l01In _ _ _ _ er1028) rfl (.refl _) rfl) a_same trivial ?_
              refine s_on rfl ?_
              refine s_do (o_q (.bool (!r_1027)) rfl trivial rfl) ?_
              refine s_do (o_q (.bool (!r_1027)) rfl trivial rfl) ?_
              refine w_done ?_
              obtain rfl := os hb2
              exact ⟨[], [], _, _, rfl, rfl, ⟨.refl _, ⟨.refl _, ⟨.refl _, trivial⟩⟩⟩, .refl _⟩
        · rcases oi hc1 with ⟨c1029, hc1⟩ | ⟨c1029, hc1⟩
          · refine w_condt rfl c1029 ?_
            refine awp_seq ?_
            refine w_reg ?_
            refine s_do (o_mov (.bool false) rfl) ?_
            refine w_done ?_
            refine k_seq ?_
            refine w_ret ?_
            obtain rfl := os hc1
            obtain rfl := os hf
            exact r_flat ⟨trivial, trivial⟩ rfl (.refl _)
          · refine w_condf rfl (bf c1029) ?_
            refine w_skip ?_
            refine k_seq ?_
            refine awp_seq ?_
            refine w_reg ?_
            refine s_do (o_mov (.int .i64 0) rfl) ?_
            refine w_done ?_
            refine k_seq ?_
            obtain ⟨p1108, hb2, hc1⟩ := ob hc1
            refine awp_cutxb (X := {q : Unit // p1108 = .go q}) (fun q => ([(0, (.lst 2 (list_1.map encGLock))), (3, (.int .i64 (i_661 : Int)))], [])) ?_ ?_
            · refine awp_loop (X := {q : Nat // spec_LocksOK_L2 x_998 (x_998.Queue.drop q) q = some p1108}) (fun q => ([(0, (.lst 2 (list_1.map encGLock))), (3, (.int .i64 (i_661 : Int))), (4, (.int .i64 (q.1 : Int)))], [])) (fun q => x_998.Queue.length - q.1) ⟨0, hb2⟩ ⟨[], [], _, _, rfl, rfl, ⟨.refl _, ⟨.refl _, ⟨.refl _, trivial⟩⟩⟩, .refl _⟩ ?_
              rintro ⟨k_1081, hc2⟩
              have hc2 : spec_LocksOK_L2 x_998 (x_998.Queue.drop k_1081) k_1081 = some p1108 := hc2
              refine (show awp Try.prog false 0 _ (ofL [(0, (.lst 2 (list_1.map encGLock))), (3, (.int .i64 (i_661 : Int))), (4, (.int .i64 (k_1081 : Int)))]) [] _ from ?_)
              rcases dropc x_998.Queue k_1081 with ⟨hie1111, hd1114⟩ | ⟨hlt1109, x_1115, hx1110, hd1114⟩
              · rw [hd1114, spec_LocksOK_L2.eq_1] at hc2
                have hq1113 := dlf hie1111
                refine awp_seq ?_
                refine awp_seq ?_
                refine w_reg ?_
                refine s_do (o_mov (.int .i64 (k_1081 : Int)) rfl) ?_
                refine s_do (o_mov (.lst 2 (list_1.map encGLock)) rfl) ?_
                refine s_do (o_mov (.int .i64 (i_661 : Int)) rfl) ?_
                refine s_do (o_iaddrn (enc := encGLock) rfl rfl hx993) ?_
                refine s_do (o_q (.iptr (encGLock x_998) 1) rfl trivial rfl) ?_
                refine s_do (o_q (.lst 1 (x_998.Queue.map encI)) rfl nle rfl) ?_
                refine s_dof (o_len (enc := encI) rfl) fun hl1116 => ?_
                refine s_do (o_q (.bool (decide ((k_1081 : Int) < (x_998.Queue.length : Int)))) rfl rfl rfl) ?_
                refine w_done ?_
                refine k_seq ?_
                refine w_condf rfl hq1113 ?_
                refine w_exit ?_
                refine k_seqx ?_
                refine k_loopx ?_
                refine k_blkx ?_
                refine k_blk ?_
                obtain rfl := os hc2
                exact k_cutn ⟨_, rfl⟩ ⟨[], [], _, _, rfl, rfl, ⟨.refl _, ⟨.refl _, trivial⟩⟩, .refl _⟩
              · rw [hd1114, spec_LocksOK_L2.eq_2] at hc2
                have hq1113 := dlt hlt1109
                refine awp_seq ?_
                refine awp_seq ?_
                refine w_reg ?_
                refine s_do (o_mov (.int .i64 (k_1081 : Int)) rfl) ?_
                refine s_do (o_mov (.lst 2 (list_1.map encGLock)) rfl) ?_
                refine s_do (o_mov (.int .i64 (i_661 : Int)) rfl) ?_
                refine s_do (o_iaddrn (enc := encGLock) rfl rfl hx993) ?_
                refine s_do (o_q (.iptr (encGLock x_998) 1) rfl trivial rfl) ?_
                refine s_do (o_q (.lst 1 (x_998.Queue.map encI)) rfl nle rfl) ?_
                refine s_dof (o_len (enc := encI) rfl) fun hl1117 => ?_
                refine s_do (o_q (.bool (decide ((k_1081 : Int) < (x_998.Queue.length : Int)))) rfl rfl rfl) ?_
                refine w_done ?_
                refine k_seq ?_
                refine w_condt rfl hq1113 ?_
                refine w_skip ?_
                refine k_seq ?_
                refine awp_seq ?_
                refine w_blk ?_
                refine awp_seq ?_
                obtain ⟨s86_1124, hb3, hc2⟩ := ob hc2
                refine awp_cut ([(0, (.lst 2 (list_1.map encGLock))), (3, (.int .i64 (i_661 : Int))), (4, (.int .i64 (k_1081 : Int))), (86, (.bool s86_1124))], []) ?_ ?_
                · refine w_reg ?_
                  obtain ⟨r_1126, er1127, hb3⟩ := ob hb3
                  rcases oi hb3 with ⟨c1128, hb3⟩ | ⟨c1128, hb3⟩
                  · refine s_do (o_mov (.lst 2 (list_1.map encGLock)) rfl) ?_
                    refine s_do (o_mov (.int .i64 (i_661 : Int)) rfl) ?_
                    refine s_do (o_iaddrn (enc := encGLock) rfl rfl hx993) ?_
                    refine s_do (o_q (.iptr (encGLock x_998) 1) rfl trivial rfl) ?_
                    refine s_do (o_q (.lst 1 (x_998.Queue.map encI)) rfl nle rfl) ?_
                    refine s_do (o_mov (.int .i64 (k_1081 : Int)) rfl) ?_
                    refine s_do (o_iaddrn (enc := encI) rfl rfl hx1110) ?_
                    refine s_do (o_q (.int .i64 x_1115) rfl ⟨rfl, rfl⟩ rfl) ?_
                    refine s_dol (o_call (w_spec_l12Session _ _ er1127) rfl (.refl _) rfl) a_same trivial ?_
                    refine s_do (o_q (.bool (!r_1126)) rfl trivial rfl) ?_
                    refine s_do (o_mov (.bool (!r_1126)) rfl) ?_
                    refine s_lit (s := 69) (b := true) rfl c1128 ?_
                    refine s_off rfl rfl ?_
                    refine s_off rfl rfl ?_
                    refine s_off rfl rfl ?_
                    refine s_off rfl rfl ?_
                    refine s_off rfl rfl ?_
                    refine s_off rfl rfl ?_
                    refine s_off rfl rfl ?_
                    refine s_off rfl rfl ?_
                    refine s_off rfl rfl ?_
                    refine s_off rfl rfl ?_
                    refine s_off rfl rfl ?_
                    refine s_off rfl rfl ?_
                    refine s_off rfl rfl ?_
                    refine s_off rfl rfl ?_
                    refine s_off rfl rfl ?_
                    refine s_offl rfl rfl trivial ?_
                    refine s_do (o_q (.bool true) rfl trivial rfl) ?_
                    refine w_done ?_
                    obtain rfl := os hb3
                    exact ⟨[], [], _, _, rfl, rfl, ⟨.refl _, ⟨.refl _, ⟨.refl _, ⟨.refl _, trivial⟩⟩⟩⟩, .refl _⟩
                  · obtain ⟨g1129, hb3⟩ := og hb3
                    obtain ⟨r_1130, er1131, hb3⟩ := ob hb3
                    refine s_do (o_mov (.lst 2 (list_1.map encGLock)) rfl) ?_
                    refine s_do (o_mov (.int .i64 (i_661 : Int)) rfl) ?_
                    refine s_do (o_iaddrn (enc := encGLock) rfl rfl hx993) ?_
                    refine s_do (o_q (.iptr (encGLock x_998) 1) rfl trivial rfl) ?_
                    refine s_do (o_q (.lst 1 (x_998.Queue.map encI)) rfl nle rfl) ?_
                    refine s_do (o_mov (.int .i64 (k_1081 : Int)) rfl) ?_
                    refine s_do (o_iaddrn (enc := encI) rfl rfl hx1110) ?_
                    refine s_do (o_q (.int .i64 x_1115) rfl ⟨rfl, rfl⟩ rfl) ?_
                    refine s_dol (o_call (w_spec_l12Session _ _ er1127) rfl (.refl _) rfl) a_same trivial ?_
                    refine s_do (o_q (.bool (!r_1126)) rfl trivial rfl) ?_
                    refine s_do (o_mov (.bool (!r_1126)) rfl) ?_
                    refine s_lit (s := 69) (b := false) rfl (bf c1128) ?_
                    refine s_on rfl ?_
                    refine s_do (o_mov (.lst 2 (list_1.map encGLock)) rfl) ?_
                    refine s_on rfl ?_
                    refine s_do (o_mov (.int .i64 (i_661 : Int)) rfl) ?_
                    refine s_on rfl ?_
                    refine s_do (o_iaddrn (enc := encGLock) rfl rfl hx993) ?_
                    refine s_on rfl ?_
                    refine s_do (o_q (.iptr (encGLock x_998) 1) rfl trivial rfl) ?_
                    refine s_on rfl ?_
                    refine s_do (o_q (.lst 1 (x_998.Queue.map encI)) rfl nle rfl) ?_
                    refine s_on rfl ?_
                    refine s_do (o_mov (.int .i64 (k_1081 : Int)) rfl) ?_
                    refine s_on rfl ?_
                    refine s_do (o_slt (enc := encI) rfl rfl g1129.1 g1129.2) ?_
                    refine s_on rfl ?_
                    refine s_do (o_mov (.lst 2 (list_1.map encGLock)) rfl) ?_
                    refine s_on rfl ?_
                    refine s_do (o_mov (.int .i64 (i_661 : Int)) rfl) ?_
                    refine s_on rfl ?_
                    refine s_do (o_iaddrn (enc := encGLock) rfl rfl hx993) ?_
                    refine s_on rfl ?_
                    refine s_do (o_q (.iptr (encGLock x_998) 1) rfl trivial rfl) ?_
                    refine s_on rfl ?_
                    refine s_do (o_q (.lst 1 (x_998.Queue.map encI)) rfl nle rfl) ?_
                    refine s_on rfl ?_
                    refine s_do (o_mov (.int .i64 (k_1081 : Int)) rfl) ?_
                    refine s_on rfl ?_
                    refine s_do (o_iaddrn (enc := encI) rfl rfl hx1110) ?_
                    refine s_on rfl ?_
                    refine s_do (o_q (.int .i64 x_1115) rfl ⟨rfl, rfl⟩ rfl) ?_
                    refine s_onl rfl ?_
                    refine s_dol (o_call (w_spec_l12In _ _ _ er1131) rfl (.refl _) rfl) a_same trivial ?_
                    refine s_do (o_q (.bool r_1130) rfl trivial rfl) ?_
                    refine w_done ?_
                    obtain rfl := os hb3
                    exact ⟨[], [], _, _, rfl, rfl, ⟨.refl _, ⟨.refl _, ⟨.refl _, ⟨.refl _, trivial⟩⟩⟩⟩, .refl _⟩
                · rcases oi hc2 with ⟨c1132, hc2⟩ | ⟨c1132, hc2⟩
                  · refine w_condt rfl c1132 ?_
                    refine awp_seq ?_
                    refine w_reg ?_
                    refine s_do (o_mov (.bool false) rfl) ?_
                    refine w_done ?_
                    refine k_seq ?_
                    refine w_ret ?_
                    obtain rfl := os hc2
                    obtain rfl := os hc1
                    obtain rfl := os hf
                    exact r_flat ⟨trivial, trivial⟩ rfl (.refl _)
                  · refine w_condf rfl (bf c1132) ?_
                    refine w_skip ?_
                    refine k_blk ?_
                    refine k_seq ?_
                    refine w_reg ?_
                    refine s_do (o_mov (.int .i64 (k_1081 : Int)) rfl) ?_
                    refine s_do (o_q (.int .i64 (w64 ((k_1081 : Int) + 1))) rfl rfl rfl) ?_
                    refine s_do (o_mov (.int .i64 (w64 ((k_1081 : Int) + 1))) rfl) ?_
                    refine w_done ?_
                    exact k_loopn ⟨(k_1081 + 1), hc2⟩ (mul hlt1109) ⟨[], [], _, _, rfl, rfl, ⟨.refl _, ⟨.refl _, ⟨.of_eq (congrArg (AV.int _) (w64_incr hlt1109 hl1117)), trivial⟩⟩⟩, .refl _⟩
            · rintro ⟨_, rfl⟩
              refine w_reg ?_
              refine s_do (o_mov (.int .i64 (i_661 : Int)) rfl) ?_
              refine s_do (o_q (.int .i64 (w64 ((i_661 : Int) + 1))) rfl rfl rfl) ?_
              refine s_do (o_mov (.int .i64 (w64 ((i_661 : Int) + 1))) rfl) ?_
              refine w_done ?_
              exact k_loopn ⟨(i_661 + 1), hc1⟩ (mul hlt992) ⟨[], [], _, _, rfl, rfl, ⟨.refl _, ⟨.of_eq (congrArg (AV.int _) (w64_incr hlt992 hl1000)), trivial⟩⟩, .refl _⟩
    · rintro ⟨_, rfl⟩
      refine awp_seq ?_
      refine w_reg ?_
      refine s_do (o_mov (.lst 2 (list_1.map encGLock)) rfl) ?_
      refine s_dof (o_len (enc := encGLock) rfl) fun hl1133 => ?_
      refine s_do (o_q (.bool (decide ((list_1.length : Int) ≤ 6))) rfl rfl rfl) ?_
      refine s_do (o_mov (.bool (decide ((list_1.length : Int) ≤ 6))) rfl) ?_
      refine w_done ?_
      refine k_seq ?_
      refine w_ret ?_
      obtain rfl := os hf
      exact r_flat ⟨trivial, trivial⟩ rfl (.refl _)

/- impl.isDigit -/
def c152 : ACode :=
 (.seq (.reg (.q ⟨(some 2), none, .mov (.c (.bool false))⟩
 .done))
 (.seq (.reg (.q ⟨(some 3), none, .mov (.t 0)⟩
 (.q ⟨(some 4), none, .bin .geq (.t 3) (.c (.int .u8 48))⟩
 (.q ⟨(some 5), none, .mov (.t 4)⟩
 (.q ⟨(some 6), (some (5, true)), .mov (.t 0)⟩
 (.q ⟨(some 7), (some (5, true)), .bin .leq (.t 6) (.c (.int .u8 57))⟩
 (.q ⟨(some 8), none, .pick (.t 5) (.t 7) (.c (.bool false))⟩
 (.q ⟨(some 2), none, .mov (.t 8)⟩
 .done))))))))
 .ret))
theorem fc152 : fcomp Try.prog Try.f152 = some (c152.erase, [.mov (.t 2)], 9) := by kernel_rfl
def impl_isDigit (b_1 : Int) : Option Bool :=
    if (decide (b_1 ≥ 48)) then
    some (decide (b_1 ≤ 57))
    else
    some false
theorem w_impl_isDigit (b_1 : Int) (r : Bool) (hf : impl_isDigit b_1 = some r) : CallOK Try.prog 152 .flat [(.int .u8 b_1)] (.bool r) := by
  refine CallOK.of_awp mixed Try.func152 fc152 nle ?_
  rw [argT_eq]
  unfold impl_isDigit at hf
  unfold c152
  refine (show awp Try.prog false 0 _ (ofL [(0, (.int .u8 b_1))]) [] _ from ?_)
  refine awp_seq ?_
  refine w_reg ?_
  refine s_do (o_mov (.bool false) rfl) ?_
  refine w_done ?_
  refine k_seq ?_
  refine awp_seq ?_
  refine w_reg ?_
  rcases oi hf with ⟨c2, hf⟩ | ⟨c2, hf⟩
  · refine s_do (o_mov (.int .u8 b_1) rfl) ?_
    refine s_do (o_q (.bool (decide (b_1 ≥ 48))) rfl rfl rfl) ?_
    refine s_do (o_mov (.bool (decide (b_1 ≥ 48))) rfl) ?_
    refine s_lit (s := 5) (b := true) rfl c2 ?_
    refine s_on rfl ?_
    refine s_do (o_mov (.int .u8 b_1) rfl) ?_
    refine s_on rfl ?_
    refine s_do (o_q (.bool (decide (b_1 ≤ 57))) rfl rfl rfl) ?_
    refine s_do (o_q (.bool (decide (b_1 ≤ 57))) rfl trivial rfl) ?_
    refine s_do (o_mov (.bool (decide (b_1 ≤ 57))) rfl) ?_
    refine w_done ?_
    refine k_seq ?_
    refine w_ret ?_
    obtain rfl := os hf
    exact r_flat ⟨trivial, trivial⟩ rfl (.refl _)
  · refine s_do (o_mov (.int .u8 b_1) rfl) ?_
    refine s_do (o_q (.bool (decide (b_1 ≥ 48))) rfl rfl rfl) ?_
    refine s_do (o_mov (.bool (decide (b_1 ≥ 48))) rfl) ?_
    refine s_lit (s := 5) (b := false) rfl (bf c2) ?_
    refine s_off rfl rfl ?_
    refine s_off rfl rfl ?_
    refine s_do (o_q (.bool false) rfl trivial rfl) ?_
    refine s_do (o_mov (.bool false) rfl) ?_
    refine w_done ?_
    refine k_seq ?_
    refine w_ret ?_
    obtain rfl := os hf
    exact r_flat ⟨trivial, trivial⟩ rfl (.refl _)

/- impl.within -/
def c86 : ACode :=
 (.seq (.reg (.q ⟨(some 6), none, .mov (.c (.bool false))⟩
 .done))
 (.seq (.reg (.q ⟨(some 7), none, .mov (.t 0)⟩
 (.q ⟨(some 8), none, .mov (.t 1)⟩
 (.q ⟨(some 9), none, .bin .geq (.t 7) (.t 8)⟩
 (.q ⟨(some 10), none, .mov (.t 9)⟩
 (.q ⟨(some 11), (some (10, true)), .mov (.t 0)⟩
 (.q ⟨(some 12), (some (10, true)), .mov (.t 2)⟩
 (.q ⟨(some 13), (some (10, true)), .bin .leq (.t 11) (.t 12)⟩
 (.q ⟨(some 14), none, .pick (.t 10) (.t 13) (.c (.bool false))⟩
 (.q ⟨(some 6), none, .mov (.t 14)⟩
 .done))))))))))
 .ret))
theorem fc86 : fcomp Try.prog Try.f86 = some (c86.erase, [.mov (.t 6)], 15) := by kernel_rfl
def impl_within (n_1 : Int) (low_2 : Int) (high_3 : Int) : Option Bool :=
    if (decide (n_1 ≥ low_2)) then
    some (decide (n_1 ≤ high_3))
    else
    some false
theorem w_impl_within (n_1 : Int) (low_2 : Int) (high_3 : Int) (r : Bool) (hf : impl_within n_1 low_2 high_3 = some r) : CallOK Try.prog 86 .flat [(.int .i64 n_1), (.int .i64 low_2), (.int .i64 high_3)] (.bool r) := by
  refine CallOK.of_awp mixed Try.func86 fc86 nle ?_
  rw [argT_eq]
  unfold impl_within at hf
  unfold c86
  refine (show awp Try.prog false 0 _ (ofL [(0, (.int .i64 n_1)), (1, (.int .i64 low_2)), (2, (.int .i64 high_3))]) [] _ from ?_)
  refine awp_seq ?_
  refine w_reg ?_
  refine s_do (o_mov (.bool false) rfl) ?_
  refine w_done ?_
  refine k_seq ?_
  refine awp_seq ?_
  refine w_reg ?_
  rcases oi hf with ⟨c4, hf⟩ | ⟨c4, hf⟩
  · refine s_do (o_mov (.int .i64 n_1) rfl) ?_
    refine s_do (o_mov (.int .i64 low_2) rfl) ?_
    refine s_do (o_q (.bool (decide (n_1 ≥ low_2))) rfl rfl rfl) ?_
    refine s_do (o_mov (.bool (decide (n_1 ≥ low_2))) rfl) ?_
    refine s_lit (s := 10) (b := true) rfl c4 ?_
    refine s_on rfl ?_
    refine s_do (o_mov (.int .i64 n_1) rfl) ?_
    refine s_on rfl ?_
    refine s_do (o_mov (.int .i64 high_3) rfl) ?_
    refine s_on rfl ?_
    refine s_do (o_q (.bool (decide (n_1 ≤ high_3))) rfl rfl rfl) ?_
    refine s_do (o_q (.bool (decide (n_1 ≤ high_3))) rfl trivial rfl) ?_
    refine s_do (o_mov (.bool (decide (n_1 ≤ high_3))) rfl) ?_
    refine w_done ?_
    refine k_seq ?_
    refine w_ret ?_
    obtain rfl := os hf
    exact r_flat ⟨trivial, trivial⟩ rfl (.refl _)
  · refine s_do (o_mov (.int .i64 n_1) rfl) ?_
    refine s_do (o_mov (.int .i64 low_2) rfl) ?_
    refine s_do (o_q (.bool (decide (n_1 ≥ low_2))) rfl rfl rfl) ?_
    refine s_do (o_mov (.bool (decide (n_1 ≥ low_2))) rfl) ?_
    refine s_lit (s := 10) (b := false) rfl (bf c4) ?_
    refine s_off rfl rfl ?_
    refine s_off rfl rfl ?_
    refine s_off rfl rfl ?_
    refine s_do (o_q (.bool false) rfl trivial rfl) ?_
    refine s_do (o_mov (.bool false) rfl) ?_
    refine w_done ?_
    refine k_seq ?_
    refine w_ret ?_
    obtain rfl := os hf
    exact r_flat ⟨trivial, trivial⟩ rfl (.refl _)

/- impl.NameOK -/
def c85 : ACode :=
 (.seq (.reg (.q ⟨(some 2), none, .mov (.c (.bool false))⟩
 .done))
 (.seq (.seq (.reg (.q ⟨(some 6), none, .mov (.t 0)⟩
 (.q ⟨(some 7), none, .lenS (.t 6)⟩
 (.q ⟨(some 8), none, .mov (.c (.int .i64 0))⟩
 .done))))
 (.block 0 (.loop (.seq (.reg (.q ⟨(some 9), none, .bin .lss (.t 8) (.t 7)⟩
 .done))
 (.seq (.cond (.t 9) .skip
 (.exit 0))
 (.seq (.block 1 (.seq (.reg (.q ⟨(some 10), none, .mov (.t 8)⟩
 (.q ⟨(some 3), none, .mov (.t 10)⟩
 .done)))
 (.seq (.reg (.q ⟨(some 11), none, .mov (.t 0)⟩
 (.q ⟨(some 12), none, .mov (.t 3)⟩
 (.q ⟨(some 13), none, .idxs (.t 11) (.t 12)⟩
 (.q ⟨(some 4), none, .mov (.t 13)⟩
 .done)))))
 (.seq (.reg (.q ⟨(some 14), none, .mov (.t 4)⟩
 (.q ⟨(some 15), none, .bin .geq (.t 14) (.c (.int .u8 97))⟩
 (.q ⟨(some 16), none, .mov (.t 15)⟩
 (.q ⟨(some 17), (some (16, true)), .mov (.t 4)⟩
 (.q ⟨(some 18), (some (16, true)), .bin .leq (.t 17) (.c (.int .u8 122))⟩
 (.q ⟨(some 19), none, .pick (.t 16) (.t 18) (.c (.bool false))⟩
 (.q ⟨(some 20), none, .mov (.t 19)⟩
 (.q ⟨(some 21), (some (20, false)), .mov (.t 4)⟩
 (.q ⟨(some 22), (some (20, false)), .bin .geq (.t 21) (.c (.int .u8 65))⟩
 (.q ⟨(some 23), (some (20, false)), .mov (.t 22)⟩
 (.q ⟨(some 24), (some (23, true)), .mov (.t 4)⟩
 (.q ⟨(some 25), (some (23, true)), .bin .leq (.t 24) (.c (.int .u8 90))⟩
 (.q ⟨(some 26), (some (20, false)), .pick (.t 23) (.t 25) (.c (.bool false))⟩
 (.q ⟨(some 27), none, .pick (.t 20) (.c (.bool true)) (.t 26)⟩
 (.q ⟨(some 28), none, .mov (.t 27)⟩
 (.q ⟨(some 29), (some (28, false)), .mov (.t 4)⟩
 (.q ⟨(some 30), (some (28, false)), .bin .eql (.t 29) (.c (.int .u8 95))⟩
 (.q ⟨(some 31), none, .pick (.t 28) (.c (.bool true)) (.t 30)⟩
 (.q ⟨(some 5), none, .mov (.t 31)⟩
 .done))))))))))))))))))))
 (.cut (.seq (.reg (.q ⟨(some 32), none, .mov (.t 5)⟩
 (.q ⟨(some 33), none, .not (.t 32)⟩
 (.q ⟨(some 34), none, .mov (.t 33)⟩
 (.q ⟨(some 35), (some (34, true)), .mov (.t 3)⟩
 (.q ⟨(some 36), (some (34, true)), .bin .eql (.t 35) (.c (.int .i64 0))⟩
 (.q ⟨(some 37), (some (34, true)), .mov (.t 36)⟩
 (.q ⟨(some 38), (some (37, false)), .mov (.t 4)⟩
 (.q ⟨(some 39), (some (37, false)), .call 152 [(.t 38)]⟩
 (.q ⟨(some 40), (some (37, false)), .not (.t 39)⟩
 (.q ⟨(some 41), (some (34, true)), .pick (.t 37) (.c (.bool true)) (.t 40)⟩
 (.q ⟨(some 42), none, .pick (.t 34) (.t 41) (.c (.bool false))⟩
 .done))))))))))))
 (.cut (.cond (.t 42) (.seq (.reg (.q ⟨(some 2), none, .mov (.c (.bool false))⟩
 .done))
 .ret)
 .skip))))))))
 (.reg (.q ⟨(some 43), none, .bin .add (.t 8) (.c (.int .i64 1))⟩
 (.q ⟨(some 8), none, .mov (.t 43)⟩
 .done)))))))))
 (.cut (.seq (.reg (.q ⟨(some 44), none, .mov (.t 0)⟩
 (.q ⟨(some 45), none, .lenS (.t 44)⟩
 (.q ⟨(some 46), none, .call 86 [(.t 45), (.c (.int .i64 1)), (.c (.int .i64 40))]⟩
 (.q ⟨(some 2), none, .mov (.t 46)⟩
 .done)))))
 .ret))))
theorem fc85 : fcomp Try.prog Try.f85 = some (c85.erase, [.mov (.t 2)], 47) := by kernel_rfl
def impl_NameOK_L1  : List UInt8 → Nat → Option (Fl Bool Unit)
  | [], s8_60 =>
    some (.go ())
  | x_96 :: xs, s8_60 =>
    (if (decide ((x_96.toNat : Int) ≥ 97)) then
    if (decide ((x_96.toNat : Int) ≤ 122)) then
    some true
    else
    if (decide ((x_96.toNat : Int) ≥ 65)) then
    if (decide ((x_96.toNat : Int) ≤ 90)) then
    some true
    else
    some ((x_96.toNat : Int) == 95)
    else
    some ((x_96.toNat : Int) == 95)
    else
    if (decide ((x_96.toNat : Int) ≥ 65)) then
    if (decide ((x_96.toNat : Int) ≤ 90)) then
    some true
    else
    some ((x_96.toNat : Int) == 95)
    else
    some ((x_96.toNat : Int) == 95)).bind fun letter_103 =>
    (if (!letter_103) then
    if ((s8_60 : Int) == 0) then
    some true
    else
    (impl_isDigit (x_96.toNat : Int)).bind fun r_119 =>
    some (!r_119)
    else
    some false).bind fun s42_115 =>
    if s42_115 then
    some (.ret false)
    else
    impl_NameOK_L1 xs (s8_60 + 1)

def impl_NameOK (t_1 : Str) : Option Bool :=
    (impl_NameOK_L1 t_1 0).bind fun q => (match q with
    | .ret r => some r
    | .go _ =>
    (impl_within (t_1.length : Int) 1 40).bind fun r_123 =>
    some r_123)
theorem w_impl_NameOK (t_1 : Str) (r : Bool) (hf : impl_NameOK t_1 = some r) : CallOK Try.prog 85 .flat [(.str t_1)] (.bool r) := by
  refine CallOK.of_awp mixed Try.func85 fc85 nle ?_
  rw [argT_eq]
  unfold impl_NameOK at hf
  unfold c85
  refine (show awp Try.prog false 0 _ (ofL [(0, (.str t_1))]) [] _ from ?_)
  refine awp_seq ?_
  refine w_reg ?_
  refine s_do (o_mov (.bool false) rfl) ?_
  refine w_done ?_
  refine k_seq ?_
  refine awp_seq ?_
  refine awp_seq ?_
  refine w_reg ?_
  refine s_do (o_mov (.str t_1) rfl) ?_
  refine s_dof (o_lenS rfl) fun hl2 => ?_
  refine s_do (o_mov (.int .i64 0) rfl) ?_
  refine w_done ?_
  refine k_seq ?_
  obtain ⟨p89, hb1, hf⟩ := ob hf
  refine awp_cutx (X := {q : Unit // p89 = .go q}) (fun q => ([(0, (.str t_1))], [])) ?_ ?_
  · refine awp_loop (X := {q : Nat // impl_NameOK_L1 (t_1.drop q) q = some p89}) (fun q => ([(0, (.str t_1)), (7, (.int .i64 (t_1.length : Int))), (8, (.int .i64 (q.1 : Int)))], [])) (fun q => t_1.length - q.1) ⟨0, hb1⟩ ⟨[], [], _, _, rfl, rfl, ⟨.refl _, ⟨.refl _, ⟨.refl _, trivial⟩⟩⟩, .refl _⟩ ?_
    rintro ⟨s8_60, hc1⟩
    have hc1 : impl_NameOK_L1 (t_1.drop s8_60) s8_60 = some p89 := hc1
    refine (show awp Try.prog false 0 _ (ofL [(0, (.str t_1)), (7, (.int .i64 (t_1.length : Int))), (8, (.int .i64 (s8_60 : Int)))]) [] _ from ?_)
    rcases dropc t_1 s8_60 with ⟨hie92, hd95⟩ | ⟨hlt90, x_96, hx91, hd95⟩
    · rw [hd95, impl_NameOK_L1.eq_1] at hc1
      have hq94 := dlf hie92
      refine awp_seq ?_
      refine w_reg ?_
      refine s_do (o_q (.bool (decide ((s8_60 : Int) < (t_1.length : Int)))) rfl rfl rfl) ?_
      refine w_done ?_
      refine k_seq ?_
      refine awp_seq ?_
      refine w_condf rfl hq94 ?_
      refine w_exit ?_
      refine k_seqx ?_
      refine k_loopx ?_
      refine k_blkx ?_
      obtain rfl := os hc1
      exact k_cutn ⟨_, rfl⟩ ⟨[], [], _, _, rfl, rfl, ⟨.refl _, trivial⟩, .refl _⟩
    · rw [hd95, impl_NameOK_L1.eq_2] at hc1
      have hq94 := dlt hlt90
      refine awp_seq ?_
      refine w_reg ?_
      refine s_do (o_q (.bool (decide ((s8_60 : Int) < (t_1.length : Int)))) rfl rfl rfl) ?_
      refine w_done ?_
      refine k_seq ?_
      refine awp_seq ?_
      refine w_condt rfl hq94 ?_
      refine w_skip ?_
      refine k_seq ?_
      refine awp_seq ?_
      refine w_blk ?_
      refine awp_seq ?_
      refine w_reg ?_
      refine s_do (o_mov (.int .i64 (s8_60 : Int)) rfl) ?_
      refine s_do (o_mov (.int .i64 (s8_60 : Int)) rfl) ?_
      refine w_done ?_
      refine k_seq ?_
      refine awp_seq ?_
      refine w_reg ?_
      refine s_do (o_mov (.str t_1) rfl) ?_
      refine s_do (o_mov (.int .i64 (s8_60 : Int)) rfl) ?_
      refine s_do (o_idxsn rfl rfl hx91) ?_
      refine s_do (o_mov (.int .u8 (x_96.toNat : Int)) rfl) ?_
      refine w_done ?_
      refine k_seq ?_
      refine awp_seq ?_
      obtain ⟨letter_103, hb2, hc1⟩ := ob hc1
      refine awp_cut ([(0, (.str t_1)), (3, (.int .i64 (s8_60 : Int))), (4, (.int .u8 (x_96.toNat : Int))), (5, (.bool letter_103)), (7, (.int .i64 (t_1.length : Int))), (8, (.int .i64 (s8_60 : Int)))], []) ?_ ?_
      · refine w_reg ?_
        rcases oi hb2 with ⟨c105, hb2⟩ | ⟨c105, hb2⟩
        · rcases oi hb2 with ⟨c106, hb2⟩ | ⟨c106, hb2⟩
          · refine s_do (o_mov (.int .u8 (x_96.toNat : Int)) rfl) ?_
            refine s_do (o_q (.bool (decide ((x_96.toNat : Int) ≥ 97))) rfl rfl rfl) ?_
            refine s_do (o_mov (.bool (decide ((x_96.toNat : Int) ≥ 97))) rfl) ?_
            refine s_lit (s := 16) (b := true) rfl c105 ?_
            refine s_on rfl ?_
            refine s_do (o_mov (.int .u8 (x_96.toNat : Int)) rfl) ?_
            refine s_on rfl ?_
            refine s_do (o_q (.bool (decide ((x_96.toNat : Int) ≤ 122))) rfl rfl rfl) ?_
            refine s_do (o_q (.bool (decide ((x_96.toNat : Int) ≤ 122))) rfl trivial rfl) ?_
            refine s_do (o_mov (.bool (decide ((x_96.toNat : Int) ≤ 122))) rfl) ?_
            refine s_lit (s := 20) (b := true) rfl c106 ?_
            refine s_off rfl rfl ?_
            refine s_off rfl rfl ?_
            refine s_off rfl rfl ?_
            refine s_offs rfl ?_
            refine s_offs rfl ?_
            refine s_off rfl rfl ?_
            refine s_do (o_q (.bool true) rfl trivial rfl) ?_
            refine s_do (o_mov (.bool true) rfl) ?_
            refine s_off rfl rfl ?_
            refine s_off rfl rfl ?_
            refine s_do (o_q (.bool true) rfl trivial rfl) ?_
            refine s_do (o_mov (.bool true) rfl) ?_
            refine w_done ?_
            obtain rfl := os hb2
            exact ⟨[], [], _, _, rfl, rfl, ⟨.refl _, ⟨.refl _, ⟨.refl _, ⟨.refl _, ⟨.refl _, ⟨.refl _, trivial⟩⟩⟩⟩⟩⟩, .refl _⟩
          · rcases oi hb2 with ⟨c107, hb2⟩ | ⟨c107, hb2⟩
            · rcases oi hb2 with ⟨c108, hb2⟩ | ⟨c108, hb2⟩
              · refine s_do (o_mov (.int .u8 (x_96.toNat : Int)) rfl) ?_
                refine s_do (o_q (.bool (decide ((x_96.toNat : Int) ≥ 97))) rfl rfl rfl) ?_
                refine s_do (o_mov (.bool (decide ((x_96.toNat : Int) ≥ 97))) rfl) ?_
                refine s_lit (s := 16) (b := true) rfl c105 ?_
                refine s_on rfl ?_
                refine s_do (o_mov (.int .u8 (x_96.toNat : Int)) rfl) ?_
                refine s_on rfl ?_
                refine s_do (o_q (.bool (decide ((x_96.toNat : Int) ≤ 122))) rfl rfl rfl) ?_
                refine s_do (o_q (.bool (decide ((x_96.toNat : Int) ≤ 122))) rfl trivial rfl) ?_
                refine s_do (o_mov (.bool (decide ((x_96.toNat : Int) ≤ 122))) rfl) ?_
                refine s_lit (s := 20) (b := false) rfl (bf c106) ?_
                refine s_on rfl ?_
                refine s_do (o_mov (.int .u8 (x_96.toNat : Int)) rfl) ?_
                refine s_on rfl ?_
                refine s_do (o_q (.bool (decide ((x_96.toNat : Int) ≥ 65))) rfl rfl rfl) ?_
                refine s_on rfl ?_
                refine s_do (o_mov (.bool (decide ((x_96.toNat : Int) ≥ 65))) rfl) ?_
                refine s_lit (s := 23) (b := true) rfl c107 ?_
                refine s_on rfl ?_
                refine s_do (o_mov (.int .u8 (x_96.toNat : Int)) rfl) ?_
                refine s_on rfl ?_
                refine s_do (o_q (.bool (decide ((x_96.toNat : Int) ≤ 90))) rfl rfl rfl) ?_
                refine s_on rfl ?_
                refine s_do (o_q (.bool (decide ((x_96.toNat : Int) ≤ 90))) rfl trivial rfl) ?_
                refine s_do (o_q (.bool (decide ((x_96.toNat : Int) ≤ 90))) rfl trivial rfl) ?_
                refine s_do (o_mov (.bool (decide ((x_96.toNat : Int) ≤ 90))) rfl) ?_
                refine s_lit (s := 28) (b := true) rfl c108 ?_
                refine s_off rfl rfl ?_
                refine s_off rfl rfl ?_
                refine s_do (o_q (.bool true) rfl trivial rfl) ?_
                refine s_do (o_mov (.bool true) rfl) ?_
                refine w_done ?_
                obtain rfl := os hb2
                exact ⟨[], [], _, _, rfl, rfl, ⟨.refl _, ⟨.refl _, ⟨.refl _, ⟨.refl _, ⟨.refl _, ⟨.refl _, trivial⟩⟩⟩⟩⟩⟩, .refl _⟩
              · refine s_do (o_mov (.int .u8 (x_96.toNat : Int)) rfl) ?_
                refine s_do (o_q (.bool (decide ((x_96.toNat : Int) ≥ 97))) rfl rfl rfl) ?_
                refine s_do (o_mov (.bool (decide ((x_96.toNat : Int) ≥ 97))) rfl) ?_
                refine s_lit (s := 16) (b := true) rfl c105 ?_
                refine s_on rfl ?_
                refine s_do (o_mov (.int .u8 (x_96.toNat : Int)) rfl) ?_
                refine s_on rfl ?_
                refine s_do (o_q (.bool (decide ((x_96.toNat : Int) ≤ 122))) rfl rfl rfl) ?_
                refine s_do (o_q (.bool (decide ((x_96.toNat : Int) ≤ 122))) rfl trivial rfl) ?_
                refine s_do (o_mov (.bool (decide ((x_96.toNat : Int) ≤ 122))) rfl) ?_
                refine s_lit (s := 20) (b := false) rfl (bf c106) ?_
                refine s_on rfl ?_
                refine s_do (o_mov (.int .u8 (x_96.toNat : Int)) rfl) ?_
                refine s_on rfl ?_
                refine s_do (o_q (.bool (decide ((x_96.toNat : Int) ≥ 65))) rfl rfl rfl) ?_
                refine s_on rfl ?_
                refine s_do (o_mov (.bool (decide ((x_96.toNat : Int) ≥ 65))) rfl) ?_
                refine s_lit (s := 23) (b := true) rfl c107 ?_
                refine s_on rfl ?_
                refine s_do (o_mov (.int .u8 (x_96.toNat : Int)) rfl) ?_
                refine s_on rfl ?_
                refine s_do (o_q (.bool (decide ((x_96.toNat : Int) ≤ 90))) rfl rfl rfl) ?_
                refine s_on rfl ?_
                refine s_do (o_q (.bool (decide ((x_96.toNat : Int) ≤ 90))) rfl trivial rfl) ?_
                refine s_do (o_q (.bool (decide ((x_96.toNat : Int) ≤ 90))) rfl trivial rfl) ?_
                refine s_do (o_mov (.bool (decide ((x_96.toNat : Int) ≤ 90))) rfl) ?_
                refine s_lit (s := 28) (b := false) rfl (bf c108) ?_
                refine s_on rfl ?_
                refine s_do (o_mov (.int .u8 (x_96.toNat : Int)) rfl) ?_
                refine s_on rfl ?_
                refine s_do (o_q (.bool ((x_96.toNat : Int) == 95)) rfl rfl rfl) ?_
                refine s_do (o_q (.bool ((x_96.toNat : Int) == 95)) rfl trivial rfl) ?_
                refine s_do (o_mov (.bool ((x_96.toNat : Int) == 95)) rfl) ?_
                refine w_done ?_
                obtain rfl := os hb2
                exact ⟨[], [], _, _, rfl, rfl, ⟨.refl _, ⟨.refl _, ⟨.refl _, ⟨.refl _, ⟨.refl _, ⟨.refl _, trivial⟩⟩⟩⟩⟩⟩, .refl _⟩
            · refine s_do (o_mov (.int .u8 (x_96.toNat : Int)) rfl) ?_
              refine s_do (o_q (.bool (decide ((x_96.toNat : Int) ≥ 97))) rfl rfl rfl) ?_
              refine s_do (o_mov (.bool (decide ((x_96.toNat : Int) ≥ 97))) rfl) ?_
              refine s_lit (s := 16) (b := true) rfl c105 ?_
              refine s_on rfl ?_
              refine s_do (o_mov (.int .u8 (x_96.toNat : Int)) rfl) ?_
              refine s_on rfl ?_
              refine s_do (o_q (.bool (decide ((x_96.toNat : Int) ≤ 122))) rfl rfl rfl) ?_
              refine s_do (o_q (.bool (decide ((x_96.toNat : Int) ≤ 122))) rfl trivial rfl) ?_
              refine s_do (o_mov (.bool (decide ((x_96.toNat : Int) ≤ 122))) rfl) ?_
              refine s_lit (s := 20) (b := false) rfl (bf c106) ?_
              refine s_on rfl ?_
              refine s_do (o_mov (.int .u8 (x_96.toNat : Int)) rfl) ?_
              refine s_on rfl ?_
              refine s_do (o_q (.bool (decide ((x_96.toNat : Int) ≥ 65))) rfl rfl rfl) ?_
              refine s_on rfl ?_
              refine s_do (o_mov (.bool (decide ((x_96.toNat : Int) ≥ 65))) rfl) ?_
              refine s_lit (s := 23) (b := false) rfl (bf c107) ?_
              refine s_off rfl rfl ?_
              refine s_off rfl rfl ?_
              refine s_on rfl ?_
              refine s_do (o_q (.bool false) rfl trivial rfl) ?_
              refine s_do (o_q (.bool false) rfl trivial rfl) ?_
              refine s_do (o_mov (.bool false) rfl) ?_
              refine s_on rfl ?_
              refine s_do (o_mov (.int .u8 (x_96.toNat : Int)) rfl) ?_
              refine s_on rfl ?_
              refine s_do (o_q (.bool ((x_96.toNat : Int) == 95)) rfl rfl rfl) ?_
              refine s_do (o_q (.bool ((x_96.toNat : Int) == 95)) rfl trivial rfl) ?_
              refine s_do (o_mov (.bool ((x_96.toNat : Int) == 95)) rfl) ?_
              refine w_done ?_
              obtain rfl := os hb2
              exact ⟨[], [], _, _, rfl, rfl, ⟨.refl _, ⟨.refl _, ⟨.refl _, ⟨.refl _, ⟨.refl _, ⟨.refl _, trivial⟩⟩⟩⟩⟩⟩, .refl _⟩
        · rcases oi hb2 with ⟨c109, hb2⟩ | ⟨c109, hb2⟩
          · rcases oi hb2 with ⟨c110, hb2⟩ | ⟨c110, hb2⟩
            · refine s_do (o_mov (.int .u8 (x_96.toNat : Int)) rfl) ?_
              refine s_do (o_q (.bool (decide ((x_96.toNat : Int) ≥ 97))) rfl rfl rfl) ?_
              refine s_do (o_mov (.bool (decide ((x_96.toNat : Int) ≥ 97))) rfl) ?_
              refine s_lit (s := 16) (b := false) rfl (bf c105) ?_
              refine s_off rfl rfl ?_
              refine s_off rfl rfl ?_
              refine s_do (o_q (.bool false) rfl trivial rfl) ?_
              refine s_do (o_mov (.bool false) rfl) ?_
              refine s_on rfl ?_
              refine s_do (o_mov (.int .u8 (x_96.toNat : Int)) rfl) ?_
              refine s_on rfl ?_
              refine s_do (o_q (.bool (decide ((x_96.toNat : Int) ≥ 65))) rfl rfl rfl) ?_
              refine s_on rfl ?_
              refine s_do (o_mov (.bool (decide ((x_96.toNat : Int) ≥ 65))) rfl) ?_
              refine s_lit (s := 23) (b := true) rfl c109 ?_
              refine s_on rfl ?_
              refine s_do (o_mov (.int .u8 (x_96.toNat : Int)) rfl) ?_
              refine s_on rfl ?_
              refine s_do (o_q (.bool (decide ((x_96.toNat : Int) ≤ 90))) rfl rfl rfl) ?_
              refine s_on rfl ?_
              refine s_do (o_q (.bool (decide ((x_96.toNat : Int) ≤ 90))) rfl trivial rfl) ?_
              refine s_do (o_q (.bool (decide ((x_96.toNat : Int) ≤ 90))) rfl trivial rfl) ?_
              refine s_do (o_mov (.bool (decide ((x_96.toNat : Int) ≤ 90))) rfl) ?_
              refine s_lit (s := 28) (b := true) rfl c110 ?_
              refine s_off rfl rfl ?_
              refine s_off rfl rfl ?_
              refine s_do (o_q (.bool true) rfl trivial rfl) ?_
              refine s_do (o_mov (.bool true) rfl) ?_
              refine w_done ?_
              obtain rfl := os hb2
              exact ⟨[], [], _, _, rfl, rfl, ⟨.refl _, ⟨.refl _, ⟨.refl _, ⟨.refl _, ⟨.refl _, ⟨.refl _, trivial⟩⟩⟩⟩⟩⟩, .refl _⟩
            · refine s_do (o_mov (.int .u8 (x_96.toNat : Int)) rfl) ?_
              refine s_do (o_q (.bool (decide ((x_96.toNat : Int) ≥ 97))) rfl rfl rfl) ?_
              refine s_do (o_mov (.bool (decide ((x_96.toNat : Int) ≥ 97))) rfl) ?_
              refine s_lit (s := 16) (b := false) rfl (bf c105) ?_
              refine s_off rfl rfl ?_
              refine s_off rfl rfl ?_
              refine s_do (o_q (.bool false) rfl trivial rfl) ?_
              refine s_do (o_mov (.bool false) rfl) ?_
              refine s_on rfl ?_
              refine s_do (o_mov (.int .u8 (x_96.toNat : Int)) rfl) ?_
              refine s_on rfl ?_
              refine s_do (o_q (.bool (decide ((x_96.toNat : Int) ≥ 65))) rfl rfl rfl) ?_
              refine s_on rfl ?_
              refine s_do (o_mov (.bool (decide ((x_96.toNat : Int) ≥ 65))) rfl) ?_
              refine s_lit (s := 23) (b := true) rfl c109 ?_
              refine s_on rfl ?_
              refine s_do (o_mov (.int .u8 (x_96.toNat : Int)) rfl) ?_
              refine s_on rfl ?_
              refine s_do (o_q (.bool (decide ((x_96.toNat : Int) ≤ 90))) rfl rfl rfl) ?_
              refine s_on rfl ?_
              refine s_do (o_q (.bool (decide ((x_96.toNat : Int) ≤ 90))) rfl trivial rfl) ?_
              refine s_do (o_q (.bool (decide ((x_96.toNat : Int) ≤ 90))) rfl trivial rfl) ?_
              refine s_do (o_mov (.bool (decide ((x_96.toNat : Int) ≤ 90))) rfl) ?_
              refine s_lit (s := 28) (b := false) rfl (bf c110) ?_
              refine s_on rfl ?_
              refine s_do (o_mov (.int .u8 (x_96.toNat : Int)) rfl) ?_
              refine s_on rfl ?_
              refine s_do (o_q (.bool ((x_96.toNat : Int) == 95)) rfl rfl rfl) ?_
              refine s_do (o_q (.bool ((x_96.toNat : Int) == 95)) rfl trivial rfl) ?_
              refine s_do (o_mov (.bool ((x_96.toNat : Int) == 95)) rfl) ?_
              refine w_done ?_
              obtain rfl := os hb2
              exact ⟨[], [], _, _, rfl, rfl, ⟨.refl _, ⟨.refl _, ⟨.refl _, ⟨.refl _, ⟨.refl _, ⟨.refl _, trivial⟩⟩⟩⟩⟩⟩, .refl _⟩
          · refine s_do (o_mov (.int .u8 (x_96.toNat : Int)) rfl) ?_
            refine s_do (o_q (.bool (decide ((x_96.toNat : Int) ≥ 97))) rfl rfl rfl) ?_
            refine s_do (o_mov (.bool (decide ((x_96.toNat : Int) ≥ 97))) rfl) ?_
            refine s_lit (s := 16) (b := false) rfl (bf c105) ?_
            refine s_off rfl rfl ?_
            refine s_off rfl rfl ?_
            refine s_do (o_q (.bool false) rfl trivial rfl) ?_
            refine s_do (o_mov (.bool false) rfl) ?_
            refine s_on rfl ?_
            refine s_do (o_mov (.int .u8 (x_96.toNat : Int)) rfl) ?_
            refine s_on rfl ?_
            refine s_do (o_q (.bool (decide ((x_96.toNat : Int) ≥ 65))) rfl rfl rfl) ?_
            refine s_on rfl ?_
            refine s_do (o_mov (.bool (decide ((x_96.toNat : Int) ≥ 65))) rfl) ?_
            refine s_lit (s := 23) (b := false) rfl (bf c109) ?_
            refine s_off rfl rfl ?_
            refine s_off rfl rfl ?_
            refine s_on rfl ?_
            refine s_do (o_q (.bool false) rfl trivial rfl) ?_
            refine s_do (o_q (.bool false) rfl trivial rfl) ?_
            refine s_do (o_mov (.bool false) rfl) ?_
            refine s_on rfl ?_
            refine s_do (o_mov (.int .u8 (x_96.toNat : Int)) rfl) ?_
            refine s_on rfl ?_
            refine s_do (o_q (.bool ((x_96.toNat : Int) == 95)) rfl rfl rfl) ?_
            refine s_do (o_q (.bool ((x_96.toNat : Int) == 95)) rfl trivial rfl) ?_
            refine s_do (o_mov (.bool ((x_96.toNat : Int) == 95)) rfl) ?_
            refine w_done ?_
            obtain rfl := os hb2
            exact ⟨[], [], _, _, rfl, rfl, ⟨.refl _, ⟨.refl _, ⟨.refl _, ⟨.refl _, ⟨.refl _, ⟨.refl _, trivial⟩⟩⟩⟩⟩⟩, .refl _⟩
      · refine awp_seq ?_
        obtain ⟨s42_115, hb2, hc1⟩ := ob hc1
        refine awp_cut ([(0, (.str t_1)), (7, (.int .i64 (t_1.length : Int))), (8, (.int .i64 (s8_60 : Int))), (42, (.bool s42_115))], []) ?_ ?_
        · refine w_reg ?_
          rcases oi hb2 with ⟨c117, hb2⟩ | ⟨c117, hb2⟩
          · rcases oi hb2 with ⟨c118, hb2⟩ | ⟨c118, hb2⟩
            · refine s_do (o_mov (.bool letter_103) rfl) ?_
              refine s_do (o_q (.bool (!letter_103)) rfl trivial rfl) ?_
              refine s_do (o_mov (.bool (!letter_103)) rfl) ?_
              refine s_lit (s := 34) (b := true) rfl c117 ?_
              refine s_on rfl ?_
              refine s_do (o_mov (.int .i64 (s8_60 : Int)) rfl) ?_
              refine s_on rfl ?_
              refine s_do (o_q (.bool ((s8_60 : Int) == 0)) rfl rfl rfl) ?_
              refine s_on rfl ?_
              refine s_do (o_mov (.bool ((s8_60 : Int) == 0)) rfl) ?_
              refine s_lit (s := 37) (b := true) rfl c118 ?_
              refine s_off rfl rfl ?_
              refine s_off rfl rfl ?_
              refine s_off rfl rfl ?_
              refine s_on rfl ?_
              refine s_do (o_q (.bool true) rfl trivial rfl) ?_
              refine s_do (o_q (.bool true) rfl trivial rfl) ?_
              refine w_done ?_
              obtain rfl := os hb2
              exact ⟨[], [], _, _, rfl, rfl, ⟨.refl _, ⟨.refl _, ⟨.refl _, ⟨.refl _, trivial⟩⟩⟩⟩, .refl _⟩
            · obtain ⟨r_119, er120, hb2⟩ := ob hb2
              refine s_do (o_mov (.bool letter_103) rfl) ?_
              refine s_do (o_q (.bool (!letter_103)) rfl trivial rfl) ?_
              refine s_do (o_mov (.bool (!letter_103)) rfl) ?_
              refine s_lit (s := 34) (b := true) rfl c117 ?_
              refine s_on rfl ?_
              refine s_do (o_mov (.int .i64 (s8_60 : Int)) rfl) ?_
              refine s_on rfl ?_
              refine s_do (o_q (.bool ((s8_60 : Int) == 0)) rfl rfl rfl) ?_
              refine s_on rfl ?_
              refine s_do (o_mov (.bool ((s8_60 : Int) == 0)) rfl) ?_
              refine s_lit (s := 37) (b := false) rfl (bf c118) ?_
              refine s_on rfl ?_
              refine s_do (o_mov (.int .u8 (x_96.toNat : Int)) rfl) ?_
              refine s_on rfl ?_
              refine s_do (o_call (w_impl_isDigit _ _ er120) rfl (.refl _) rfl) ?_
              refine s_on rfl ?_
              refine s_do (o_q (.bool (!r_119)) rfl trivial rfl) ?_
              refine s_on rfl ?_
              refine s_do (o_q (.bool (!r_119)) rfl trivial rfl) ?_
              refine s_do (o_q (.bool (!r_119)) rfl trivial rfl) ?_
              refine w_done ?_
              obtain rfl := os hb2
              exact ⟨[], [], _, _, rfl, rfl, ⟨.refl _, ⟨.refl _, ⟨.refl _, ⟨.refl _, trivial⟩⟩⟩⟩, .refl _⟩
          · refine s_do (o_mov (.bool letter_103) rfl) ?_
            refine s_do (o_q (.bool (!letter_103)) rfl trivial rfl) ?_
            refine s_do (o_mov (.bool (!letter_103)) rfl) ?_
            refine s_lit (s := 34) (b := false) rfl (bf c117) ?_
            refine s_off rfl rfl ?_
            refine s_off rfl rfl ?_
            refine s_off rfl rfl ?_
            refine s_offs rfl ?_
            refine s_offs rfl ?_
            refine s_offs rfl ?_
            refine s_off rfl rfl ?_
            refine s_do (o_q (.bool false) rfl trivial rfl) ?_
            refine w_done ?_
            obtain rfl := os hb2
            exact ⟨[], [], _, _, rfl, rfl, ⟨.refl _, ⟨.refl _, ⟨.refl _, ⟨.refl _, trivial⟩⟩⟩⟩, .refl _⟩
        · rcases oi hc1 with ⟨c121, hc1⟩ | ⟨c121, hc1⟩
          · refine w_condt rfl c121 ?_
            refine awp_seq ?_
            refine w_reg ?_
            refine s_do (o_mov (.bool false) rfl) ?_
            refine w_done ?_
            refine k_seq ?_
            refine w_ret ?_
            obtain rfl := os hc1
            obtain rfl := os hf
            exact r_flat ⟨trivial, trivial⟩ rfl (.refl _)
          · refine w_condf rfl (bf c121) ?_
            refine w_skip ?_
            refine k_blk ?_
            refine k_seq ?_
            refine w_reg ?_
            refine s_do (o_q (.int .i64 (w64 ((s8_60 : Int) + 1))) rfl rfl rfl) ?_
            refine s_do (o_mov (.int .i64 (w64 ((s8_60 : Int) + 1))) rfl) ?_
            refine w_done ?_
            exact k_loopn ⟨(s8_60 + 1), hc1⟩ (mul hlt90) ⟨[], [], _, _, rfl, rfl, ⟨.refl _, ⟨.refl _, ⟨.of_eq (congrArg (AV.int _) (w64_incr hlt90 hl2)), trivial⟩⟩⟩, .refl _⟩
  · rintro ⟨_, rfl⟩
    refine awp_seq ?_
    refine w_reg ?_
    obtain ⟨r_123, er124, hf⟩ := ob hf
    refine s_do (o_mov (.str t_1) rfl) ?_
    refine s_dof (o_lenS rfl) fun hl122 => ?_
    refine s_do (o_call (w_impl_within _ _ _ _ er124) rfl (.refl _) rfl) ?_
    refine s_do (o_mov (.bool r_123) rfl) ?_
    refine w_done ?_
    refine k_seq ?_
    refine w_ret ?_
    obtain rfl := os hf
    exact r_flat ⟨trivial, trivial⟩ rfl (.refl _)

/- impl.isSession -/
def c87 : ACode :=
 (.seq (.reg (.q ⟨(some 2), none, .mov (.c (.bool false))⟩
 .done))
 (.seq (.reg (.q ⟨(some 3), none, .mov (.t 0)⟩
 (.q ⟨(some 4), none, .call 86 [(.t 3), (.c (.int .i64 0)), (.c (.int .i64 2))]⟩
 (.q ⟨(some 2), none, .mov (.t 4)⟩
 .done))))
 .ret))
theorem fc87 : fcomp Try.prog Try.f87 = some (c87.erase, [.mov (.t 2)], 5) := by kernel_rfl
def impl_isSession (n_1 : Int) : Option Bool :=
    (impl_within n_1 0 2).bind fun r_2 =>
    some r_2
theorem w_impl_isSession (n_1 : Int) (r : Bool) (hf : impl_isSession n_1 = some r) : CallOK Try.prog 87 .flat [(.int .i64 n_1)] (.bool r) := by
  refine CallOK.of_awp mixed Try.func87 fc87 nle ?_
  rw [argT_eq]
  unfold impl_isSession at hf
  unfold c87
  refine (show awp Try.prog false 0 _ (ofL [(0, (.int .i64 n_1))]) [] _ from ?_)
  refine awp_seq ?_
  refine w_reg ?_
  refine s_do (o_mov (.bool false) rfl) ?_
  refine w_done ?_
  refine k_seq ?_
  refine awp_seq ?_
  refine w_reg ?_
  obtain ⟨r_2, er3, hf⟩ := ob hf
  refine s_do (o_mov (.int .i64 n_1) rfl) ?_
  refine s_do (o_call (w_impl_within _ _ _ _ er3) rfl (.refl _) rfl) ?_
  refine s_do (o_mov (.bool r_2) rfl) ?_
  refine w_done ?_
  refine k_seq ?_
  refine w_ret ?_
  obtain rfl := os hf
  exact r_flat ⟨trivial, trivial⟩ rfl (.refl _)

/- slices.Index[[]int,int] -/
def c153 : ACode :=
 (.seq (.reg (.q ⟨(some 4), none, .mov (.c (.int .i64 0))⟩
 .done))
 (.seq (.seq (.reg (.q ⟨(some 6), none, .mov (.t 0)⟩
 (.q ⟨(some 7), none, .len (.t 6)⟩
 (.q ⟨(some 8), none, .mov (.c (.int .i64 0))⟩
 .done))))
 (.block 0 (.loop (.seq (.reg (.q ⟨(some 9), none, .bin .lss (.t 8) (.t 7)⟩
 .done))
 (.seq (.cond (.t 9) .skip
 (.exit 0))
 (.seq (.block 1 (.seq (.reg (.q ⟨(some 10), none, .mov (.t 8)⟩
 (.q ⟨(some 5), none, .mov (.t 10)⟩
 .done)))
 (.seq (.reg (.q ⟨(some 11), none, .mov (.t 1)⟩
 (.q ⟨(some 12), none, .mov (.t 0)⟩
 (.q ⟨(some 13), none, .mov (.t 5)⟩
 (.q ⟨(some 14), none, .iaddr 1 (.t 12) (.t 13)⟩
 (.q ⟨(some 15), none, .load 1 false (.t 14)⟩
 (.q ⟨(some 16), none, .bin .eql (.t 11) (.t 15)⟩
 .done)))))))
 (.cond (.t 16) (.seq (.reg (.q ⟨(some 17), none, .mov (.t 5)⟩
 (.q ⟨(some 4), none, .mov (.t 17)⟩
 .done)))
 .ret)
 .skip))))
 (.reg (.q ⟨(some 18), none, .bin .add (.t 8) (.c (.int .i64 1))⟩
 (.q ⟨(some 8), none, .mov (.t 18)⟩
 .done)))))))))
 (.cut (.seq (.reg (.q ⟨(some 4), none, .mov (.c (.int .i64 (-1)))⟩
 .done))
 .ret))))
theorem fc153 : fcomp Try.prog Try.f153 = some (c153.erase, [.mov (.t 4)], 19) := by kernel_rfl
def slices_Index_int_int_L1 (v_2 : Int) : List Int → Nat → Option (Fl Int Unit)
  | [], s8_13 =>
    some (.go ())
  | x_25 :: xs, s8_13 =>
    if (v_2 == x_25) then
    some (.ret (s8_13 : Int))
    else
    slices_Index_int_int_L1 v_2 xs (s8_13 + 1)

def slices_Index_int_int (s_1 : (List Int)) (v_2 : Int) : Option Int :=
    (slices_Index_int_int_L1 v_2 s_1 0).bind fun q => (match q with
    | .ret r => some r
    | .go _ =>
    some (-1))
theorem w_slices_Index_int_int (s_1 : (List Int)) (v_2 : Int) (r : Int) (hf : slices_Index_int_int s_1 v_2 = some r) : CallOK Try.prog 153 .flat [(.lst 1 (s_1.map encI)), (.int .i64 v_2)] (.int .i64 r) := by
  refine CallOK.of_awp mixed Try.func153 fc153 nle ?_
  rw [argT_eq]
  unfold slices_Index_int_int at hf
  unfold c153
  refine (show awp Try.prog false 0 _ (ofL [(0, (.lst 1 (s_1.map encI))), (1, (.int .i64 v_2))]) [] _ from ?_)
  refine awp_seq ?_
  refine w_reg ?_
  refine s_do (o_mov (.int .i64 0) rfl) ?_
  refine w_done ?_
  refine k_seq ?_
  refine awp_seq ?_
  refine awp_seq ?_
  refine w_reg ?_
  refine s_do (o_mov (.lst 1 (s_1.map encI)) rfl) ?_
  refine s_dof (o_len (enc := encI) rfl) fun hl3 => ?_
  refine s_do (o_mov (.int .i64 0) rfl) ?_
  refine w_done ?_
  refine k_seq ?_
  obtain ⟨p18, hb1, hf⟩ := ob hf
  refine awp_cutx (X := {q : Unit // p18 = .go q}) (fun q => ([], [])) ?_ ?_
  · refine awp_loop (X := {q : Nat // slices_Index_int_int_L1 v_2 (s_1.drop q) q = some p18}) (fun q => ([(0, (.lst 1 (s_1.map encI))), (1, (.int .i64 v_2)), (7, (.int .i64 (s_1.length : Int))), (8, (.int .i64 (q.1 : Int)))], [])) (fun q => s_1.length - q.1) ⟨0, hb1⟩ ⟨[], [], _, _, rfl, rfl, ⟨.refl _, ⟨.refl _, ⟨.refl _, ⟨.refl _, trivial⟩⟩⟩⟩, .refl _⟩ ?_
    rintro ⟨s8_13, hc1⟩
    have hc1 : slices_Index_int_int_L1 v_2 (s_1.drop s8_13) s8_13 = some p18 := hc1
    refine (show awp Try.prog false 0 _ (ofL [(0, (.lst 1 (s_1.map encI))), (1, (.int .i64 v_2)), (7, (.int .i64 (s_1.length : Int))), (8, (.int .i64 (s8_13 : Int)))]) [] _ from ?_)
    rcases dropc s_1 s8_13 with ⟨hie21, hd24⟩ | ⟨hlt19, x_25, hx20, hd24⟩
    · rw [hd24, slices_Index_int_int_L1.eq_1] at hc1
      have hq23 := dlf hie21
      refine awp_seq ?_
      refine w_reg ?_
      refine s_do (o_q (.bool (decide ((s8_13 : Int) < (s_1.length : Int)))) rfl rfl rfl) ?_
      refine w_done ?_
      refine k_seq ?_
      refine awp_seq ?_
      refine w_condf rfl hq23 ?_
      refine w_exit ?_
      refine k_seqx ?_
      refine k_loopx ?_
      refine k_blkx ?_
      obtain rfl := os hc1
      exact k_cutn ⟨_, rfl⟩ ⟨[], [], _, _, rfl, rfl, trivial, .refl _⟩
    · rw [hd24, slices_Index_int_int_L1.eq_2] at hc1
      have hq23 := dlt hlt19
      refine awp_seq ?_
      refine w_reg ?_
      refine s_do (o_q (.bool (decide ((s8_13 : Int) < (s_1.length : Int)))) rfl rfl rfl) ?_
      refine w_done ?_
      refine k_seq ?_
      refine awp_seq ?_
      refine w_condt rfl hq23 ?_
      refine w_skip ?_
      refine k_seq ?_
      refine awp_seq ?_
      refine w_blk ?_
      refine awp_seq ?_
      refine w_reg ?_
      refine s_do (o_mov (.int .i64 (s8_13 : Int)) rfl) ?_
      refine s_do (o_mov (.int .i64 (s8_13 : Int)) rfl) ?_
      refine w_done ?_
      refine k_seq ?_
      refine awp_seq ?_
      refine w_reg ?_
      refine s_do (o_mov (.int .i64 v_2) rfl) ?_
      refine s_do (o_mov (.lst 1 (s_1.map encI)) rfl) ?_
      refine s_do (o_mov (.int .i64 (s8_13 : Int)) rfl) ?_
      refine s_do (o_iaddrn (enc := encI) rfl rfl hx20) ?_
      refine s_do (o_q (.int .i64 x_25) rfl ⟨rfl, rfl⟩ rfl) ?_
      refine s_do (o_q (.bool (v_2 == x_25)) rfl rfl rfl) ?_
      refine w_done ?_
      refine k_seq ?_
      rcases oi hc1 with ⟨c26, hc1⟩ | ⟨c26, hc1⟩
      · refine w_condt rfl c26 ?_
        refine awp_seq ?_
        refine w_reg ?_
        refine s_do (o_mov (.int .i64 (s8_13 : Int)) rfl) ?_
        refine s_do (o_mov (.int .i64 (s8_13 : Int)) rfl) ?_
        refine w_done ?_
        refine k_seq ?_
        refine w_ret ?_
        obtain rfl := os hc1
        obtain rfl := os hf
        exact r_flat ⟨trivial, trivial⟩ rfl (.refl _)
      · refine w_condf rfl (bf c26) ?_
        refine w_skip ?_
        refine k_blk ?_
        refine k_seq ?_
        refine w_reg ?_
        refine s_do (o_q (.int .i64 (w64 ((s8_13 : Int) + 1))) rfl rfl rfl) ?_
        refine s_do (o_mov (.int .i64 (w64 ((s8_13 : Int) + 1))) rfl) ?_
        refine w_done ?_
        exact k_loopn ⟨(s8_13 + 1), hc1⟩ (mul hlt19) ⟨[], [], _, _, rfl, rfl, ⟨.refl _, ⟨.refl _, ⟨.refl _, ⟨.of_eq (congrArg (AV.int _) (w64_incr hlt19 hl3)), trivial⟩⟩⟩⟩, .refl _⟩
  · rintro ⟨_, rfl⟩
    refine awp_seq ?_
    refine w_reg ?_
    refine s_do (o_mov (.int .i64 (-1)) rfl) ?_
    refine w_done ?_
    refine k_seq ?_
    refine w_ret ?_
    obtain rfl := os hf
    exact r_flat ⟨trivial, trivial⟩ rfl (.refl _)

/- slices.Contains[[]int,int] -/
def c88 : ACode :=
 (.seq (.reg (.q ⟨(some 4), none, .mov (.c (.bool false))⟩
 .done))
 (.seq (.reg (.q ⟨(some 5), none, .mov (.t 0)⟩
 (.q ⟨(some 6), none, .mov (.t 1)⟩
 (.q ⟨(some 7), none, .call 153 [(.t 5), (.t 6)]⟩
 (.q ⟨(some 8), none, .bin .geq (.t 7) (.c (.int .i64 0))⟩
 (.q ⟨(some 4), none, .mov (.t 8)⟩
 .done))))))
 .ret))
theorem fc88 : fcomp Try.prog Try.f88 = some (c88.erase, [.mov (.t 4)], 9) := by kernel_rfl
def slices_Contains_int_int (s_1 : (List Int)) (v_2 : Int) : Option Bool :=
    (slices_Index_int_int s_1 v_2).bind fun r_3 =>
    some (decide (r_3 ≥ 0))
theorem w_slices_Contains_int_int (s_1 : (List Int)) (v_2 : Int) (r : Bool) (hf : slices_Contains_int_int s_1 v_2 = some r) : CallOK Try.prog 88 .flat [(.lst 1 (s_1.map encI)), (.int .i64 v_2)] (.bool r) := by
  refine CallOK.of_awp mixed Try.func88 fc88 nle ?_
  rw [argT_eq]
  unfold slices_Contains_int_int at hf
  unfold c88
  refine (show awp Try.prog false 0 _ (ofL [(0, (.lst 1 (s_1.map encI))), (1, (.int .i64 v_2))]) [] _ from ?_)
  refine awp_seq ?_
  refine w_reg ?_
  refine s_do (o_mov (.bool false) rfl) ?_
  refine w_done ?_
  refine k_seq ?_
  refine awp_seq ?_
  refine w_reg ?_
  obtain ⟨r_3, er4, hf⟩ := ob hf
  refine s_do (o_mov (.lst 1 (s_1.map encI)) rfl) ?_
  refine s_do (o_mov (.int .i64 v_2) rfl) ?_
  refine s_do (o_call (w_slices_Index_int_int _ _ _ er4) rfl (.refl _) rfl) ?_
  refine s_do (o_q (.bool (decide (r_3 ≥ 0))) rfl rfl rfl) ?_
  refine s_do (o_mov (.bool (decide (r_3 ≥ 0))) rfl) ?_
  refine w_done ?_
  refine k_seq ?_
  refine w_ret ?_
  obtain rfl := os hf
  exact r_flat ⟨trivial, trivial⟩ rfl (.refl _)

/- impl.LocksOK -/
def c18 : ACode :=
 (.seq (.reg (.q ⟨(some 2), none, .mov (.c (.bool false))⟩
 .done))
 (.seq (.seq (.reg (.q ⟨(some 7), none, .mov (.t 0)⟩
 (.q ⟨(some 8), none, .len (.t 7)⟩
 (.q ⟨(some 9), none, .mov (.c (.int .i64 0))⟩
 .done))))
 (.block 0 (.loop (.seq (.reg (.q ⟨(some 10), none, .bin .lss (.t 9) (.t 8)⟩
 .done))
 (.seq (.cond (.t 10) .skip
 (.exit 0))
 (.seq (.block 1 (.seq (.reg (.q ⟨(some 11), none, .mov (.t 9)⟩
 (.q ⟨(some 12), none, .iaddr 2 (.t 7) (.t 9)⟩
 (.q ⟨(some 13), none, .load 2 true (.t 12)⟩
 (.q ⟨(some 4), none, .box 2 (.c (.agg [(.str []), .nil]))⟩
 (.q ⟨(some 3), none, .mov (.t 11)⟩
 (.q ⟨none, none, .store 2 (.t 4) (.t 13)⟩
 .done)))))))
 (.seq (.seq (.reg (.q ⟨(some 14), none, .faddr 0 (.t 4)⟩
 (.q ⟨(some 15), none, .load 1 false (.t 14)⟩
 (.l ⟨(some 16), none, .call 85 [(.t 15)]⟩ []
 (.q ⟨(some 17), none, .not (.t 16)⟩
 (.q ⟨(some 18), none, .mov (.t 17)⟩
 (.q ⟨(some 19), (some (18, false)), .mov (.t 3)⟩
 (.q ⟨(some 20), (some (18, false)), .bin .gtr (.t 19) (.c (.int .i64 0))⟩
 (.q ⟨(some 21), (some (18, false)), .mov (.t 20)⟩
 (.q ⟨(some 22), (some (21, true)), .mov (.t 0)⟩
 (.q ⟨(some 23), (some (21, true)), .mov (.t 3)⟩
 (.q ⟨(some 24), (some (21, true)), .bin .sub (.t 23) (.c (.int .i64 1))⟩
 (.q ⟨(some 25), (some (21, true)), .iaddr 2 (.t 22) (.t 24)⟩
 (.q ⟨(some 26), (some (21, true)), .faddr 0 (.t 25)⟩
 (.q ⟨(some 27), (some (21, true)), .load 1 false (.t 26)⟩
 (.q ⟨(some 28), (some (21, true)), .faddr 0 (.t 4)⟩
 (.q ⟨(some 29), (some (21, true)), .load 1 false (.t 28)⟩
 (.q ⟨(some 30), (some (21, true)), .bin .geq (.t 27) (.t 29)⟩
 (.q ⟨(some 31), (some (18, false)), .pick (.t 21) (.t 30) (.c (.bool false))⟩
 (.q ⟨(some 32), none, .pick (.t 18) (.c (.bool true)) (.t 31)⟩
 (.q ⟨(some 33), none, .mov (.t 32)⟩
 (.q ⟨(some 34), (some (33, false)), .faddr 1 (.t 4)⟩
 (.q ⟨(some 35), (some (33, false)), .load 1 false (.t 34)⟩
 (.q ⟨(some 36), (some (33, false)), .len (.t 35)⟩
 (.l ⟨(some 37), (some (33, false)), .call 86 [(.t 36), (.c (.int .i64 1)), (.c (.int .i64 3))]⟩ []
 (.q ⟨(some 38), (some (33, false)), .not (.t 37)⟩
 (.q ⟨(some 39), none, .pick (.t 33) (.c (.bool true)) (.t 38)⟩
 .done)) .non))))))))))))))))))))) .non))))
 (.cut (.cond (.t 39) (.seq (.reg (.q ⟨(some 2), none, .mov (.c (.bool false))⟩
 .done))
 .ret)
 .skip)))
 (.seq (.reg (.q ⟨(some 40), none, .faddr 1 (.t 4)⟩
 (.q ⟨(some 41), none, .load 1 false (.t 40)⟩
 (.q ⟨(some 42), none, .len (.t 41)⟩
 (.q ⟨(some 43), none, .mov (.c (.int .i64 0))⟩
 .done)))))
 (.block 2 (.loop (.seq (.reg (.q ⟨(some 44), none, .bin .lss (.t 43) (.t 42)⟩
 .done))
 (.seq (.cond (.t 44) .skip
 (.exit 2))
 (.seq (.block 3 (.seq (.reg (.q ⟨(some 45), none, .mov (.t 43)⟩
 (.q ⟨(some 46), none, .iaddr 1 (.t 41) (.t 43)⟩
 (.q ⟨(some 47), none, .load 1 false (.t 46)⟩
 (.q ⟨(some 5), none, .mov (.t 45)⟩
 (.q ⟨(some 6), none, .mov (.t 47)⟩
 .done))))))
 (.seq (.reg (.q ⟨(some 48), none, .mov (.t 6)⟩
 (.q ⟨(some 49), none, .call 87 [(.t 48)]⟩
 (.q ⟨(some 50), none, .not (.t 49)⟩
 (.q ⟨(some 51), none, .mov (.t 50)⟩
 (.q ⟨(some 52), (some (51, false)), .faddr 1 (.t 4)⟩
 (.q ⟨(some 53), (some (51, false)), .load 1 false (.t 52)⟩
 (.q ⟨(some 54), (some (51, false)), .mov (.t 5)⟩
 (.q ⟨(some 55), (some (51, false)), .slice 1 (.t 53) none (some (.t 54))⟩
 (.q ⟨(some 56), (some (51, false)), .mov (.t 6)⟩
 (.q ⟨(some 57), (some (51, false)), .call 88 [(.t 55), (.t 56)]⟩
 (.q ⟨(some 58), none, .pick (.t 51) (.c (.bool true)) (.t 57)⟩
 .done))))))))))))
 (.cut (.cond (.t 58) (.seq (.reg (.q ⟨(some 2), none, .mov (.c (.bool false))⟩
 .done))
 .ret)
 .skip)))))
 (.reg (.q ⟨(some 59), none, .bin .add (.t 43) (.c (.int .i64 1))⟩
 (.q ⟨(some 43), none, .mov (.t 59)⟩
 .done))))))))))))
 (.cut (.reg (.q ⟨(some 60), none, .bin .add (.t 9) (.c (.int .i64 1))⟩
 (.q ⟨(some 9), none, .mov (.t 60)⟩
 .done))))))))))
 (.cut (.seq (.reg (.q ⟨(some 61), none, .mov (.t 0)⟩
 (.q ⟨(some 62), none, .len (.t 61)⟩
 (.q ⟨(some 63), none, .bin .leq (.t 62) (.c (.int .i64 6))⟩
 (.q ⟨(some 2), none, .mov (.t 63)⟩
 .done)))))
 .ret))))
theorem fc18 : fcomp Try.prog Try.f18 = some (c18.erase, [.mov (.t 2)], 64) := by kernel_rfl
def impl_LocksOK_L2 (x_348 : GLock) : List Int → Nat → Option (Fl Bool Unit)
  | [], s43_416 =>
    some (.go ())
  | x_442 :: xs, s43_416 =>
    ((impl_isSession x_442).bind fun r_451 =>
    if (!r_451) then
    some true
    else
    if 0 ≤ (s43_416 : Int) ∧ (s43_416 : Int) ≤ (x_348.Queue.length : Int) then
    (slices_Contains_int_int (x_348.Queue.take s43_416) x_442).bind fun r_455 =>
    some r_455
    else none).bind fun s58_449 =>
    if s58_449 then
    some (.ret false)
    else
    impl_LocksOK_L2 x_348 xs (s43_416 + 1)

def impl_LocksOK_L1 (list_1 : (List GLock)) : List GLock → Nat → Option (Fl Bool Unit)
  | [], s9_228 =>
    some (.go ())
  | x_348 :: xs, s9_228 =>
    ((impl_NameOK x_348.Name).bind fun r_364 =>
    if (!r_364) then
    some true
    else
    if (decide ((s9_228 : Int) > 0)) then
    (idx list_1 (w64 ((s9_228 : Int) - 1))).bind fun x_368 =>
    if (!Op.bytesLess x_368.Name x_348.Name) then
    some true
    else
    (impl_within (x_348.Queue.length : Int) 1 3).bind fun r_372 =>
    some (!r_372)
    else
    (impl_within (x_348.Queue.length : Int) 1 3).bind fun r_375 =>
    some (!r_375)).bind fun s39_362 =>
    if s39_362 then
    some (.ret false)
    else
    (impl_LocksOK_L2 x_348 x_348.Queue 0).bind fun q => (match q with
    | .ret r => some (.ret r)
    | .go _ =>
    impl_LocksOK_L1 list_1 xs (s9_228 + 1))

def impl_LocksOK (list_1 : (List GLock)) : Option Bool :=
    (impl_LocksOK_L1 list_1 list_1 0).bind fun q => (match q with
    | .ret r => some r
    | .go _ =>
    some (decide ((list_1.length : Int) ≤ 6)))
theorem w_impl_LocksOK (list_1 : (List GLock)) (r : Bool) (hf : impl_LocksOK list_1 = some r) : CallOK Try.prog 18 .flat [(.lst 2 (list_1.map encGLock))] (.bool r) := by
  refine CallOK.of_awp mixed Try.func18 fc18 nle ?_
  rw [argT_eq]
  unfold impl_LocksOK at hf
  unfold c18
  refine (show awp Try.prog false 0 _ (ofL [(0, (.lst 2 (list_1.map encGLock)))]) [] _ from ?_)
  refine awp_seq ?_
  refine w_reg ?_
  refine s_do (o_mov (.bool false) rfl) ?_
  refine w_done ?_
  refine k_seq ?_
  refine awp_seq ?_
  refine awp_seq ?_
  refine w_reg ?_
  refine s_do (o_mov (.lst 2 (list_1.map encGLock)) rfl) ?_
  refine s_dof (o_len (enc := encGLock) rfl) fun hl2 => ?_
  refine s_do (o_mov (.int .i64 0) rfl) ?_
  refine w_done ?_
  refine k_seq ?_
  obtain ⟨p341, hb1, hf⟩ := ob hf
  refine awp_cutx (X := {q : Unit // p341 = .go q}) (fun q => ([(0, (.lst 2 (list_1.map encGLock)))], [])) ?_ ?_
  · refine awp_loop (X := {q : Nat // impl_LocksOK_L1 list_1 (list_1.drop q) q = some p341}) (fun q => ([(0, (.lst 2 (list_1.map encGLock))), (7, (.lst 2 (list_1.map encGLock))), (8, (.int .i64 (list_1.length : Int))), (9, (.int .i64 (q.1 : Int)))], [])) (fun q => list_1.length - q.1) ⟨0, hb1⟩ ⟨[], [], _, _, rfl, rfl, ⟨.refl _, ⟨.refl _, ⟨.refl _, ⟨.refl _, trivial⟩⟩⟩⟩, .refl _⟩ ?_
    rintro ⟨s9_228, hc1⟩
    have hc1 : impl_LocksOK_L1 list_1 (list_1.drop s9_228) s9_228 = some p341 := hc1
    refine (show awp Try.prog false 0 _ (ofL [(0, (.lst 2 (list_1.map encGLock))), (7, (.lst 2 (list_1.map encGLock))), (8, (.int .i64 (list_1.length : Int))), (9, (.int .i64 (s9_228 : Int)))]) [] _ from ?_)
    rcases dropc list_1 s9_228 with ⟨hie344, hd347⟩ | ⟨hlt342, x_348, hx343, hd347⟩
    · rw [hd347, impl_LocksOK_L1.eq_1] at hc1
      have hq346 := dlf hie344
      refine awp_seq ?_
      refine w_reg ?_
      refine s_do (o_q (.bool (decide ((s9_228 : Int) < (list_1.length : Int)))) rfl rfl rfl) ?_
      refine w_done ?_
      refine k_seq ?_
      refine awp_seq ?_
      refine w_condf rfl hq346 ?_
      refine w_exit ?_
      refine k_seqx ?_
      refine k_loopx ?_
      refine k_blkx ?_
      obtain rfl := os hc1
      exact k_cutn ⟨_, rfl⟩ ⟨[], [], _, _, rfl, rfl, ⟨.refl _, trivial⟩, .refl _⟩
    · rw [hd347, impl_LocksOK_L1.eq_2] at hc1
      have hq346 := dlt hlt342
      refine awp_seq ?_
      refine w_reg ?_
      refine s_do (o_q (.bool (decide ((s9_228 : Int) < (list_1.length : Int)))) rfl rfl rfl) ?_
      refine w_done ?_
      refine k_seq ?_
      refine awp_seq ?_
      refine w_condt rfl hq346 ?_
      refine w_skip ?_
      refine k_seq ?_
      refine awp_seq ?_
      refine w_blk ?_
      refine awp_seq ?_
      refine w_reg ?_
      refine s_do (o_mov (.int .i64 (s9_228 : Int)) rfl) ?_
      refine s_do (o_iaddrn (enc := encGLock) rfl rfl hx343) ?_
      refine s_do (o_q (encGLock x_348) rfl nle rfl) ?_
      refine s_do (o_box (j := 0) (c := (.agg [(.str []), .nil])) rfl trivial rfl rfl) ?_
      refine s_do (o_mov (.int .i64 (s9_228 : Int)) rfl) ?_
      refine s_do0 (o_storebox (v := (.agg [(.str x_348.Name), (.lst 1 (x_348.Queue.map encI))])) (y' := (.agg [(.str x_348.Name), (.lst 1 (x_348.Queue.map encI))])) rfl rfl rfl trivial ⟨rfl, nle⟩ ⟨⟨rfl, trivial⟩, ⟨⟨rfl, trivial⟩, trivial⟩⟩ rfl) ?_
      refine w_done ?_
      refine k_seq ?_
      refine awp_seq ?_
      refine awp_seq ?_
      obtain ⟨s39_362, hb2, hc1⟩ := ob hc1
      refine awp_cut ([(0, (.lst 2 (list_1.map encGLock))), (4, (.ptr 0 0 0)), (7, (.lst 2 (list_1.map encGLock))), (8, (.int .i64 (list_1.length : Int))), (9, (.int .i64 (s9_228 : Int))), (39, (.bool s39_362))], [.box 2 (.agg [(.str x_348.Name), (.lst 1 (x_348.Queue.map encI))])]) ?_ ?_
      · refine w_reg ?_
        obtain ⟨r_364, er365, hb2⟩ := ob hb2
        rcases oi hb2 with ⟨c366, hb2⟩ | ⟨c366, hb2⟩
        · refine s_do (o_q (.ptr 0 0 0) rfl trivial rfl) ?_
          refine s_do (o_q (.str x_348.Name) rfl nle rfl) ?_
          refine s_dol (o_call (w_impl_NameOK _ _ er365) rfl (.refl _) rfl) a_same trivial ?_
          refine s_do (o_q (.bool (!r_364)) rfl trivial rfl) ?_
          refine s_do (o_mov (.bool (!r_364)) rfl) ?_
          refine s_lit (s := 18) (b := true) rfl c366 ?_
          refine s_off rfl rfl ?_
          refine s_off rfl rfl ?_
          refine s_off rfl rfl ?_
          refine s_offs rfl ?_
          refine s_offs rfl ?_
          refine s_offs rfl ?_
          refine s_offs rfl ?_
          refine s_offs rfl ?_
          refine s_offs rfl ?_
          refine s_offs rfl ?_
          refine s_offs rfl ?_
          refine s_offs rfl ?_
          refine s_off rfl rfl ?_
          refine s_do (o_q (.bool true) rfl trivial rfl) ?_
          refine s_do (o_mov (.bool true) rfl) ?_
          refine s_off rfl rfl ?_
          refine s_off rfl rfl ?_
          refine s_off rfl rfl ?_
          refine s_offl rfl rfl trivial ?_
          refine s_off rfl rfl ?_
          refine s_do (o_q (.bool true) rfl trivial rfl) ?_
          refine w_done ?_
          obtain rfl := os hb2
          exact ⟨[], [0], _, _, rfl, rfl, ⟨.refl _, ⟨.refl _, ⟨.refl _, ⟨.refl _, ⟨.refl _, ⟨.refl _, trivial⟩⟩⟩⟩⟩⟩, .refl _⟩
        · rcases oi hb2 with ⟨c367, hb2⟩ | ⟨c367, hb2⟩
          · obtain ⟨x_368, ex369, hb2⟩ := ob hb2
            rcases oi hb2 with ⟨c370, hb2⟩ | ⟨c370, hb2⟩
            · refine s_do (o_q (.ptr 0 0 0) rfl trivial rfl) ?_
              refine s_do (o_q (.str x_348.Name) rfl nle rfl) ?_
              refine s_dol (o_call (w_impl_NameOK _ _ er365) rfl (.refl _) rfl) a_same trivial ?_
              refine s_do (o_q (.bool (!r_364)) rfl trivial rfl) ?_
              refine s_do (o_mov (.bool (!r_364)) rfl) ?_
              refine s_lit (s := 18) (b := false) rfl (bf c366) ?_
              refine s_on rfl ?_
              refine s_do (o_mov (.int .i64 (s9_228 : Int)) rfl) ?_
              refine s_on rfl ?_
              refine s_do (o_q (.bool (decide ((s9_228 : Int) > 0))) rfl rfl rfl) ?_
              refine s_on rfl ?_
              refine s_do (o_mov (.bool (decide ((s9_228 : Int) > 0))) rfl) ?_
              refine s_lit (s := 21) (b := true) rfl c367 ?_
              refine s_on rfl ?_
              refine s_do (o_mov (.lst 2 (list_1.map encGLock)) rfl) ?_
              refine s_on rfl ?_
              refine s_do (o_mov (.int .i64 (s9_228 : Int)) rfl) ?_
              refine s_on rfl ?_
              refine s_do (o_q (.int .i64 (w64 ((s9_228 : Int) - 1))) rfl rfl rfl) ?_
              refine s_on rfl ?_
              refine s_do (o_iaddr (enc := encGLock) rfl rfl (idx0 ex369) (idx1 ex369)) ?_
              refine s_on rfl ?_
              refine s_do (o_q (.iptr (encGLock x_368) 0) rfl trivial rfl) ?_
              refine s_on rfl ?_
              refine s_do (o_q (.str x_368.Name) rfl nle rfl) ?_
              refine s_on rfl ?_
              refine s_do (o_q (.ptr 0 0 0) rfl trivial rfl) ?_
              refine s_on rfl ?_
              refine s_do (o_q (.str x_348.Name) rfl nle rfl) ?_
              refine s_on rfl ?_
              refine s_do (o_q (.bool (!Op.bytesLess x_368.Name x_348.Name)) rfl trivial rfl) ?_
              refine s_on rfl ?_
              refine s_do (o_q (.bool (!Op.bytesLess x_368.Name x_348.Name)) rfl trivial rfl) ?_
              refine s_do (o_q (.bool (!Op.bytesLess x_368.Name x_348.Name)) rfl trivial rfl) ?_
              refine s_do (o_mov (.bool (!Op.bytesLess x_368.Name x_348.Name)) rfl) ?_
              refine s_lit (s := 33) (b := true) rfl c370 ?_
              refine s_off rfl rfl ?_
              refine s_off rfl rfl ?_
              refine s_off rfl rfl ?_
              refine s_offl rfl rfl trivial ?_
              refine s_off rfl rfl ?_
              refine s_do (o_q (.bool true) rfl trivial rfl) ?_
              refine w_done ?_
              obtain rfl := os hb2
              exact ⟨[], [0], _, _, rfl, rfl, ⟨.refl _, ⟨.refl _, ⟨.refl _, ⟨.refl _, ⟨.refl _, ⟨.refl _, trivial⟩⟩⟩⟩⟩⟩, .refl _⟩
            · obtain ⟨r_372, er373, hb2⟩ := ob hb2
              refine s_do (o_q (.ptr 0 0 0) rfl trivial rfl) ?_
              refine s_do (o_q (.str x_348.Name) rfl nle rfl) ?_
              refine s_dol (o_call (w_impl_NameOK _ _ er365) rfl (.refl _) rfl) a_same trivial ?_
              refine s_do (o_q (.bool (!r_364)) rfl trivial rfl) ?_
              refine s_do (o_mov (.bool (!r_364)) rfl) ?_
              refine s_lit (s := 18) (b := false) rfl (bf c366) ?_
              refine s_on rfl ?_
              refine s_do (o_mov (.int .i64 (s9_228 : Int)) rfl) ?_
              refine s_on rfl ?_
              refine s_do (o_q (.bool (decide ((s9_228 : Int) > 0))) rfl rfl rfl) ?_
              refine s_on rfl ?_
              refine s_do (o_mov (.bool (decide ((s9_228 : Int) > 0))) rfl) ?_
              refine s_lit (s := 21) (b := true) rfl c367 ?_
              refine s_on rfl ?_
              refine s_do (o_mov (.lst 2 (list_1.map encGLock)) rfl) ?_
              refine s_on rfl ?_
              refine s_do (o_mov (.int .i64 (s9_228 : Int)) rfl) ?_
              refine s_on rfl ?_
              refine s_do (o_q (.int .i64 (w64 ((s9_228 : Int) - 1))) rfl rfl rfl) ?_
              refine s_on rfl ?_
              refine s_do (o_iaddr (enc := encGLock) rfl rfl (idx0 ex369) (idx1 ex369)) ?_
              refine s_on rfl ?_
              refine s_do (o_q (.iptr (encGLock x_368) 0) rfl trivial rfl) ?_
              refine s_on rfl ?_
              refine s_do (o_q (.str x_368.Name) rfl nle rfl) ?_
              refine s_on rfl ?_
              refine s_do (o_q (.ptr 0 0 0) rfl trivial rfl) ?_
              refine s_on rfl ?_
              refine s_do (o_q (.str x_348.Name) rfl nle rfl) ?_
              refine s_on rfl ?_
              refine s_do (o_q (.bool (!Op.bytesLess x_368.Name x_348.Name)) rfl trivial rfl) ?_
              refine s_on rfl ?_
              refine s_do (o_q (.bool (!Op.bytesLess x_368.Name x_348.Name)) rfl trivial rfl) ?_
              refine s_do (o_q (.bool (!Op.bytesLess x_368.Name x_348.Name)) rfl trivial rfl) ?_
              refine s_do (o_mov (.bool (!Op.bytesLess x_368.Name x_348.Name)) rfl) ?_
              refine s_lit (s := 33) (b := false) rfl (bf c370) ?_
              refine s_on rfl ?_
              refine s_do (o_q (.ptr 0 0 1) rfl trivial rfl) ?_
              refine s_on rfl ?_
              refine s_do (o_q (.lst 1 (x_348.Queue.map encI)) rfl nle rfl) ?_
              refine s_on rfl ?_
              refine s_dof (o_len (enc := encI) rfl) fun hl371 => ?_
              refine s_onl rfl ?_
              refine s_dol (o_call (w_impl_within _ _ _ _ er373) rfl (.refl _) rfl) a_same trivial ?_
              refine s_on rfl ?_
              refine s_do (o_q (.bool (!r_372)) rfl trivial rfl) ?_
              refine s_do (o_q (.bool (!r_372)) rfl trivial rfl) ?_
              refine w_done ?_
              obtain rfl := os hb2
              exact ⟨[], [0], _, _, rfl, rfl, ⟨.refl _, ⟨.refl _, ⟨.refl _, ⟨.refl _, ⟨.refl _, ⟨.refl _, trivial⟩⟩⟩⟩⟩⟩, .refl _⟩
          · obtain ⟨r_375, er376, hb2⟩ := ob hb2
            refine s_do (o_q (.ptr 0 0 0) rfl trivial rfl) ?_
            refine s_do (o_q (.str x_348.Name) rfl nle rfl) ?_
            refine s_dol (o_call (w_impl_NameOK _ _ er365) rfl (.refl _) rfl) a_same trivial ?_
            refine s_do (o_q (.bool (!r_364)) rfl trivial rfl) ?_
            refine s_do (o_mov (.bool (!r_364)) rfl) ?_
            refine s_lit (s := 18) (b := false) rfl (bf c366) ?_
            refine s_on rfl ?_
            refine s_do (o_mov (.int .i64 (s9_228 : Int)) rfl) ?_
            refine s_on rfl ?_
            refine s_do (o_q (.bool (decide ((s9_228 : Int) > 0))) rfl rfl rfl) ?_
            refine s_on rfl ?_
            refine s_do (o_mov (.bool (decide ((s9_228 : Int) > 0))) rfl) ?_
            refine s_lit (s := 21) (b := false) rfl (bf c367) ?_
            refine s_off rfl rfl ?_
            refine s_off rfl rfl ?_
            refine s_off rfl rfl ?_
            refine s_off rfl rfl ?_
            refine s_off rfl rfl ?_
            refine s_off rfl rfl ?_
            refine s_off rfl rfl ?_
            refine s_off rfl rfl ?_
            refine s_off rfl rfl ?_
            refine s_on rfl ?_
            refine s_do (o_q (.bool false) rfl trivial rfl) ?_
            refine s_do (o_q (.bool false) rfl trivial rfl) ?_
            refine s_do (o_mov (.bool false) rfl) ?_
            refine s_on rfl ?_
            refine s_do (o_q (.ptr 0 0 1) rfl trivial rfl) ?_
            refine s_on rfl ?_
            refine s_do (o_q (.lst 1 (x_348.Queue.map encI)) rfl nle rfl) ?_
            refine s_on rfl ?_
            refine s_dof (o_len (enc := encI) rfl) fun hl374 => ?_
            refine s_onl rfl ?_
            refine s_dol (o_call (w_impl_within _ _ _ _ er376) rfl (.refl _) rfl) a_same trivial ?_
            refine s_on rfl ?_
            refine s_do (o_q (.bool (!r_375)) rfl trivial rfl) ?_
            refine s_do (o_q (.bool (!r_375)) rfl trivial rfl) ?_
            refine w_done ?_
            obtain rfl := os hb2
            exact ⟨[], [0], _, _, rfl, rfl, ⟨.refl _, ⟨.refl _, ⟨.refl _, ⟨.refl _, ⟨.refl _, ⟨.refl _, trivial⟩⟩⟩⟩⟩⟩, .refl _⟩
      · rcases oi hc1 with ⟨c377, hc1⟩ | ⟨c377, hc1⟩
        · refine w_condt rfl c377 ?_
          refine awp_seq ?_
          refine w_reg ?_
          refine s_do (o_mov (.bool false) rfl) ?_
          refine w_done ?_
          refine k_seq ?_
          refine w_ret ?_
          obtain rfl := os hc1
          obtain rfl := os hf
          exact r_flat ⟨trivial, trivial⟩ rfl (.refl _)
        · refine w_condf rfl (bf c377) ?_
          refine w_skip ?_
          refine k_seq ?_
          refine awp_seq ?_
          refine w_reg ?_
          refine s_do (o_q (.ptr 0 0 1) rfl trivial rfl) ?_
          refine s_do (o_q (.lst 1 (x_348.Queue.map encI)) rfl nle rfl) ?_
          refine s_dof (o_len (enc := encI) rfl) fun hl378 => ?_
          refine s_do (o_mov (.int .i64 0) rfl) ?_
          refine w_done ?_
          refine k_seq ?_
          obtain ⟨p435, hb2, hc1⟩ := ob hc1
          refine awp_cutxb (X := {q : Unit // p435 = .go q}) (fun q => ([(0, (.lst 2 (list_1.map encGLock))), (7, (.lst 2 (list_1.map encGLock))), (8, (.int .i64 (list_1.length : Int))), (9, (.int .i64 (s9_228 : Int)))], [])) ?_ ?_
          · refine awp_loop (X := {q : Nat // impl_LocksOK_L2 x_348 (x_348.Queue.drop q) q = some p435}) (fun q => ([(0, (.lst 2 (list_1.map encGLock))), (4, (.ptr 0 0 0)), (7, (.lst 2 (list_1.map encGLock))), (8, (.int .i64 (list_1.length : Int))), (9, (.int .i64 (s9_228 : Int))), (41, (.lst 1 (x_348.Queue.map encI))), (42, (.int .i64 (x_348.Queue.length : Int))), (43, (.int .i64 (q.1 : Int)))], [.box 2 (.agg [(.str x_348.Name), (.lst 1 (x_348.Queue.map encI))])])) (fun q => x_348.Queue.length - q.1) ⟨0, hb2⟩ ⟨[], [0], _, _, rfl, rfl, ⟨.refl _, ⟨.refl _, ⟨.refl _, ⟨.refl _, ⟨.refl _, ⟨.refl _, ⟨.refl _, ⟨.refl _, trivial⟩⟩⟩⟩⟩⟩⟩⟩, .refl _⟩ ?_
            rintro ⟨s43_416, hc2⟩
            have hc2 : impl_LocksOK_L2 x_348 (x_348.Queue.drop s43_416) s43_416 = some p435 := hc2
            refine (show awp Try.prog false 0 _ (ofL [(0, (.lst 2 (list_1.map encGLock))), (4, (.ptr 0 0 0)), (7, (.lst 2 (list_1.map encGLock))), (8, (.int .i64 (list_1.length : Int))), (9, (.int .i64 (s9_228 : Int))), (41, (.lst 1 (x_348.Queue.map encI))), (42, (.int .i64 (x_348.Queue.length : Int))), (43, (.int .i64 (s43_416 : Int)))]) [.box 2 (.agg [(.str x_348.Name), (.lst 1 (x_348.Queue.map encI))])] _ from ?_)
            rcases dropc x_348.Queue s43_416 with ⟨hie438, hd441⟩ | ⟨hlt436, x_442, hx437, hd441⟩
            · rw [hd441, impl_LocksOK_L2.eq_1] at hc2
              have hq440 := dlf hie438
              refine awp_seq ?_
              refine w_reg ?_
              refine s_do (o_q (.bool (decide ((s43_416 : Int) < (x_348.Queue.length : Int)))) rfl rfl rfl) ?_
              refine w_done ?_
              refine k_seq ?_
              refine awp_seq ?_
              refine w_condf rfl hq440 ?_
              refine w_exit ?_
              refine k_seqx ?_
              refine k_loopx ?_
              refine k_blkx ?_
              refine k_blk ?_
              obtain rfl := os hc2
              exact k_cutn ⟨_, rfl⟩ ⟨[], [], _, _, rfl, rfl, ⟨.refl _, ⟨.refl _, ⟨.refl _, ⟨.refl _, trivial⟩⟩⟩⟩, .refl _⟩
            · rw [hd441, impl_LocksOK_L2.eq_2] at hc2
              have hq440 := dlt hlt436
              refine awp_seq ?_
              refine w_reg ?_
              refine s_do (o_q (.bool (decide ((s43_416 : Int) < (x_348.Queue.length : Int)))) rfl rfl rfl) ?_
              refine w_done ?_
              refine k_seq ?_
              refine awp_seq ?_
              refine w_condt rfl hq440 ?_
              refine w_skip ?_
              refine k_seq ?_
              refine awp_seq ?_
              refine w_blk ?_
              refine awp_seq ?_
              refine w_reg ?_
              refine s_do (o_mov (.int .i64 (s43_416 : Int)) rfl) ?_
              refine s_do (o_iaddrn (enc := encI) rfl rfl hx437) ?_
              refine s_do (o_q (.int .i64 x_442) rfl ⟨rfl, rfl⟩ rfl) ?_
              refine s_do (o_mov (.int .i64 (s43_416 : Int)) rfl) ?_
              refine s_do (o_mov (.int .i64 x_442) rfl) ?_
              refine w_done ?_
              refine k_seq ?_
              refine awp_seq ?_
              obtain ⟨s58_449, hb3, hc2⟩ := ob hc2
              refine awp_cut ([(0, (.lst 2 (list_1.map encGLock))), (4, (.ptr 0 0 0)), (7, (.lst 2 (list_1.map encGLock))), (8, (.int .i64 (list_1.length : Int))), (9, (.int .i64 (s9_228 : Int))), (41, (.lst 1 (x_348.Queue.map encI))), (42, (.int .i64 (x_348.Queue.length : Int))), (43, (.int .i64 (s43_416 : Int))), (58, (.bool s58_449))], [.box 2 (.agg [(.str x_348.Name), (.lst 1 (x_348.Queue.map encI))])]) ?_ ?_
              · refine w_reg ?_
                obtain ⟨r_451, er452, hb3⟩ := ob hb3
                rcases oi hb3 with ⟨c453, hb3⟩ | ⟨c453, hb3⟩
                · refine s_do (o_mov (.int .i64 x_442) rfl) ?_
                  refine s_do (o_call (w_impl_isSession _ _ er452) rfl (.refl _) rfl) ?_
                  refine s_do (o_q (.bool (!r_451)) rfl trivial rfl) ?_
                  refine s_do (o_mov (.bool (!r_451)) rfl) ?_
                  refine s_lit (s := 51) (b := true) rfl c453 ?_
                  refine s_off rfl rfl ?_
                  refine s_off rfl rfl ?_
                  refine s_off rfl rfl ?_
                  refine s_off rfl rfl ?_
                  refine s_off rfl rfl ?_
                  refine s_off rfl rfl ?_
                  refine s_do (o_q (.bool true) rfl trivial rfl) ?_
                  refine w_done ?_
                  obtain rfl := os hb3
                  exact ⟨[], [0], _, _, rfl, rfl, ⟨.refl _, ⟨.refl _, ⟨.refl _, ⟨.refl _, ⟨.refl _, ⟨.refl _, ⟨.refl _, ⟨.refl _, ⟨.refl _, trivial⟩⟩⟩⟩⟩⟩⟩⟩⟩, .refl _⟩
                · obtain ⟨g454, hb3⟩ := og hb3
                  obtain ⟨r_455, er456, hb3⟩ := ob hb3
                  refine s_do (o_mov (.int .i64 x_442) rfl) ?_
                  refine s_do (o_call (w_impl_isSession _ _ er452) rfl (.refl _) rfl) ?_
                  refine s_do (o_q (.bool (!r_451)) rfl trivial rfl) ?_
                  refine s_do (o_mov (.bool (!r_451)) rfl) ?_
                  refine s_lit (s := 51) (b := false) rfl (bf c453) ?_
                  refine s_on rfl ?_
                  refine s_do (o_q (.ptr 0 0 1) rfl trivial rfl) ?_
                  refine s_on rfl ?_
                  refine s_do (o_q (.lst 1 (x_348.Queue.map encI)) rfl nle rfl) ?_
                  refine s_on rfl ?_
                  refine s_do (o_mov (.int .i64 (s43_416 : Int)) rfl) ?_
                  refine s_on rfl ?_
                  refine s_do (o_slt (enc := encI) rfl rfl g454.1 g454.2) ?_
                  refine s_on rfl ?_
                  refine s_do (o_mov (.int .i64 x_442) rfl) ?_
                  refine s_on rfl ?_
                  refine s_do (o_call (w_slices_Contains_int_int _ _ _ er456) rfl (.refl _) rfl) ?_
                  refine s_do (o_q (.bool r_455) rfl trivial rfl) ?_
                  refine w_done ?_
                  obtain rfl := os hb3
                  exact ⟨[], [0], _, _, rfl, rfl, ⟨.refl _, ⟨.refl _, ⟨.refl _, ⟨.refl _, ⟨.refl _, ⟨.refl _, ⟨.refl _, ⟨.refl _, ⟨.refl _, trivial⟩⟩⟩⟩⟩⟩⟩⟩⟩, .refl _⟩
              · rcases oi hc2 with ⟨c457, hc2⟩ | ⟨c457, hc2⟩
                · refine w_condt rfl c457 ?_
                  refine awp_seq ?_
                  refine w_reg ?_
                  refine s_do (o_mov (.bool false) rfl) ?_
                  refine w_done ?_
                  refine k_seq ?_
                  refine w_ret ?_
                  obtain rfl := os hc2
                  obtain rfl := os hc1
                  obtain rfl := os hf
                  exact r_flat ⟨trivial, trivial⟩ rfl (.refl _)
                · refine w_condf rfl (bf c457) ?_
                  refine w_skip ?_
                  refine k_blk ?_
                  refine k_seq ?_
                  refine w_reg ?_
                  refine s_do (o_q (.int .i64 (w64 ((s43_416 : Int) + 1))) rfl rfl rfl) ?_
                  refine s_do (o_mov (.int .i64 (w64 ((s43_416 : Int) + 1))) rfl) ?_
                  refine w_done ?_
                  exact k_loopn ⟨(s43_416 + 1), hc2⟩ (mul hlt436) ⟨[], [0], _, _, rfl, rfl, ⟨.refl _, ⟨.refl _, ⟨.refl _, ⟨.refl _, ⟨.refl _, ⟨.refl _, ⟨.refl _, ⟨.of_eq (congrArg (AV.int _) (w64_incr hlt436 hl378)), trivial⟩⟩⟩⟩⟩⟩⟩⟩, .refl _⟩
          · rintro ⟨_, rfl⟩
            refine w_reg ?_
            refine s_do (o_q (.int .i64 (w64 ((s9_228 : Int) + 1))) rfl rfl rfl) ?_
            refine s_do (o_mov (.int .i64 (w64 ((s9_228 : Int) + 1))) rfl) ?_
            refine w_done ?_
            exact k_loopn ⟨(s9_228 + 1), hc1⟩ (mul hlt342) ⟨[], [], _, _, rfl, rfl, ⟨.refl _, ⟨.refl _, ⟨.refl _, ⟨.of_eq (congrArg (AV.int _) (w64_incr hlt342 hl2)), trivial⟩⟩⟩⟩, .refl _⟩
  · rintro ⟨_, rfl⟩
    refine awp_seq ?_
    refine w_reg ?_
    refine s_do (o_mov (.lst 2 (list_1.map encGLock)) rfl) ?_
    refine s_dof (o_len (enc := encGLock) rfl) fun hl458 => ?_
    refine s_do (o_q (.bool (decide ((list_1.length : Int) ≤ 6))) rfl rfl rfl) ?_
    refine s_do (o_mov (.bool (decide ((list_1.length : Int) ≤ 6))) rfl) ?_
    refine w_done ?_
    refine k_seq ?_
    refine w_ret ?_
    obtain rfl := os hf
    exact r_flat ⟨trivial, trivial⟩ rfl (.refl _)

/- laws.eqIntS -/
def c154 : ACode :=
 (.seq (.reg (.q ⟨(some 4), none, .mov (.c (.bool false))⟩
 .done))
 (.seq (.seq (.reg (.q ⟨(some 6), none, .mov (.t 0)⟩
 (.q ⟨(some 7), none, .len (.t 6)⟩
 (.q ⟨(some 8), none, .mov (.t 1)⟩
 (.q ⟨(some 9), none, .len (.t 8)⟩
 (.q ⟨(some 10), none, .bin .neq (.t 7) (.t 9)⟩
 .done))))))
 (.cond (.t 10) (.seq (.reg (.q ⟨(some 4), none, .mov (.c (.bool false))⟩
 .done))
 .ret)
 .skip))
 (.seq (.seq (.reg (.q ⟨(some 5), none, .mov (.c (.int .i64 0))⟩
 .done))
 (.block 0 (.loop (.seq (.seq (.reg (.q ⟨(some 11), none, .mov (.t 5)⟩
 (.q ⟨(some 12), none, .mov (.t 0)⟩
 (.q ⟨(some 13), none, .len (.t 12)⟩
 (.q ⟨(some 14), none, .bin .lss (.t 11) (.t 13)⟩
 .done)))))
 (.cond (.t 14) .skip
 (.exit 0)))
 (.seq (.block 1 (.seq (.reg (.q ⟨(some 17), none, .mov (.t 0)⟩
 (.q ⟨(some 18), none, .mov (.t 5)⟩
 (.q ⟨(some 19), none, .iaddr 1 (.t 17) (.t 18)⟩
 (.q ⟨(some 20), none, .load 1 false (.t 19)⟩
 (.q ⟨(some 21), none, .mov (.t 1)⟩
 (.q ⟨(some 22), none, .mov (.t 5)⟩
 (.q ⟨(some 23), none, .iaddr 1 (.t 21) (.t 22)⟩
 (.q ⟨(some 24), none, .load 1 false (.t 23)⟩
 (.q ⟨(some 25), none, .bin .neq (.t 20) (.t 24)⟩
 .done))))))))))
 (.cond (.t 25) (.seq (.reg (.q ⟨(some 4), none, .mov (.c (.bool false))⟩
 .done))
 .ret)
 .skip)))
 (.reg (.q ⟨(some 15), none, .mov (.t 5)⟩
 (.q ⟨(some 16), none, .bin .add (.t 15) (.c (.int .i64 1))⟩
 (.q ⟨(some 5), none, .mov (.t 16)⟩
 .done)))))))))
 (.cut (.seq (.reg (.q ⟨(some 4), none, .mov (.c (.bool true))⟩
 .done))
 .ret)))))
theorem fc154 : fcomp Try.prog Try.f154 = some (c154.erase, [.mov (.t 4)], 26) := by kernel_rfl
def laws_eqIntS_L1 (b_2 : (List Int)) : List Int → Nat → Option (Fl Bool Unit)
  | [], i_21 =>
    some (.go ())
  | x_37 :: xs, i_21 =>
    (idx b_2 (i_21 : Int)).bind fun x_40 =>
    if (x_37 != x_40) then
    some (.ret false)
    else
    laws_eqIntS_L1 b_2 xs (i_21 + 1)

def laws_eqIntS (a_1 : (List Int)) (b_2 : (List Int)) : Option Bool :=
    if ((a_1.length : Int) != (b_2.length : Int)) then
    some false
    else
    (laws_eqIntS_L1 b_2 a_1 0).bind fun q => (match q with
    | .ret r => some r
    | .go _ =>
    some true)
theorem w_laws_eqIntS (a_1 : (List Int)) (b_2 : (List Int)) (r : Bool) (hf : laws_eqIntS a_1 b_2 = some r) : CallOK Try.prog 154 .flat [(.lst 1 (a_1.map encI)), (.lst 1 (b_2.map encI))] (.bool r) := by
  refine CallOK.of_awp mixed Try.func154 fc154 nle ?_
  rw [argT_eq]
  unfold laws_eqIntS at hf
  unfold c154
  refine (show awp Try.prog false 0 _ (ofL [(0, (.lst 1 (a_1.map encI))), (1, (.lst 1 (b_2.map encI)))]) [] _ from ?_)
  refine awp_seq ?_
  refine w_reg ?_
  refine s_do (o_mov (.bool false) rfl) ?_
  refine w_done ?_
  refine k_seq ?_
  refine awp_seq ?_
  refine awp_seq ?_
  refine w_reg ?_
  refine s_do (o_mov (.lst 1 (a_1.map encI)) rfl) ?_
  refine s_dof (o_len (enc := encI) rfl) fun hl3 => ?_
  refine s_do (o_mov (.lst 1 (b_2.map encI)) rfl) ?_
  refine s_dof (o_len (enc := encI) rfl) fun hl4 => ?_
  refine s_do (o_q (.bool ((a_1.length : Int) != (b_2.length : Int))) rfl rfl rfl) ?_
  refine w_done ?_
  refine k_seq ?_
  rcases oi hf with ⟨c5, hf⟩ | ⟨c5, hf⟩
  · refine w_condt rfl c5 ?_
    refine awp_seq ?_
    refine w_reg ?_
    refine s_do (o_mov (.bool false) rfl) ?_
    refine w_done ?_
    refine k_seq ?_
    refine w_ret ?_
    obtain rfl := os hf
    exact r_flat ⟨trivial, trivial⟩ rfl (.refl _)
  · refine w_condf rfl (bf c5) ?_
    refine w_skip ?_
    refine k_seq ?_
    refine awp_seq ?_
    refine awp_seq ?_
    refine w_reg ?_
    refine s_do (o_mov (.int .i64 0) rfl) ?_
    refine w_done ?_
    refine k_seq ?_
    obtain ⟨p30, hb1, hf⟩ := ob hf
    refine awp_cutx (X := {q : Unit // p30 = .go q}) (fun q => ([], [])) ?_ ?_
    · refine awp_loop (X := {q : Nat // laws_eqIntS_L1 b_2 (a_1.drop q) q = some p30}) (fun q => ([(0, (.lst 1 (a_1.map encI))), (1, (.lst 1 (b_2.map encI))), (5, (.int .i64 (q.1 : Int)))], [])) (fun q => a_1.length - q.1) ⟨0, hb1⟩ ⟨[], [], _, _, rfl, rfl, ⟨.refl _, ⟨.refl _, ⟨.refl _, trivial⟩⟩⟩, .refl _⟩ ?_
      rintro ⟨i_21, hc1⟩
      have hc1 : laws_eqIntS_L1 b_2 (a_1.drop i_21) i_21 = some p30 := hc1
      refine (show awp Try.prog false 0 _ (ofL [(0, (.lst 1 (a_1.map encI))), (1, (.lst 1 (b_2.map encI))), (5, (.int .i64 (i_21 : Int)))]) [] _ from ?_)
      rcases dropc a_1 i_21 with ⟨hie33, hd36⟩ | ⟨hlt31, x_37, hx32, hd36⟩
      · rw [hd36, laws_eqIntS_L1.eq_1] at hc1
        have hq35 := dlf hie33
        refine awp_seq ?_
        refine awp_seq ?_
        refine w_reg ?_
        refine s_do (o_mov (.int .i64 (i_21 : Int)) rfl) ?_
        refine s_do (o_mov (.lst 1 (a_1.map encI)) rfl) ?_
        refine s_dof (o_len (enc := encI) rfl) fun hl38 => ?_
        refine s_do (o_q (.bool (decide ((i_21 : Int) < (a_1.length : Int)))) rfl rfl rfl) ?_
        refine w_done ?_
        refine k_seq ?_
        refine w_condf rfl hq35 ?_
        refine w_exit ?_
        refine k_seqx ?_
        refine k_loopx ?_
        refine k_blkx ?_
        obtain rfl := os hc1
        exact k_cutn ⟨_, rfl⟩ ⟨[], [], _, _, rfl, rfl, trivial, .refl _⟩
      · rw [hd36, laws_eqIntS_L1.eq_2] at hc1
        have hq35 := dlt hlt31
        refine awp_seq ?_
        refine awp_seq ?_
        refine w_reg ?_
        refine s_do (o_mov (.int .i64 (i_21 : Int)) rfl) ?_
        refine s_do (o_mov (.lst 1 (a_1.map encI)) rfl) ?_
        refine s_dof (o_len (enc := encI) rfl) fun hl39 => ?_
        refine s_do (o_q (.bool (decide ((i_21 : Int) < (a_1.length : Int)))) rfl rfl rfl) ?_
        refine w_done ?_
        refine k_seq ?_
        refine w_condt rfl hq35 ?_
        refine w_skip ?_
        refine k_seq ?_
        refine awp_seq ?_
        refine w_blk ?_
        refine awp_seq ?_
        refine w_reg ?_
        obtain ⟨x_40, ex41, hc1⟩ := ob hc1
        refine s_do (o_mov (.lst 1 (a_1.map encI)) rfl) ?_
        refine s_do (o_mov (.int .i64 (i_21 : Int)) rfl) ?_
        refine s_do (o_iaddrn (enc := encI) rfl rfl hx32) ?_
        refine s_do (o_q (.int .i64 x_37) rfl ⟨rfl, rfl⟩ rfl) ?_
        refine s_do (o_mov (.lst 1 (b_2.map encI)) rfl) ?_
        refine s_do (o_mov (.int .i64 (i_21 : Int)) rfl) ?_
        refine s_do (o_iaddr (enc := encI) rfl rfl (idx0 ex41) (idx1 ex41)) ?_
        refine s_do (o_q (.int .i64 x_40) rfl ⟨rfl, rfl⟩ rfl) ?_
        refine s_do (o_q (.bool (x_37 != x_40)) rfl rfl rfl) ?_
        refine w_done ?_
        refine k_seq ?_
        rcases oi hc1 with ⟨c42, hc1⟩ | ⟨c42, hc1⟩
        · refine w_condt rfl c42 ?_
          refine awp_seq ?_
          refine w_reg ?_
          refine s_do (o_mov (.bool false) rfl) ?_
          refine w_done ?_
          refine k_seq ?_
          refine w_ret ?_
          obtain rfl := os hc1
          obtain rfl := os hf
          exact r_flat ⟨trivial, trivial⟩ rfl (.refl _)
        · refine w_condf rfl (bf c42) ?_
          refine w_skip ?_
          refine k_blk ?_
          refine k_seq ?_
          refine w_reg ?_
          refine s_do (o_mov (.int .i64 (i_21 : Int)) rfl) ?_
          refine s_do (o_q (.int .i64 (w64 ((i_21 : Int) + 1))) rfl rfl rfl) ?_
          refine s_do (o_mov (.int .i64 (w64 ((i_21 : Int) + 1))) rfl) ?_
          refine w_done ?_
          exact k_loopn ⟨(i_21 + 1), hc1⟩ (mul hlt31) ⟨[], [], _, _, rfl, rfl, ⟨.refl _, ⟨.refl _, ⟨.of_eq (congrArg (AV.int _) (w64_incr hlt31 hl39)), trivial⟩⟩⟩, .refl _⟩
    · rintro ⟨_, rfl⟩
      refine awp_seq ?_
      refine w_reg ?_
      refine s_do (o_mov (.bool true) rfl) ?_
      refine w_done ?_
      refine k_seq ?_
      refine w_ret ?_
      obtain rfl := os hf
      exact r_flat ⟨trivial, trivial⟩ rfl (.refl _)

/- laws.eqLock -/
def c89 : ACode :=
 (.seq (.reg (.q ⟨(some 2), none, .box 2 (.t 0)⟩
 (.q ⟨(some 3), none, .box 2 (.t 1)⟩
 (.q ⟨(some 4), none, .mov (.c (.bool false))⟩
 .done))))
 (.seq (.seq (.reg (.q ⟨(some 5), none, .faddr 0 (.t 2)⟩
 (.q ⟨(some 6), none, .load 1 false (.t 5)⟩
 (.q ⟨(some 7), none, .faddr 0 (.t 3)⟩
 (.q ⟨(some 8), none, .load 1 false (.t 7)⟩
 (.q ⟨(some 9), none, .bin .neq (.t 6) (.t 8)⟩
 .done))))))
 (.cond (.t 9) (.seq (.reg (.q ⟨(some 4), none, .mov (.c (.bool false))⟩
 .done))
 .ret)
 .skip))
 (.seq (.seq (.reg (.q ⟨(some 10), none, .faddr 1 (.t 2)⟩
 (.q ⟨(some 11), none, .load 1 false (.t 10)⟩
 (.q ⟨(some 12), none, .faddr 1 (.t 3)⟩
 (.q ⟨(some 13), none, .load 1 false (.t 12)⟩
 (.q ⟨(some 14), none, .call 154 [(.t 11), (.t 13)]⟩
 (.q ⟨(some 15), none, .not (.t 14)⟩
 .done)))))))
 (.cond (.t 15) (.seq (.reg (.q ⟨(some 4), none, .mov (.c (.bool false))⟩
 .done))
 .ret)
 .skip))
 (.seq (.reg (.q ⟨(some 4), none, .mov (.c (.bool true))⟩
 .done))
 .ret))))
theorem fc89 : fcomp Try.prog Try.f89 = some (c89.erase, [.mov (.t 4)], 16) := by kernel_rfl
def laws_eqLock (a_1 : GLock) (b_2 : GLock) : Option Bool :=
    if (!(a_1.Name == b_2.Name)) then
    some false
    else
    (laws_eqIntS a_1.Queue b_2.Queue).bind fun r_4 =>
    if (!r_4) then
    some false
    else
    some true
theorem w_laws_eqLock (a_1 : GLock) (b_2 : GLock) (r : Bool) (hf : laws_eqLock a_1 b_2 = some r) : CallOK Try.prog 89 .flat [(encGLock a_1), (encGLock b_2)] (.bool r) := by
  refine CallOK.of_awp mixed Try.func89 fc89 nle ?_
  rw [argT_eq]
  unfold laws_eqLock at hf
  unfold c89
  refine (show awp Try.prog false 0 _ (ofL [(0, (encGLock a_1)), (1, (encGLock b_2))]) [] _ from ?_)
  refine awp_seq ?_
  refine w_reg ?_
  refine s_do (o_box (j := 0) (c := (.agg [(.str a_1.Name), (.lst 1 (a_1.Queue.map encI))])) rfl trivial rfl rfl) ?_
  refine s_do (o_box (j := 1) (c := (.agg [(.str b_2.Name), (.lst 1 (b_2.Queue.map encI))])) rfl trivial rfl rfl) ?_
  refine s_do (o_mov (.bool false) rfl) ?_
  refine w_done ?_
  refine k_seq ?_
  refine awp_seq ?_
  refine awp_seq ?_
  refine w_reg ?_
  refine s_do (o_q (.ptr 0 0 0) rfl trivial rfl) ?_
  refine s_do (o_q (.str a_1.Name) rfl nle rfl) ?_
  refine s_do (o_q (.ptr 1 0 0) rfl trivial rfl) ?_
  refine s_do (o_q (.str b_2.Name) rfl nle rfl) ?_
  refine s_do (o_q (.bool (!(a_1.Name == b_2.Name))) rfl trivial rfl) ?_
  refine w_done ?_
  refine k_seq ?_
  rcases oi hf with ⟨c3, hf⟩ | ⟨c3, hf⟩
  · refine w_condt rfl c3 ?_
    refine awp_seq ?_
    refine w_reg ?_
    refine s_do (o_mov (.bool false) rfl) ?_
    refine w_done ?_
    refine k_seq ?_
    refine w_ret ?_
    obtain rfl := os hf
    exact r_flat ⟨trivial, trivial⟩ rfl (.refl _)
  · refine w_condf rfl (bf c3) ?_
    refine w_skip ?_
    refine k_seq ?_
    refine awp_seq ?_
    refine awp_seq ?_
    refine w_reg ?_
    obtain ⟨r_4, er5, hf⟩ := ob hf
    refine s_do (o_q (.ptr 0 0 1) rfl trivial rfl) ?_
    refine s_do (o_q (.lst 1 (a_1.Queue.map encI)) rfl nle rfl) ?_
    refine s_do (o_q (.ptr 1 0 1) rfl trivial rfl) ?_
    refine s_do (o_q (.lst 1 (b_2.Queue.map encI)) rfl nle rfl) ?_
    refine s_do (o_call (w_laws_eqIntS _ _ _ er5) rfl (.refl _) rfl) ?_
    refine s_do (o_q (.bool (!r_4)) rfl trivial rfl) ?_
    refine w_done ?_
    refine k_seq ?_
    rcases oi hf with ⟨c6, hf⟩ | ⟨c6, hf⟩
    · refine w_condt rfl c6 ?_
      refine awp_seq ?_
      refine w_reg ?_
      refine s_do (o_mov (.bool false) rfl) ?_
      refine w_done ?_
      refine k_seq ?_
      refine w_ret ?_
      obtain rfl := os hf
      exact r_flat ⟨trivial, trivial⟩ rfl (.refl _)
    · refine w_condf rfl (bf c6) ?_
      refine w_skip ?_
      refine k_seq ?_
      refine awp_seq ?_
      refine w_reg ?_
      refine s_do (o_mov (.bool true) rfl) ?_
      refine w_done ?_
      refine k_seq ?_
      refine w_ret ?_
      obtain rfl := os hf
      exact r_flat ⟨trivial, trivial⟩ rfl (.refl _)

/- laws.eqLockS -/
def c19 : ACode :=
 (.seq (.reg (.q ⟨(some 4), none, .mov (.c (.bool false))⟩
 .done))
 (.seq (.seq (.reg (.q ⟨(some 6), none, .mov (.t 0)⟩
 (.q ⟨(some 7), none, .len (.t 6)⟩
 (.q ⟨(some 8), none, .mov (.t 1)⟩
 (.q ⟨(some 9), none, .len (.t 8)⟩
 (.q ⟨(some 10), none, .bin .neq (.t 7) (.t 9)⟩
 .done))))))
 (.cond (.t 10) (.seq (.reg (.q ⟨(some 4), none, .mov (.c (.bool false))⟩
 .done))
 .ret)
 .skip))
 (.seq (.seq (.reg (.q ⟨(some 5), none, .mov (.c (.int .i64 0))⟩
 .done))
 (.block 0 (.loop (.seq (.seq (.reg (.q ⟨(some 11), none, .mov (.t 5)⟩
 (.q ⟨(some 12), none, .mov (.t 0)⟩
 (.q ⟨(some 13), none, .len (.t 12)⟩
 (.q ⟨(some 14), none, .bin .lss (.t 11) (.t 13)⟩
 .done)))))
 (.cond (.t 14) .skip
 (.exit 0)))
 (.seq (.block 1 (.seq (.reg (.q ⟨(some 17), none, .mov (.t 0)⟩
 (.q ⟨(some 18), none, .mov (.t 5)⟩
 (.q ⟨(some 19), none, .iaddr 2 (.t 17) (.t 18)⟩
 (.q ⟨(some 20), none, .load 2 true (.t 19)⟩
 (.q ⟨(some 21), none, .mov (.t 1)⟩
 (.q ⟨(some 22), none, .mov (.t 5)⟩
 (.q ⟨(some 23), none, .iaddr 2 (.t 21) (.t 22)⟩
 (.q ⟨(some 24), none, .load 2 true (.t 23)⟩
 (.l ⟨(some 25), none, .call 89 [(.t 20), (.t 24)]⟩ []
 (.q ⟨(some 26), none, .not (.t 25)⟩
 .done) .non))))))))))
 (.cond (.t 26) (.seq (.reg (.q ⟨(some 4), none, .mov (.c (.bool false))⟩
 .done))
 .ret)
 .skip)))
 (.reg (.q ⟨(some 15), none, .mov (.t 5)⟩
 (.q ⟨(some 16), none, .bin .add (.t 15) (.c (.int .i64 1))⟩
 (.q ⟨(some 5), none, .mov (.t 16)⟩
 .done)))))))))
 (.cut (.seq (.reg (.q ⟨(some 4), none, .mov (.c (.bool true))⟩
 .done))
 .ret)))))
theorem fc19 : fcomp Try.prog Try.f19 = some (c19.erase, [.mov (.t 4)], 27) := by kernel_rfl
def laws_eqLockS_L1 (b_2 : (List GLock)) : List GLock → Nat → Option (Fl Bool Unit)
  | [], i_25 =>
    some (.go ())
  | x_43 :: xs, i_25 =>
    (idx b_2 (i_25 : Int)).bind fun x_46 =>
    (laws_eqLock x_43 x_46).bind fun r_48 =>
    if (!r_48) then
    some (.ret false)
    else
    laws_eqLockS_L1 b_2 xs (i_25 + 1)

def laws_eqLockS (a_1 : (List GLock)) (b_2 : (List GLock)) : Option Bool :=
    if ((a_1.length : Int) != (b_2.length : Int)) then
    some false
    else
    (laws_eqLockS_L1 b_2 a_1 0).bind fun q => (match q with
    | .ret r => some r
    | .go _ =>
    some true)
theorem w_laws_eqLockS (a_1 : (List GLock)) (b_2 : (List GLock)) (r : Bool) (hf : laws_eqLockS a_1 b_2 = some r) : CallOK Try.prog 19 .flat [(.lst 2 (a_1.map encGLock)), (.lst 2 (b_2.map encGLock))] (.bool r) := by
  refine CallOK.of_awp mixed Try.func19 fc19 nle ?_
  rw [argT_eq]
  unfold laws_eqLockS at hf
  unfold c19
  refine (show awp Try.prog false 0 _ (ofL [(0, (.lst 2 (a_1.map encGLock))), (1, (.lst 2 (b_2.map encGLock)))]) [] _ from ?_)
  refine awp_seq ?_
  refine w_reg ?_
  refine s_do (o_mov (.bool false) rfl) ?_
  refine w_done ?_
  refine k_seq ?_
  refine awp_seq ?_
  refine awp_seq ?_
  refine w_reg ?_
  refine s_do (o_mov (.lst 2 (a_1.map encGLock)) rfl) ?_
  refine s_dof (o_len (enc := encGLock) rfl) fun hl3 => ?_
  refine s_do (o_mov (.lst 2 (b_2.map encGLock)) rfl) ?_
  refine s_dof (o_len (enc := encGLock) rfl) fun hl4 => ?_
  refine s_do (o_q (.bool ((a_1.length : Int) != (b_2.length : Int))) rfl rfl rfl) ?_
  refine w_done ?_
  refine k_seq ?_
  rcases oi hf with ⟨c5, hf⟩ | ⟨c5, hf⟩
  · refine w_condt rfl c5 ?_
    refine awp_seq ?_
    refine w_reg ?_
    refine s_do (o_mov (.bool false) rfl) ?_
    refine w_done ?_
    refine k_seq ?_
    refine w_ret ?_
    obtain rfl := os hf
    exact r_flat ⟨trivial, trivial⟩ rfl (.refl _)
  · refine w_condf rfl (bf c5) ?_
    refine w_skip ?_
    refine k_seq ?_
    refine awp_seq ?_
    refine awp_seq ?_
    refine w_reg ?_
    refine s_do (o_mov (.int .i64 0) rfl) ?_
    refine w_done ?_
    refine k_seq ?_
    obtain ⟨p36, hb1, hf⟩ := ob hf
    refine awp_cutx (X := {q : Unit // p36 = .go q}) (fun q => ([], [])) ?_ ?_
    · refine awp_loop (X := {q : Nat // laws_eqLockS_L1 b_2 (a_1.drop q) q = some p36}) (fun q => ([(0, (.lst 2 (a_1.map encGLock))), (1, (.lst 2 (b_2.map encGLock))), (5, (.int .i64 (q.1 : Int)))], [])) (fun q => a_1.length - q.1) ⟨0, hb1⟩ ⟨[], [], _, _, rfl, rfl, ⟨.refl _, ⟨.refl _, ⟨.refl _, trivial⟩⟩⟩, .refl _⟩ ?_
      rintro ⟨i_25, hc1⟩
      have hc1 : laws_eqLockS_L1 b_2 (a_1.drop i_25) i_25 = some p36 := hc1
      refine (show awp Try.prog false 0 _ (ofL [(0, (.lst 2 (a_1.map encGLock))), (1, (.lst 2 (b_2.map encGLock))), (5, (.int .i64 (i_25 : Int)))]) [] _ from ?_)
      rcases dropc a_1 i_25 with ⟨hie39, hd42⟩ | ⟨hlt37, x_43, hx38, hd42⟩
      · rw [hd42, laws_eqLockS_L1.eq_1] at hc1
        have hq41 := dlf hie39
        refine awp_seq ?_
        refine awp_seq ?_
        refine w_reg ?_
        refine s_do (o_mov (.int .i64 (i_25 : Int)) rfl) ?_
        refine s_do (o_mov (.lst 2 (a_1.map encGLock)) rfl) ?_
        refine s_dof (o_len (enc := encGLock) rfl) fun hl44 => ?_
        refine s_do (o_q (.bool (decide ((i_25 : Int) < (a_1.length : Int)))) rfl rfl rfl) ?_
        refine w_done ?_
        refine k_seq ?_
        refine w_condf rfl hq41 ?_
        refine w_exit ?_
        refine k_seqx ?_
        refine k_loopx ?_
        refine k_blkx ?_
        obtain rfl := os hc1
        exact k_cutn ⟨_, rfl⟩ ⟨[], [], _, _, rfl, rfl, trivial, .refl _⟩
      · rw [hd42, laws_eqLockS_L1.eq_2] at hc1
        have hq41 := dlt hlt37
        refine awp_seq ?_
        refine awp_seq ?_
        refine w_reg ?_
        refine s_do (o_mov (.int .i64 (i_25 : Int)) rfl) ?_
        refine s_do (o_mov (.lst 2 (a_1.map encGLock)) rfl) ?_
        refine s_dof (o_len (enc := encGLock) rfl) fun hl45 => ?_
        refine s_do (o_q (.bool (decide ((i_25 : Int) < (a_1.length : Int)))) rfl rfl rfl) ?_
        refine w_done ?_
        refine k_seq ?_
        refine w_condt rfl hq41 ?_
        refine w_skip ?_
        refine k_seq ?_
        refine awp_seq ?_
        refine w_blk ?_
        refine awp_seq ?_
        refine w_reg ?_
        obtain ⟨x_46, ex47, hc1⟩ := ob hc1
        obtain ⟨r_48, er49, hc1⟩ := ob hc1
        refine s_do (o_mov (.lst 2 (a_1.map encGLock)) rfl) ?_
        refine s_do (o_mov (.int .i64 (i_25 : Int)) rfl) ?_
        refine s_do (o_iaddrn (enc := encGLock) rfl rfl hx38) ?_
        refine s_do (o_q (encGLock x_43) rfl nle rfl) ?_
        refine s_do (o_mov (.lst 2 (b_2.map encGLock)) rfl) ?_
        refine s_do (o_mov (.int .i64 (i_25 : Int)) rfl) ?_
        refine s_do (o_iaddr (enc := encGLock) rfl rfl (idx0 ex47) (idx1 ex47)) ?_
        refine s_do (o_q (encGLock x_46) rfl nle rfl) ?_
        refine s_dol (o_call (w_laws_eqLock _ _ _ er49) rfl (.refl _) rfl) a_same trivial ?_
        refine s_do (o_q (.bool (!r_48)) rfl trivial rfl) ?_
        refine w_done ?_
        refine k_seq ?_
        rcases oi hc1 with ⟨c50, hc1⟩ | ⟨c50, hc1⟩
        · refine w_condt rfl c50 ?_
          refine awp_seq ?_
          refine w_reg ?_
          refine s_do (o_mov (.bool false) rfl) ?_
          refine w_done ?_
          refine k_seq ?_
          refine w_ret ?_
          obtain rfl := os hc1
          obtain rfl := os hf
          exact r_flat ⟨trivial, trivial⟩ rfl (.refl _)
        · refine w_condf rfl (bf c50) ?_
          refine w_skip ?_
          refine k_blk ?_
          refine k_seq ?_
          refine w_reg ?_
          refine s_do (o_mov (.int .i64 (i_25 : Int)) rfl) ?_
          refine s_do (o_q (.int .i64 (w64 ((i_25 : Int) + 1))) rfl rfl rfl) ?_
          refine s_do (o_mov (.int .i64 (w64 ((i_25 : Int) + 1))) rfl) ?_
          refine w_done ?_
          exact k_loopn ⟨(i_25 + 1), hc1⟩ (mul hlt37) ⟨[], [], _, _, rfl, rfl, ⟨.refl _, ⟨.refl _, ⟨.of_eq (congrArg (AV.int _) (w64_incr hlt37 hl45)), trivial⟩⟩⟩, .refl _⟩
    · rintro ⟨_, rfl⟩
      refine awp_seq ?_
      refine w_reg ?_
      refine s_do (o_mov (.bool true) rfl) ?_
      refine w_done ?_
      refine k_seq ?_
      refine w_ret ?_
      obtain rfl := os hf
      exact r_flat ⟨trivial, trivial⟩ rfl (.refl _)

/- laws.FnExactLocksOK -/
def c3 : ACode :=
 (.seq (.reg (.q ⟨(some 2), none, .mov (.c (.bool false))⟩
 .done))
 (.seq (.reg (.q ⟨(some 3), none, .mov (.c (.int .i64 1048576))⟩
 .done))
 (.seq (.reg (.q ⟨(some 7), none, .mov (.t 0)⟩
 (.q ⟨(some 8), none, .mov (.t 3)⟩
 (.q ⟨(some 9), none, .call 15 [(.t 7), (.t 8)]⟩
 (.q ⟨(some 3), none, .mov (.t 9)⟩
 .done)))))
 (.seq (.seq (.reg (.q ⟨(some 10), none, .mov (.t 3)⟩
 (.q ⟨(some 11), none, .bin .lss (.t 10) (.c (.int .i64 0))⟩
 .done)))
 (.cond (.t 11) (.seq (.reg (.q ⟨(some 2), none, .mov (.c (.bool true))⟩
 .done))
 .ret)
 .skip))
 (.seq (.reg (.q ⟨(some 12), none, .mov (.t 0)⟩
 (.q ⟨(some 13), none, .call 17 [(.t 12)]⟩
 (.q ⟨(some 14), none, .call 16 [(.t 13)]⟩
 (.q ⟨(some 4), none, .mov (.t 14)⟩
 .done)))))
 (.seq (.reg (.q ⟨(some 15), none, .mov (.t 0)⟩
 (.q ⟨(some 16), none, .call 17 [(.t 15)]⟩
 (.q ⟨(some 5), none, .mov (.t 16)⟩
 .done))))
 (.seq (.reg (.q ⟨(some 17), none, .mov (.t 5)⟩
 (.q ⟨(some 18), none, .call 18 [(.t 17)]⟩
 (.q ⟨(some 6), none, .mov (.t 18)⟩
 .done))))
 (.seq (.seq (.reg (.q ⟨(some 19), none, .mov (.t 6)⟩
 (.q ⟨(some 20), none, .mov (.t 4)⟩
 (.q ⟨(some 21), none, .eqB true (.t 19) (.t 20)⟩
 .done))))
 (.cond (.t 21) (.seq (.reg (.q ⟨(some 2), none, .mov (.c (.bool false))⟩
 .done))
 .ret)
 .skip))
 (.seq (.seq (.reg (.q ⟨(some 22), none, .mov (.t 5)⟩
 (.q ⟨(some 23), none, .mov (.t 0)⟩
 (.q ⟨(some 24), none, .call 17 [(.t 23)]⟩
 (.q ⟨(some 25), none, .call 19 [(.t 22), (.t 24)]⟩
 (.q ⟨(some 26), none, .not (.t 25)⟩
 .done))))))
 (.cond (.t 26) (.seq (.reg (.q ⟨(some 2), none, .mov (.c (.bool false))⟩
 .done))
 .ret)
 .skip))
 (.seq (.reg (.q ⟨(some 2), none, .mov (.c (.bool true))⟩
 .done))
 .ret))))))))))
theorem fc3 : fcomp Try.prog Try.f3 = some (c3.erase, [.mov (.t 2)], 27) := by kernel_rfl
def laws_FnExactLocksOK (aList_1 : (List GLock)) : Option Bool :=
    (laws_szLockS aList_1 1048576).bind fun r_2 =>
    if (decide (r_2 < 0)) then
    some true
    else
    (laws_toLockS aList_1).bind fun r_5 =>
    (spec_LocksOK r_5).bind fun r_7 =>
    (laws_toLockS aList_1).bind fun r_9 =>
    (impl_LocksOK r_9).bind fun r_11 =>
    if (!(r_11 == r_7)) then
    some false
    else
    (laws_toLockS aList_1).bind fun r_14 =>
    (laws_eqLockS r_9 r_14).bind fun r_16 =>
    if (!r_16) then
    some false
    else
    some true
theorem w_laws_FnExactLocksOK (aList_1 : (List GLock)) (r : Bool) (hf : laws_FnExactLocksOK aList_1 = some r) : CallOK Try.prog 3 .flat [(.lst 2 (aList_1.map encGLock))] (.bool r) := by
  refine CallOK.of_awp mixed Try.func3 fc3 nle ?_
  rw [argT_eq]
  unfold laws_FnExactLocksOK at hf
  unfold c3
  refine (show awp Try.prog false 0 _ (ofL [(0, (.lst 2 (aList_1.map encGLock)))]) [] _ from ?_)
  refine awp_seq ?_
  refine w_reg ?_
  refine s_do (o_mov (.bool false) rfl) ?_
  refine w_done ?_
  refine k_seq ?_
  refine awp_seq ?_
  refine w_reg ?_
  refine s_do (o_mov (.int .i64 1048576) rfl) ?_
  refine w_done ?_
  refine k_seq ?_
  refine awp_seq ?_
  refine w_reg ?_
  obtain ⟨r_2, er3, hf⟩ := ob hf
  refine s_do (o_mov (.lst 2 (aList_1.map encGLock)) rfl) ?_
  refine s_do (o_mov (.int .i64 1048576) rfl) ?_
  refine s_do (o_call (w_laws_szLockS _ _ _ er3) rfl (.refl _) rfl) ?_
  refine s_do (o_mov (.int .i64 r_2) rfl) ?_
  refine w_done ?_
  refine k_seq ?_
  refine awp_seq ?_
  refine awp_seq ?_
  refine w_reg ?_
  refine s_do (o_mov (.int .i64 r_2) rfl) ?_
  refine s_do (o_q (.bool (decide (r_2 < 0))) rfl rfl rfl) ?_
  refine w_done ?_
  refine k_seq ?_
  rcases oi hf with ⟨c4, hf⟩ | ⟨c4, hf⟩
  · refine w_condt rfl c4 ?_
    refine awp_seq ?_
    refine w_reg ?_
    refine s_do (o_mov (.bool true) rfl) ?_
    refine w_done ?_
    refine k_seq ?_
    refine w_ret ?_
    obtain rfl := os hf
    exact r_flat ⟨trivial, trivial⟩ rfl (.refl _)
  · refine w_condf rfl (bf c4) ?_
    refine w_skip ?_
    refine k_seq ?_
    refine awp_seq ?_
    refine w_reg ?_
    obtain ⟨r_5, er6, hf⟩ := ob hf
    obtain ⟨r_7, er8, hf⟩ := ob hf
    refine s_do (o_mov (.lst 2 (aList_1.map encGLock)) rfl) ?_
    refine s_do (o_callc (w_laws_toLockS _ _ er6) rfl (.refl _) rfl) ?_
    refine s_do (o_call (w_spec_LocksOK _ _ er8) rfl (.refl _) rfl) ?_
    refine s_do (o_mov (.bool r_7) rfl) ?_
    refine w_done ?_
    refine k_seq ?_
    refine awp_seq ?_
    refine w_reg ?_
    obtain ⟨r_9, er10, hf⟩ := ob hf
    refine s_do (o_mov (.lst 2 (aList_1.map encGLock)) rfl) ?_
    refine s_do (o_callc (w_laws_toLockS _ _ er10) rfl (.refl _) rfl) ?_
    refine s_do (o_mov (.lst 2 (r_9.map encGLock)) rfl) ?_
    refine w_done ?_
    refine k_seq ?_
    refine awp_seq ?_
    refine w_reg ?_
    obtain ⟨r_11, er12, hf⟩ := ob hf
    refine s_do (o_mov (.lst 2 (r_9.map encGLock)) rfl) ?_
    refine s_do (o_call (w_impl_LocksOK _ _ er12) rfl (.refl _) rfl) ?_
    refine s_do (o_mov (.bool r_11) rfl) ?_
    refine w_done ?_
    refine k_seq ?_
    refine awp_seq ?_
    refine awp_seq ?_
    refine w_reg ?_
    refine s_do (o_mov (.bool r_11) rfl) ?_
    refine s_do (o_mov (.bool r_7) rfl) ?_
    refine s_do (o_q (.bool (!(r_11 == r_7))) rfl trivial rfl) ?_
    refine w_done ?_
    refine k_seq ?_
    rcases oi hf with ⟨c13, hf⟩ | ⟨c13, hf⟩
    · refine w_condt rfl c13 ?_
      refine awp_seq ?_
      refine w_reg ?_
      refine s_do (o_mov (.bool false) rfl) ?_
      refine w_done ?_
      refine k_seq ?_
      refine w_ret ?_
      obtain rfl := os hf
      exact r_flat ⟨trivial, trivial⟩ rfl (.refl _)
    · refine w_condf rfl (bf c13) ?_
      refine w_skip ?_
      refine k_seq ?_
      refine awp_seq ?_
      refine awp_seq ?_
      refine w_reg ?_
      obtain ⟨r_14, er15, hf⟩ := ob hf
      obtain ⟨r_16, er17, hf⟩ := ob hf
      refine s_do (o_mov (.lst 2 (r_9.map encGLock)) rfl) ?_
      refine s_do (o_mov (.lst 2 (aList_1.map encGLock)) rfl) ?_
      refine s_do (o_callc (w_laws_toLockS _ _ er15) rfl (.refl _) rfl) ?_
      refine s_do (o_call (w_laws_eqLockS _ _ _ er17) rfl (.refl _) rfl) ?_
      refine s_do (o_q (.bool (!r_16)) rfl trivial rfl) ?_
      refine w_done ?_
      refine k_seq ?_
      rcases oi hf with ⟨c18, hf⟩ | ⟨c18, hf⟩
      · refine w_condt rfl c18 ?_
        refine awp_seq ?_
        refine w_reg ?_
        refine s_do (o_mov (.bool false) rfl) ?_
        refine w_done ?_
        refine k_seq ?_
        refine w_ret ?_
        obtain rfl := os hf
        exact r_flat ⟨trivial, trivial⟩ rfl (.refl _)
      · refine w_condf rfl (bf c18) ?_
        refine w_skip ?_
        refine k_seq ?_
        refine awp_seq ?_
        refine w_reg ?_
        refine s_do (o_mov (.bool true) rfl) ?_
        refine w_done ?_
        refine k_seq ?_
        refine w_ret ?_
        obtain rfl := os hf
        exact r_flat ⟨trivial, trivial⟩ rfl (.refl _)

end Go.R
