/- Walks. -/
import Derived.Test.YtdnjjfoooagphaaLAT
set_option linter.all false
namespace Go.R
open Go Go.Proofs
set_option linter.unusedVariables false
set_option linter.unusedSimpArgs false
set_option maxHeartbeats 8000000
/- laws.szIntS -/
def c193 : ACode :=
 (.seq (.reg (tm 4 (.c (.int .i64 0)) .done))
 (.seq (.reg (tm 5 (.t 1) (tm 6 (.t 0) (tq 7 (.len (.t 6)) (tq 8 (.bin .sub (.t 5) (.t 7)) (tm 1 (.t 8) .done))))))
 (.seq (.seq (.reg (tm 9 (.t 1) (tq 10 (.bin .lss (.t 9) (.c (.int .i64 0))) .done)))
 (.cond (.t 10) (.seq (.reg (tq 4 (.mov (.c (.int .i64 (-1)))) .done))
 .ret)
 .skip))
 (.seq (.reg (tm 11 (.t 1) (tm 4 (.t 11) .done)))
 .ret))))
theorem fc193 : fcomp Try.prog Try.f193 = some (c193.erase, [.mov (.t 4)], 12) := by kernel_rfl
def laws_szIntS (a_1 : (List Int)) (left_2 : Int) : Option Int :=
    if (decide (w64 (left_2 - (a_1.length : Int)) < 0)) then
    some (-1)
    else
    some (w64 (left_2 - (a_1.length : Int)))
theorem w_laws_szIntS (a_1 : (List Int)) (left_2 : Int) (r : Int) (hf : laws_szIntS a_1 left_2 = some r) : CallOK Try.prog 193 .flat [(.lst 1 (a_1.map encI)), (.int .i64 left_2)] (.int .i64 r) := by
 refine CallOK.of_awp mixed Try.func193 fc193 nle ?_; rw [argT_eq]; unfold laws_szIntS at hf; unfold c193; refine (show awp Try.prog false 0 _ (ofL [(0, (.lst 1 (a_1.map encI))), (1, (.int .i64 left_2))]) [] _ from ?_); refine awp_seq <| w_reg <| s_mov (.int .i64 0) rfl <| w_done <| k_seq <| awp_seq <| w_reg <| s_mov (.int .i64 left_2) rfl <| s_mov (.lst 1 (a_1.map encI)) rfl <| s_dof (o_len (enc := encI) rfl) fun hl3 => s_q (.int .i64 (w64 (left_2 - (a_1.length : Int)))) rfl rfl rfl <| s_mov (.int .i64 (w64 (left_2 - (a_1.length : Int)))) rfl <| w_done <| k_seq <| awp_seq <| awp_seq <| w_reg <| s_mov (.int .i64 (w64 (left_2 - (a_1.length : Int)))) rfl <| s_q (.bool (decide (w64 (left_2 - (a_1.length : Int)) < 0))) rfl rfl rfl <| ?_
 refine w_done <| k_seq <| ?_
 rcases oi hf with ⟨c4, hf⟩ | ⟨c4, hf⟩
 ·refine w_condt rfl c4 <| awp_seq <| w_reg <| s_mov (.int .i64 (-1)) rfl <| w_done <| k_seq <| w_ret <| ?_; obtain rfl := os hf; exact r_flat ⟨trivial, trivial⟩ rfl (.refl _)
 ·refine w_condf rfl (bf c4) <| w_skip <| k_seq <| awp_seq <| w_reg <| s_mov (.int .i64 (w64 (left_2 - (a_1.length : Int)))) rfl <| s_mov (.int .i64 (w64 (left_2 - (a_1.length : Int)))) rfl <| w_done <| k_seq <| w_ret <| ?_; obtain rfl := os hf; exact r_flat ⟨trivial, trivial⟩ rfl (.refl _)

/- laws.szLock -/
def c108 : ACode :=
 (.seq (.reg (tq 2 (.box 2 (.t 0)) (tm 4 (.c (.int .i64 0)) .done)))
 (.seq (.reg (tm 5 (.t 1) (tq 6 (.faddr 0 (.t 2)) (tq 7 (.load 1 false (.t 6)) (tq 8 (.lenS (.t 7)) (tq 9 (.bin .sub (.t 5) (.t 8)) (tm 1 (.t 9) .done)))))))
 (.seq (.seq (.reg (tm 10 (.t 1) (tq 11 (.bin .lss (.t 10) (.c (.int .i64 0))) .done)))
 (.cond (.t 11) (.seq (.reg (tq 4 (.mov (.c (.int .i64 (-1)))) .done))
 .ret)
 .skip))
 (.seq (.reg (tq 12 (.faddr 1 (.t 2)) (tq 13 (.load 1 false (.t 12)) (tm 14 (.t 1) (tq 15 (.call 193 [(.t 13), (.t 14)]) (tm 1 (.t 15) .done))))))
 (.seq (.seq (.reg (tm 16 (.t 1) (tq 17 (.bin .lss (.t 16) (.c (.int .i64 0))) .done)))
 (.cond (.t 17) (.seq (.reg (tq 4 (.mov (.c (.int .i64 (-1)))) .done))
 .ret)
 .skip))
 (.seq (.reg (tm 18 (.t 1) (tm 4 (.t 18) .done)))
 .ret))))))
theorem fc108 : fcomp Try.prog Try.f108 = some (c108.erase, [.mov (.t 4)], 19) := by kernel_rfl
def laws_szLock (a_1 : GLock) (left_2 : Int) : Option Int :=
    if (decide (w64 (left_2 - (a_1.Name.length : Int)) < 0)) then
    some (-1)
    else
    (laws_szIntS a_1.Queue (w64 (left_2 - (a_1.Name.length : Int)))).bind fun r_5 =>
    if (decide (r_5 < 0)) then
    some (-1)
    else
    some r_5
theorem w_laws_szLock (a_1 : GLock) (left_2 : Int) (r : Int) (hf : laws_szLock a_1 left_2 = some r) : CallOK Try.prog 108 .flat [(encGLock a_1), (.int .i64 left_2)] (.int .i64 r) := by
 refine CallOK.of_awp mixed Try.func108 fc108 nle ?_; rw [argT_eq]; unfold laws_szLock at hf; unfold c108; refine (show awp Try.prog false 0 _ (ofL [(0, (encGLock a_1)), (1, (.int .i64 left_2))]) [] _ from ?_); refine awp_seq <| w_reg <| s_do (o_box (j := 0) (c := (.agg [(.str a_1.Name), (.lst 1 (a_1.Queue.map encI))])) rfl trivial rfl rfl) <| s_mov (.int .i64 0) rfl <| w_done <| k_seq <| awp_seq <| w_reg <| s_mov (.int .i64 left_2) rfl <| s_q (.ptr 0 0 0) rfl trivial rfl <| s_q (.str a_1.Name) rfl nle rfl <| s_dof (o_lenS rfl) fun hl3 => s_q (.int .i64 (w64 (left_2 - (a_1.Name.length : Int)))) rfl rfl rfl <| s_mov (.int .i64 (w64 (left_2 - (a_1.Name.length : Int)))) rfl <| w_done <| k_seq <| awp_seq <| awp_seq <| w_reg <| ?_
 refine s_mov (.int .i64 (w64 (left_2 - (a_1.Name.length : Int)))) rfl <| s_q (.bool (decide (w64 (left_2 - (a_1.Name.length : Int)) < 0))) rfl rfl rfl <| w_done <| k_seq <| ?_
 rcases oi hf with ⟨c4, hf⟩ | ⟨c4, hf⟩
 ·refine w_condt rfl c4 <| awp_seq <| w_reg <| s_mov (.int .i64 (-1)) rfl <| w_done <| k_seq <| w_ret <| ?_; obtain rfl := os hf; exact r_flat ⟨trivial, trivial⟩ rfl (.refl _)
 ·refine w_condf rfl (bf c4) <| w_skip <| k_seq <| awp_seq <| w_reg <| ?_
  obtain ⟨r_5, er6, hf⟩ := ob hf
  refine s_q (.ptr 0 0 1) rfl trivial rfl <| s_q (.lst 1 (a_1.Queue.map encI)) rfl nle rfl <| s_mov (.int .i64 (w64 (left_2 - (a_1.Name.length : Int)))) rfl <| s_do (o_call (w_laws_szIntS _ _ _ er6) rfl (.refl _) rfl) <| s_mov (.int .i64 r_5) rfl <| w_done <| k_seq <| awp_seq <| awp_seq <| w_reg <| s_mov (.int .i64 r_5) rfl <| s_q (.bool (decide (r_5 < 0))) rfl rfl rfl <| w_done <| k_seq <| ?_
  rcases oi hf with ⟨c7, hf⟩ | ⟨c7, hf⟩
  ·refine w_condt rfl c7 <| awp_seq <| w_reg <| s_mov (.int .i64 (-1)) rfl <| w_done <| k_seq <| w_ret <| ?_; obtain rfl := os hf; exact r_flat ⟨trivial, trivial⟩ rfl (.refl _)
  ·refine w_condf rfl (bf c7) <| w_skip <| k_seq <| awp_seq <| w_reg <| s_mov (.int .i64 r_5) rfl <| s_mov (.int .i64 r_5) rfl <| w_done <| k_seq <| w_ret <| ?_; obtain rfl := os hf; exact r_flat ⟨trivial, trivial⟩ rfl (.refl _)

/- laws.szLockS -/
def c32 : ACode :=
 (.seq (.reg (tm 4 (.c (.int .i64 0)) .done))
 (.seq (.reg (tm 6 (.t 1) (tm 7 (.t 0) (tq 8 (.len (.t 7)) (tq 9 (.bin .sub (.t 6) (.t 8)) (tm 1 (.t 9) .done))))))
 (.seq (.seq (.reg (tm 10 (.t 1) (tq 11 (.bin .lss (.t 10) (.c (.int .i64 0))) .done)))
 (.cond (.t 11) (.seq (.reg (tq 4 (.mov (.c (.int .i64 (-1)))) .done))
 .ret)
 .skip))
 (.seq (.seq (.reg (tm 5 (.c (.int .i64 0)) .done))
 (.block 0 (.loop (.seq (.seq (.reg (tm 12 (.t 5) (tm 13 (.t 0) (tq 14 (.len (.t 13)) (tq 15 (.bin .lss (.t 12) (.t 14)) .done)))))
 (.cond (.t 15) .skip
 (.exit 0)))
 (.seq (.block 1 (.seq (.reg (tm 18 (.t 0) (tm 19 (.t 5) (tq 20 (.iaddr 2 (.t 18) (.t 19)) (tq 21 (.load 2 true (.t 20)) (tm 22 (.t 1) (tq 23 (.call 108 [(.t 21), (.t 22)]) (tm 1 (.t 23) .done))))))))
 (.seq (.reg (tm 24 (.t 1) (tq 25 (.bin .lss (.t 24) (.c (.int .i64 0))) .done)))
 (.cond (.t 25) (.seq (.reg (tq 4 (.mov (.c (.int .i64 (-1)))) .done))
 .ret)
 .skip))))
 (.reg (tm 16 (.t 5) (tq 17 (.bin .add (.t 16) (.c (.int .i64 1))) (tm 5 (.t 17) .done)))))))))
 (.cut (.seq (.reg (tm 26 (.t 1) (tm 4 (.t 26) .done)))
 .ret))))))
theorem fc32 : fcomp Try.prog Try.f32 = some (c32.erase, [.mov (.t 4)], 27) := by kernel_rfl
def laws_szLockS_L1  : List GLock → Int → Option (Fl Int Int)
  | [], left_21 =>
    some (.go left_21)
  | x_39 :: xs, left_21 =>
    (laws_szLock x_39 left_21).bind fun r_42 =>
    if (decide (r_42 < 0)) then
    some (.ret (-1))
    else
    laws_szLockS_L1 xs r_42 

def laws_szLockS (a_1 : (List GLock)) (left_2 : Int) : Option Int :=
    if (decide (w64 (left_2 - (a_1.length : Int)) < 0)) then
    some (-1)
    else
    (laws_szLockS_L1 a_1 (w64 (left_2 - (a_1.length : Int)))).bind fun q => (match q with
    | .ret r => some r
    | .go left_31 =>
    some left_31)
theorem w_laws_szLockS (a_1 : (List GLock)) (left_2 : Int) (r : Int) (hf : laws_szLockS a_1 left_2 = some r) : CallOK Try.prog 32 .flat [(.lst 2 (a_1.map encGLock)), (.int .i64 left_2)] (.int .i64 r) := by
 refine CallOK.of_awp mixed Try.func32 fc32 nle ?_; rw [argT_eq]; unfold laws_szLockS at hf; unfold c32; refine (show awp Try.prog false 0 _ (ofL [(0, (.lst 2 (a_1.map encGLock))), (1, (.int .i64 left_2))]) [] _ from ?_); refine awp_seq <| w_reg <| s_mov (.int .i64 0) rfl <| w_done <| k_seq <| awp_seq <| w_reg <| s_mov (.int .i64 left_2) rfl <| s_mov (.lst 2 (a_1.map encGLock)) rfl <| s_dof (o_len (enc := encGLock) rfl) fun hl3 => s_q (.int .i64 (w64 (left_2 - (a_1.length : Int)))) rfl rfl rfl <| s_mov (.int .i64 (w64 (left_2 - (a_1.length : Int)))) rfl <| w_done <| k_seq <| awp_seq <| awp_seq <| w_reg <| s_mov (.int .i64 (w64 (left_2 - (a_1.length : Int)))) rfl <| s_q (.bool (decide (w64 (left_2 - (a_1.length : Int)) < 0))) rfl rfl rfl <| ?_
 refine w_done <| k_seq <| ?_
 rcases oi hf with ⟨c4, hf⟩ | ⟨c4, hf⟩
 ·refine w_condt rfl c4 <| awp_seq <| w_reg <| s_mov (.int .i64 (-1)) rfl <| w_done <| k_seq <| w_ret <| ?_; obtain rfl := os hf; exact r_flat ⟨trivial, trivial⟩ rfl (.refl _)
 ·refine w_condf rfl (bf c4) <| w_skip <| k_seq <| awp_seq <| awp_seq <| w_reg <| s_mov (.int .i64 0) rfl <| w_done <| k_seq <| ?_
  obtain ⟨p32, hb1, hf⟩ := ob hf
  refine awp_cutx (X := {q : Int // p32 = .go q}) (fun q => ([(1, (.int .i64 q.1))], [])) ?_ ?_
  ·refine awp_loop (X := {q : (Int × Nat) // laws_szLockS_L1 (a_1.drop q.2) q.1 = some p32}) (fun q => ([(0, (.lst 2 (a_1.map encGLock))), (1, (.int .i64 q.1.1)), (5, (.int .i64 (q.1.2 : Int)))], [])) (fun q => a_1.length - q.1.2) ⟨(w64 (left_2 - (a_1.length : Int)), 0), hb1⟩ ⟨[], [], _, _, rfl, rfl, ⟨.refl _, ⟨.refl _, ⟨.refl _, trivial⟩⟩⟩, (.refl _)⟩ ?_
   rintro ⟨⟨left_21, i_22⟩, hc1⟩
   have hc1 : laws_szLockS_L1 (a_1.drop i_22) left_21 = some p32 := hc1
   refine (show awp Try.prog false 0 _ (ofL [(0, (.lst 2 (a_1.map encGLock))), (1, (.int .i64 left_21)), (5, (.int .i64 (i_22 : Int)))]) [] _ from ?_)
   rcases dropc a_1 i_22 with ⟨hie35, hd38⟩ | ⟨hlt33, x_39, hx34, hd38⟩
   ·rw [hd38, laws_szLockS_L1.eq_1] at hc1
    have hq37 := dlf hie35
    refine awp_seq <| awp_seq <| w_reg <| s_mov (.int .i64 (i_22 : Int)) rfl <| s_mov (.lst 2 (a_1.map encGLock)) rfl <| s_dof (o_len (enc := encGLock) rfl) fun hl40 => s_q (.bool (decide ((i_22 : Int) < (a_1.length : Int)))) rfl rfl rfl <| w_done <| k_seq <| w_condf rfl hq37 <| w_exit <| k_seqx <| k_loopx <| k_blkx <| ?_; obtain rfl := os hc1; exact k_cutn ⟨_, rfl⟩ ⟨[], [], _, _, rfl, rfl, ⟨.refl _, trivial⟩, (.refl _)⟩
   ·rw [hd38, laws_szLockS_L1.eq_2] at hc1
    have hq37 := dlt hlt33
    refine awp_seq <| awp_seq <| w_reg <| s_mov (.int .i64 (i_22 : Int)) rfl <| s_mov (.lst 2 (a_1.map encGLock)) rfl <| s_dof (o_len (enc := encGLock) rfl) fun hl41 => s_q (.bool (decide ((i_22 : Int) < (a_1.length : Int)))) rfl rfl rfl <| w_done <| k_seq <| w_condt rfl hq37 <| w_skip <| k_seq <| awp_seq <| w_blk <| awp_seq <| w_reg <| ?_
    obtain ⟨r_42, er43, hc1⟩ := ob hc1
    refine s_mov (.lst 2 (a_1.map encGLock)) rfl <| s_mov (.int .i64 (i_22 : Int)) rfl <| s_do (o_iaddrn (enc := encGLock) rfl rfl hx34) <| s_q (encGLock x_39) rfl nle rfl <| s_mov (.int .i64 left_21) rfl <| s_do (o_call (w_laws_szLock _ _ _ er43) rfl (.refl _) rfl) <| s_mov (.int .i64 r_42) rfl <| w_done <| k_seq <| awp_seq <| w_reg <| s_mov (.int .i64 r_42) rfl <| s_q (.bool (decide (r_42 < 0))) rfl rfl rfl <| w_done <| k_seq <| ?_
    rcases oi hc1 with ⟨c44, hc1⟩ | ⟨c44, hc1⟩
    ·refine w_condt rfl c44 <| awp_seq <| w_reg <| s_mov (.int .i64 (-1)) rfl <| w_done <| k_seq <| w_ret <| ?_; obtain rfl := os hc1; obtain rfl := os hf; exact r_flat ⟨trivial, trivial⟩ rfl (.refl _)
    ·refine w_condf rfl (bf c44) <| w_skip <| k_blk <| k_seq <| w_reg <| s_mov (.int .i64 (i_22 : Int)) rfl <| s_q (.int .i64 (w64 ((i_22 : Int) + 1))) rfl rfl rfl <| s_mov (.int .i64 (w64 ((i_22 : Int) + 1))) rfl <| w_done <| ?_; exact k_loopn ⟨(r_42, (i_22 + 1)), hc1⟩ (mul hlt33) ⟨[], [], _, _, rfl, rfl, ⟨.refl _, ⟨.refl _, ⟨.of_eq (congrArg (AV.int _) (w64_incr hlt33 hl41)), trivial⟩⟩⟩, (.refl _)⟩
  ·rintro ⟨left_31, rfl⟩
   refine awp_seq <| w_reg <| s_mov (.int .i64 left_31) rfl <| s_mov (.int .i64 left_31) rfl <| w_done <| k_seq <| w_ret <| ?_; obtain rfl := os hf; exact r_flat ⟨trivial, trivial⟩ rfl (.refl _)

/- laws.toIntS -/
def c196 : ACode :=
 (.seq (.reg (tm 2 (.c .nil) .done))
 (.seq (.reg (tm 5 (.t 0) (tq 6 (.len (.t 5)) (tq 7 (.mkslice 1 8 (.int .i64 0) (.t 6) (.t 6)) (tm 3 (.t 7) .done)))))
 (.seq (.seq (.reg (tm 4 (.c (.int .i64 0)) .done))
 (.block 0 (.loop (.seq (.seq (.reg (tm 8 (.t 4) (tm 9 (.t 0) (tq 10 (.len (.t 9)) (tq 11 (.bin .lss (.t 8) (.t 10)) .done)))))
 (.cond (.t 11) .skip
 (.exit 0)))
 (.seq (.block 1 (.reg (tm 14 (.t 3) (tm 15 (.t 4) (tm 16 (.t 0) (tm 17 (.t 4) (tq 18 (.iaddr 1 (.t 16) (.t 17)) (tq 19 (.load 1 false (.t 18)) (tq 20 (.iaddr 1 (.t 14) (.t 15)) (.q ⟨none, none, .store 1 (.t 20) (.t 19)⟩
 .done))))))))))
 (.reg (tm 12 (.t 4) (tq 13 (.bin .add (.t 12) (.c (.int .i64 1))) (tm 4 (.t 13) .done)))))))))
 (.cut (.seq (.reg (tm 21 (.t 3) (tm 2 (.t 21) .done)))
 .ret)))))
theorem fc196 : fcomp Try.prog Try.f196 = some (c196.erase, [.mov (.t 2)], 22) := by kernel_rfl
def laws_toIntS_L1  : List Int → Nat → (List Int) → Option (List Int)
  | [], i_20, out_21 =>
    some out_21
  | x_38 :: xs, i_20, out_21 =>
    if i_20 < out_21.length then
    (out_21[i_20]?).bind fun x_42 =>
    laws_toIntS_L1 xs (i_20 + 1) (out_21.set i_20 x_38)
    else none

def laws_toIntS (a_1 : (List Int)) : Option (List Int) :=
    if (a_1.length : Int) ≤ 2 ^ 30 then
    (laws_toIntS_L1 a_1 0 (List.replicate a_1.length 0)).bind fun out_30 =>
    some out_30
    else none
theorem w_laws_toIntS (a_1 : (List Int)) (r : (List Int)) (hf : laws_toIntS a_1 = some r) : CallOK Try.prog 196 .fresh [(.lst 1 (a_1.map encI))] (.lst 1 (r.map encI)) := by
 refine CallOK.of_awp mixed Try.func196 fc196 nle ?_; rw [argT_eq]; unfold laws_toIntS at hf; unfold c196; refine (show awp Try.prog true 0 _ (ofL [(0, (.lst 1 (a_1.map encI)))]) [] _ from ?_); refine awp_seq <| w_reg <| s_mov .nil rfl <| w_done <| k_seq <| awp_seq <| w_reg <| ?_
 obtain ⟨g3, hf⟩ := og hf
 refine s_mov (.lst 1 (a_1.map encI)) rfl <| s_dof (o_len (enc := encI) rfl) fun hl2 => s_do (o_mkslice (j := 0) (enc := encI) (m := a_1.length) 0 (.refl _) rfl rfl (Int.le_refl _) g3 rfl) <| s_mov (.own 0 0 a_1.length) rfl <| w_done <| k_seq <| awp_seq <| awp_seq <| w_reg <| s_mov (.int .i64 0) rfl <| w_done <| k_seq <| ?_
 obtain ⟨out_30, hb1, hf⟩ := ob hf
 refine awp_cut ([(3, (.own 0 0 out_30.length))], [.row 1 (out_30.map encI)]) ?_ ?_
 ·refine awp_loop (X := {q : (Nat × (List Int)) // laws_toIntS_L1 (a_1.drop q.1) q.1 q.2 = some out_30}) (fun q => ([(0, (.lst 1 (a_1.map encI))), (3, (.own 0 0 q.1.2.length)), (4, (.int .i64 (q.1.1 : Int)))], [.row 1 (q.1.2.map encI)])) (fun q => a_1.length - q.1.1) ⟨(0, List.replicate a_1.length 0), hb1⟩ ⟨[], [0], _, _, rfl, rfl, ⟨.refl _, ⟨.of_eq (congrArg (AV.own _ 0) (by simp)), ⟨.refl _, trivial⟩⟩⟩, (.refl _)⟩ ?_
  rintro ⟨⟨i_20, out_21⟩, hc1⟩
  have hc1 : laws_toIntS_L1 (a_1.drop i_20) i_20 out_21 = some out_30 := hc1
  refine (show awp Try.prog true 0 _ (ofL [(0, (.lst 1 (a_1.map encI))), (3, (.own 0 0 out_21.length)), (4, (.int .i64 (i_20 : Int)))]) [.row 1 (out_21.map encI)] _ from ?_)
  rcases dropc a_1 i_20 with ⟨hie34, hd37⟩ | ⟨hlt32, x_38, hx33, hd37⟩
  ·rw [hd37, laws_toIntS_L1.eq_1] at hc1
   have hq36 := dlf hie34
   refine awp_seq <| awp_seq <| w_reg <| s_mov (.int .i64 (i_20 : Int)) rfl <| s_mov (.lst 1 (a_1.map encI)) rfl <| s_dof (o_len (enc := encI) rfl) fun hl39 => s_q (.bool (decide ((i_20 : Int) < (a_1.length : Int)))) rfl rfl rfl <| w_done <| k_seq <| w_condf rfl hq36 <| w_exit <| k_seqx <| k_loopx <| k_blkx <| ?_; obtain rfl := os hc1; exact ⟨[], [0], _, _, rfl, rfl, ⟨.refl _, trivial⟩, (.refl _)⟩
  ·rw [hd37, laws_toIntS_L1.eq_2] at hc1
   have hq36 := dlt hlt32
   refine awp_seq <| awp_seq <| w_reg <| s_mov (.int .i64 (i_20 : Int)) rfl <| s_mov (.lst 1 (a_1.map encI)) rfl <| s_dof (o_len (enc := encI) rfl) fun hl40 => s_q (.bool (decide ((i_20 : Int) < (a_1.length : Int)))) rfl rfl rfl <| w_done <| k_seq <| w_condt rfl hq36 <| w_skip <| k_seq <| awp_seq <| w_blk <| w_reg <| ?_
   obtain ⟨g41, hc1⟩ := og hc1
   obtain ⟨x_42, ex43, hc1⟩ := ob hc1
   refine s_mov (.own 0 0 out_21.length) rfl <| s_mov (.int .i64 (i_20 : Int)) rfl <| s_mov (.lst 1 (a_1.map encI)) rfl <| s_mov (.int .i64 (i_20 : Int)) rfl <| s_do (o_iaddrn (enc := encI) rfl rfl hx33) <| s_q (.int .i64 x_38) rfl ⟨rfl, rfl⟩ rfl <| s_do (o_iaddrownn rfl rfl g41 rfl rfl) <| ?_; refine s_do0 (o_storerow (v' := (.int .i64 x_38)) (e' := x_38) rfl rfl ex43 rfl rfl rfl (by decide) (fun _ => by decide) ⟨rfl, rfl, rfl⟩ (.refl _) rfl) ?_; refine w_done <| k_blk <| k_seq <| w_reg <| s_mov (.int .i64 (i_20 : Int)) rfl <| s_q (.int .i64 (w64 ((i_20 : Int) + 1))) rfl rfl rfl <| s_mov (.int .i64 (w64 ((i_20 : Int) + 1))) rfl <| w_done <| ?_; exact k_loopn ⟨((i_20 + 1), out_21.set i_20 x_38), hc1⟩ (mul hlt32) ⟨[], [0], _, _, rfl, rfl, ⟨.refl _, ⟨.of_eq (congrArg (AV.own _ 0) (by simp)), ⟨.of_eq (congrArg (AV.int _) (w64_incr hlt32 hl40)), trivial⟩⟩⟩, (.refl _)⟩
 ·refine awp_seq <| w_reg <| s_mov (.own 0 0 out_30.length) rfl <| s_mov (.own 0 0 out_30.length) rfl <| w_done <| k_seq <| w_ret <| ?_; obtain rfl := os hf; exact r_fresh ⟨trivial, trivial⟩ rfl (by decide) (.of_eq (congrArg (AV.lst _) (tk (enc := encI) out_30)))

/- laws.toLock -/
def c110 : ACode :=
 (.seq (.reg (tq 1 (.box 2 (.t 0)) (tq 2 (.box 2 (.c (.agg [(.str []), .nil]))) .done)))
 (.seq (.reg (tq 3 (.box 2 (.c (.agg [(.str []), .nil]))) .done))
 (.seq (.reg (tq 4 (.faddr 0 (.t 1)) (tq 5 (.load 1 false (.t 4)) (tq 6 (.faddr 0 (.t 3)) (.q ⟨none, none, .store 1 (.t 6) (.t 5)⟩
 .done)))))
 (.seq (.reg (tq 7 (.faddr 1 (.t 1)) (tq 8 (.load 1 false (.t 7)) (tq 9 (.call 196 [(.t 8)]) (tq 10 (.faddr 1 (.t 3)) (.q ⟨none, none, .store 1 (.t 10) (.t 9)⟩
 .done))))))
 (.seq (.reg (tq 11 (.load 2 true (.t 3)) (.q ⟨none, none, .store 2 (.t 2) (.t 11)⟩
 .done)))
 .ret)))))
theorem fc110 : fcomp Try.prog Try.f110 = some (c110.erase, [.load 2 true (.t 2)], 12) := by kernel_rfl
def laws_toLock (a_1 : GLock) : Option GLock :=
    (laws_toIntS a_1.Queue).bind fun r_2 =>
    some (⟨a_1.Name, r_2⟩ : GLock)
theorem w_laws_toLock (a_1 : GLock) (r : GLock) (hf : laws_toLock a_1 = some r) : CallOK Try.prog 110 .fresh [(encGLock a_1)] (encGLock r) := by
 refine CallOK.of_awp mixed Try.func110 fc110 nle ?_; rw [argT_eq]; unfold laws_toLock at hf; unfold c110; refine (show awp Try.prog true 0 _ (ofL [(0, (encGLock a_1))]) [] _ from ?_); refine awp_seq <| w_reg <| s_do (o_box (j := 0) (c := (.agg [(.str a_1.Name), (.lst 1 (a_1.Queue.map encI))])) rfl trivial rfl rfl) <| s_do (o_box (j := 1) (c := (.agg [(.str []), .nil])) rfl trivial rfl rfl) <| w_done <| k_seq <| awp_seq <| w_reg <| s_do (o_box (j := 2) (c := (.agg [(.str []), .nil])) rfl trivial rfl rfl) <| w_done <| k_seq <| awp_seq <| w_reg <| s_q (.ptr 0 0 0) rfl trivial rfl <| s_q (.str a_1.Name) rfl nle rfl <| s_q (.ptr 2 0 0) rfl trivial rfl <| s_do0 (o_storebox (v := (.str a_1.Name)) (y' := (.agg [(.str a_1.Name), .nil])) rfl rfl rfl trivial ⟨rfl, nle⟩ ⟨⟨rfl, trivial⟩, trivial⟩ rfl) <| ?_
 refine w_done <| k_seq <| awp_seq <| w_reg <| ?_
 obtain ⟨r_2, er3, hf⟩ := ob hf
 refine s_q (.ptr 0 0 1) rfl trivial rfl <| s_q (.lst 1 (a_1.Queue.map encI)) rfl nle rfl <| s_do (o_callf (v := (.own 3 0 r_2.length)) (h' := [.row 1 (r_2.map encI)]) (w_laws_toIntS _ _ er3) rfl (.refl _) (by simp only [openV, openVs, List.length_map, List.nil_append, List.append_nil, List.cons_append]; rfl)) <| s_q (.ptr 2 0 1) rfl trivial rfl <| s_do0 (o_storebox (v := (.own 3 0 r_2.length)) (y' := (.agg [(.str a_1.Name), (.own 3 0 r_2.length)])) rfl rfl rfl trivial ⟨rfl, nle⟩ ⟨⟨rfl, trivial⟩, trivial⟩ rfl) <| w_done <| k_seq <| awp_seq <| w_reg <| s_q (.agg [(.str a_1.Name), (.own 3 0 r_2.length)]) rfl nle rfl <| s_do0 (o_storebox (v := (.agg [(.str a_1.Name), (.own 3 0 r_2.length)])) (y' := (.agg [(.str a_1.Name), (.own 3 0 r_2.length)])) rfl rfl rfl trivial ⟨rfl, nle⟩ ⟨⟨rfl, trivial⟩, ⟨⟨rfl, trivial⟩, trivial⟩⟩ rfl) <| ?_
 refine w_done <| k_seq <| w_ret <| ?_; obtain rfl := os hf; exact r_fresh ⟨nle, trivial⟩ rfl (by decide) (.agg (.cons (.refl _) (.cons (.of_eq (congrArg (AV.lst _) (tk (enc := encI) r_2))) .nil)))

/- laws.toLockS -/
def c34 : ACode :=
 (.seq (.reg (tm 2 (.c .nil) .done))
 (.seq (.reg (tm 5 (.t 0) (tq 6 (.len (.t 5)) (tq 7 (.mkslice 2 40 (.agg [(.str []), .nil]) (.t 6) (.t 6)) (tm 3 (.t 7) .done)))))
 (.seq (.seq (.reg (tm 4 (.c (.int .i64 0)) .done))
 (.block 0 (.loop (.seq (.seq (.reg (tm 8 (.t 4) (tm 9 (.t 0) (tq 10 (.len (.t 9)) (tq 11 (.bin .lss (.t 8) (.t 10)) .done)))))
 (.cond (.t 11) .skip
 (.exit 0)))
 (.seq (.block 1 (.reg (tm 14 (.t 3) (tm 15 (.t 4) (tm 16 (.t 0) (tm 17 (.t 4) (tq 18 (.iaddr 2 (.t 16) (.t 17)) (tq 19 (.load 2 true (.t 18)) (tq 20 (.call 110 [(.t 19)]) (tq 21 (.iaddr 2 (.t 14) (.t 15)) (.q ⟨none, none, .store 2 (.t 21) (.t 20)⟩
 .done)))))))))))
 (.reg (tm 12 (.t 4) (tq 13 (.bin .add (.t 12) (.c (.int .i64 1))) (tm 4 (.t 13) .done)))))))))
 (.cut (.seq (.reg (tm 22 (.t 3) (tm 2 (.t 22) .done)))
 .ret)))))
theorem fc34 : fcomp Try.prog Try.f34 = some (c34.erase, [.mov (.t 2)], 23) := by kernel_rfl
def laws_toLockS_L1  : List GLock → Nat → (List GLock) → Option (List GLock)
  | [], i_24, out_25 =>
    some out_25
  | x_44 :: xs, i_24, out_25 =>
    (laws_toLock x_44).bind fun r_47 =>
    if i_24 < out_25.length then
    (out_25[i_24]?).bind fun x_50 =>
    laws_toLockS_L1 xs (i_24 + 1) (out_25.set i_24 r_47)
    else none

def laws_toLockS (a_1 : (List GLock)) : Option (List GLock) :=
    if (a_1.length : Int) ≤ 2 ^ 30 then
    (laws_toLockS_L1 a_1 0 (List.replicate a_1.length (⟨[], []⟩ : GLock))).bind fun out_36 =>
    some out_36
    else none
theorem w_laws_toLockS (a_1 : (List GLock)) (r : (List GLock)) (hf : laws_toLockS a_1 = some r) : CallOK Try.prog 34 .fresh [(.lst 2 (a_1.map encGLock))] (.lst 2 (r.map encGLock)) := by
 refine CallOK.of_awp mixed Try.func34 fc34 nle ?_; rw [argT_eq]; unfold laws_toLockS at hf; unfold c34; refine (show awp Try.prog true 0 _ (ofL [(0, (.lst 2 (a_1.map encGLock)))]) [] _ from ?_); refine awp_seq <| w_reg <| s_mov .nil rfl <| w_done <| k_seq <| awp_seq <| w_reg <| ?_
 obtain ⟨g3, hf⟩ := og hf
 refine s_mov (.lst 2 (a_1.map encGLock)) rfl <| s_dof (o_len (enc := encGLock) rfl) fun hl2 => s_do (o_mkslice (j := 0) (enc := encGLock) (m := a_1.length) (⟨[], []⟩ : GLock) (.agg (.cons (.refl _) (.cons (.nil _) .nil))) rfl rfl (Int.le_refl _) g3 rfl) <| s_mov (.own 0 0 a_1.length) rfl <| w_done <| k_seq <| awp_seq <| awp_seq <| w_reg <| s_mov (.int .i64 0) rfl <| w_done <| k_seq <| ?_
 obtain ⟨out_36, hb1, hf⟩ := ob hf
 refine awp_cut ([(3, (.own 0 0 out_36.length))], [.row 2 (out_36.map encGLock)]) ?_ ?_
 ·refine awp_loop (X := {q : (Nat × (List GLock)) // laws_toLockS_L1 (a_1.drop q.1) q.1 q.2 = some out_36}) (fun q => ([(0, (.lst 2 (a_1.map encGLock))), (3, (.own 0 0 q.1.2.length)), (4, (.int .i64 (q.1.1 : Int)))], [.row 2 (q.1.2.map encGLock)])) (fun q => a_1.length - q.1.1) ⟨(0, List.replicate a_1.length (⟨[], []⟩ : GLock)), hb1⟩ ⟨[], [0], _, _, rfl, rfl, ⟨.refl _, ⟨.of_eq (congrArg (AV.own _ 0) (by simp)), ⟨.refl _, trivial⟩⟩⟩, (.refl _)⟩ ?_
  rintro ⟨⟨i_24, out_25⟩, hc1⟩
  have hc1 : laws_toLockS_L1 (a_1.drop i_24) i_24 out_25 = some out_36 := hc1
  refine (show awp Try.prog true 0 _ (ofL [(0, (.lst 2 (a_1.map encGLock))), (3, (.own 0 0 out_25.length)), (4, (.int .i64 (i_24 : Int)))]) [.row 2 (out_25.map encGLock)] _ from ?_)
  rcases dropc a_1 i_24 with ⟨hie40, hd43⟩ | ⟨hlt38, x_44, hx39, hd43⟩
  ·rw [hd43, laws_toLockS_L1.eq_1] at hc1
   have hq42 := dlf hie40
   refine awp_seq <| awp_seq <| w_reg <| s_mov (.int .i64 (i_24 : Int)) rfl <| s_mov (.lst 2 (a_1.map encGLock)) rfl <| s_dof (o_len (enc := encGLock) rfl) fun hl45 => s_q (.bool (decide ((i_24 : Int) < (a_1.length : Int)))) rfl rfl rfl <| w_done <| k_seq <| w_condf rfl hq42 <| w_exit <| k_seqx <| k_loopx <| k_blkx <| ?_; obtain rfl := os hc1; exact ⟨[], [0], _, _, rfl, rfl, ⟨.refl _, trivial⟩, (.refl _)⟩
  ·rw [hd43, laws_toLockS_L1.eq_2] at hc1
   have hq42 := dlt hlt38
   refine awp_seq <| awp_seq <| w_reg <| s_mov (.int .i64 (i_24 : Int)) rfl <| s_mov (.lst 2 (a_1.map encGLock)) rfl <| s_dof (o_len (enc := encGLock) rfl) fun hl46 => s_q (.bool (decide ((i_24 : Int) < (a_1.length : Int)))) rfl rfl rfl <| w_done <| k_seq <| w_condt rfl hq42 <| w_skip <| k_seq <| awp_seq <| w_blk <| w_reg <| ?_
   obtain ⟨r_47, er48, hc1⟩ := ob hc1
   obtain ⟨g49, hc1⟩ := og hc1
   obtain ⟨x_50, ex51, hc1⟩ := ob hc1
   refine s_mov (.own 0 0 out_25.length) rfl <| s_mov (.int .i64 (i_24 : Int)) rfl <| s_mov (.lst 2 (a_1.map encGLock)) rfl <| s_mov (.int .i64 (i_24 : Int)) rfl <| s_do (o_iaddrn (enc := encGLock) rfl rfl hx39) <| s_q (encGLock x_44) rfl nle rfl <| s_do (o_callf (v := (.agg [(.str r_47.Name), (.own 1 0 r_47.Queue.length)])) (h' := [.row 1 (r_47.Queue.map encI)]) (w_laws_toLock _ _ er48) rfl (.refl _) (by simp only [openV, openVs, List.length_map, encGLock_eq, List.nil_append, List.append_nil, List.cons_append]; rfl)) <| s_do (o_iaddrownn rfl rfl g49 rfl rfl) <| ?_
   refine s_do0 (o_storerow (v' := (.agg [(.str r_47.Name), (.lst 1 (r_47.Queue.map encI))])) (e' := r_47) rfl rfl ex51 rfl rfl (by first | (simp only [tk, tko, List.take_length]; done) | rfl | simp) (by decide) (fun _ => by decide) ⟨rfl, nle⟩ (.refl _) rfl) ?_
   refine w_done <| k_blk <| k_seq <| w_reg <| s_mov (.int .i64 (i_24 : Int)) rfl <| s_q (.int .i64 (w64 ((i_24 : Int) + 1))) rfl rfl rfl <| s_mov (.int .i64 (w64 ((i_24 : Int) + 1))) rfl <| w_done <| ?_; exact k_loopn ⟨((i_24 + 1), out_25.set i_24 r_47), hc1⟩ (mul hlt38) ⟨[], [0], _, _, rfl, rfl, ⟨.refl _, ⟨.of_eq (congrArg (AV.own _ 0) (by simp)), ⟨.of_eq (congrArg (AV.int _) (w64_incr hlt38 hl46)), trivial⟩⟩⟩, (.refl _)⟩
 ·refine awp_seq <| w_reg <| s_mov (.own 0 0 out_36.length) rfl <| s_mov (.own 0 0 out_36.length) rfl <| w_done <| k_seq <| w_ret <| ?_; obtain rfl := os hf; exact r_fresh ⟨trivial, trivial⟩ rfl (by decide) (.of_eq (congrArg (AV.lst _) (tk (enc := encGLock) out_36)))

/- spec.l00Letter -/
def c273 : ACode :=
 (.seq (.reg (tm 2 (.c (.bool false)) .done))
 (.seq (.reg (tm 3 (.t 0) (tq 4 (.bin .geq (.t 3) (.c (.int .u8 97))) (tm 5 (.t 4) (tg 6 5 true (.mov (.t 0)) (tg 7 5 true (.bin .leq (.t 6) (.c (.int .u8 122))) (tq 8 (.pick (.t 5) (.t 7) (.c (.bool false))) (tm 9 (.t 8) (tg 10 9 false (.mov (.t 0)) (tg 11 9 false (.bin .geq (.t 10) (.c (.int .u8 65))) (tg 12 9 false (.mov (.t 11)) (tg 13 12 true (.mov (.t 0)) (tg 14 12 true (.bin .leq (.t 13) (.c (.int .u8 90))) (tg 15 9 false (.pick (.t 12) (.t 14) (.c (.bool false))) (tq 16 (.pick (.t 9) (.c (.bool true)) (.t 15)) (tm 17 (.t 16) (tg 18 17 false (.mov (.t 0)) (tg 19 17 false (.bin .eql (.t 18) (.c (.int .u8 95))) (tq 20 (.pick (.t 17) (.c (.bool true)) (.t 19)) (tm 2 (.t 20) .done))))))))))))))))))))
 .ret))
theorem fc273 : fcomp Try.prog Try.f273 = some (c273.erase, [.mov (.t 2)], 21) := by kernel_rfl
def spec_l00Letter (c_1 : Int) : Option Bool :=
    some (bif (bif (bif (decide (c_1 ≥ 97)) then (decide (c_1 ≤ 122)) else false) then true else (bif (decide (c_1 ≥ 65)) then (decide (c_1 ≤ 90)) else false)) then true else (c_1 == 95))
theorem w_spec_l00Letter (c_1 : Int) (r : Bool) (hf : spec_l00Letter c_1 = some r) : CallOK Try.prog 273 .flat [(.int .u8 c_1)] (.bool r) := by
 refine CallOK.of_awp mixed Try.func273 fc273 nle ?_; rw [argT_eq]; unfold spec_l00Letter at hf; unfold c273; refine (show awp Try.prog false 0 _ (ofL [(0, (.int .u8 c_1))]) [] _ from ?_); refine awp_seq <| w_reg <| s_mov (.bool false) rfl <| w_done <| k_seq <| awp_seq <| w_reg <| s_mov (.int .u8 c_1) rfl <| s_q (.bool (decide (c_1 ≥ 97))) rfl rfl rfl <| s_mov (.bool (decide (c_1 ≥ 97))) rfl <| ?_; refine s_g (v := (decide (c_1 ≥ 97))) (.int .u8 c_1) rfl (fun hv => by (try simp only [gs_on hv]); exact ⟨rfl, trivial, rfl⟩) ?_; refine s_g (v := (decide (c_1 ≥ 97))) (.bool (decide (c_1 ≤ 122))) rfl (fun hv => by (try simp only [gs_on hv]); exact ⟨rfl, rfl, rfl⟩) ?_; refine s_pick (x := (decide (c_1 ≤ 122))) (y := false) rfl (fun hv => by (try simp only [gs_on hv]); rfl) (fun hv => by (try simp only [gs_on hv]); rfl) ?_
 refine s_mov (.bool (bif (decide (c_1 ≥ 97)) then (decide (c_1 ≤ 122)) else false)) rfl ?_; refine s_g (v := (bif (decide (c_1 ≥ 97)) then (decide (c_1 ≤ 122)) else false)) (.int .u8 c_1) rfl (fun hv => by (try simp only [gs_on hv]); exact ⟨rfl, trivial, rfl⟩) ?_; refine s_g (v := (bif (decide (c_1 ≥ 97)) then (decide (c_1 ≤ 122)) else false)) (.bool (decide (c_1 ≥ 65))) rfl (fun hv => by (try simp only [gs_on hv]); exact ⟨rfl, rfl, rfl⟩) ?_; refine s_g (v := (bif (decide (c_1 ≥ 97)) then (decide (c_1 ≤ 122)) else false)) (.bool (decide (c_1 ≥ 65))) rfl (fun hv => by (try simp only [gs_on hv]); exact ⟨rfl, trivial, rfl⟩) ?_; refine s_gg (v1 := (bif (decide (c_1 ≥ 97)) then (decide (c_1 ≤ 122)) else false)) (b1 := false) (v2 := (decide (c_1 ≥ 65))) (.int .u8 c_1) rfl (fun hv hw => by (try simp only [gs_on hv, gs_on hw]); exact ⟨rfl, trivial, rfl⟩) ?_
 refine s_gg (v1 := (bif (decide (c_1 ≥ 97)) then (decide (c_1 ≤ 122)) else false)) (b1 := false) (v2 := (decide (c_1 ≥ 65))) (.bool (decide (c_1 ≤ 90))) rfl (fun hv hw => by (try simp only [gs_on hv, gs_on hw]); exact ⟨rfl, rfl, rfl⟩) ?_; refine s_gp (v1 := (bif (decide (c_1 ≥ 97)) then (decide (c_1 ≤ 122)) else false)) (b1 := false) (v2 := (decide (c_1 ≥ 65))) (x := (decide (c_1 ≤ 90))) (y := false) rfl (fun hv => by (try simp only [gs_on hv]); rfl) (fun hv hw => by (try simp only [gs_on hv, gs_on hw]); rfl) (fun hv hw => by (try simp only [gs_on hv, gs_on hw]); rfl) ?_; refine s_pick (x := true) (y := (bif (decide (c_1 ≥ 65)) then (decide (c_1 ≤ 90)) else false)) rfl (fun hv => by (try simp only [gs_on hv]); rfl) (fun hv => by (try simp only [gs_on hv]); rfl) ?_
 refine s_mov (.bool (bif (bif (decide (c_1 ≥ 97)) then (decide (c_1 ≤ 122)) else false) then true else (bif (decide (c_1 ≥ 65)) then (decide (c_1 ≤ 90)) else false))) rfl ?_; refine s_g (v := (bif (bif (decide (c_1 ≥ 97)) then (decide (c_1 ≤ 122)) else false) then true else (bif (decide (c_1 ≥ 65)) then (decide (c_1 ≤ 90)) else false))) (.int .u8 c_1) rfl (fun hv => by (try simp only [gs_on hv]); exact ⟨rfl, trivial, rfl⟩) ?_; refine s_g (v := (bif (bif (decide (c_1 ≥ 97)) then (decide (c_1 ≤ 122)) else false) then true else (bif (decide (c_1 ≥ 65)) then (decide (c_1 ≤ 90)) else false))) (.bool (c_1 == 95)) rfl (fun hv => by (try simp only [gs_on hv]); exact ⟨rfl, rfl, rfl⟩) ?_; refine s_pick (x := true) (y := (c_1 == 95)) rfl (fun hv => by (try simp only [gs_on hv]); rfl) (fun hv => by (try simp only [gs_on hv]); rfl) ?_
 refine s_mov (.bool (bif (bif (bif (decide (c_1 ≥ 97)) then (decide (c_1 ≤ 122)) else false) then true else (bif (decide (c_1 ≥ 65)) then (decide (c_1 ≤ 90)) else false)) then true else (c_1 == 95))) rfl <| w_done <| k_seq <| w_ret <| ?_; obtain rfl := os hf; exact r_flat ⟨trivial, trivial⟩ rfl (.refl _)

/- spec.l00Digit -/
def c274 : ACode :=
 (.seq (.reg (tm 2 (.c (.bool false)) .done))
 (.seq (.reg (tm 3 (.t 0) (tq 4 (.bin .geq (.t 3) (.c (.int .u8 48))) (tm 5 (.t 4) (tg 6 5 true (.mov (.t 0)) (tg 7 5 true (.bin .leq (.t 6) (.c (.int .u8 57))) (tq 8 (.pick (.t 5) (.t 7) (.c (.bool false))) (tm 2 (.t 8) .done))))))))
 .ret))
theorem fc274 : fcomp Try.prog Try.f274 = some (c274.erase, [.mov (.t 2)], 9) := by kernel_rfl
def spec_l00Digit (c_1 : Int) : Option Bool :=
    if (decide (c_1 ≥ 48)) then
    some (decide (c_1 ≤ 57))
    else
    some false
theorem w_spec_l00Digit (c_1 : Int) (r : Bool) (hf : spec_l00Digit c_1 = some r) : CallOK Try.prog 274 .flat [(.int .u8 c_1)] (.bool r) := by
 refine CallOK.of_awp mixed Try.func274 fc274 nle ?_; rw [argT_eq]; unfold spec_l00Digit at hf; unfold c274; refine (show awp Try.prog false 0 _ (ofL [(0, (.int .u8 c_1))]) [] _ from ?_); refine awp_seq <| w_reg <| s_mov (.bool false) rfl <| w_done <| k_seq <| awp_seq <| w_reg <| ?_
 rcases oi hf with ⟨c2, hf⟩ | ⟨c2, hf⟩
 ·refine s_mov (.int .u8 c_1) rfl <| s_q (.bool (decide (c_1 ≥ 48))) rfl rfl rfl <| s_mov (.bool (decide (c_1 ≥ 48))) rfl <| s_lit (s := 5) (b := true) rfl c2 <| s_on rfl <| s_mov (.int .u8 c_1) rfl <| s_on rfl <| s_q (.bool (decide (c_1 ≤ 57))) rfl rfl rfl <| s_q (.bool (decide (c_1 ≤ 57))) rfl trivial rfl <| s_mov (.bool (decide (c_1 ≤ 57))) rfl <| w_done <| k_seq <| w_ret <| ?_; obtain rfl := os hf; exact r_flat ⟨trivial, trivial⟩ rfl (.refl _)
 ·refine s_mov (.int .u8 c_1) rfl <| s_q (.bool (decide (c_1 ≥ 48))) rfl rfl rfl <| s_mov (.bool (decide (c_1 ≥ 48))) rfl <| s_lit (s := 5) (b := false) rfl (bf c2) <| s_off rfl rfl <| s_off rfl rfl <| s_q (.bool false) rfl trivial rfl <| s_mov (.bool false) rfl <| w_done <| k_seq <| w_ret <| ?_; obtain rfl := os hf; exact r_flat ⟨trivial, trivial⟩ rfl (.refl _)

/- spec.l00Word -/
def c252 : ACode :=
 (.seq (.reg (tm 2 (.c (.bool false)) .done))
 (.seq (.seq (.reg (tm 4 (.t 0) (tq 5 (.lenS (.t 4)) (tq 6 (.bin .lss (.t 5) (.c (.int .i64 1))) (tm 7 (.t 6) (tg 8 7 false (.mov (.t 0)) (tg 9 7 false (.lenS (.t 8)) (tg 10 7 false (.bin .gtr (.t 9) (.c (.int .i64 40))) (tq 11 (.pick (.t 7) (.c (.bool true)) (.t 10)) (tm 12 (.t 11) (tg 13 12 false (.mov (.t 0)) (tg 14 12 false (.idxs (.t 13) (.c (.int .i64 0))) (tg 15 12 false (.call 273 [(.t 14)]) (tg 16 12 false (.not (.t 15)) (tq 17 (.pick (.t 12) (.c (.bool true)) (.t 16)) .done)))))))))))))))
 (.cut (.cond (.t 17) (.seq (.reg (tm 2 (.c (.bool false)) .done))
 .ret)
 .skip)))
 (.seq (.seq (.reg (tm 3 (.c (.int .i64 1)) .done))
 (.block 0 (.loop (.seq (.seq (.reg (tm 18 (.t 3) (tm 19 (.t 0) (tq 20 (.lenS (.t 19)) (tq 21 (.bin .lss (.t 18) (.t 20)) .done)))))
 (.cond (.t 21) .skip
 (.exit 0)))
 (.seq (.block 1 (.seq (.reg (tm 24 (.t 0) (tm 25 (.t 3) (tq 26 (.idxs (.t 24) (.t 25)) (tq 27 (.call 273 [(.t 26)]) (tq 28 (.not (.t 27)) (tm 29 (.t 28) (tg 30 29 true (.mov (.t 0)) (tg 31 29 true (.mov (.t 3)) (tg 32 29 true (.idxs (.t 30) (.t 31)) (tg 33 29 true (.call 274 [(.t 32)]) (tg 34 29 true (.not (.t 33)) (tq 35 (.pick (.t 29) (.t 34) (.c (.bool false))) .done)))))))))))))
 (.cut (.cond (.t 35) (.seq (.reg (tm 2 (.c (.bool false)) .done))
 .ret)
 .skip))))
 (.reg (tm 22 (.t 3) (tq 23 (.bin .add (.t 22) (.c (.int .i64 1))) (tm 3 (.t 23) .done)))))))))
 (.cut (.seq (.reg (tm 2 (.c (.bool true)) .done))
 .ret)))))
theorem fc252 : fcomp Try.prog Try.f252 = some (c252.erase, [.mov (.t 2)], 36) := by kernel_rfl
def spec_l00Word_L1  : List UInt8 → Option (Fl Bool Unit)
  | [] =>
    some (.go ())
  | x_98 :: xs =>
    (((spec_l00Letter (x_98.toNat : Int)).bind fun r_108 =>
    if (!r_108) then
    (spec_l00Digit (x_98.toNat : Int)).bind fun r_111 =>
    some (!r_111)
    else
    some false : Option Bool)).bind fun s35_106 =>
    if s35_106 then
    some (.ret false)
    else
    spec_l00Word_L1 xs 

def spec_l00Word (t_1 : Str) : Option Bool :=
    ((if (bif (decide ((t_1.length : Int) < 1)) then true else (decide ((t_1.length : Int) > 40))) then
    some true
    else
    (idx t_1 0).bind fun b_14 =>
    (spec_l00Letter (b_14.toNat : Int)).bind fun r_16 =>
    some (!r_16) : Option Bool)).bind fun s17_9 =>
    if s17_9 then
    some false
    else
    (spec_l00Word_L1 (t_1.drop 1) ).bind fun q => (match q with
    | .ret r => some r
    | .go _ =>
    some true)
theorem w_spec_l00Word (t_1 : Str) (r : Bool) (hf : spec_l00Word t_1 = some r) : CallOK Try.prog 252 .flat [(.str t_1)] (.bool r) := by
 refine CallOK.of_awp mixed Try.func252 fc252 nle ?_; rw [argT_eq]; unfold spec_l00Word at hf; unfold c252; refine (show awp Try.prog false 0 _ (ofL [(0, (.str t_1))]) [] _ from ?_); refine awp_seq <| w_reg <| s_mov (.bool false) rfl <| w_done <| k_seq <| awp_seq <| awp_seq <| ?_
 obtain ⟨s17_9, hb1, hf⟩ := ob hf
 refine awp_cut ([(0, (.str t_1)), (17, (.bool s17_9))], []) ?_ ?_
 ·refine w_reg <| s_mov (.str t_1) rfl <| s_dof (o_lenS rfl) fun hl11 => s_q (.bool (decide ((t_1.length : Int) < 1))) rfl rfl rfl <| s_mov (.bool (decide ((t_1.length : Int) < 1))) rfl <| ?_; refine s_g (v := (decide ((t_1.length : Int) < 1))) (.str t_1) rfl (fun hv => by (try simp only [gs_on hv]); exact ⟨rfl, trivial, rfl⟩) ?_; refine s_g (v := (decide ((t_1.length : Int) < 1))) (.int .i64 (t_1.length : Int)) rfl (fun hv => by (try simp only [gs_on hv]); exact ⟨rfl, trivial, rfl⟩) ?_; refine s_g (v := (decide ((t_1.length : Int) < 1))) (.bool (decide ((t_1.length : Int) > 40))) rfl (fun hv => by (try simp only [gs_on hv]); exact ⟨rfl, rfl, rfl⟩) ?_; refine s_pick (x := true) (y := (decide ((t_1.length : Int) > 40))) rfl (fun hv => by (try simp only [gs_on hv]); rfl) (fun hv => by (try simp only [gs_on hv]); rfl) ?_
  refine s_mov (.bool (bif (decide ((t_1.length : Int) < 1)) then true else (decide ((t_1.length : Int) > 40)))) rfl ?_
  rcases oi hb1 with ⟨c13, hb1⟩ | ⟨c13, hb1⟩
  ·refine s_lit (s := 12) (b := true) rfl c13 <| s_off rfl rfl <| s_off rfl rfl <| s_off rfl rfl <| s_off rfl rfl <| s_q (.bool true) rfl trivial rfl <| w_done <| ?_; obtain rfl := os hb1; exact ⟨[], [], _, _, rfl, rfl, ⟨.refl _, ⟨.refl _, trivial⟩⟩, (.refl _)⟩
  ·refine s_lit (s := 12) (b := false) rfl (bf c13) <| s_on rfl <| s_mov (.str t_1) rfl <| s_on rfl <| ?_
   obtain ⟨b_14, eb15, hb1⟩ := ob hb1
   refine s_do (o_idxs rfl rfl (idx0 eb15) (idx1 eb15)) <| s_on rfl <| ?_
   obtain ⟨r_16, er17, hb1⟩ := ob hb1
   refine s_do (o_call (w_spec_l00Letter _ _ er17) rfl (.refl _) rfl) <| s_on rfl <| s_q (.bool (!r_16)) rfl trivial rfl <| s_q (.bool (!r_16)) rfl trivial rfl <| w_done <| ?_; obtain rfl := os hb1; exact ⟨[], [], _, _, rfl, rfl, ⟨.refl _, ⟨.refl _, trivial⟩⟩, (.refl _)⟩
 ·rcases oi hf with ⟨c18, hf⟩ | ⟨c18, hf⟩
  ·refine w_condt rfl c18 <| awp_seq <| w_reg <| s_mov (.bool false) rfl <| w_done <| k_seq <| w_ret <| ?_; obtain rfl := os hf; exact r_flat ⟨trivial, trivial⟩ rfl (.refl _)
  ·refine w_condf rfl (bf c18) <| w_skip <| k_seq <| awp_seq <| awp_seq <| w_reg <| s_mov (.int .i64 1) rfl <| w_done <| k_seq <| ?_
   obtain ⟨p91, hb1, hf⟩ := ob hf
   refine awp_cutx (X := {q : Unit // p91 = .go q}) (fun q => ([], [])) ?_ ?_
   ·refine awp_loop (X := {q : Nat // spec_l00Word_L1 (t_1.drop q)  = some p91}) (fun q => ([(0, (.str t_1)), (3, (.int .i64 (q.1 : Int)))], [])) (fun q => t_1.length - q.1) ⟨1, hb1⟩ ⟨[], [], _, _, rfl, rfl, ⟨.refl _, ⟨.refl _, trivial⟩⟩, (.refl _)⟩ ?_
    rintro ⟨i_66, hc1⟩
    have hc1 : spec_l00Word_L1 (t_1.drop i_66)  = some p91 := hc1
    refine (show awp Try.prog false 0 _ (ofL [(0, (.str t_1)), (3, (.int .i64 (i_66 : Int)))]) [] _ from ?_)
    rcases dropc t_1 i_66 with ⟨hie94, hd97⟩ | ⟨hlt92, x_98, hx93, hd97⟩
    ·rw [hd97, spec_l00Word_L1.eq_1] at hc1
     have hq96 := dlf hie94
     refine awp_seq <| awp_seq <| w_reg <| s_mov (.int .i64 (i_66 : Int)) rfl <| s_mov (.str t_1) rfl <| s_dof (o_lenS rfl) fun hl99 => s_q (.bool (decide ((i_66 : Int) < (t_1.length : Int)))) rfl rfl rfl <| w_done <| k_seq <| w_condf rfl hq96 <| w_exit <| k_seqx <| k_loopx <| k_blkx <| ?_; obtain rfl := os hc1; exact k_cutn ⟨_, rfl⟩ ⟨[], [], _, _, rfl, rfl, trivial, (.refl _)⟩
    ·rw [hd97, spec_l00Word_L1.eq_2] at hc1
     have hq96 := dlt hlt92
     refine awp_seq <| awp_seq <| w_reg <| s_mov (.int .i64 (i_66 : Int)) rfl <| s_mov (.str t_1) rfl <| s_dof (o_lenS rfl) fun hl100 => s_q (.bool (decide ((i_66 : Int) < (t_1.length : Int)))) rfl rfl rfl <| w_done <| k_seq <| w_condt rfl hq96 <| w_skip <| k_seq <| awp_seq <| w_blk <| awp_seq <| ?_
     obtain ⟨s35_106, hb2, hc1⟩ := ob hc1
     refine awp_cut ([(0, (.str t_1)), (3, (.int .i64 (i_66 : Int))), (35, (.bool s35_106))], []) ?_ ?_
     ·refine w_reg ?_
      obtain ⟨r_108, er109, hb2⟩ := ob hb2
      rcases oi hb2 with ⟨c110, hb2⟩ | ⟨c110, hb2⟩
      ·obtain ⟨r_111, er112, hb2⟩ := ob hb2
       refine s_mov (.str t_1) rfl <| s_mov (.int .i64 (i_66 : Int)) rfl <| s_do (o_idxsn rfl rfl hx93) <| s_do (o_call (w_spec_l00Letter _ _ er109) rfl (.refl _) rfl) <| s_q (.bool (!r_108)) rfl trivial rfl <| s_mov (.bool (!r_108)) rfl <| s_lit (s := 29) (b := true) rfl c110 <| s_on rfl <| s_mov (.str t_1) rfl <| s_on rfl <| s_mov (.int .i64 (i_66 : Int)) rfl <| s_on rfl <| s_do (o_idxsn rfl rfl hx93) <| s_on rfl <| s_do (o_call (w_spec_l00Digit _ _ er112) rfl (.refl _) rfl) <| s_on rfl <| s_q (.bool (!r_111)) rfl trivial rfl <| s_q (.bool (!r_111)) rfl trivial rfl <| w_done <| ?_; obtain rfl := os hb2; exact ⟨[], [], _, _, rfl, rfl, ⟨.refl _, ⟨.refl _, ⟨.refl _, trivial⟩⟩⟩, (.refl _)⟩
      ·refine s_mov (.str t_1) rfl <| s_mov (.int .i64 (i_66 : Int)) rfl <| s_do (o_idxsn rfl rfl hx93) <| s_do (o_call (w_spec_l00Letter _ _ er109) rfl (.refl _) rfl) <| s_q (.bool (!r_108)) rfl trivial rfl <| s_mov (.bool (!r_108)) rfl <| s_lit (s := 29) (b := false) rfl (bf c110) <| s_off rfl rfl <| s_off rfl rfl <| s_off rfl rfl <| s_off rfl rfl <| s_off rfl rfl <| s_q (.bool false) rfl trivial rfl <| w_done <| ?_; obtain rfl := os hb2; exact ⟨[], [], _, _, rfl, rfl, ⟨.refl _, ⟨.refl _, ⟨.refl _, trivial⟩⟩⟩, (.refl _)⟩
     ·rcases oi hc1 with ⟨c113, hc1⟩ | ⟨c113, hc1⟩
      ·refine w_condt rfl c113 <| awp_seq <| w_reg <| s_mov (.bool false) rfl <| w_done <| k_seq <| w_ret <| ?_; obtain rfl := os hc1; obtain rfl := os hf; exact r_flat ⟨trivial, trivial⟩ rfl (.refl _)
      ·refine w_condf rfl (bf c113) <| w_skip <| k_blk <| k_seq <| w_reg <| s_mov (.int .i64 (i_66 : Int)) rfl <| s_q (.int .i64 (w64 ((i_66 : Int) + 1))) rfl rfl rfl <| s_mov (.int .i64 (w64 ((i_66 : Int) + 1))) rfl <| w_done <| ?_; exact k_loopn ⟨(i_66 + 1), hc1⟩ (mul hlt92) ⟨[], [], _, _, rfl, rfl, ⟨.refl _, ⟨.of_eq (congrArg (AV.int _) (w64_incr hlt92 hl100)), trivial⟩⟩, (.refl _)⟩
   ·rintro ⟨_, rfl⟩
    refine awp_seq <| w_reg <| s_mov (.bool true) rfl <| w_done <| k_seq <| w_ret <| ?_; obtain rfl := os hf; exact r_flat ⟨trivial, trivial⟩ rfl (.refl _)

/- spec.NameOK -/
def c190 : ACode :=
 (.seq (.reg (tm 2 (.c (.bool false)) .done))
 (.seq (.reg (tm 3 (.t 0) (tq 4 (.call 252 [(.t 3)]) (tm 2 (.t 4) .done))))
 .ret))
theorem fc190 : fcomp Try.prog Try.f190 = some (c190.erase, [.mov (.t 2)], 5) := by kernel_rfl
def spec_NameOK (t_1 : Str) : Option Bool :=
    (spec_l00Word t_1).bind fun r_2 =>
    some r_2
theorem w_spec_NameOK (t_1 : Str) (r : Bool) (hf : spec_NameOK t_1 = some r) : CallOK Try.prog 190 .flat [(.str t_1)] (.bool r) := by
  refine CallOK.of_awp mixed Try.func190 fc190 nle ?_
  rw [argT_eq]
  unfold spec_NameOK at hf
  unfold c190
  refine (show awp Try.prog false 0 _ (ofL [(0, (.str t_1))]) [] _ from ?_)
  refine awp_seq ?_
  refine w_reg ?_
  refine s_do (o_mov (.bool false) rfl) ?_
  refine w_done ?_
  refine k_seq ?_
  refine awp_seq ?_
  refine w_reg ?_
  obtain ⟨r_2, er3, hf⟩ := ob hf
  refine s_do (o_mov (.str t_1) rfl) ?_
  refine s_do (o_call (w_spec_l00Word _ _ er3) rfl (.refl _) rfl) ?_
  refine s_do (o_mov (.bool r_2) rfl) ?_
  refine w_done ?_
  refine k_seq ?_
  refine w_ret ?_
  obtain rfl := os hf
  exact r_flat ⟨trivial, trivial⟩ rfl (.refl _)

/- spec.l01In -/
def c230 : ACode :=
 (.seq (.reg (tm 6 (.c (.bool false)) .done))
 (.seq (.reg (tm 7 (.t 1) (tm 8 (.t 0) (tq 9 (.bin .leq (.t 7) (.t 8)) (tm 10 (.t 9) (tg 11 10 true (.mov (.t 0)) (tg 12 10 true (.mov (.t 2)) (tg 13 10 true (.bin .leq (.t 11) (.t 12)) (tq 14 (.pick (.t 10) (.t 13) (.c (.bool false))) (tm 6 (.t 14) .done))))))))))
 .ret))
theorem fc230 : fcomp Try.prog Try.f230 = some (c230.erase, [.mov (.t 6)], 15) := by kernel_rfl
def spec_l01In (n_1 : Int) (low_2 : Int) (high_3 : Int) : Option Bool :=
    if (decide (low_2 ≤ n_1)) then
    some (decide (n_1 ≤ high_3))
    else
    some false
theorem w_spec_l01In (n_1 : Int) (low_2 : Int) (high_3 : Int) (r : Bool) (hf : spec_l01In n_1 low_2 high_3 = some r) : CallOK Try.prog 230 .flat [(.int .i64 n_1), (.int .i64 low_2), (.int .i64 high_3)] (.bool r) := by
 refine CallOK.of_awp mixed Try.func230 fc230 nle ?_; rw [argT_eq]; unfold spec_l01In at hf; unfold c230; refine (show awp Try.prog false 0 _ (ofL [(0, (.int .i64 n_1)), (1, (.int .i64 low_2)), (2, (.int .i64 high_3))]) [] _ from ?_); refine awp_seq <| w_reg <| s_mov (.bool false) rfl <| w_done <| k_seq <| awp_seq <| w_reg <| ?_
 rcases oi hf with ⟨c4, hf⟩ | ⟨c4, hf⟩
 ·refine s_mov (.int .i64 low_2) rfl <| s_mov (.int .i64 n_1) rfl <| s_q (.bool (decide (low_2 ≤ n_1))) rfl rfl rfl <| s_mov (.bool (decide (low_2 ≤ n_1))) rfl <| s_lit (s := 10) (b := true) rfl c4 <| s_on rfl <| s_mov (.int .i64 n_1) rfl <| s_on rfl <| s_mov (.int .i64 high_3) rfl <| s_on rfl <| s_q (.bool (decide (n_1 ≤ high_3))) rfl rfl rfl <| s_q (.bool (decide (n_1 ≤ high_3))) rfl trivial rfl <| s_mov (.bool (decide (n_1 ≤ high_3))) rfl <| w_done <| k_seq <| w_ret <| ?_; obtain rfl := os hf; exact r_flat ⟨trivial, trivial⟩ rfl (.refl _)
 ·refine s_mov (.int .i64 low_2) rfl <| s_mov (.int .i64 n_1) rfl <| s_q (.bool (decide (low_2 ≤ n_1))) rfl rfl rfl <| s_mov (.bool (decide (low_2 ≤ n_1))) rfl <| s_lit (s := 10) (b := false) rfl (bf c4) <| s_off rfl rfl <| s_off rfl rfl <| s_off rfl rfl <| s_q (.bool false) rfl trivial rfl <| s_mov (.bool false) rfl <| w_done <| k_seq <| w_ret <| ?_; obtain rfl := os hf; exact r_flat ⟨trivial, trivial⟩ rfl (.refl _)

/- spec.l12Session -/
def c189 : ACode :=
 (.seq (.reg (tm 2 (.c (.bool false)) .done))
 (.seq (.reg (tm 3 (.t 0) (tq 4 (.call 230 [(.t 3), (.c (.int .i64 0)), (.c (.int .i64 2))]) (tm 2 (.t 4) .done))))
 .ret))
theorem fc189 : fcomp Try.prog Try.f189 = some (c189.erase, [.mov (.t 2)], 5) := by kernel_rfl
def spec_l12Session (n_1 : Int) : Option Bool :=
    (spec_l01In n_1 0 2).bind fun r_2 =>
    some r_2
theorem w_spec_l12Session (n_1 : Int) (r : Bool) (hf : spec_l12Session n_1 = some r) : CallOK Try.prog 189 .flat [(.int .i64 n_1)] (.bool r) := by
  refine CallOK.of_awp mixed Try.func189 fc189 nle ?_
  rw [argT_eq]
  unfold spec_l12Session at hf
  unfold c189
  refine (show awp Try.prog false 0 _ (ofL [(0, (.int .i64 n_1))]) [] _ from ?_)
  refine awp_seq ?_
  refine w_reg ?_
  refine s_do (o_mov (.bool false) rfl) ?_
  refine w_done ?_
  refine k_seq ?_
  refine awp_seq ?_
  refine w_reg ?_
  obtain ⟨r_2, er3, hf⟩ := ob hf
  refine s_do (o_mov (.int .i64 n_1) rfl) ?_
  refine s_do (o_call (w_spec_l01In _ _ _ _ er3) rfl (.refl _) rfl) ?_
  refine s_do (o_mov (.bool r_2) rfl) ?_
  refine w_done ?_
  refine k_seq ?_
  refine w_ret ?_
  obtain rfl := os hf
  exact r_flat ⟨trivial, trivial⟩ rfl (.refl _)

/- spec.l12In -/
def c195 : ACode :=
 (.seq (.reg (tm 4 (.c (.bool false)) .done))
 (.seq (.seq (.reg (tm 5 (.c (.int .i64 0)) .done))
 (.block 0 (.loop (.seq (.seq (.reg (tm 6 (.t 5) (tm 7 (.t 0) (tq 8 (.len (.t 7)) (tq 9 (.bin .lss (.t 6) (.t 8)) .done)))))
 (.cond (.t 9) .skip
 (.exit 0)))
 (.seq (.block 1 (.seq (.reg (tm 12 (.t 0) (tm 13 (.t 5) (tq 14 (.iaddr 1 (.t 12) (.t 13)) (tq 15 (.load 1 false (.t 14)) (tm 16 (.t 1) (tq 17 (.bin .eql (.t 15) (.t 16)) .done)))))))
 (.cond (.t 17) (.seq (.reg (tm 4 (.c (.bool true)) .done))
 .ret)
 .skip)))
 (.reg (tm 10 (.t 5) (tq 11 (.bin .add (.t 10) (.c (.int .i64 1))) (tm 5 (.t 11) .done)))))))))
 (.cut (.seq (.reg (tm 4 (.c (.bool false)) .done))
 .ret))))
theorem fc195 : fcomp Try.prog Try.f195 = some (c195.erase, [.mov (.t 4)], 18) := by kernel_rfl
def spec_l12In_L1 (n_2 : Int) : List Int → Option (Fl Bool Unit)
  | [] =>
    some (.go ())
  | x_28 :: xs =>
    if (x_28 == n_2) then
    some (.ret true)
    else
    spec_l12In_L1 n_2 xs 

def spec_l12In (list_1 : (List Int)) (n_2 : Int) : Option Bool :=
    (spec_l12In_L1 n_2 list_1 ).bind fun q => (match q with
    | .ret r => some r
    | .go _ =>
    some false)
theorem w_spec_l12In (list_1 : (List Int)) (n_2 : Int) (r : Bool) (hf : spec_l12In list_1 n_2 = some r) : CallOK Try.prog 195 .flat [(.lst 1 (list_1.map encI)), (.int .i64 n_2)] (.bool r) := by
 refine CallOK.of_awp mixed Try.func195 fc195 nle ?_; rw [argT_eq]; unfold spec_l12In at hf; unfold c195; refine (show awp Try.prog false 0 _ (ofL [(0, (.lst 1 (list_1.map encI))), (1, (.int .i64 n_2))]) [] _ from ?_); refine awp_seq <| w_reg <| s_mov (.bool false) rfl <| w_done <| k_seq <| awp_seq <| awp_seq <| w_reg <| s_mov (.int .i64 0) rfl <| w_done <| k_seq <| ?_
 obtain ⟨p21, hb1, hf⟩ := ob hf
 refine awp_cutx (X := {q : Unit // p21 = .go q}) (fun q => ([], [])) ?_ ?_
 ·refine awp_loop (X := {q : Nat // spec_l12In_L1 n_2 (list_1.drop q)  = some p21}) (fun q => ([(0, (.lst 1 (list_1.map encI))), (1, (.int .i64 n_2)), (5, (.int .i64 (q.1 : Int)))], [])) (fun q => list_1.length - q.1) ⟨0, hb1⟩ ⟨[], [], _, _, rfl, rfl, ⟨.refl _, ⟨.refl _, ⟨.refl _, trivial⟩⟩⟩, (.refl _)⟩ ?_
  rintro ⟨i_14, hc1⟩
  have hc1 : spec_l12In_L1 n_2 (list_1.drop i_14)  = some p21 := hc1
  refine (show awp Try.prog false 0 _ (ofL [(0, (.lst 1 (list_1.map encI))), (1, (.int .i64 n_2)), (5, (.int .i64 (i_14 : Int)))]) [] _ from ?_)
  rcases dropc list_1 i_14 with ⟨hie24, hd27⟩ | ⟨hlt22, x_28, hx23, hd27⟩
  ·rw [hd27, spec_l12In_L1.eq_1] at hc1
   have hq26 := dlf hie24
   refine awp_seq <| awp_seq <| w_reg <| s_mov (.int .i64 (i_14 : Int)) rfl <| s_mov (.lst 1 (list_1.map encI)) rfl <| s_dof (o_len (enc := encI) rfl) fun hl29 => s_q (.bool (decide ((i_14 : Int) < (list_1.length : Int)))) rfl rfl rfl <| w_done <| k_seq <| w_condf rfl hq26 <| w_exit <| k_seqx <| k_loopx <| k_blkx <| ?_; obtain rfl := os hc1; exact k_cutn ⟨_, rfl⟩ ⟨[], [], _, _, rfl, rfl, trivial, (.refl _)⟩
  ·rw [hd27, spec_l12In_L1.eq_2] at hc1
   have hq26 := dlt hlt22
   refine awp_seq <| awp_seq <| w_reg <| s_mov (.int .i64 (i_14 : Int)) rfl <| s_mov (.lst 1 (list_1.map encI)) rfl <| s_dof (o_len (enc := encI) rfl) fun hl30 => s_q (.bool (decide ((i_14 : Int) < (list_1.length : Int)))) rfl rfl rfl <| w_done <| k_seq <| w_condt rfl hq26 <| w_skip <| k_seq <| awp_seq <| w_blk <| awp_seq <| w_reg <| s_mov (.lst 1 (list_1.map encI)) rfl <| s_mov (.int .i64 (i_14 : Int)) rfl <| s_do (o_iaddrn (enc := encI) rfl rfl hx23) <| s_q (.int .i64 x_28) rfl ⟨rfl, rfl⟩ rfl <| s_mov (.int .i64 n_2) rfl <| s_q (.bool (x_28 == n_2)) rfl rfl rfl <| w_done <| k_seq <| ?_
   rcases oi hc1 with ⟨c31, hc1⟩ | ⟨c31, hc1⟩
   ·refine w_condt rfl c31 <| awp_seq <| w_reg <| s_mov (.bool true) rfl <| w_done <| k_seq <| w_ret <| ?_; obtain rfl := os hc1; obtain rfl := os hf; exact r_flat ⟨trivial, trivial⟩ rfl (.refl _)
   ·refine w_condf rfl (bf c31) <| w_skip <| k_blk <| k_seq <| w_reg <| s_mov (.int .i64 (i_14 : Int)) rfl <| s_q (.int .i64 (w64 ((i_14 : Int) + 1))) rfl rfl rfl <| s_mov (.int .i64 (w64 ((i_14 : Int) + 1))) rfl <| w_done <| ?_; exact k_loopn ⟨(i_14 + 1), hc1⟩ (mul hlt22) ⟨[], [], _, _, rfl, rfl, ⟨.refl _, ⟨.refl _, ⟨.of_eq (congrArg (AV.int _) (w64_incr hlt22 hl30)), trivial⟩⟩⟩, (.refl _)⟩
 ·rintro ⟨_, rfl⟩
  refine awp_seq <| w_reg <| s_mov (.bool false) rfl <| w_done <| k_seq <| w_ret <| ?_; obtain rfl := os hf; exact r_flat ⟨trivial, trivial⟩ rfl (.refl _)

/- spec.LocksOK -/
def c188 : ACode :=
 (.seq (.reg (tm 2 (.c (.bool false)) .done))
 (.seq (.seq (.reg (tm 5 (.t 0) (tq 6 (.len (.t 5)) (tq 7 (.bin .gtr (.t 6) (.c (.int .i64 4096))) .done))))
 (.cond (.t 7) (.seq (.reg (tm 2 (.c (.bool false)) .done))
 .ret)
 .skip))
 (.seq (.seq (.reg (tm 3 (.c (.int .i64 0)) .done))
 (.block 0 (.loop (.seq (.seq (.reg (tm 8 (.t 3) (tm 9 (.t 0) (tq 10 (.len (.t 9)) (tq 11 (.bin .lss (.t 8) (.t 10)) .done)))))
 (.cond (.t 11) .skip
 (.exit 0)))
 (.seq (.block 1 (.seq (.seq (.reg (tm 14 (.t 0) (tm 15 (.t 3) (tq 16 (.iaddr 2 (.t 14) (.t 15)) (tq 17 (.faddr 0 (.t 16)) (tq 18 (.load 1 false (.t 17)) (.l ⟨(some 19), none, .call 190 [(.t 18)]⟩ []
 (tq 20 (.not (.t 19)) (tm 21 (.t 20) (tg 22 21 false (.mov (.t 3)) (tg 23 21 false (.bin .gtr (.t 22) (.c (.int .i64 0))) (tg 24 21 false (.mov (.t 23)) (tg 25 24 true (.mov (.t 0)) (tg 26 24 true (.mov (.t 3)) (tg 27 24 true (.bin .sub (.t 26) (.c (.int .i64 1))) (tg 28 24 true (.iaddr 2 (.t 25) (.t 27)) (tg 29 24 true (.faddr 0 (.t 28)) (tg 30 24 true (.load 1 false (.t 29)) (tg 31 24 true (.mov (.t 0)) (tg 32 24 true (.mov (.t 3)) (tg 33 24 true (.iaddr 2 (.t 31) (.t 32)) (tg 34 24 true (.faddr 0 (.t 33)) (tg 35 24 true (.load 1 false (.t 34)) (tg 36 24 true (.bin .geq (.t 30) (.t 35)) (tg 37 21 false (.pick (.t 24) (.t 36) (.c (.bool false))) (tq 38 (.pick (.t 21) (.c (.bool true)) (.t 37)) (tm 39 (.t 38) (tg 40 39 false (.mov (.t 0)) (tg 41 39 false (.mov (.t 3)) (tg 42 39 false (.iaddr 2 (.t 40) (.t 41)) (tg 43 39 false (.faddr 1 (.t 42)) (tg 44 39 false (.load 1 false (.t 43)) (tg 45 39 false (.len (.t 44)) (.l ⟨(some 46), (some (39, false)), .call 230 [(.t 45), (.c (.int .i64 1)), (.c (.int .i64 3))]⟩ []
 (tg 47 39 false (.not (.t 46)) (tq 48 (.pick (.t 39) (.c (.bool true)) (.t 47)) .done)) .non))))))))))))))))))))))))))) .non)))))))
 (.cut (.cond (.t 48) (.seq (.reg (tm 2 (.c (.bool false)) .done))
 .ret)
 .skip)))
 (.seq (.reg (tm 4 (.c (.int .i64 0)) .done))
 (.block 2 (.loop (.seq (.seq (.reg (tm 49 (.t 4) (tm 50 (.t 0) (tm 51 (.t 3) (tq 52 (.iaddr 2 (.t 50) (.t 51)) (tq 53 (.faddr 1 (.t 52)) (tq 54 (.load 1 false (.t 53)) (tq 55 (.len (.t 54)) (tq 56 (.bin .lss (.t 49) (.t 55)) .done)))))))))
 (.cond (.t 56) .skip
 (.exit 2)))
 (.seq (.block 3 (.seq (.reg (tm 59 (.t 0) (tm 60 (.t 3) (tq 61 (.iaddr 2 (.t 59) (.t 60)) (tq 62 (.faddr 1 (.t 61)) (tq 63 (.load 1 false (.t 62)) (tm 64 (.t 4) (tq 65 (.iaddr 1 (.t 63) (.t 64)) (tq 66 (.load 1 false (.t 65)) (.l ⟨(some 67), none, .call 189 [(.t 66)]⟩ []
 (tq 68 (.not (.t 67)) (tm 69 (.t 68) (tg 70 69 false (.mov (.t 0)) (tg 71 69 false (.mov (.t 3)) (tg 72 69 false (.iaddr 2 (.t 70) (.t 71)) (tg 73 69 false (.faddr 1 (.t 72)) (tg 74 69 false (.load 1 false (.t 73)) (tg 75 69 false (.mov (.t 4)) (tg 76 69 false (.slice 1 (.t 74) none (some (.t 75))) (tg 77 69 false (.mov (.t 0)) (tg 78 69 false (.mov (.t 3)) (tg 79 69 false (.iaddr 2 (.t 77) (.t 78)) (tg 80 69 false (.faddr 1 (.t 79)) (tg 81 69 false (.load 1 false (.t 80)) (tg 82 69 false (.mov (.t 4)) (tg 83 69 false (.iaddr 1 (.t 81) (.t 82)) (tg 84 69 false (.load 1 false (.t 83)) (.l ⟨(some 85), (some (69, false)), .call 195 [(.t 76), (.t 84)]⟩ []
 (tq 86 (.pick (.t 69) (.c (.bool true)) (.t 85)) .done) .non)))))))))))))))))) .non))))))))))
 (.cut (.cond (.t 86) (.seq (.reg (tm 2 (.c (.bool false)) .done))
 .ret)
 .skip))))
 (.reg (tm 57 (.t 4) (tq 58 (.bin .add (.t 57) (.c (.int .i64 1))) (tm 4 (.t 58) .done)))))))))))
 (.cut (.reg (tm 12 (.t 3) (tq 13 (.bin .add (.t 12) (.c (.int .i64 1))) (tm 3 (.t 13) .done))))))))))
 (.cut (.seq (.reg (tm 87 (.t 0) (tq 88 (.len (.t 87)) (tq 89 (.bin .leq (.t 88) (.c (.int .i64 6))) (tm 2 (.t 89) .done)))))
 .ret)))))
theorem fc188 : fcomp Try.prog Try.f188 = some (c188.erase, [.mov (.t 2)], 90) := by kernel_rfl
def spec_LocksOK_L2 (x_998 : GLock) : List Int → Nat → Option (Fl Bool Unit)
  | [], k_1081 =>
    some (.go ())
  | x_1115 :: xs, k_1081 =>
    (((spec_l12Session x_1115).bind fun r_1126 =>
    if (!r_1126) then
    some true
    else
    if (0 : Int) ≤ (k_1081 : Int) ∧ (k_1081 : Int) ≤ (x_998.Queue.length : Int) then
    (spec_l12In (x_998.Queue.take k_1081) x_1115).bind fun r_1130 =>
    some r_1130
    else none : Option Bool)).bind fun s86_1124 =>
    if s86_1124 then
    some (.ret false)
    else
    spec_LocksOK_L2 x_998 xs (k_1081 + 1)

def spec_LocksOK_L1 (list_1 : (List GLock)) : List GLock → Nat → Option (Fl Bool Unit)
  | [], i_661 =>
    some (.go ())
  | x_998 :: xs, i_661 =>
    (((spec_NameOK x_998.Name).bind fun r_1016 =>
    if (!r_1016) then
    some true
    else
    if (decide ((i_661 : Int) > 0)) then
    (idx list_1 (w64 ((i_661 : Int) - 1))).bind fun x_1020 =>
    if (!Op.bytesLess x_1020.Name x_998.Name) then
    some true
    else
    (spec_l01In (x_998.Queue.length : Int) 1 3).bind fun r_1024 =>
    some (!r_1024)
    else
    (spec_l01In (x_998.Queue.length : Int) 1 3).bind fun r_1027 =>
    some (!r_1027) : Option Bool)).bind fun s48_1014 =>
    if s48_1014 then
    some (.ret false)
    else
    (spec_LocksOK_L2 x_998 x_998.Queue 0).bind fun q => (match q with
    | .ret r => some (.ret r)
    | .go _ =>
    spec_LocksOK_L1 list_1 xs (i_661 + 1))

def spec_LocksOK (list_1 : (List GLock)) : Option Bool :=
    if (decide ((list_1.length : Int) > 4096)) then
    some false
    else
    (spec_LocksOK_L1 list_1 list_1 0).bind fun q => (match q with
    | .ret r => some r
    | .go _ =>
    some (decide ((list_1.length : Int) ≤ 6)))
theorem w_spec_LocksOK (list_1 : (List GLock)) (r : Bool) (hf : spec_LocksOK list_1 = some r) : CallOK Try.prog 188 .flat [(.lst 2 (list_1.map encGLock))] (.bool r) := by
 refine CallOK.of_awp mixed Try.func188 fc188 nle ?_; rw [argT_eq]; unfold spec_LocksOK at hf; unfold c188; refine (show awp Try.prog false 0 _ (ofL [(0, (.lst 2 (list_1.map encGLock)))]) [] _ from ?_); refine awp_seq <| w_reg <| s_mov (.bool false) rfl <| w_done <| k_seq <| awp_seq <| awp_seq <| w_reg <| s_mov (.lst 2 (list_1.map encGLock)) rfl <| s_dof (o_len (enc := encGLock) rfl) fun hl2 => s_q (.bool (decide ((list_1.length : Int) > 4096))) rfl rfl rfl <| w_done <| k_seq <| ?_
 rcases oi hf with ⟨c3, hf⟩ | ⟨c3, hf⟩
 ·refine w_condt rfl c3 <| awp_seq <| w_reg <| s_mov (.bool false) rfl <| w_done <| k_seq <| w_ret <| ?_; obtain rfl := os hf; exact r_flat ⟨trivial, trivial⟩ rfl (.refl _)
 ·refine w_condf rfl (bf c3) <| w_skip <| k_seq <| awp_seq <| awp_seq <| w_reg <| s_mov (.int .i64 0) rfl <| w_done <| k_seq <| ?_
  obtain ⟨p991, hb1, hf⟩ := ob hf
  refine awp_cutx (X := {q : Unit // p991 = .go q}) (fun q => ([(0, (.lst 2 (list_1.map encGLock)))], [])) ?_ ?_
  ·refine awp_loop (X := {q : Nat // spec_LocksOK_L1 list_1 (list_1.drop q) q = some p991}) (fun q => ([(0, (.lst 2 (list_1.map encGLock))), (3, (.int .i64 (q.1 : Int)))], [])) (fun q => list_1.length - q.1) ⟨0, hb1⟩ ⟨[], [], _, _, rfl, rfl, ⟨.refl _, ⟨.refl _, trivial⟩⟩, (.refl _)⟩ ?_
   rintro ⟨i_661, hc1⟩
   have hc1 : spec_LocksOK_L1 list_1 (list_1.drop i_661) i_661 = some p991 := hc1
   refine (show awp Try.prog false 0 _ (ofL [(0, (.lst 2 (list_1.map encGLock))), (3, (.int .i64 (i_661 : Int)))]) [] _ from ?_)
   rcases dropc list_1 i_661 with ⟨hie994, hd997⟩ | ⟨hlt992, x_998, hx993, hd997⟩
   ·rw [hd997, spec_LocksOK_L1.eq_1] at hc1
    have hq996 := dlf hie994
    refine awp_seq <| awp_seq <| w_reg <| s_mov (.int .i64 (i_661 : Int)) rfl <| s_mov (.lst 2 (list_1.map encGLock)) rfl <| s_dof (o_len (enc := encGLock) rfl) fun hl999 => s_q (.bool (decide ((i_661 : Int) < (list_1.length : Int)))) rfl rfl rfl <| w_done <| k_seq <| w_condf rfl hq996 <| w_exit <| k_seqx <| k_loopx <| k_blkx <| ?_; obtain rfl := os hc1; exact k_cutn ⟨_, rfl⟩ ⟨[], [], _, _, rfl, rfl, ⟨.refl _, trivial⟩, (.refl _)⟩
   ·rw [hd997, spec_LocksOK_L1.eq_2] at hc1
    have hq996 := dlt hlt992
    refine awp_seq <| awp_seq <| w_reg <| s_mov (.int .i64 (i_661 : Int)) rfl <| s_mov (.lst 2 (list_1.map encGLock)) rfl <| s_dof (o_len (enc := encGLock) rfl) fun hl1000 => s_q (.bool (decide ((i_661 : Int) < (list_1.length : Int)))) rfl rfl rfl <| w_done <| k_seq <| w_condt rfl hq996 <| w_skip <| k_seq <| awp_seq <| w_blk <| awp_seq <| awp_seq <| ?_
    obtain ⟨s48_1014, hb2, hc1⟩ := ob hc1
    refine awp_cut ([(0, (.lst 2 (list_1.map encGLock))), (3, (.int .i64 (i_661 : Int))), (48, (.bool s48_1014))], []) ?_ ?_
    ·refine w_reg <| s_mov (.lst 2 (list_1.map encGLock)) rfl <| s_mov (.int .i64 (i_661 : Int)) rfl <| s_do (o_iaddrn (enc := encGLock) rfl rfl hx993) <| s_q (.iptr (encGLock x_998) 0) rfl trivial rfl <| s_q (.str x_998.Name) rfl nle rfl <| ?_
     obtain ⟨r_1016, er1017, hb2⟩ := ob hb2
     refine s_dol (o_call (w_spec_NameOK _ _ er1017) rfl (.refl _) rfl) a_same trivial <| s_q (.bool (!r_1016)) rfl trivial rfl <| s_mov (.bool (!r_1016)) rfl <| ?_
     rcases oi hb2 with ⟨c1018, hb2⟩ | ⟨c1018, hb2⟩
     ·refine s_lit (s := 21) (b := true) rfl c1018 <| s_off rfl rfl <| s_off rfl rfl <| s_off rfl rfl <| s_offs rfl <| s_offs rfl <| s_offs rfl <| s_offs rfl <| s_offs rfl <| s_offs rfl <| s_offs rfl <| s_offs rfl <| s_offs rfl <| s_offs rfl <| s_offs rfl <| s_offs rfl <| s_off rfl rfl <| s_q (.bool true) rfl trivial rfl <| s_mov (.bool true) rfl <| s_off rfl rfl <| s_off rfl rfl <| s_off rfl rfl <| s_off rfl rfl <| s_off rfl rfl <| s_off rfl rfl <| s_offl rfl rfl trivial <| s_off rfl rfl <| s_q (.bool true) rfl trivial rfl <| w_done <| ?_; obtain rfl := os hb2; exact ⟨[], [], _, _, rfl, rfl, ⟨.refl _, ⟨.refl _, ⟨.refl _, trivial⟩⟩⟩, (.refl _)⟩
     ·refine s_lit (s := 21) (b := false) rfl (bf c1018) <| s_on rfl <| s_mov (.int .i64 (i_661 : Int)) rfl <| s_on rfl <| s_q (.bool (decide ((i_661 : Int) > 0))) rfl rfl rfl <| s_on rfl <| s_mov (.bool (decide ((i_661 : Int) > 0))) rfl <| ?_
      rcases oi hb2 with ⟨c1019, hb2⟩ | ⟨c1019, hb2⟩
      ·refine s_lit (s := 24) (b := true) rfl c1019 <| s_on rfl <| s_mov (.lst 2 (list_1.map encGLock)) rfl <| s_on rfl <| s_mov (.int .i64 (i_661 : Int)) rfl <| s_on rfl <| s_q (.int .i64 (w64 ((i_661 : Int) - 1))) rfl rfl rfl <| s_on rfl <| ?_
       obtain ⟨x_1020, ex1021, hb2⟩ := ob hb2
       refine s_do (o_iaddr (enc := encGLock) rfl rfl (idx0 ex1021) (idx1 ex1021)) <| s_on rfl <| s_q (.iptr (encGLock x_1020) 0) rfl trivial rfl <| s_on rfl <| s_q (.str x_1020.Name) rfl nle rfl <| s_on rfl <| s_mov (.lst 2 (list_1.map encGLock)) rfl <| s_on rfl <| s_mov (.int .i64 (i_661 : Int)) rfl <| s_on rfl <| s_do (o_iaddrn (enc := encGLock) rfl rfl hx993) <| s_on rfl <| s_q (.iptr (encGLock x_998) 0) rfl trivial rfl <| s_on rfl <| s_q (.str x_998.Name) rfl nle rfl <| s_on rfl <| s_q (.bool (!Op.bytesLess x_1020.Name x_998.Name)) rfl trivial rfl <| s_on rfl <| s_q (.bool (!Op.bytesLess x_1020.Name x_998.Name)) rfl trivial rfl <| s_q (.bool (!Op.bytesLess x_1020.Name x_998.Name)) rfl trivial rfl <| s_mov (.bool (!Op.bytesLess x_1020.Name x_998.Name)) rfl <| ?_
       rcases oi hb2 with ⟨c1022, hb2⟩ | ⟨c1022, hb2⟩
       ·refine s_lit (s := 39) (b := true) rfl c1022 <| s_off rfl rfl <| s_off rfl rfl <| s_off rfl rfl <| s_off rfl rfl <| s_off rfl rfl <| s_off rfl rfl <| s_offl rfl rfl trivial <| s_off rfl rfl <| s_q (.bool true) rfl trivial rfl <| w_done <| ?_; obtain rfl := os hb2; exact ⟨[], [], _, _, rfl, rfl, ⟨.refl _, ⟨.refl _, ⟨.refl _, trivial⟩⟩⟩, (.refl _)⟩
       ·refine s_lit (s := 39) (b := false) rfl (bf c1022) <| s_on rfl <| s_mov (.lst 2 (list_1.map encGLock)) rfl <| s_on rfl <| s_mov (.int .i64 (i_661 : Int)) rfl <| s_on rfl <| s_do (o_iaddrn (enc := encGLock) rfl rfl hx993) <| s_on rfl <| s_q (.iptr (encGLock x_998) 1) rfl trivial rfl <| s_on rfl <| s_q (.lst 1 (x_998.Queue.map encI)) rfl nle rfl <| s_on rfl <| s_dof (o_len (enc := encI) rfl) fun hl1023 => s_onl rfl <| ?_
        obtain ⟨r_1024, er1025, hb2⟩ := ob hb2
        refine s_dol (o_call (w_spec_l01In _ _ _ _ er1025) rfl (.refl _) rfl) a_same trivial <| s_on rfl <| s_q (.bool (!r_1024)) rfl trivial rfl <| s_q (.bool (!r_1024)) rfl trivial rfl <| w_done <| ?_; obtain rfl := os hb2; exact ⟨[], [], _, _, rfl, rfl, ⟨.refl _, ⟨.refl _, ⟨.refl _, trivial⟩⟩⟩, (.refl _)⟩
      ·refine s_lit (s := 24) (b := false) rfl (bf c1019) <| s_off rfl rfl <| s_off rfl rfl <| s_off rfl rfl <| s_off rfl rfl <| s_off rfl rfl <| s_off rfl rfl <| s_off rfl rfl <| s_off rfl rfl <| s_off rfl rfl <| s_off rfl rfl <| s_off rfl rfl <| s_off rfl rfl <| s_on rfl <| s_q (.bool false) rfl trivial rfl <| s_q (.bool false) rfl trivial rfl <| s_mov (.bool false) rfl <| s_on rfl <| s_mov (.lst 2 (list_1.map encGLock)) rfl <| s_on rfl <| s_mov (.int .i64 (i_661 : Int)) rfl <| s_on rfl <| s_do (o_iaddrn (enc := encGLock) rfl rfl hx993) <| s_on rfl <| s_q (.iptr (encGLock x_998) 1) rfl trivial rfl <| s_on rfl <| s_q (.lst 1 (x_998.Queue.map encI)) rfl nle rfl <| s_on rfl <| s_dof (o_len (enc := encI) rfl) fun hl1026 => ?_
       refine s_onl rfl ?_
       obtain ⟨r_1027, er1028, hb2⟩ := ob hb2
       refine s_dol (o_call (w_spec_l01In _ _ _ _ er1028) rfl (.refl _) rfl) a_same trivial <| s_on rfl <| s_q (.bool (!r_1027)) rfl trivial rfl <| s_q (.bool (!r_1027)) rfl trivial rfl <| w_done <| ?_; obtain rfl := os hb2; exact ⟨[], [], _, _, rfl, rfl, ⟨.refl _, ⟨.refl _, ⟨.refl _, trivial⟩⟩⟩, (.refl _)⟩
    ·rcases oi hc1 with ⟨c1029, hc1⟩ | ⟨c1029, hc1⟩
     ·refine w_condt rfl c1029 <| awp_seq <| w_reg <| s_mov (.bool false) rfl <| w_done <| k_seq <| w_ret <| ?_; obtain rfl := os hc1; obtain rfl := os hf; exact r_flat ⟨trivial, trivial⟩ rfl (.refl _)
     ·refine w_condf rfl (bf c1029) <| w_skip <| k_seq <| awp_seq <| w_reg <| s_mov (.int .i64 0) rfl <| w_done <| k_seq <| ?_
      obtain ⟨p1108, hb2, hc1⟩ := ob hc1
      refine awp_cutxb (X := {q : Unit // p1108 = .go q}) (fun q => ([(0, (.lst 2 (list_1.map encGLock))), (3, (.int .i64 (i_661 : Int)))], [])) ?_ ?_
      ·refine awp_loop (X := {q : Nat // spec_LocksOK_L2 x_998 (x_998.Queue.drop q) q = some p1108}) (fun q => ([(0, (.lst 2 (list_1.map encGLock))), (3, (.int .i64 (i_661 : Int))), (4, (.int .i64 (q.1 : Int)))], [])) (fun q => x_998.Queue.length - q.1) ⟨0, hb2⟩ ⟨[], [], _, _, rfl, rfl, ⟨.refl _, ⟨.refl _, ⟨.refl _, trivial⟩⟩⟩, (.refl _)⟩ ?_
       rintro ⟨k_1081, hc2⟩
       have hc2 : spec_LocksOK_L2 x_998 (x_998.Queue.drop k_1081) k_1081 = some p1108 := hc2
       refine (show awp Try.prog false 0 _ (ofL [(0, (.lst 2 (list_1.map encGLock))), (3, (.int .i64 (i_661 : Int))), (4, (.int .i64 (k_1081 : Int)))]) [] _ from ?_)
       rcases dropc x_998.Queue k_1081 with ⟨hie1111, hd1114⟩ | ⟨hlt1109, x_1115, hx1110, hd1114⟩
       ·rw [hd1114, spec_LocksOK_L2.eq_1] at hc2
        have hq1113 := dlf hie1111
        refine awp_seq <| awp_seq <| w_reg <| s_mov (.int .i64 (k_1081 : Int)) rfl <| s_mov (.lst 2 (list_1.map encGLock)) rfl <| s_mov (.int .i64 (i_661 : Int)) rfl <| s_do (o_iaddrn (enc := encGLock) rfl rfl hx993) <| s_q (.iptr (encGLock x_998) 1) rfl trivial rfl <| s_q (.lst 1 (x_998.Queue.map encI)) rfl nle rfl <| s_dof (o_len (enc := encI) rfl) fun hl1116 => s_q (.bool (decide ((k_1081 : Int) < (x_998.Queue.length : Int)))) rfl rfl rfl <| w_done <| k_seq <| w_condf rfl hq1113 <| w_exit <| k_seqx <| k_loopx <| k_blkx <| ?_; refine k_blk ?_; obtain rfl := os hc2; exact k_cutn ⟨_, rfl⟩ ⟨[], [], _, _, rfl, rfl, ⟨.refl _, ⟨.refl _, trivial⟩⟩, (.refl _)⟩
       ·rw [hd1114, spec_LocksOK_L2.eq_2] at hc2
        have hq1113 := dlt hlt1109
        refine awp_seq <| awp_seq <| w_reg <| s_mov (.int .i64 (k_1081 : Int)) rfl <| s_mov (.lst 2 (list_1.map encGLock)) rfl <| s_mov (.int .i64 (i_661 : Int)) rfl <| s_do (o_iaddrn (enc := encGLock) rfl rfl hx993) <| s_q (.iptr (encGLock x_998) 1) rfl trivial rfl <| s_q (.lst 1 (x_998.Queue.map encI)) rfl nle rfl <| s_dof (o_len (enc := encI) rfl) fun hl1117 => s_q (.bool (decide ((k_1081 : Int) < (x_998.Queue.length : Int)))) rfl rfl rfl <| w_done <| k_seq <| w_condt rfl hq1113 <| w_skip <| k_seq <| awp_seq <| w_blk <| awp_seq <| ?_
        obtain ⟨s86_1124, hb3, hc2⟩ := ob hc2
        refine awp_cut ([(0, (.lst 2 (list_1.map encGLock))), (3, (.int .i64 (i_661 : Int))), (4, (.int .i64 (k_1081 : Int))), (86, (.bool s86_1124))], []) ?_ ?_
        ·refine w_reg <| s_mov (.lst 2 (list_1.map encGLock)) rfl <| s_mov (.int .i64 (i_661 : Int)) rfl <| s_do (o_iaddrn (enc := encGLock) rfl rfl hx993) <| s_q (.iptr (encGLock x_998) 1) rfl trivial rfl <| s_q (.lst 1 (x_998.Queue.map encI)) rfl nle rfl <| s_mov (.int .i64 (k_1081 : Int)) rfl <| s_do (o_iaddrn (enc := encI) rfl rfl hx1110) <| s_q (.int .i64 x_1115) rfl ⟨rfl, rfl⟩ rfl <| ?_
         obtain ⟨r_1126, er1127, hb3⟩ := ob hb3
         refine s_dol (o_call (w_spec_l12Session _ _ er1127) rfl (.refl _) rfl) a_same trivial <| s_q (.bool (!r_1126)) rfl trivial rfl <| s_mov (.bool (!r_1126)) rfl <| ?_
         rcases oi hb3 with ⟨c1128, hb3⟩ | ⟨c1128, hb3⟩
         ·refine s_lit (s := 69) (b := true) rfl c1128 <| s_off rfl rfl <| s_off rfl rfl <| s_off rfl rfl <| s_off rfl rfl <| s_off rfl rfl <| s_off rfl rfl <| s_off rfl rfl <| s_off rfl rfl <| s_off rfl rfl <| s_off rfl rfl <| s_off rfl rfl <| s_off rfl rfl <| s_off rfl rfl <| s_off rfl rfl <| s_off rfl rfl <| s_offl rfl rfl trivial <| s_q (.bool true) rfl trivial rfl <| w_done <| ?_; obtain rfl := os hb3; exact ⟨[], [], _, _, rfl, rfl, ⟨.refl _, ⟨.refl _, ⟨.refl _, ⟨.refl _, trivial⟩⟩⟩⟩, (.refl _)⟩
         ·refine s_lit (s := 69) (b := false) rfl (bf c1128) <| s_on rfl <| s_mov (.lst 2 (list_1.map encGLock)) rfl <| s_on rfl <| s_mov (.int .i64 (i_661 : Int)) rfl <| s_on rfl <| s_do (o_iaddrn (enc := encGLock) rfl rfl hx993) <| s_on rfl <| s_q (.iptr (encGLock x_998) 1) rfl trivial rfl <| s_on rfl <| s_q (.lst 1 (x_998.Queue.map encI)) rfl nle rfl <| s_on rfl <| s_mov (.int .i64 (k_1081 : Int)) rfl <| s_on rfl <| ?_
          obtain ⟨g1129, hb3⟩ := og hb3
          refine s_do (o_slt (enc := encI) rfl rfl g1129.1 g1129.2) <| s_on rfl <| s_mov (.lst 2 (list_1.map encGLock)) rfl <| s_on rfl <| s_mov (.int .i64 (i_661 : Int)) rfl <| s_on rfl <| s_do (o_iaddrn (enc := encGLock) rfl rfl hx993) <| s_on rfl <| s_q (.iptr (encGLock x_998) 1) rfl trivial rfl <| s_on rfl <| s_q (.lst 1 (x_998.Queue.map encI)) rfl nle rfl <| s_on rfl <| s_mov (.int .i64 (k_1081 : Int)) rfl <| s_on rfl <| s_do (o_iaddrn (enc := encI) rfl rfl hx1110) <| s_on rfl <| s_q (.int .i64 x_1115) rfl ⟨rfl, rfl⟩ rfl <| s_onl rfl <| ?_
          obtain ⟨r_1130, er1131, hb3⟩ := ob hb3
          refine s_dol (o_call (w_spec_l12In _ _ _ er1131) rfl (.refl _) rfl) a_same trivial <| s_q (.bool r_1130) rfl trivial rfl <| w_done <| ?_; obtain rfl := os hb3; exact ⟨[], [], _, _, rfl, rfl, ⟨.refl _, ⟨.refl _, ⟨.refl _, ⟨.refl _, trivial⟩⟩⟩⟩, (.refl _)⟩
        ·rcases oi hc2 with ⟨c1132, hc2⟩ | ⟨c1132, hc2⟩
         ·refine w_condt rfl c1132 <| awp_seq <| w_reg <| s_mov (.bool false) rfl <| w_done <| k_seq <| w_ret <| ?_; obtain rfl := os hc2; obtain rfl := os hc1; obtain rfl := os hf; exact r_flat ⟨trivial, trivial⟩ rfl (.refl _)
         ·refine w_condf rfl (bf c1132) <| w_skip <| k_blk <| k_seq <| w_reg <| s_mov (.int .i64 (k_1081 : Int)) rfl <| s_q (.int .i64 (w64 ((k_1081 : Int) + 1))) rfl rfl rfl <| s_mov (.int .i64 (w64 ((k_1081 : Int) + 1))) rfl <| w_done <| ?_; exact k_loopn ⟨(k_1081 + 1), hc2⟩ (mul hlt1109) ⟨[], [], _, _, rfl, rfl, ⟨.refl _, ⟨.refl _, ⟨.of_eq (congrArg (AV.int _) (w64_incr hlt1109 hl1117)), trivial⟩⟩⟩, (.refl _)⟩
      ·rintro ⟨_, rfl⟩
       refine w_reg <| s_mov (.int .i64 (i_661 : Int)) rfl <| s_q (.int .i64 (w64 ((i_661 : Int) + 1))) rfl rfl rfl <| s_mov (.int .i64 (w64 ((i_661 : Int) + 1))) rfl <| w_done <| ?_; exact k_loopn ⟨(i_661 + 1), hc1⟩ (mul hlt992) ⟨[], [], _, _, rfl, rfl, ⟨.refl _, ⟨.of_eq (congrArg (AV.int _) (w64_incr hlt992 hl1000)), trivial⟩⟩, (.refl _)⟩
  ·rintro ⟨_, rfl⟩
   refine awp_seq <| w_reg <| s_mov (.lst 2 (list_1.map encGLock)) rfl <| s_dof (o_len (enc := encGLock) rfl) fun hl1133 => s_q (.bool (decide ((list_1.length : Int) ≤ 6))) rfl rfl rfl <| s_mov (.bool (decide ((list_1.length : Int) ≤ 6))) rfl <| w_done <| k_seq <| w_ret <| ?_; obtain rfl := os hf; exact r_flat ⟨trivial, trivial⟩ rfl (.refl _)

/- spec.l12Ask -/
def c102 : ACode :=
 (.seq (.reg (tm 6 (.c (.int .i64 0)) .done))
 (.seq (.block 0 (.seq (.reg (tm 8 (.t 0) (tq 9 (.len (.t 8)) (tq 10 (.bin .gtr (.t 9) (.c (.int .i64 4096))) (tm 11 (.t 10) (tg 12 11 false (.mov (.t 2)) (tg 13 11 false (.lenS (.t 12)) (tg 14 11 false (.bin .gtr (.t 13) (.c (.int .i64 65536))) (tq 15 (.pick (.t 11) (.c (.bool true)) (.t 14)) (tm 7 (.t 15) .done))))))))))
 (.cut (.cond (.t 7) (.seq (.reg (tm 6 (.c (.int .i64 2)) .done))
 .ret)
 (.seq (.reg (tm 17 (.t 0) (tq 18 (.call 188 [(.t 17)]) (tq 19 (.not (.t 18)) (tm 16 (.t 19) .done)))))
 (.cond (.t 16) (.seq (.reg (tm 6 (.c (.int .i64 1)) .done))
 .ret)
 (.seq (.reg (tm 21 (.t 1) (tq 22 (.call 189 [(.t 21)]) (tq 23 (.not (.t 22)) (tm 24 (.t 23) (tg 25 24 false (.mov (.t 2)) (tg 26 24 false (.call 190 [(.t 25)]) (tg 27 24 false (.not (.t 26)) (tq 28 (.pick (.t 24) (.c (.bool true)) (.t 27)) (tm 20 (.t 28) .done))))))))))
 (.cut (.cond (.t 20) (.seq (.reg (tm 6 (.c (.int .i64 4)) .done))
 .ret)
 .skip)))))))))
 (.seq (.reg (tm 6 (.c (.int .i64 0)) .done))
 .ret)))
theorem fc102 : fcomp Try.prog Try.f102 = some (c102.erase, [.mov (.t 6)], 29) := by kernel_rfl
def spec_l12Ask (list_1 : (List GLock)) (session_2 : Int) (name_3 : Str) : Option Int :=
    ((if (decide ((list_1.length : Int) > 4096)) then
    some true
    else
    some (decide ((name_3.length : Int) > 65536)) : Option Bool)).bind fun s7_7 =>
    if s7_7 then
    some 2
    else
    (spec_LocksOK list_1).bind fun r_13 =>
    if (!r_13) then
    some 1
    else
    (((spec_l12Session session_2).bind fun r_23 =>
    if (!r_23) then
    some true
    else
    (spec_NameOK name_3).bind fun r_26 =>
    some (!r_26) : Option Bool)).bind fun s20_21 =>
    if s20_21 then
    some 4
    else
    some 0
theorem w_spec_l12Ask (list_1 : (List GLock)) (session_2 : Int) (name_3 : Str) (r : Int) (hf : spec_l12Ask list_1 session_2 name_3 = some r) : CallOK Try.prog 102 .flat [(.lst 2 (list_1.map encGLock)), (.int .i64 session_2), (.str name_3)] (.int .i64 r) := by
 refine CallOK.of_awp mixed Try.func102 fc102 nle ?_; rw [argT_eq]; unfold spec_l12Ask at hf; unfold c102; refine (show awp Try.prog false 0 _ (ofL [(0, (.lst 2 (list_1.map encGLock))), (1, (.int .i64 session_2)), (2, (.str name_3))]) [] _ from ?_); refine awp_seq <| w_reg <| s_mov (.int .i64 0) rfl <| w_done <| k_seq <| awp_seq <| w_blk <| awp_seq <| ?_
 obtain ⟨s7_7, hb1, hf⟩ := ob hf
 refine awp_cut ([(0, (.lst 2 (list_1.map encGLock))), (1, (.int .i64 session_2)), (2, (.str name_3)), (7, (.bool s7_7))], []) ?_ ?_
 ·refine w_reg ?_
  rcases oi hb1 with ⟨c10, hb1⟩ | ⟨c10, hb1⟩
  ·refine s_mov (.lst 2 (list_1.map encGLock)) rfl <| s_dof (o_len (enc := encGLock) rfl) fun hl9 => s_q (.bool (decide ((list_1.length : Int) > 4096))) rfl rfl rfl <| s_mov (.bool (decide ((list_1.length : Int) > 4096))) rfl <| s_lit (s := 11) (b := true) rfl c10 <| s_off rfl rfl <| s_off rfl rfl <| s_off rfl rfl <| s_q (.bool true) rfl trivial rfl <| s_mov (.bool true) rfl <| w_done <| ?_; obtain rfl := os hb1; exact ⟨[], [], _, _, rfl, rfl, ⟨.refl _, ⟨.refl _, ⟨.refl _, ⟨.refl _, trivial⟩⟩⟩⟩, (.refl _)⟩
  ·refine s_mov (.lst 2 (list_1.map encGLock)) rfl <| s_dof (o_len (enc := encGLock) rfl) fun hl9 => s_q (.bool (decide ((list_1.length : Int) > 4096))) rfl rfl rfl <| s_mov (.bool (decide ((list_1.length : Int) > 4096))) rfl <| s_lit (s := 11) (b := false) rfl (bf c10) <| s_on rfl <| s_mov (.str name_3) rfl <| s_on rfl <| s_dof (o_lenS rfl) fun hl11 => s_on rfl <| s_q (.bool (decide ((name_3.length : Int) > 65536))) rfl rfl rfl <| s_q (.bool (decide ((name_3.length : Int) > 65536))) rfl trivial rfl <| s_mov (.bool (decide ((name_3.length : Int) > 65536))) rfl <| w_done <| ?_; obtain rfl := os hb1; exact ⟨[], [], _, _, rfl, rfl, ⟨.refl _, ⟨.refl _, ⟨.refl _, ⟨.refl _, trivial⟩⟩⟩⟩, (.refl _)⟩
 ·rcases oi hf with ⟨c12, hf⟩ | ⟨c12, hf⟩
  ·refine w_condt rfl c12 <| awp_seq <| w_reg <| s_mov (.int .i64 2) rfl <| w_done <| k_seq <| w_ret <| ?_; obtain rfl := os hf; exact r_flat ⟨trivial, trivial⟩ rfl (.refl _)
  ·refine w_condf rfl (bf c12) <| awp_seq <| w_reg <| ?_
   obtain ⟨r_13, er14, hf⟩ := ob hf
   refine s_mov (.lst 2 (list_1.map encGLock)) rfl <| s_do (o_call (w_spec_LocksOK _ _ er14) rfl (.refl _) rfl) <| s_q (.bool (!r_13)) rfl trivial rfl <| s_mov (.bool (!r_13)) rfl <| w_done <| k_seq <| ?_
   rcases oi hf with ⟨c15, hf⟩ | ⟨c15, hf⟩
   ·refine w_condt rfl c15 <| awp_seq <| w_reg <| s_mov (.int .i64 1) rfl <| w_done <| k_seq <| w_ret <| ?_; obtain rfl := os hf; exact r_flat ⟨trivial, trivial⟩ rfl (.refl _)
   ·refine w_condf rfl (bf c15) <| awp_seq <| ?_
    obtain ⟨s20_21, hb1, hf⟩ := ob hf
    refine awp_cut ([(20, (.bool s20_21))], []) ?_ ?_
    ·refine w_reg ?_
     obtain ⟨r_23, er24, hb1⟩ := ob hb1
     rcases oi hb1 with ⟨c25, hb1⟩ | ⟨c25, hb1⟩
     ·refine s_mov (.int .i64 session_2) rfl <| s_do (o_call (w_spec_l12Session _ _ er24) rfl (.refl _) rfl) <| s_q (.bool (!r_23)) rfl trivial rfl <| s_mov (.bool (!r_23)) rfl <| s_lit (s := 24) (b := true) rfl c25 <| s_off rfl rfl <| s_off rfl rfl <| s_off rfl rfl <| s_q (.bool true) rfl trivial rfl <| s_mov (.bool true) rfl <| w_done <| ?_; obtain rfl := os hb1; exact ⟨[], [], _, _, rfl, rfl, ⟨.refl _, trivial⟩, (.refl _)⟩
     ·obtain ⟨r_26, er27, hb1⟩ := ob hb1
      refine s_mov (.int .i64 session_2) rfl <| s_do (o_call (w_spec_l12Session _ _ er24) rfl (.refl _) rfl) <| s_q (.bool (!r_23)) rfl trivial rfl <| s_mov (.bool (!r_23)) rfl <| s_lit (s := 24) (b := false) rfl (bf c25) <| s_on rfl <| s_mov (.str name_3) rfl <| s_on rfl <| s_do (o_call (w_spec_NameOK _ _ er27) rfl (.refl _) rfl) <| s_on rfl <| s_q (.bool (!r_26)) rfl trivial rfl <| s_q (.bool (!r_26)) rfl trivial rfl <| s_mov (.bool (!r_26)) rfl <| w_done <| ?_; obtain rfl := os hb1; exact ⟨[], [], _, _, rfl, rfl, ⟨.refl _, trivial⟩, (.refl _)⟩
    ·rcases oi hf with ⟨c28, hf⟩ | ⟨c28, hf⟩
     ·refine w_condt rfl c28 <| awp_seq <| w_reg <| s_mov (.int .i64 4) rfl <| w_done <| k_seq <| w_ret <| ?_; obtain rfl := os hf; exact r_flat ⟨trivial, trivial⟩ rfl (.refl _)
     ·refine w_condf rfl (bf c28) <| w_skip <| k_blk <| k_seq <| awp_seq <| w_reg <| s_mov (.int .i64 0) rfl <| w_done <| k_seq <| w_ret <| ?_; obtain rfl := os hf; exact r_flat ⟨trivial, trivial⟩ rfl (.refl _)

/- spec.l12Own -/
def c191 : ACode :=
 (.seq (.reg (tm 2 (.c .nil) .done))
 (.seq (.reg (tq 5 (.bslice 2 []) (tm 3 (.t 5) .done)))
 (.seq (.seq (.reg (tm 4 (.c (.int .i64 0)) .done))
 (.block 0 (.loop (.seq (.seq (.reg (tm 6 (.t 4) (tm 7 (.t 0) (tq 8 (.len (.t 7)) (tq 9 (.bin .lss (.t 6) (.t 8)) .done)))))
 (.cond (.t 9) .skip
 (.exit 0)))
 (.seq (.block 1 (.reg (tm 12 (.t 3) (tm 13 (.t 0) (tm 14 (.t 4) (tq 15 (.iaddr 2 (.t 13) (.t 14)) (tq 16 (.faddr 0 (.t 15)) (tq 17 (.load 1 false (.t 16)) (tm 19 (.t 0) (tm 20 (.t 4) (tq 21 (.iaddr 2 (.t 19) (.t 20)) (tq 22 (.faddr 1 (.t 21)) (tq 23 (.load 1 false (.t 22)) (.l ⟨(some 18), none, .bslice 1 []⟩ [⟨(some 23), none, .load 1 false (.t 22)⟩, ⟨(some 22), none, .faddr 1 (.t 21)⟩, ⟨(some 21), none, .iaddr 2 (.t 19) (.t 20)⟩, ⟨(some 17), none, .load 1 false (.t 16)⟩, ⟨(some 16), none, .faddr 0 (.t 15)⟩, ⟨(some 15), none, .iaddr 2 (.t 13) (.t 14)⟩]
 (.l ⟨(some 24), none, .append 1 8 (.t 18) (.t 23)⟩ [⟨(some 17), none, .load 1 false (.t 16)⟩, ⟨(some 16), none, .faddr 0 (.t 15)⟩, ⟨(some 15), none, .iaddr 2 (.t 13) (.t 14)⟩]
 (tq 25 (.build [(.str []), .nil] [(0, 1, (.t 17)), (1, 1, (.t 24))]) (.l ⟨(some 26), none, .bslice 2 [(.t 25)]⟩ []
 (.l ⟨(some 27), none, .append 2 40 (.t 12) (.t 26)⟩ []
 (.l ⟨(some 3), none, .mov (.t 27)⟩ []
 .done .non) .non) .non)) .non) .non))))))))))))))
 (.reg (tm 10 (.t 4) (tq 11 (.bin .add (.t 10) (.c (.int .i64 1))) (tm 4 (.t 11) .done)))))))))
 (.cut (.seq (.reg (tm 28 (.t 3) (tm 2 (.t 28) .done)))
 .ret)))))
theorem fc191 : fcomp Try.prog Try.f191 = some (c191.erase, [.mov (.t 2)], 29) := by kernel_rfl
def spec_l12Own_L1  : List GLock → (List GLock) → Option (List GLock)
  | [], out_21 =>
    some out_21
  | x_39 :: xs, out_21 =>
    if ([] ++ x_39.Queue).length ≤ 2 ^ 30 then
    if (out_21 ++ [(⟨x_39.Name, [] ++ x_39.Queue⟩ : GLock)]).length ≤ 2 ^ 30 then
    spec_l12Own_L1 xs  (out_21 ++ [(⟨x_39.Name, [] ++ x_39.Queue⟩ : GLock)])
    else none
    else none

def spec_l12Own (list_1 : (List GLock)) : Option (List GLock) :=
    (spec_l12Own_L1 list_1 []).bind fun out_31 =>
    some out_31
theorem w_spec_l12Own (list_1 : (List GLock)) (r : (List GLock)) (hf : spec_l12Own list_1 = some r) : CallOK Try.prog 191 .fresh [(.lst 2 (list_1.map encGLock))] (.lst 2 (r.map encGLock)) := by
 refine CallOK.of_awp mixed Try.func191 fc191 nle ?_; rw [argT_eq]; unfold spec_l12Own at hf; unfold c191; refine (show awp Try.prog true 0 _ (ofL [(0, (.lst 2 (list_1.map encGLock)))]) [] _ from ?_); refine awp_seq <| w_reg <| s_mov .nil rfl <| w_done <| k_seq <| awp_seq <| w_reg <| ?_; refine s_do (o_bslice (j := 0) (as' := []) rfl (fun _ => by decide) trivial (.refl _) rfl rfl rfl) ?_; refine s_mov (.own 0 0 0) rfl <| w_done <| k_seq <| awp_seq <| awp_seq <| w_reg <| s_mov (.int .i64 0) rfl <| w_done <| k_seq <| ?_
 obtain ⟨out_31, hb1, hf⟩ := ob hf
 refine awp_cut ([(3, (.own 0 0 out_31.length))], [.row 2 (out_31.map encGLock)]) ?_ ?_
 ·refine awp_loop (X := {q : (Nat × (List GLock)) // spec_l12Own_L1 (list_1.drop q.1) q.2 = some out_31}) (fun q => ([(0, (.lst 2 (list_1.map encGLock))), (3, (.own 0 0 q.1.2.length)), (4, (.int .i64 (q.1.1 : Int)))], [.row 2 (q.1.2.map encGLock)])) (fun q => list_1.length - q.1.1) ⟨(0, []), hb1⟩ ⟨[], [0], _, _, rfl, rfl, ⟨.refl _, ⟨.of_eq (congrArg (AV.own _ 0) (by simp)), ⟨.refl _, trivial⟩⟩⟩, (.refl _)⟩ ?_
  rintro ⟨⟨i_20, out_21⟩, hc1⟩
  have hc1 : spec_l12Own_L1 (list_1.drop i_20) out_21 = some out_31 := hc1
  refine (show awp Try.prog true 0 _ (ofL [(0, (.lst 2 (list_1.map encGLock))), (3, (.own 0 0 out_21.length)), (4, (.int .i64 (i_20 : Int)))]) [.row 2 (out_21.map encGLock)] _ from ?_)
  rcases dropc list_1 i_20 with ⟨hie35, hd38⟩ | ⟨hlt33, x_39, hx34, hd38⟩
  ·rw [hd38, spec_l12Own_L1.eq_1] at hc1
   have hq37 := dlf hie35
   refine awp_seq <| awp_seq <| w_reg <| s_mov (.int .i64 (i_20 : Int)) rfl <| s_mov (.lst 2 (list_1.map encGLock)) rfl <| s_dof (o_len (enc := encGLock) rfl) fun hl40 => s_q (.bool (decide ((i_20 : Int) < (list_1.length : Int)))) rfl rfl rfl <| w_done <| k_seq <| w_condf rfl hq37 <| w_exit <| k_seqx <| k_loopx <| k_blkx <| ?_; obtain rfl := os hc1; exact ⟨[], [0], _, _, rfl, rfl, ⟨.refl _, trivial⟩, (.refl _)⟩
  ·rw [hd38, spec_l12Own_L1.eq_2] at hc1
   have hq37 := dlt hlt33
   refine awp_seq <| awp_seq <| w_reg <| s_mov (.int .i64 (i_20 : Int)) rfl <| s_mov (.lst 2 (list_1.map encGLock)) rfl <| s_dof (o_len (enc := encGLock) rfl) fun hl41 => s_q (.bool (decide ((i_20 : Int) < (list_1.length : Int)))) rfl rfl rfl <| w_done <| k_seq <| w_condt rfl hq37 <| w_skip <| k_seq <| awp_seq <| w_blk <| w_reg <| s_mov (.own 0 0 out_21.length) rfl <| s_mov (.lst 2 (list_1.map encGLock)) rfl <| s_mov (.int .i64 (i_20 : Int)) rfl <| s_do (o_iaddrn (enc := encGLock) rfl rfl hx34) <| s_q (.iptr (encGLock x_39) 0) rfl trivial rfl <| s_q (.str x_39.Name) rfl nle rfl <| s_mov (.lst 2 (list_1.map encGLock)) rfl <| s_mov (.int .i64 (i_20 : Int)) rfl <| s_do (o_iaddrn (enc := encGLock) rfl rfl hx34) <| ?_
   refine s_q (.iptr (encGLock x_39) 1) rfl trivial rfl <| s_q (.lst 1 (x_39.Queue.map encI)) rfl nle rfl <| ?_; refine s_dol (o_bslice (j := 1) (as' := []) rfl (fun _ => by decide) trivial (.refl _) rfl rfl rfl) (.inr ⟨⟨nle, rfl⟩, ⟨⟨trivial, rfl⟩, ⟨(ag_iaddrn (enc := encGLock) rfl rfl hx34), ⟨⟨nle, rfl⟩, ⟨⟨trivial, rfl⟩, ⟨(ag_iaddrn (enc := encGLock) rfl rfl hx34), trivial⟩⟩⟩⟩⟩⟩) trivial ?_
   obtain ⟨g42, hc1⟩ := og hc1
   refine s_dol (o_appendd (j := 2) (L := (([] ++ x_39.Queue).map encI)) (len := ([] ++ x_39.Queue).length) rfl false rfl rfl (fun _ => flm (fun _ => rfl) _) (fun _ _ _ => flm (fun _ => rfl) _) (by decide) ((by simp)) (by simp <;> omega) g42 rfl rfl) (.inr ⟨⟨nle, rfl⟩, ⟨⟨trivial, rfl⟩, ⟨(ag_iaddrn (enc := encGLock) rfl rfl hx34), trivial⟩⟩⟩) trivial ?_
   refine s_q (.agg [(.str x_39.Name), (.own 2 0 (([] ++ x_39.Queue).length))]) rfl ⟨⟨rfl, nle, trivial⟩, ⟨⟨rfl, nle, trivial⟩, trivial⟩⟩ rfl ?_; refine s_dol (o_bslice (j := 3) (as' := [(encGLock (⟨x_39.Name, [] ++ x_39.Queue⟩ : GLock))]) rfl (fun _ => by decide) ⟨rfl, trivial⟩ (.cons (.agg (.cons (.refl _) (.cons (.of_eq (congrArg (AV.lst _) (tk (enc := encI) ([] ++ x_39.Queue)))) .nil))) .nil) rfl rfl rfl) trivial trivial ?_
   obtain ⟨g43, hc1⟩ := og hc1
   refine s_dol (o_appendd (j := 4) (L := ((out_21 ++ [(⟨x_39.Name, [] ++ x_39.Queue⟩ : GLock)]).map encGLock)) (len := (out_21 ++ [(⟨x_39.Name, [] ++ x_39.Queue⟩ : GLock)]).length) rfl true rfl rfl (fun h => Bool.noConfusion h) (fun _ _ h => (ownl (show AV.own _ _ _ = AV.lst _ _ from h)).elim) (by decide) (apoc (enc := encGLock) out_21 [(⟨x_39.Name, [] ++ x_39.Queue⟩ : GLock)] _ (by rfl)) (by simp <;> omega) g43 rfl rfl) trivial trivial ?_
   refine s_dol (o_mov (.own 4 0 ((out_21 ++ [(⟨x_39.Name, [] ++ x_39.Queue⟩ : GLock)]).length)) rfl) a_same trivial <| w_done <| k_blk <| k_seq <| w_reg <| s_mov (.int .i64 (i_20 : Int)) rfl <| s_q (.int .i64 (w64 ((i_20 : Int) + 1))) rfl rfl rfl <| s_mov (.int .i64 (w64 ((i_20 : Int) + 1))) rfl <| w_done <| ?_; exact k_loopn ⟨((i_20 + 1), out_21 ++ [(⟨x_39.Name, [] ++ x_39.Queue⟩ : GLock)]), hc1⟩ (mul hlt33) ⟨[], [4], _, _, rfl, rfl, ⟨.refl _, ⟨.refl _, ⟨.of_eq (congrArg (AV.int _) (w64_incr hlt33 hl41)), trivial⟩⟩⟩, (.refl _)⟩
 ·refine awp_seq <| w_reg <| s_mov (.own 0 0 out_31.length) rfl <| s_mov (.own 0 0 out_31.length) rfl <| w_done <| k_seq <| w_ret <| ?_; obtain rfl := os hf; exact r_fresh ⟨trivial, trivial⟩ rfl (by decide) (.of_eq (congrArg (AV.lst _) (tk (enc := encGLock) out_31)))

/- spec.l12Find -/
def c194_h0 : ACode :=
 (.seq (.reg (tm 4 (.c (.int .i64 0)) .done))
 (.seq (.seq (.reg (tm 5 (.c (.int .i64 0)) .done))
 (.block 0 (.loop (.seq (.seq (.reg (tm 6 (.t 5) (tm 7 (.t 0) (tq 8 (.len (.t 7)) (tq 9 (.bin .lss (.t 6) (.t 8)) .done)))))
 (.cond (.t 9) .skip
 (.exit 0)))
 (.seq (.block 1 (.seq (.reg (tm 12 (.t 0) (tm 13 (.t 5) (tq 14 (.iaddr 2 (.t 12) (.t 13)) (tq 15 (.faddr 0 (.t 14)) (tq 16 (.load 1 false (.t 15)) (tm 17 (.t 1) (tq 18 (.bin .eql (.t 16) (.t 17)) .done))))))))
 (.cond (.t 18) (.seq (.reg (tm 19 (.t 5) (tm 4 (.t 19) .done)))
 .ret)
 .skip)))
 (.reg (tm 10 (.t 5) (tq 11 (.bin .add (.t 10) (.c (.int .i64 1))) (tm 5 (.t 11) .done)))))))))
 (.cut (.seq (.reg (tq 4 (.mov (.c (.int .i64 (-1)))) .done))
 .ret))))
theorem fc194_h0 : fcomp Try.prog Try.f194 = some (c194_h0.erase, [.mov (.t 4)], 20) := by kernel_rfl
def spec_l12Find_h0_L1 (list_1 : (List GLock)) (name_2 : Str) : List GLock → Nat → Option (Fl Int Unit)
  | [], i_16 =>
    some (.go ())
  | x_31 :: xs, i_16 =>
    if i_16 < list_1.length then
    if (x_31.Name == name_2) then
    some (.ret (i_16 : Int))
    else
    spec_l12Find_h0_L1 list_1 name_2 xs (i_16 + 1)
    else none

def spec_l12Find_h0 (list_1 : (List GLock)) (name_2 : Str) : Option Int :=
    (spec_l12Find_h0_L1 list_1 name_2 list_1 0).bind fun q => (match q with
    | .ret r => some r
    | .go _ =>
    some (-1))
theorem w_spec_l12Find_h0 (list_1 : (List GLock)) (name_2 : Str) (r : Int) (hf : spec_l12Find_h0 list_1 name_2 = some r) : CallHeap Try.prog ⟨true, true⟩ 194 [(.own 0 0 list_1.length), (.str name_2)] [.row 2 (list_1.map encGLock)] (.int .i64 r) [.row 2 (list_1.map encGLock)] := by
 refine CallHeap.of_awp mixed Try.func194 fc194_h0 nle ?_; rw [argT_eq]; unfold spec_l12Find_h0 at hf; unfold c194_h0; refine (show awp Try.prog ⟨true, true⟩ 1 _ (ofL [(0, (.own 0 0 list_1.length)), (1, (.str name_2))]) [.row 2 (list_1.map encGLock)] _ from ?_); refine awp_seq <| w_reg <| s_mov (.int .i64 0) rfl <| w_done <| k_seq <| awp_seq <| awp_seq <| w_reg <| s_mov (.int .i64 0) rfl <| w_done <| k_seq <| ?_
 obtain ⟨p24, hb1, hf⟩ := ob hf
 refine awp_cutx (X := {q : Unit // p24 = .go q}) (fun q => ([], [.row 2 (list_1.map encGLock)])) ?_ ?_
 ·refine awp_loop (X := {q : Nat // spec_l12Find_h0_L1 list_1 name_2 (list_1.drop q) q = some p24}) (fun q => ([(0, (.own 0 0 list_1.length)), (1, (.str name_2)), (5, (.int .i64 (q.1 : Int)))], [.row 2 (list_1.map encGLock)])) (fun q => list_1.length - q.1) ⟨0, hb1⟩ ⟨[], [0], _, _, rfl, rfl, ⟨.refl _, ⟨.refl _, ⟨.refl _, trivial⟩⟩⟩, (.refl _)⟩ ?_
  rintro ⟨i_16, hc1⟩
  have hc1 : spec_l12Find_h0_L1 list_1 name_2 (list_1.drop i_16) i_16 = some p24 := hc1
  refine (show awp Try.prog ⟨true, true⟩ 1 _ (ofL [(0, (.own 0 0 list_1.length)), (1, (.str name_2)), (5, (.int .i64 (i_16 : Int)))]) [.row 2 (list_1.map encGLock)] _ from ?_)
  rcases dropc list_1 i_16 with ⟨hie27, hd30⟩ | ⟨hlt25, x_31, hx26, hd30⟩
  ·rw [hd30, spec_l12Find_h0_L1.eq_1] at hc1
   have hq29 := dlf hie27
   refine awp_seq <| awp_seq <| w_reg <| s_mov (.int .i64 (i_16 : Int)) rfl <| s_mov (.own 0 0 list_1.length) rfl <| s_dof (o_lenown rfl rfl) fun hl32 => s_q (.bool (decide ((i_16 : Int) < (list_1.length : Int)))) rfl (.of rfl trivial) rfl <| w_done <| k_seq <| w_condf rfl hq29 <| w_exit <| k_seqx <| k_loopx <| k_blkx <| ?_; obtain rfl := os hc1; exact k_cutn ⟨_, rfl⟩ ⟨[], [0], _, _, rfl, rfl, trivial, (.refl _)⟩
  ·rw [hd30, spec_l12Find_h0_L1.eq_2] at hc1
   have hq29 := dlt hlt25
   refine awp_seq <| awp_seq <| w_reg <| s_mov (.int .i64 (i_16 : Int)) rfl <| s_mov (.own 0 0 list_1.length) rfl <| s_dof (o_lenown rfl rfl) fun hl33 => s_q (.bool (decide ((i_16 : Int) < (list_1.length : Int)))) rfl (.of rfl trivial) rfl <| w_done <| k_seq <| w_condt rfl hq29 <| w_skip <| k_seq <| awp_seq <| w_blk <| awp_seq <| w_reg <| ?_
   obtain ⟨g34, hc1⟩ := og hc1
   refine s_mov (.own 0 0 list_1.length) rfl <| s_mov (.int .i64 (i_16 : Int)) rfl <| s_do (o_iaddrownn rfl rfl g34 rfl rfl) <| s_q (.ptr 0 i_16 0) rfl (.of trivial trivial) rfl <| s_do (o_loadrowm (enc := encGLock) (v := (.str x_31.Name)) rfl rfl hx26 nle rfl rfl) <| s_mov (.str name_2) rfl <| s_q (.bool (x_31.Name == name_2)) rfl (.of trivial trivial) rfl <| w_done <| k_seq <| ?_
   rcases oi hc1 with ⟨c35, hc1⟩ | ⟨c35, hc1⟩
   ·refine w_condt rfl c35 <| awp_seq <| w_reg <| s_mov (.int .i64 (i_16 : Int)) rfl <| s_mov (.int .i64 (i_16 : Int)) rfl <| w_done <| k_seq <| w_ret <| ?_; obtain rfl := os hc1; obtain rfl := os hf; exact r_heap [] [0] rfl ⟨.of trivial trivial, trivial⟩ rfl (.refl _) (.refl _)
   ·refine w_condf rfl (bf c35) <| w_skip <| k_blk <| k_seq <| w_reg <| s_mov (.int .i64 (i_16 : Int)) rfl <| s_q (.int .i64 (w64 ((i_16 : Int) + 1))) rfl (.of rfl trivial) rfl <| s_mov (.int .i64 (w64 ((i_16 : Int) + 1))) rfl <| w_done <| ?_; exact k_loopn ⟨(i_16 + 1), hc1⟩ (mul hlt25) ⟨[], [0], _, _, rfl, rfl, ⟨.refl _, ⟨.refl _, ⟨.of_eq (congrArg (AV.int _) (w64_incr hlt25 hl33)), trivial⟩⟩⟩, (.refl _)⟩
 ·rintro ⟨_, rfl⟩
  refine awp_seq <| w_reg <| s_mov (.int .i64 (-1)) rfl <| w_done <| k_seq <| w_ret <| ?_; obtain rfl := os hf; exact r_heap [] [0] rfl ⟨.of trivial trivial, trivial⟩ rfl (.refl _) (.refl _)

/- spec.l12In -/
def c195_h0 : ACode :=
 (.seq (.reg (tm 4 (.c (.bool false)) .done))
 (.seq (.seq (.reg (tm 5 (.c (.int .i64 0)) .done))
 (.block 0 (.loop (.seq (.seq (.reg (tm 6 (.t 5) (tm 7 (.t 0) (tq 8 (.len (.t 7)) (tq 9 (.bin .lss (.t 6) (.t 8)) .done)))))
 (.cond (.t 9) .skip
 (.exit 0)))
 (.seq (.block 1 (.seq (.reg (tm 12 (.t 0) (tm 13 (.t 5) (tq 14 (.iaddr 1 (.t 12) (.t 13)) (tq 15 (.load 1 false (.t 14)) (tm 16 (.t 1) (tq 17 (.bin .eql (.t 15) (.t 16)) .done)))))))
 (.cond (.t 17) (.seq (.reg (tm 4 (.c (.bool true)) .done))
 .ret)
 .skip)))
 (.reg (tm 10 (.t 5) (tq 11 (.bin .add (.t 10) (.c (.int .i64 1))) (tm 5 (.t 11) .done)))))))))
 (.cut (.seq (.reg (tm 4 (.c (.bool false)) .done))
 .ret))))
theorem fc195_h0 : fcomp Try.prog Try.f195 = some (c195_h0.erase, [.mov (.t 4)], 18) := by kernel_rfl
def spec_l12In_h0_L1 (list_1 : (List Int)) (n_2 : Int) : List Int → Nat → Option (Fl Bool Unit)
  | [], i_16 =>
    some (.go ())
  | x_31 :: xs, i_16 =>
    if i_16 < list_1.length then
    if (x_31 == n_2) then
    some (.ret true)
    else
    spec_l12In_h0_L1 list_1 n_2 xs (i_16 + 1)
    else none

def spec_l12In_h0 (list_1 : (List Int)) (n_2 : Int) : Option Bool :=
    (spec_l12In_h0_L1 list_1 n_2 list_1 0).bind fun q => (match q with
    | .ret r => some r
    | .go _ =>
    some false)
theorem w_spec_l12In_h0 (list_1 : (List Int)) (n_2 : Int) (r : Bool) (hf : spec_l12In_h0 list_1 n_2 = some r) : CallHeap Try.prog ⟨true, true⟩ 195 [(.own 0 0 list_1.length), (.int .i64 n_2)] [.row 1 (list_1.map encI)] (.bool r) [.row 1 (list_1.map encI)] := by
 refine CallHeap.of_awp mixed Try.func195 fc195_h0 nle ?_; rw [argT_eq]; unfold spec_l12In_h0 at hf; unfold c195_h0; refine (show awp Try.prog ⟨true, true⟩ 1 _ (ofL [(0, (.own 0 0 list_1.length)), (1, (.int .i64 n_2))]) [.row 1 (list_1.map encI)] _ from ?_); refine awp_seq <| w_reg <| s_mov (.bool false) rfl <| w_done <| k_seq <| awp_seq <| awp_seq <| w_reg <| s_mov (.int .i64 0) rfl <| w_done <| k_seq <| ?_
 obtain ⟨p24, hb1, hf⟩ := ob hf
 refine awp_cutx (X := {q : Unit // p24 = .go q}) (fun q => ([], [.row 1 (list_1.map encI)])) ?_ ?_
 ·refine awp_loop (X := {q : Nat // spec_l12In_h0_L1 list_1 n_2 (list_1.drop q) q = some p24}) (fun q => ([(0, (.own 0 0 list_1.length)), (1, (.int .i64 n_2)), (5, (.int .i64 (q.1 : Int)))], [.row 1 (list_1.map encI)])) (fun q => list_1.length - q.1) ⟨0, hb1⟩ ⟨[], [0], _, _, rfl, rfl, ⟨.refl _, ⟨.refl _, ⟨.refl _, trivial⟩⟩⟩, (.refl _)⟩ ?_
  rintro ⟨i_16, hc1⟩
  have hc1 : spec_l12In_h0_L1 list_1 n_2 (list_1.drop i_16) i_16 = some p24 := hc1
  refine (show awp Try.prog ⟨true, true⟩ 1 _ (ofL [(0, (.own 0 0 list_1.length)), (1, (.int .i64 n_2)), (5, (.int .i64 (i_16 : Int)))]) [.row 1 (list_1.map encI)] _ from ?_)
  rcases dropc list_1 i_16 with ⟨hie27, hd30⟩ | ⟨hlt25, x_31, hx26, hd30⟩
  ·rw [hd30, spec_l12In_h0_L1.eq_1] at hc1
   have hq29 := dlf hie27
   refine awp_seq <| awp_seq <| w_reg <| s_mov (.int .i64 (i_16 : Int)) rfl <| s_mov (.own 0 0 list_1.length) rfl <| s_dof (o_lenown rfl rfl) fun hl32 => s_q (.bool (decide ((i_16 : Int) < (list_1.length : Int)))) rfl (.of rfl trivial) rfl <| w_done <| k_seq <| w_condf rfl hq29 <| w_exit <| k_seqx <| k_loopx <| k_blkx <| ?_; obtain rfl := os hc1; exact k_cutn ⟨_, rfl⟩ ⟨[], [0], _, _, rfl, rfl, trivial, (.refl _)⟩
  ·rw [hd30, spec_l12In_h0_L1.eq_2] at hc1
   have hq29 := dlt hlt25
   refine awp_seq <| awp_seq <| w_reg <| s_mov (.int .i64 (i_16 : Int)) rfl <| s_mov (.own 0 0 list_1.length) rfl <| s_dof (o_lenown rfl rfl) fun hl33 => s_q (.bool (decide ((i_16 : Int) < (list_1.length : Int)))) rfl (.of rfl trivial) rfl <| w_done <| k_seq <| w_condt rfl hq29 <| w_skip <| k_seq <| awp_seq <| w_blk <| awp_seq <| w_reg <| ?_
   obtain ⟨g34, hc1⟩ := og hc1
   refine s_mov (.own 0 0 list_1.length) rfl <| s_mov (.int .i64 (i_16 : Int)) rfl <| s_do (o_iaddrownn rfl rfl g34 rfl rfl) <| s_do (o_loadrowm (enc := encI) (v := (.int .i64 x_31)) rfl rfl hx26 ⟨rfl, rfl⟩ rfl rfl) <| s_mov (.int .i64 n_2) rfl <| s_q (.bool (x_31 == n_2)) rfl (.of rfl trivial) rfl <| w_done <| k_seq <| ?_
   rcases oi hc1 with ⟨c35, hc1⟩ | ⟨c35, hc1⟩
   ·refine w_condt rfl c35 <| awp_seq <| w_reg <| s_mov (.bool true) rfl <| w_done <| k_seq <| w_ret <| ?_; obtain rfl := os hc1; obtain rfl := os hf; exact r_heap [] [0] rfl ⟨.of trivial trivial, trivial⟩ rfl (.refl _) (.refl _)
   ·refine w_condf rfl (bf c35) <| w_skip <| k_blk <| k_seq <| w_reg <| s_mov (.int .i64 (i_16 : Int)) rfl <| s_q (.int .i64 (w64 ((i_16 : Int) + 1))) rfl (.of rfl trivial) rfl <| s_mov (.int .i64 (w64 ((i_16 : Int) + 1))) rfl <| w_done <| ?_; exact k_loopn ⟨(i_16 + 1), hc1⟩ (mul hlt25) ⟨[], [0], _, _, rfl, rfl, ⟨.refl _, ⟨.refl _, ⟨.of_eq (congrArg (AV.int _) (w64_incr hlt25 hl33)), trivial⟩⟩⟩, (.refl _)⟩
 ·rintro ⟨_, rfl⟩
  refine awp_seq <| w_reg <| s_mov (.bool false) rfl <| w_done <| k_seq <| w_ret <| ?_; obtain rfl := os hf; exact r_heap [] [0] rfl ⟨.of trivial trivial, trivial⟩ rfl (.refl _) (.refl _)

/- spec.l12Leave -/
def c109 : ACode :=
 (.seq (.reg (tm 6 (.c .nil) (tm 7 (.c .nil) (tm 8 (.c (.int .i64 0)) .done))))
 (.seq (.reg (tq 14 (.bslice 3 []) (tm 9 (.t 14) .done)))
 (.seq (.reg (tm 15 (.t 0) (tq 16 (.call 191 [(.t 15)]) (tm 10 (.t 16) .done))))
 (.seq (.reg (tm 17 (.t 10) (tm 18 (.t 2) (tq 19 (.call 194 [(.t 17), (.t 18)]) (tm 11 (.t 19) .done)))))
 (.seq (.seq (.rev (.reg (tm 20 (.t 11) (tq 21 (.bin .lss (.t 20) (.c (.int .i64 0))) (tm 22 (.t 21) (tg 23 22 false (.mov (.t 10)) (tg 24 22 false (.mov (.t 11)) (tg 25 22 false (.iaddr 2 (.t 23) (.t 24)) (tg 26 22 false (.faddr 1 (.t 25)) (tg 27 22 false (.load 1 false (.t 26)) (tg 28 22 false (.mov (.t 1)) (tg 29 22 false (.call 195 [(.t 27), (.t 28)]) (tg 30 22 false (.not (.t 29)) (tq 31 (.pick (.t 22) (.c (.bool true)) (.t 30)) .done))))))))))))))
 (.cut (.cond (.t 31) (.seq (.reg (tm 32 (.t 10) (tm 33 (.t 9) (tm 6 (.t 32) (tm 7 (.t 33) (tm 8 (.c (.int .i64 5)) .done))))))
 .ret)
 .skip)))
 (.seq (.reg (tq 34 (.bslice 1 []) (tm 12 (.t 34) .done)))
 (.seq (.seq (.reg (tm 13 (.c (.int .i64 0)) .done))
 (.block 0 (.loop (.seq (.seq (.rev (.reg (tm 35 (.t 13) (tm 36 (.t 10) (tm 37 (.t 11) (tq 38 (.iaddr 2 (.t 36) (.t 37)) (tq 39 (.faddr 1 (.t 38)) (tq 40 (.load 1 false (.t 39)) (tq 41 (.len (.t 40)) (tq 42 (.bin .lss (.t 35) (.t 41)) .done))))))))))
 (.cond (.t 42) .skip
 (.exit 0)))
 (.seq (.block 1 (.seq (.reg (tm 45 (.t 10) (tm 46 (.t 11) (tq 47 (.iaddr 2 (.t 45) (.t 46)) (tq 48 (.faddr 1 (.t 47)) (tq 49 (.load 1 false (.t 48)) (tm 50 (.t 13) (tq 51 (.iaddr 1 (.t 49) (.t 50)) (tq 52 (.load 1 false (.t 51)) (tm 53 (.t 1) (tq 54 (.bin .neq (.t 52) (.t 53)) .done)))))))))))
 (.cond (.t 54) (.reg (tm 55 (.t 12) (tm 56 (.t 10) (tm 57 (.t 11) (tq 58 (.iaddr 2 (.t 56) (.t 57)) (tq 59 (.faddr 1 (.t 58)) (tq 60 (.load 1 false (.t 59)) (tm 61 (.t 13) (tq 62 (.iaddr 1 (.t 60) (.t 61)) (tq 63 (.load 1 false (.t 62)) (tq 64 (.bslice 1 [(.t 63)]) (tq 65 (.append 1 8 (.t 55) (.t 64)) (tm 12 (.t 65) .done)))))))))))))
 .skip)))
 (.reg (tm 43 (.t 13) (tq 44 (.bin .add (.t 43) (.c (.int .i64 1))) (tm 13 (.t 44) .done)))))))))
 (.cut (.seq (.seq (.rev (.reg (tm 66 (.t 10) (tm 67 (.t 11) (tq 68 (.iaddr 2 (.t 66) (.t 67)) (tq 69 (.faddr 1 (.t 68)) (tq 70 (.load 1 false (.t 69)) (tq 71 (.iaddr 1 (.t 70) (.c (.int .i64 0))) (tq 72 (.load 1 false (.t 71)) (tm 73 (.t 1) (tq 74 (.bin .eql (.t 72) (.t 73)) (tm 75 (.t 74) (tg 76 75 true (.mov (.t 12)) (tg 77 75 true (.len (.t 76)) (tg 78 75 true (.bin .gtr (.t 77) (.c (.int .i64 0))) (tq 79 (.pick (.t 75) (.t 78) (.c (.bool false))) .done))))))))))))))))
 (.cut (.cond (.t 79) (.reg (tm 80 (.t 9) (tm 81 (.t 12) (tq 82 (.iaddr 1 (.t 81) (.c (.int .i64 0))) (tq 83 (.load 1 false (.t 82)) (tm 84 (.t 2) (tq 85 (.build [(.int .i64 0), (.str []), (.str [])] [(0, 1, (.t 83)), (1, 1, (.c (.str [108, 111, 99, 107, 101, 100]))), (2, 1, (.t 84))]) (tq 86 (.bslice 3 [(.t 85)]) (tq 87 (.append 3 40 (.t 80) (.t 86)) (tm 9 (.t 87) .done))))))))))
 .skip)))
 (.cut (.seq (.rev (.reg (tm 88 (.t 10) (tm 89 (.t 11) (tm 90 (.t 12) (tq 91 (.iaddr 2 (.t 88) (.t 89)) (tq 92 (.faddr 1 (.t 91)) (.q ⟨none, none, .store 1 (.t 92) (.t 90)⟩
 .done))))))))
 (.seq (.seq (.reg (tm 93 (.t 12) (tq 94 (.len (.t 93)) (tq 95 (.bin .eql (.t 94) (.c (.int .i64 0))) .done))))
 (.cond (.t 95) (.rev (.reg (tm 96 (.t 10) (tm 97 (.t 11) (tq 98 (.slice 2 (.t 96) none (some (.t 97))) (tm 99 (.t 10) (tm 100 (.t 11) (tq 101 (.bin .add (.t 100) (.c (.int .i64 1))) (tq 102 (.slice 2 (.t 99) (some (.t 101)) none) (.l ⟨(some 103), none, .append 2 40 (.t 98) (.t 102)⟩ []
 (.l ⟨(some 10), none, .mov (.t 103)⟩ []
 .done .non) .non))))))))))
 .skip))
 (.seq (.reg (tm 104 (.t 10) (tm 105 (.t 9) (tm 6 (.t 104) (tm 7 (.t 105) (tm 8 (.c (.int .i64 0)) .done))))))
 (.rev .ret))))))))))))))
theorem fc109 : fcomp Try.prog Try.f109 = some (c109.erase, [.mov (.t 6), .mov (.t 7), .mov (.t 8)], 106) := by kernel_rfl
def spec_l12Leave_L1 (r_4 : (List GLock)) (r_6 : Int) (session_2 : Int) : Nat → Int → (List Int) → Option (List Int)
  | 0, _, _ => none
  | k + 1, i_108, q_109 =>
    ((r_4[(0 + r_6.toNat)]?)).bind fun x_127 =>
    if (0 : Int) ≤ r_6 ∧ r_6 < (r_4.length : Int) then
    if (decide (i_108 < (x_127.Queue.length : Int))) then
    if (0 : Int) ≤ r_6 ∧ r_6 < (r_4.length : Int) then
    if (0 : Int) ≤ i_108 ∧ i_108 < (x_127.Queue.length : Int) then
    (x_127.Queue[(0 + i_108.toNat)]?).bind fun x_134 =>
    if (x_134 != session_2) then
    if (0 : Int) ≤ r_6 ∧ r_6 < (r_4.length : Int) then
    if (0 : Int) ≤ i_108 ∧ i_108 < (x_127.Queue.length : Int) then
    if (q_109 ++ [x_134]).length ≤ 2 ^ 30 then
    spec_l12Leave_L1 r_4 r_6 session_2 k (w64 (i_108 + 1)) (q_109 ++ [x_134])
    else none
    else none
    else none
    else
    spec_l12Leave_L1 r_4 r_6 session_2 k (w64 (i_108 + 1)) q_109
    else none
    else none
    else
    some q_109
    else none

def spec_l12Leave (list_1 : (List GLock)) (session_2 : Int) (name_3 : Str) : Option ((List GLock) × (List GTold) × Int) :=
    (spec_l12Own list_1).bind fun r_4 =>
    (spec_l12Find_h0 r_4 name_3).bind fun r_6 =>
    ((onIdx (r_4[(0 + r_6.toNat)]?) (fun x_22 =>
    if (decide (r_6 < 0)) then
    some true
    else
    if (0 : Int) ≤ r_6 ∧ r_6 < (r_4.length : Int) then
    (spec_l12In_h0 x_22.Queue session_2).bind fun r_26 =>
    some (!r_26)
    else none) (
    if (decide (r_6 < 0)) then
    some true
    else
    if (0 : Int) ≤ r_6 ∧ r_6 < (r_4.length : Int) then
    none
    else none) : Option Bool)).bind fun s31_18 =>
    if s31_18 then
    some (r_4, [], 5)
    else
    (spec_l12Leave_L1 r_4 r_6 session_2 FUEL 0 []).bind fun q_124 =>
    ((((((r_4[(0 + r_6.toNat)]?)).bind fun x_179 =>
    if (0 : Int) ≤ r_6 ∧ r_6 < (r_4.length : Int) then
    if 0 < x_179.Queue.length then
    (x_179.Queue[0]?).bind fun x_183 =>
    if (x_183 == session_2) then
    some (decide ((q_124.length : Int) > 0))
    else
    some false
    else none
    else none : Option Bool)).bind fun s79_176 =>
    if s79_176 then
    if 0 < q_124.length then
    (q_124[0]?).bind fun x_189 =>
    if ([] ++ [(⟨x_189, [108, 111, 99, 107, 101, 100], name_3⟩ : GTold)]).length ≤ 2 ^ 30 then
    some ([] ++ [(⟨x_189, [108, 111, 99, 107, 101, 100], name_3⟩ : GTold)])
    else none
    else none
    else
    some [] : Option (List GTold))).bind fun told_165 =>
    ((r_4[(0 + r_6.toNat)]?)).bind fun x_193 =>
    if (0 : Int) ≤ r_6 ∧ r_6 < (r_4.length : Int) then
    if ((q_124.length : Int) == 0) then
    if (0 : Int) ≤ r_6 ∧ r_6 ≤ (r_4.length : Int) then
    if (0 : Int) ≤ w64 (r_6 + 1) ∧ w64 (r_6 + 1) ≤ (r_4.length : Int) then
    if r_6.toNat ≤ (w64 (r_6 + 1)).toNat then
    some (((r_4.set (0 + r_6.toNat) (⟨x_193.Name, q_124⟩ : GLock)).take r_6.toNat) ++ (((r_4.set (0 + r_6.toNat) (⟨x_193.Name, q_124⟩ : GLock)).drop ((w64 (r_6 + 1)).toNat)).take (r_4.length - (w64 (r_6 + 1)).toNat)), told_165, 0)
    else none
    else none
    else none
    else
    some (r_4.set (0 + r_6.toNat) (⟨x_193.Name, q_124⟩ : GLock), told_165, 0)
    else none
theorem w_spec_l12Leave (list_1 : (List GLock)) (session_2 : Int) (name_3 : Str) (r : ((List GLock) × (List GTold) × Int)) (hf : spec_l12Leave list_1 session_2 name_3 = some r) : CallOK Try.prog 109 .fresh [(.lst 2 (list_1.map encGLock)), (.int .i64 session_2), (.str name_3)] (.tup [(.lst 2 (r.1.map encGLock)), (.lst 3 (r.2.1.map encGTold)), (.int .i64 r.2.2)]) := by
 refine CallOK.of_awp' (md := ⟨true, true⟩) (fun _ => rfl) (fun _ => rfl) (fun h => by cases h) mixed Try.func109 fc109 nle ?_; rw [argT_eq]; unfold spec_l12Leave at hf; unfold c109; refine (show awp Try.prog ⟨true, true⟩ 0 _ (ofL [(0, (.lst 2 (list_1.map encGLock))), (1, (.int .i64 session_2)), (2, (.str name_3))]) [] _ from ?_); refine awp_seq <| w_reg <| s_mov .nil rfl <| s_mov .nil rfl <| s_mov (.int .i64 0) rfl <| w_done <| k_seq <| awp_seq <| w_reg <| ?_; refine s_do (o_bslice (j := 0) (as' := []) rfl (fun _ => by decide) trivial (.refl _) rfl rfl rfl) ?_; refine s_mov (.own 0 0 0) rfl <| w_done <| k_seq <| awp_seq <| w_reg <| ?_
 obtain ⟨r_4, er5, hf⟩ := ob hf
 refine s_mov (.lst 2 (list_1.map encGLock)) rfl <| s_do (o_callf (v := (.own 1 0 r_4.length)) (h' := [.row 2 (r_4.map encGLock)]) (w_spec_l12Own _ _ er5) rfl (.refl _) (by simp only [openV, openVs, List.length_map, List.nil_append, List.append_nil, List.cons_append]; rfl)) <| s_mov (.own 1 0 r_4.length) rfl <| w_done <| k_seq <| awp_seq <| w_reg <| ?_
 obtain ⟨r_6, er7, hf⟩ := ob hf
 refine s_mov (.own 1 0 r_4.length) rfl <| s_mov (.str name_3) rfl <| ?_; refine s_do (o_callh (v := (.int .i64 r_6)) (h2 := [.row 3 ([].map encGTold), .row 2 (r_4.map encGLock)]) [] [1] (fun _ => rfl) (w_spec_l12Find_h0 _ _ _ er7) rfl (.refl _) (.refl _) rfl rfl) ?_; refine s_mov (.int .i64 r_6) rfl <| w_done <| k_seq <| awp_seq <| awp_seq <| ?_
 obtain ⟨s31_18, hb1, hf⟩ := ob hf
 refine awp_cut ([(1, (.int .i64 session_2)), (2, (.str name_3)), (9, (.own 0 0 0)), (10, (.own 1 0 r_4.length)), (11, (.int .i64 r_6)), (31, (.bool s31_18))], [.row 3 ([].map encGTold), .row 2 (r_4.map encGLock)]) ?_ ?_
 ·rcases oo hb1 with ⟨x_22, ex23, hb1⟩ | ⟨ex23, hb1⟩
  ·refine w_opn (o := 1) (i := (0 + r_6.toNat)) (el := (.agg [(.str x_22.Name), (.lst 1 (x_22.Queue.map encI))])) (el2 := (.agg [(.str x_22.Name), (.own 2 0 x_22.Queue.length)])) (xs := [.row 1 (x_22.Queue.map encI)]) rfl rfl rfl ex23 rfl (by simp only [AV.cells, openVs, openV, List.length_map, List.nil_append, List.append_nil, List.cons_append]; rfl) <| w_reg <| ?_
   rcases oi hb1 with ⟨c24, hb1⟩ | ⟨c24, hb1⟩
   ·refine s_mov (.int .i64 r_6) rfl <| s_q (.bool (decide (r_6 < 0))) rfl (.of rfl trivial) rfl <| s_mov (.bool (decide (r_6 < 0))) rfl <| s_lit (s := 22) (b := true) rfl c24 <| s_off rfl rfl <| s_off rfl rfl <| s_off rfl rfl <| s_off rfl rfl <| s_off rfl rfl <| s_off rfl rfl <| s_off rfl rfl <| s_off rfl rfl <| s_q (.bool true) rfl (.of trivial trivial) rfl <| w_done <| ?_; obtain rfl := os hb1; exact ⟨[.cls 1], [0, 1], _, _, rfl, rfl, ⟨.refl _, ⟨.refl _, ⟨.of_eq (congrArg (AV.own _ 0) (by simp)), ⟨.refl _, ⟨.refl _, ⟨.refl _, trivial⟩⟩⟩⟩⟩⟩, (.cons (.refl _) (.cons ((leo_cls0 ex23 (.agg (.cons (.refl _) (.cons (.of_eq (congrArg (AV.lst _) (tk (enc := encI) x_22.Queue))) .nil))))) .nil))⟩
   ·obtain ⟨g25, hb1⟩ := og hb1
    obtain ⟨r_26, er27, hb1⟩ := ob hb1
    refine s_mov (.int .i64 r_6) rfl <| s_q (.bool (decide (r_6 < 0))) rfl (.of rfl trivial) rfl <| s_mov (.bool (decide (r_6 < 0))) rfl <| s_lit (s := 22) (b := false) rfl (bf c24) <| s_on rfl <| s_mov (.own 1 0 r_4.length) rfl <| s_on rfl <| s_mov (.int .i64 r_6) rfl <| s_on rfl <| s_do (o_iaddrx rfl rfl g25.1 g25.2 rfl rfl) <| s_on rfl <| s_do (o_faddrx rfl rfl) <| s_on rfl <| s_do (o_loadx rfl rfl nle rfl) <| s_on rfl <| s_mov (.int .i64 session_2) rfl <| s_on rfl <| ?_; refine s_do (o_callh (v := (.bool r_26)) (h2 := [.row 3 ([].map encGTold), .rowx 2 (r_4.map encGLock) (0 + r_6.toNat) (.agg [(.str x_22.Name), (.own 2 0 x_22.Queue.length)]), .row 1 (x_22.Queue.map encI)]) [] [2] (fun _ => rfl) (w_spec_l12In_h0 _ _ _ er27) rfl (.refl _) (.refl _) rfl rfl) ?_
    refine s_on rfl <| s_q (.bool (!r_26)) rfl (.of trivial trivial) rfl <| s_q (.bool (!r_26)) rfl (.of trivial trivial) rfl <| w_done <| ?_; obtain rfl := os hb1; exact ⟨[.cls 1], [0, 1], _, _, rfl, rfl, ⟨.refl _, ⟨.refl _, ⟨.of_eq (congrArg (AV.own _ 0) (by simp)), ⟨.refl _, ⟨.refl _, ⟨.refl _, trivial⟩⟩⟩⟩⟩⟩, (.cons (.refl _) (.cons ((leo_cls0 ex23 (.agg (.cons (.refl _) (.cons (.of_eq (congrArg (AV.lst _) (tk (enc := encI) x_22.Queue))) .nil))))) .nil))⟩
  ·refine w_rev0 <| w_reg <| ?_
   rcases oi hb1 with ⟨c28, hb1⟩ | ⟨c28, hb1⟩
   ·refine s_mov (.int .i64 r_6) rfl <| s_q (.bool (decide (r_6 < 0))) rfl (.of rfl trivial) rfl <| s_mov (.bool (decide (r_6 < 0))) rfl <| s_lit (s := 22) (b := true) rfl c28 <| s_off rfl rfl <| s_off rfl rfl <| s_off rfl rfl <| s_off rfl rfl <| s_off rfl rfl <| s_off rfl rfl <| s_off rfl rfl <| s_off rfl rfl <| s_q (.bool true) rfl (.of trivial trivial) rfl <| w_done <| ?_; obtain rfl := os hb1; exact ⟨[], [0, 1], _, _, rfl, rfl, ⟨.refl _, ⟨.refl _, ⟨.of_eq (congrArg (AV.own _ 0) (by simp)), ⟨.refl _, ⟨.refl _, ⟨.refl _, trivial⟩⟩⟩⟩⟩⟩, (.refl _)⟩
   ·obtain ⟨g29, hb1⟩ := og hb1
    cases hb1
 ·rcases oi hf with ⟨c30, hf⟩ | ⟨c30, hf⟩
  ·refine w_condt rfl c30 <| awp_seq <| w_reg <| s_mov (.own 1 0 r_4.length) rfl <| s_mov (.own 0 0 0) rfl <| s_mov (.own 1 0 r_4.length) rfl <| s_mov (.own 0 0 0) rfl <| s_mov (.int .i64 5) rfl <| w_done <| k_seq <| w_ret <| ?_; obtain rfl := os hf; exact r_fresh ⟨.of trivial trivial, ⟨.of trivial trivial, ⟨.of trivial trivial, trivial⟩⟩⟩ rfl (by decide) (.tup (.cons (.of_eq (congrArg (AV.lst _) (tk (enc := encGLock) r_4))) (.cons (.refl _) (.cons (.refl _) .nil))))
  ·refine w_condf rfl (bf c30) <| w_skip <| k_seq <| awp_seq <| w_reg <| ?_; refine s_do (o_bslice (j := 2) (as' := []) rfl (fun _ => by decide) trivial (.refl _) rfl rfl rfl) ?_; refine s_mov (.own 2 0 0) rfl <| w_done <| k_seq <| awp_seq <| awp_seq <| w_reg <| s_mov (.int .i64 0) rfl <| w_done <| k_seq <| ?_
   obtain ⟨q_124, hb1, hf⟩ := ob hf
   refine awp_cut ([(1, (.int .i64 session_2)), (2, (.str name_3)), (9, (.own 0 0 0)), (10, (.own 1 0 r_4.length)), (11, (.int .i64 r_6)), (12, (.own 2 0 q_124.length))], [.row 3 ([].map encGTold), .row 2 (r_4.map encGLock), .row 1 (q_124.map encI)]) ?_ ?_
   ·refine awp_loop (X := {q : (Nat × Int × (List Int)) // spec_l12Leave_L1 r_4 r_6 session_2 q.1 q.2.1 q.2.2 = some q_124}) (fun q => ([(1, (.int .i64 session_2)), (2, (.str name_3)), (9, (.own 0 0 0)), (10, (.own 1 0 r_4.length)), (11, (.int .i64 r_6)), (12, (.own 2 0 q.1.2.2.length)), (13, (.int .i64 q.1.2.1))], [.row 3 ([].map encGTold), .row 2 (r_4.map encGLock), .row 1 (q.1.2.2.map encI)])) (fun q => q.1.1) ⟨(FUEL, 0, []), hb1⟩ ⟨[], [0, 1, 2], _, _, rfl, rfl, ⟨.refl _, ⟨.refl _, ⟨.refl _, ⟨.refl _, ⟨.refl _, ⟨.of_eq (congrArg (AV.own _ 0) (by simp)), ⟨.refl _, trivial⟩⟩⟩⟩⟩⟩⟩, (.refl _)⟩ ?_
    rintro ⟨⟨k, i_108, q_109⟩, hc1⟩
    have hc1 : spec_l12Leave_L1 r_4 r_6 session_2 k i_108 q_109 = some q_124 := hc1
    refine (show awp Try.prog ⟨true, true⟩ 0 _ (ofL [(1, (.int .i64 session_2)), (2, (.str name_3)), (9, (.own 0 0 0)), (10, (.own 1 0 r_4.length)), (11, (.int .i64 r_6)), (12, (.own 2 0 q_109.length)), (13, (.int .i64 i_108))]) [.row 3 ([].map encGTold), .row 2 (r_4.map encGLock), .row 1 (q_109.map encI)] _ from ?_)
    rcases k with _ | k
    ·rw [spec_l12Leave_L1.eq_1] at hc1
     cases hc1
    ·rw [spec_l12Leave_L1.eq_2] at hc1; refine awp_seq <| awp_seq <| ?_
     obtain ⟨x_127, ex128, hc1⟩ := ob hc1
     refine w_opn (o := 1) (i := (0 + r_6.toNat)) (el := (.agg [(.str x_127.Name), (.lst 1 (x_127.Queue.map encI))])) (el2 := (.agg [(.str x_127.Name), (.own 3 0 x_127.Queue.length)])) (xs := [.row 1 (x_127.Queue.map encI)]) rfl rfl rfl ex128 rfl (by simp only [AV.cells, openVs, openV, List.length_map, List.nil_append, List.append_nil, List.cons_append]; rfl) <| w_reg <| ?_
     obtain ⟨g129, hc1⟩ := og hc1
     refine s_mov (.int .i64 i_108) rfl <| s_mov (.own 1 0 r_4.length) rfl <| s_mov (.int .i64 r_6) rfl <| s_do (o_iaddrx rfl rfl g129.1 g129.2 rfl rfl) <| s_do (o_faddrx rfl rfl) <| s_do (o_loadx rfl rfl nle rfl) <| s_dof (o_lenown rfl rfl) fun hl130 => s_q (.bool (decide (i_108 < (x_127.Queue.length : Int)))) rfl (.of rfl trivial) rfl <| w_done <| k_seq <| ?_
     rcases oi hc1 with ⟨c131, hc1⟩ | ⟨c131, hc1⟩
     ·refine w_condt rfl c131 <| w_skip <| k_seq <| awp_seq <| w_blk <| awp_seq <| w_reg <| ?_
      obtain ⟨g132, hc1⟩ := og hc1
      obtain ⟨g133, hc1⟩ := og hc1
      obtain ⟨x_134, ex135, hc1⟩ := ob hc1
      refine s_mov (.own 1 0 r_4.length) rfl <| s_mov (.int .i64 r_6) rfl <| s_do (o_iaddrx rfl rfl g132.1 g132.2 rfl rfl) <| s_do (o_faddrx rfl rfl) <| s_do (o_loadx rfl rfl nle rfl) <| s_mov (.int .i64 i_108) rfl <| s_do (o_iaddrown rfl rfl g133.1 g133.2 rfl rfl) <| s_do (o_loadrowm (enc := encI) (v := (.int .i64 x_134)) rfl rfl ex135 ⟨rfl, rfl⟩ rfl rfl) <| s_mov (.int .i64 session_2) rfl <| s_q (.bool (x_134 != session_2)) rfl (.of rfl trivial) rfl <| w_done <| k_seq <| ?_
      rcases oi hc1 with ⟨c136, hc1⟩ | ⟨c136, hc1⟩
      ·refine w_condt rfl c136 <| w_reg <| ?_
       obtain ⟨g137, hc1⟩ := og hc1
       obtain ⟨g138, hc1⟩ := og hc1
       obtain ⟨g139, hc1⟩ := og hc1
       refine s_mov (.own 2 0 q_109.length) rfl <| s_mov (.own 1 0 r_4.length) rfl <| s_mov (.int .i64 r_6) rfl <| s_do (o_iaddrx rfl rfl g137.1 g137.2 rfl rfl) <| s_do (o_faddrx rfl rfl) <| s_do (o_loadx rfl rfl nle rfl) <| s_mov (.int .i64 i_108) rfl <| s_do (o_iaddrown rfl rfl g138.1 g138.2 rfl rfl) <| s_do (o_loadrowm (enc := encI) (v := (.int .i64 x_134)) rfl rfl ex135 ⟨rfl, rfl⟩ rfl rfl) <| ?_; refine s_do (o_bslice (j := 4) (as' := [(.int .i64 x_134)]) rfl (fun _ => by decide) ⟨rfl, trivial⟩ (.refl _) rfl rfl rfl) ?_
       refine s_do (o_appendd (j := 5) (L := ((q_109 ++ [x_134]).map encI)) (len := (q_109 ++ [x_134]).length) rfl false rfl rfl (fun _ => flo (enc := encI) (fun _ => rfl) [x_134] _) (fun _ _ h => (ownl (show AV.own _ _ _ = AV.lst _ _ from h)).elim) (by decide) (apoc (enc := encI) q_109 [x_134] _ (by rfl)) (by simp <;> omega) g139 rfl rfl) ?_
       refine s_mov (.own 5 0 ((q_109 ++ [x_134]).length)) rfl <| w_done <| k_blk <| k_seq <| w_reg <| s_mov (.int .i64 i_108) rfl <| s_q (.int .i64 (w64 (i_108 + 1))) rfl (.of rfl trivial) rfl <| s_mov (.int .i64 (w64 (i_108 + 1))) rfl <| w_done <| ?_; exact k_loopn ⟨(k, w64 (i_108 + 1), q_109 ++ [x_134]), hc1⟩ (Nat.lt_succ_self _) ⟨[.cls 1], [0, 1, 5], _, _, rfl, rfl, ⟨.refl _, ⟨.refl _, ⟨.refl _, ⟨.refl _, ⟨.refl _, ⟨.refl _, ⟨.refl _, trivial⟩⟩⟩⟩⟩⟩⟩, (.cons (.refl _) (.cons ((leo_cls0 ex128 (.agg (.cons (.refl _) (.cons (.of_eq (congrArg (AV.lst _) (tk (enc := encI) x_127.Queue))) .nil))))) (.cons (.refl _) .nil)))⟩
      ·refine w_condf rfl (bf c136) <| w_skip <| k_blk <| k_seq <| w_reg <| s_mov (.int .i64 i_108) rfl <| s_q (.int .i64 (w64 (i_108 + 1))) rfl (.of rfl trivial) rfl <| s_mov (.int .i64 (w64 (i_108 + 1))) rfl <| w_done <| ?_; exact k_loopn ⟨(k, w64 (i_108 + 1), q_109), hc1⟩ (Nat.lt_succ_self _) ⟨[.cls 1], [0, 1, 2], _, _, rfl, rfl, ⟨.refl _, ⟨.refl _, ⟨.refl _, ⟨.refl _, ⟨.refl _, ⟨.refl _, ⟨.refl _, trivial⟩⟩⟩⟩⟩⟩⟩, (.cons (.refl _) (.cons ((leo_cls0 ex128 (.agg (.cons (.refl _) (.cons (.of_eq (congrArg (AV.lst _) (tk (enc := encI) x_127.Queue))) .nil))))) (.cons (.refl _) .nil)))⟩
     ·refine w_condf rfl (bf c131) <| w_exit <| k_seqx <| k_loopx <| k_blkx <| ?_; obtain rfl := os hc1; exact ⟨[.cls 1], [0, 1, 2], _, _, rfl, rfl, ⟨.refl _, ⟨.refl _, ⟨.refl _, ⟨.refl _, ⟨.refl _, ⟨.refl _, trivial⟩⟩⟩⟩⟩⟩, (.cons (.refl _) (.cons ((leo_cls0 ex128 (.agg (.cons (.refl _) (.cons (.of_eq (congrArg (AV.lst _) (tk (enc := encI) x_127.Queue))) .nil))))) (.cons (.refl _) .nil)))⟩
   ·refine awp_seq ?_
    obtain ⟨told_165, hb1, hf⟩ := ob hf
    refine awp_cut ([(9, (.own 0 0 told_165.length)), (10, (.own 1 0 r_4.length)), (11, (.int .i64 r_6)), (12, (.own 2 0 q_124.length))], [.row 3 (told_165.map encGTold), .row 2 (r_4.map encGLock), .row 1 (q_124.map encI)]) ?_ ?_
    ·refine awp_seq ?_
     obtain ⟨s79_176, hb2, hb1⟩ := ob hb1
     refine awp_cut ([(2, (.str name_3)), (9, (.own 0 0 0)), (10, (.own 1 0 r_4.length)), (11, (.int .i64 r_6)), (12, (.own 2 0 q_124.length)), (79, (.bool s79_176))], [.row 3 ([].map encGTold), .row 2 (r_4.map encGLock), .row 1 (q_124.map encI)]) ?_ ?_
     ·obtain ⟨x_179, ex180, hb2⟩ := ob hb2
      refine w_opn (o := 1) (i := (0 + r_6.toNat)) (el := (.agg [(.str x_179.Name), (.lst 1 (x_179.Queue.map encI))])) (el2 := (.agg [(.str x_179.Name), (.own 3 0 x_179.Queue.length)])) (xs := [.row 1 (x_179.Queue.map encI)]) rfl rfl rfl ex180 rfl (by simp only [AV.cells, openVs, openV, List.length_map, List.nil_append, List.append_nil, List.cons_append]; rfl) <| w_reg <| s_mov (.own 1 0 r_4.length) rfl <| s_mov (.int .i64 r_6) rfl <| ?_
      obtain ⟨g181, hb2⟩ := og hb2
      refine s_do (o_iaddrx rfl rfl g181.1 g181.2 rfl rfl) <| s_do (o_faddrx rfl rfl) <| s_do (o_loadx rfl rfl nle rfl) <| ?_
      obtain ⟨g182, hb2⟩ := og hb2
      refine s_do (o_iaddrownn rfl rfl g182 rfl rfl) ?_
      obtain ⟨x_183, ex184, hb2⟩ := ob hb2
      refine s_do (o_loadrowm (enc := encI) (v := (.int .i64 x_183)) rfl rfl ex184 ⟨rfl, rfl⟩ rfl rfl) <| s_mov (.int .i64 session_2) rfl <| s_q (.bool (x_183 == session_2)) rfl (.of rfl trivial) rfl <| s_mov (.bool (x_183 == session_2)) rfl <| ?_
      rcases oi hb2 with ⟨c185, hb2⟩ | ⟨c185, hb2⟩
      ·refine s_lit (s := 75) (b := true) rfl c185 <| s_on rfl <| s_mov (.own 2 0 q_124.length) rfl <| s_on rfl <| s_dof (o_lenown rfl rfl) fun hl186 => s_on rfl <| s_q (.bool (decide ((q_124.length : Int) > 0))) rfl (.of rfl trivial) rfl <| s_q (.bool (decide ((q_124.length : Int) > 0))) rfl (.of trivial trivial) rfl <| w_done <| ?_; obtain rfl := os hb2; exact ⟨[.cls 1], [0, 1, 2], _, _, rfl, rfl, ⟨.refl _, ⟨.refl _, ⟨.refl _, ⟨.refl _, ⟨.refl _, ⟨.refl _, trivial⟩⟩⟩⟩⟩⟩, (.cons (.refl _) (.cons ((leo_cls0 ex180 (.agg (.cons (.refl _) (.cons (.of_eq (congrArg (AV.lst _) (tk (enc := encI) x_179.Queue))) .nil))))) (.cons (.refl _) .nil)))⟩
      ·refine s_lit (s := 75) (b := false) rfl (bf c185) <| s_off rfl rfl <| s_off rfl rfl <| s_off rfl rfl <| s_q (.bool false) rfl (.of trivial trivial) rfl <| w_done <| ?_; obtain rfl := os hb2; exact ⟨[.cls 1], [0, 1, 2], _, _, rfl, rfl, ⟨.refl _, ⟨.refl _, ⟨.refl _, ⟨.refl _, ⟨.refl _, ⟨.refl _, trivial⟩⟩⟩⟩⟩⟩, (.cons (.refl _) (.cons ((leo_cls0 ex180 (.agg (.cons (.refl _) (.cons (.of_eq (congrArg (AV.lst _) (tk (enc := encI) x_179.Queue))) .nil))))) (.cons (.refl _) .nil)))⟩
     ·rcases oi hb1 with ⟨c187, hb1⟩ | ⟨c187, hb1⟩
      ·refine w_condt rfl c187 <| w_reg <| ?_
       obtain ⟨g188, hb1⟩ := og hb1
       obtain ⟨x_189, ex190, hb1⟩ := ob hb1
       obtain ⟨g191, hb1⟩ := og hb1
       refine s_mov (.own 0 0 0) rfl <| s_mov (.own 2 0 q_124.length) rfl <| s_do (o_iaddrownn rfl rfl g188 rfl rfl) <| s_do (o_loadrowm (enc := encI) (v := (.int .i64 x_189)) rfl rfl ex190 ⟨rfl, rfl⟩ rfl rfl) <| s_mov (.str name_3) rfl <| s_q (.agg [(.int .i64 x_189), (.str [108, 111, 99, 107, 101, 100]), (.str name_3)]) rfl (.of ⟨⟨rfl, nle, trivial⟩, ⟨⟨rfl, nle, trivial⟩, ⟨⟨rfl, nle, trivial⟩, trivial⟩⟩⟩ trivial) rfl <| ?_; refine s_do (o_bslice (j := 3) (as' := [(encGTold (⟨x_189, [108, 111, 99, 107, 101, 100], name_3⟩ : GTold))]) rfl (fun _ => by decide) ⟨rfl, trivial⟩ (.refl _) rfl rfl rfl) ?_
       refine s_do (o_appendd (j := 4) (L := (([] ++ [(⟨x_189, [108, 111, 99, 107, 101, 100], name_3⟩ : GTold)]).map encGTold)) (len := ([] ++ [(⟨x_189, [108, 111, 99, 107, 101, 100], name_3⟩ : GTold)]).length) rfl false rfl rfl (fun _ => flo (enc := encGTold) (fun _ => rfl) [(⟨x_189, [108, 111, 99, 107, 101, 100], name_3⟩ : GTold)] _) (fun _ _ h => (ownl (show AV.own _ _ _ = AV.lst _ _ from h)).elim) (by decide) ((by simp [← List.map_take])) (by simp <;> omega) g191 rfl rfl) ?_
       refine s_mov (.own 4 0 (([] ++ [(⟨x_189, [108, 111, 99, 107, 101, 100], name_3⟩ : GTold)]).length)) rfl <| w_done <| ?_; obtain rfl := os hb1; exact ⟨[], [4, 1, 2], _, _, rfl, rfl, ⟨.refl _, ⟨.refl _, ⟨.refl _, ⟨.refl _, trivial⟩⟩⟩⟩, (.refl _)⟩
      ·refine w_condf rfl (bf c187) <| w_skip <| ?_; obtain rfl := os hb1; exact ⟨[], [0, 1, 2], _, _, rfl, rfl, ⟨.refl _, ⟨.refl _, ⟨.refl _, ⟨.refl _, trivial⟩⟩⟩⟩, (.refl _)⟩
    ·refine awp_seq ?_
     obtain ⟨x_193, ex194, hf⟩ := ob hf
     refine w_opn (o := 1) (i := (0 + r_6.toNat)) (el := (.agg [(.str x_193.Name), (.lst 1 (x_193.Queue.map encI))])) (el2 := (.agg [(.str x_193.Name), (.own 3 0 x_193.Queue.length)])) (xs := [.row 1 (x_193.Queue.map encI)]) rfl rfl rfl ex194 rfl (by simp only [AV.cells, openVs, openV, List.length_map, List.nil_append, List.append_nil, List.cons_append]; rfl) <| w_reg <| ?_
     obtain ⟨g195, hf⟩ := og hf
     refine s_mov (.own 1 0 r_4.length) rfl <| s_mov (.int .i64 r_6) rfl <| s_mov (.own 2 0 q_124.length) rfl <| s_do (o_iaddrx rfl rfl g195.1 g195.2 rfl rfl) <| s_do (o_faddrx rfl rfl) <| s_do0 (o_storex (v := (.own 2 0 q_124.length)) (y' := (.agg [(.str x_193.Name), (.own 2 0 q_124.length)])) rfl rfl rfl trivial ⟨rfl, nle⟩ ⟨⟨rfl, trivial⟩, trivial⟩ rfl) <| w_done <| k_seq <| awp_seq <| awp_seq <| w_reg <| s_mov (.own 2 0 q_124.length) rfl <| s_dof (o_lenown rfl rfl) fun hl196 => s_q (.bool ((q_124.length : Int) == 0)) rfl (.of rfl trivial) rfl <| w_done <| k_seq <| ?_
     rcases oi hf with ⟨c197, hf⟩ | ⟨c197, hf⟩
     ·refine w_condt rfl c197 <| w_cls (o := 1) (y := (⟨x_193.Name, q_124⟩ : GLock)) (h2 := [.row 3 (told_165.map encGTold), .rowx 2 (r_4.map encGLock) (0 + r_6.toNat) (.agg [(.str x_193.Name), (.own 2 0 q_124.length)]), .dead, .row 1 (x_193.Queue.map encI)]) rfl rfl rfl (.agg (.cons (.refl _) (.cons (.of_eq (congrArg (AV.lst _) (tk (enc := encI) q_124))) .nil))) rfl <| w_reg <| ?_
      obtain ⟨g200, hf⟩ := og hf
      obtain ⟨g201, hf⟩ := og hf
      obtain ⟨g202, hf⟩ := og hf
      refine s_mov (.own 1 0 r_4.length) rfl <| s_mov (.int .i64 r_6) rfl <| s_do (o_slto rfl rfl rfl g200.1 g200.2) <| s_mov (.own 1 0 r_4.length) rfl <| s_mov (.int .i64 r_6) rfl <| s_q (.int .i64 (w64 (r_6 + 1))) rfl (.of rfl trivial) rfl <| s_do (o_sldo rfl rfl rfl g201.1 g201.2) <| s_dol (o_shift rfl (j := 4) (L := (((r_4.set (0 + r_6.toNat) (⟨x_193.Name, q_124⟩ : GLock)).take r_6.toNat) ++ (((r_4.set (0 + r_6.toNat) (⟨x_193.Name, q_124⟩ : GLock)).drop ((w64 (r_6 + 1)).toNat)).take (r_4.length - (w64 (r_6 + 1)).toNat))).map encGLock) (len := (r_6.toNat + (r_4.length - (w64 (r_6 + 1)).toNat))) rfl rfl g202 rfl (by simp only [List.map_append, List.map_take, List.map_drop]) rfl rfl) trivial trivial <| s_dol (o_mov (.own 4 0 (r_6.toNat + (r_4.length - (w64 (r_6 + 1)).toNat))) rfl) a_same trivial <| ?_
      refine w_done <| k_seq <| awp_seq <| w_reg <| s_mov (.own 4 0 (r_6.toNat + (r_4.length - (w64 (r_6 + 1)).toNat))) rfl <| s_mov (.own 0 0 told_165.length) rfl <| s_mov (.own 4 0 (r_6.toNat + (r_4.length - (w64 (r_6 + 1)).toNat))) rfl <| s_mov (.own 0 0 told_165.length) rfl <| s_mov (.int .i64 0) rfl <| w_done <| k_seq <| w_rev0 <| w_ret <| ?_; obtain rfl := os hf
      exact r_fresh ⟨.of trivial trivial, ⟨.of trivial trivial, ⟨.of trivial trivial, trivial⟩⟩⟩ rfl (by decide) (.tup (.cons (.of_eq (congrArg (AV.lst _) (tkl (enc := encGLock) (a := ((r_4.set (0 + r_6.toNat) (⟨x_193.Name, q_124⟩ : GLock)).take r_6.toNat) ++ (((r_4.set (0 + r_6.toNat) (⟨x_193.Name, q_124⟩ : GLock)).drop ((w64 (r_6 + 1)).toNat)).take (r_4.length - (w64 (r_6 + 1)).toNat))) (by first | (simp; done) | (simp <;> omega))))) (.cons (.of_eq (congrArg (AV.lst _) (tk (enc := encGTold) told_165))) (.cons (.refl _) .nil))))
     ·refine w_condf rfl (bf c197) <| w_skip <| k_seq <| awp_seq <| w_reg <| s_mov (.own 1 0 r_4.length) rfl <| s_mov (.own 0 0 told_165.length) rfl <| s_mov (.own 1 0 r_4.length) rfl <| s_mov (.own 0 0 told_165.length) rfl <| s_mov (.int .i64 0) rfl <| w_done <| k_seq <| w_cls (o := 1) (y := (⟨x_193.Name, q_124⟩ : GLock)) (h2 := [.row 3 (told_165.map encGTold), .rowx 2 (r_4.map encGLock) (0 + r_6.toNat) (.agg [(.str x_193.Name), (.own 2 0 q_124.length)]), .dead, .row 1 (x_193.Queue.map encI)]) rfl rfl rfl (.agg (.cons (.refl _) (.cons (.of_eq (congrArg (AV.lst _) (tk (enc := encI) q_124))) .nil))) rfl <| w_ret <| ?_; obtain rfl := os hf
      exact r_fresh ⟨.of trivial trivial, ⟨.of trivial trivial, ⟨.of trivial trivial, trivial⟩⟩⟩ rfl (by decide) (.tup (.cons (.of_eq (congrArg (AV.lst _) (tkl (enc := encGLock) (a := r_4.set (0 + r_6.toNat) (⟨x_193.Name, q_124⟩ : GLock)) (by first | (simp; done) | (simp <;> omega))))) (.cons (.of_eq (congrArg (AV.lst _) (tk (enc := encGTold) told_165))) (.cons (.refl _) .nil))))

/- spec.l12All -/
def c103 : ACode :=
 (.seq (.reg (tm 4 (.c .nil) (tm 5 (.c .nil) .done)))
 (.seq (.reg (tq 12 (.bslice 3 []) (tm 6 (.t 12) .done)))
 (.seq (.reg (tm 13 (.t 0) (tq 14 (.call 191 [(.t 13)]) (tm 7 (.t 14) .done))))
 (.seq (.seq (.reg (tm 8 (.c (.int .i64 0)) .done))
 (.block 0 (.loop (.seq (.seq (.reg (tm 15 (.t 8) (tm 16 (.t 0) (tq 17 (.len (.t 16)) (tq 18 (.bin .lss (.t 15) (.t 17)) .done)))))
 (.cond (.t 18) .skip
 (.exit 0)))
 (.seq (.block 1 (.seq (.reg (tm 22 (.t 7) (tm 23 (.t 1) (tm 24 (.t 0) (tm 25 (.t 8) (tq 26 (.iaddr 2 (.t 24) (.t 25)) (tq 27 (.faddr 0 (.t 26)) (tq 28 (.load 1 false (.t 27)) (tq 29 (.call 109 [(.t 22), (.t 23), (.t 28)]) (tm 21 (.t 29) (tq 30 (.extract 0 (.t 21)) (tq 31 (.extract 1 (.t 21)) (tq 32 (.extract 2 (.t 21)) (tm 9 (.t 30) (tm 10 (.t 31) (tm 11 (.t 32) .done))))))))))))))))
 (.seq (.reg (tm 33 (.t 9) (tm 7 (.t 33) .done)))
 (.reg (tm 34 (.t 6) (tm 35 (.t 10) (tq 36 (.append 3 40 (.t 34) (.t 35)) (tm 6 (.t 36) .done))))))))
 (.reg (tm 19 (.t 8) (tq 20 (.bin .add (.t 19) (.c (.int .i64 1))) (tm 8 (.t 20) .done)))))))))
 (.cut (.seq (.reg (tm 37 (.t 7) (tm 38 (.t 6) (tm 4 (.t 37) (tm 5 (.t 38) .done)))))
 .ret))))))
theorem fc103 : fcomp Try.prog Try.f103 = some (c103.erase, [.mov (.t 4), .mov (.t 5)], 39) := by kernel_rfl
def spec_l12All_L1 (session_2 : Int) : List GLock → (List GTold) → (List GLock) → Option ((List GTold) × (List GLock))
  | [], told_23, out_24 =>
    some (told_23, out_24)
  | x_42 :: xs, told_23, out_24 =>
    (spec_l12Leave out_24 session_2 x_42.Name).bind fun r_45 =>
    if (told_23 ++ r_45.2.1).length ≤ 2 ^ 30 then
    spec_l12All_L1 session_2 xs  (told_23 ++ r_45.2.1) r_45.1
    else none

def spec_l12All (list_1 : (List GLock)) (session_2 : Int) : Option ((List GLock) × (List GTold)) :=
    (spec_l12Own list_1).bind fun r_3 =>
    (spec_l12All_L1 session_2 list_1 [] r_3).bind fun p35 =>
    (match p35 with
    | (told_33, out_34) =>
    some (out_34, told_33))
theorem w_spec_l12All (list_1 : (List GLock)) (session_2 : Int) (r : ((List GLock) × (List GTold))) (hf : spec_l12All list_1 session_2 = some r) : CallOK Try.prog 103 .fresh [(.lst 2 (list_1.map encGLock)), (.int .i64 session_2)] (.tup [(.lst 2 (r.1.map encGLock)), (.lst 3 (r.2.map encGTold))]) := by
 refine CallOK.of_awp mixed Try.func103 fc103 nle ?_; rw [argT_eq]; unfold spec_l12All at hf; unfold c103; refine (show awp Try.prog true 0 _ (ofL [(0, (.lst 2 (list_1.map encGLock))), (1, (.int .i64 session_2))]) [] _ from ?_); refine awp_seq <| w_reg <| s_mov .nil rfl <| s_mov .nil rfl <| w_done <| k_seq <| awp_seq <| w_reg <| ?_; refine s_do (o_bslice (j := 0) (as' := []) rfl (fun _ => by decide) trivial (.refl _) rfl rfl rfl) ?_; refine s_mov (.own 0 0 0) rfl <| w_done <| k_seq <| awp_seq <| w_reg <| ?_
 obtain ⟨r_3, er4, hf⟩ := ob hf
 refine s_mov (.lst 2 (list_1.map encGLock)) rfl <| s_do (o_callf (v := (.own 1 0 r_3.length)) (h' := [.row 2 (r_3.map encGLock)]) (w_spec_l12Own _ _ er4) rfl (.refl _) (by simp only [openV, openVs, List.length_map, List.nil_append, List.append_nil, List.cons_append]; rfl)) <| s_mov (.own 1 0 r_3.length) rfl <| w_done <| k_seq <| awp_seq <| awp_seq <| w_reg <| s_mov (.int .i64 0) rfl <| w_done <| k_seq <| ?_
 obtain ⟨p35, hb1, hf⟩ := ob hf
 refine awp_cut ([(6, (.own 0 0 p35.1.length)), (7, (.own 1 0 p35.2.length))], [.row 3 (p35.1.map encGTold), .row 2 (p35.2.map encGLock)]) ?_ ?_
 ·refine awp_loop (X := {q : (Nat × (List GTold) × (List GLock)) // spec_l12All_L1 session_2 (list_1.drop q.1) q.2.1 q.2.2 = some p35}) (fun q => ([(0, (.lst 2 (list_1.map encGLock))), (1, (.int .i64 session_2)), (6, (.own 0 0 q.1.2.1.length)), (7, (.own 1 0 q.1.2.2.length)), (8, (.int .i64 (q.1.1 : Int)))], [.row 3 (q.1.2.1.map encGTold), .row 2 (q.1.2.2.map encGLock)])) (fun q => list_1.length - q.1.1) ⟨(0, [], r_3), hb1⟩ ⟨[], [0, 1], _, _, rfl, rfl, ⟨.refl _, ⟨.refl _, ⟨.of_eq (congrArg (AV.own _ 0) (by simp)), ⟨.refl _, ⟨.refl _, trivial⟩⟩⟩⟩⟩, (.refl _)⟩ ?_
  rintro ⟨⟨i_22, told_23, out_24⟩, hc1⟩
  have hc1 : spec_l12All_L1 session_2 (list_1.drop i_22) told_23 out_24 = some p35 := hc1
  refine (show awp Try.prog true 0 _ (ofL [(0, (.lst 2 (list_1.map encGLock))), (1, (.int .i64 session_2)), (6, (.own 0 0 told_23.length)), (7, (.own 1 0 out_24.length)), (8, (.int .i64 (i_22 : Int)))]) [.row 3 (told_23.map encGTold), .row 2 (out_24.map encGLock)] _ from ?_)
  rcases dropc list_1 i_22 with ⟨hie38, hd41⟩ | ⟨hlt36, x_42, hx37, hd41⟩
  ·rw [hd41, spec_l12All_L1.eq_1] at hc1
   have hq40 := dlf hie38
   refine awp_seq <| awp_seq <| w_reg <| s_mov (.int .i64 (i_22 : Int)) rfl <| s_mov (.lst 2 (list_1.map encGLock)) rfl <| s_dof (o_len (enc := encGLock) rfl) fun hl43 => s_q (.bool (decide ((i_22 : Int) < (list_1.length : Int)))) rfl rfl rfl <| w_done <| k_seq <| w_condf rfl hq40 <| w_exit <| k_seqx <| k_loopx <| k_blkx <| ?_; obtain rfl := os hc1; exact ⟨[], [0, 1], _, _, rfl, rfl, ⟨.refl _, ⟨.refl _, trivial⟩⟩, (.refl _)⟩
  ·rw [hd41, spec_l12All_L1.eq_2] at hc1
   have hq40 := dlt hlt36
   refine awp_seq <| awp_seq <| w_reg <| s_mov (.int .i64 (i_22 : Int)) rfl <| s_mov (.lst 2 (list_1.map encGLock)) rfl <| s_dof (o_len (enc := encGLock) rfl) fun hl44 => s_q (.bool (decide ((i_22 : Int) < (list_1.length : Int)))) rfl rfl rfl <| w_done <| k_seq <| w_condt rfl hq40 <| w_skip <| k_seq <| awp_seq <| w_blk <| awp_seq <| w_reg <| s_mov (.own 1 0 out_24.length) rfl <| s_mov (.int .i64 session_2) rfl <| s_mov (.lst 2 (list_1.map encGLock)) rfl <| s_mov (.int .i64 (i_22 : Int)) rfl <| s_do (o_iaddrn (enc := encGLock) rfl rfl hx37) <| s_q (.iptr (encGLock x_42) 0) rfl trivial rfl <| s_q (.str x_42.Name) rfl nle rfl <| ?_
   obtain ⟨r_45, er46, hc1⟩ := ob hc1
   refine s_do (o_callf (v := (.tup [(.own 2 0 r_45.1.length), (.own 3 0 r_45.2.1.length), (.int .i64 r_45.2.2)])) (h' := [.row 2 (r_45.1.map encGLock), .row 3 (r_45.2.1.map encGTold)]) (w_spec_l12Leave _ _ _ _ er46) rfl (.cons (.of_eq (congrArg (AV.lst _) (tko out_24))) (.cons (.refl _) (.cons (.refl _) .nil))) (by simp only [openV, openVs, List.length_map, List.nil_append, List.append_nil, List.cons_append]; rfl)) <| s_mov (.tup [(.own 2 0 r_45.1.length), (.own 3 0 r_45.2.1.length), (.int .i64 r_45.2.2)]) rfl <| s_q (.own 2 0 r_45.1.length) rfl nle rfl <| s_q (.own 3 0 r_45.2.1.length) rfl nle rfl <| s_q (.int .i64 r_45.2.2) rfl nle rfl <| s_mov (.own 2 0 r_45.1.length) rfl <| s_mov (.own 3 0 r_45.2.1.length) rfl <| ?_
   refine s_mov (.int .i64 r_45.2.2) rfl <| w_done <| k_seq <| awp_seq <| w_reg <| s_mov (.own 2 0 r_45.1.length) rfl <| s_mov (.own 2 0 r_45.1.length) rfl <| w_done <| k_seq <| w_reg <| ?_
   obtain ⟨g47, hc1⟩ := og hc1
   refine s_mov (.own 0 0 told_23.length) rfl <| s_mov (.own 3 0 r_45.2.1.length) rfl <| ?_
   refine s_do (o_appendd (j := 4) (L := ((told_23 ++ r_45.2.1).map encGTold)) (len := (told_23 ++ r_45.2.1).length) rfl false rfl rfl (fun _ => flo (enc := encGTold) (fun _ => rfl) r_45.2.1 _) (fun _ _ h => (ownl (show AV.own _ _ _ = AV.lst _ _ from h)).elim) (by decide) (apo (enc := encGTold) told_23 r_45.2.1) (by simp <;> omega) g47 rfl rfl) ?_
   refine s_mov (.own 4 0 ((told_23 ++ r_45.2.1).length)) rfl <| w_done <| k_blk <| k_seq <| w_reg <| s_mov (.int .i64 (i_22 : Int)) rfl <| s_q (.int .i64 (w64 ((i_22 : Int) + 1))) rfl rfl rfl <| s_mov (.int .i64 (w64 ((i_22 : Int) + 1))) rfl <| w_done <| ?_; exact k_loopn ⟨((i_22 + 1), told_23 ++ r_45.2.1, r_45.1), hc1⟩ (mul hlt36) ⟨[], [4, 2], _, _, rfl, rfl, ⟨.refl _, ⟨.refl _, ⟨.refl _, ⟨.refl _, ⟨.of_eq (congrArg (AV.int _) (w64_incr hlt36 hl44)), trivial⟩⟩⟩⟩⟩, (.refl _)⟩
 ·obtain ⟨told_33, out_34⟩ := p35
  refine awp_seq <| w_reg <| s_mov (.own 1 0 out_34.length) rfl <| s_mov (.own 0 0 told_33.length) rfl <| s_mov (.own 1 0 out_34.length) rfl <| s_mov (.own 0 0 told_33.length) rfl <| w_done <| k_seq <| w_ret <| ?_; obtain rfl := os hf; exact r_fresh ⟨trivial, ⟨trivial, trivial⟩⟩ rfl (by decide) (.tup (.cons (.of_eq (congrArg (AV.lst _) (tk (enc := encGLock) out_34))) (.cons (.of_eq (congrArg (AV.lst _) (tk (enc := encGTold) told_33))) .nil)))

/- spec.LeaveAll -/
def c28 : ACode :=
 (.seq (.reg (tm 4 (.c .nil) (tm 5 (.c .nil) (tm 6 (.c (.int .i64 0)) .done))))
 (.seq (.seq (.reg (tm 10 (.t 0) (tq 11 (.len (.t 10)) (tq 12 (.bin .gtr (.t 11) (.c (.int .i64 4096))) .done))))
 (.cond (.t 12) (.seq (.reg (tq 13 (.bslice 2 []) (tq 14 (.bslice 3 []) (tm 4 (.t 13) (tm 5 (.t 14) (tm 6 (.c (.int .i64 2)) .done))))))
 .ret)
 .skip))
 (.seq (.seq (.reg (tm 15 (.t 0) (tm 16 (.t 1) (tq 17 (.call 102 [(.t 15), (.t 16), (.c (.str [120]))]) (tm 7 (.t 17) .done)))))
 (.seq (.reg (tm 18 (.t 7) (tq 19 (.bin .neq (.t 18) (.c (.int .i64 0))) .done)))
 (.cond (.t 19) (.seq (.reg (tq 20 (.bslice 2 []) (tq 21 (.bslice 3 []) (tm 22 (.t 7) (tm 4 (.t 20) (tm 5 (.t 21) (tm 6 (.t 22) .done)))))))
 .ret)
 .skip)))
 (.seq (.reg (tm 24 (.t 0) (tm 25 (.t 1) (tq 26 (.call 103 [(.t 24), (.t 25)]) (tm 23 (.t 26) (tq 27 (.extract 0 (.t 23)) (tq 28 (.extract 1 (.t 23)) (tm 8 (.t 27) (tm 9 (.t 28) .done)))))))))
 (.seq (.reg (tm 29 (.t 8) (tm 30 (.t 9) (tm 4 (.t 29) (tm 5 (.t 30) (tm 6 (.c (.int .i64 0)) .done))))))
 .ret)))))
theorem fc28 : fcomp Try.prog Try.f28 = some (c28.erase, [.mov (.t 4), .mov (.t 5), .mov (.t 6)], 31) := by kernel_rfl
def spec_LeaveAll (list_1 : (List GLock)) (session_2 : Int) : Option ((List GLock) × (List GTold) × Int) :=
    if (decide ((list_1.length : Int) > 4096)) then
    some ([], [], 2)
    else
    (spec_l12Ask list_1 session_2 [120]).bind fun r_5 =>
    if (r_5 != 0) then
    some ([], [], r_5)
    else
    (spec_l12All list_1 session_2).bind fun r_8 =>
    some (r_8.1, r_8.2, 0)
theorem w_spec_LeaveAll (list_1 : (List GLock)) (session_2 : Int) (r : ((List GLock) × (List GTold) × Int)) (hf : spec_LeaveAll list_1 session_2 = some r) : CallOK Try.prog 28 .fresh [(.lst 2 (list_1.map encGLock)), (.int .i64 session_2)] (.tup [(.lst 2 (r.1.map encGLock)), (.lst 3 (r.2.1.map encGTold)), (.int .i64 r.2.2)]) := by
 refine CallOK.of_awp mixed Try.func28 fc28 nle ?_; rw [argT_eq]; unfold spec_LeaveAll at hf; unfold c28; refine (show awp Try.prog true 0 _ (ofL [(0, (.lst 2 (list_1.map encGLock))), (1, (.int .i64 session_2))]) [] _ from ?_); refine awp_seq <| w_reg <| s_mov .nil rfl <| s_mov .nil rfl <| s_mov (.int .i64 0) rfl <| w_done <| k_seq <| awp_seq <| awp_seq <| w_reg <| s_mov (.lst 2 (list_1.map encGLock)) rfl <| s_dof (o_len (enc := encGLock) rfl) fun hl3 => s_q (.bool (decide ((list_1.length : Int) > 4096))) rfl rfl rfl <| w_done <| k_seq <| ?_
 rcases oi hf with ⟨c4, hf⟩ | ⟨c4, hf⟩
 ·refine w_condt rfl c4 <| awp_seq <| w_reg <| ?_; refine s_do (o_bslice (j := 0) (as' := []) rfl (fun _ => by decide) trivial (.refl _) rfl rfl rfl) ?_; refine s_do (o_bslice (j := 1) (as' := []) rfl (fun _ => by decide) trivial (.refl _) rfl rfl rfl) ?_; refine s_mov (.own 0 0 0) rfl <| s_mov (.own 1 0 0) rfl <| s_mov (.int .i64 2) rfl <| w_done <| k_seq <| w_ret <| ?_; obtain rfl := os hf; exact r_fresh ⟨trivial, ⟨trivial, ⟨trivial, trivial⟩⟩⟩ rfl (by decide) (.refl _)
 ·refine w_condf rfl (bf c4) <| w_skip <| k_seq <| awp_seq <| awp_seq <| w_reg <| ?_
  obtain ⟨r_5, er6, hf⟩ := ob hf
  refine s_mov (.lst 2 (list_1.map encGLock)) rfl <| s_mov (.int .i64 session_2) rfl <| s_do (o_call (w_spec_l12Ask _ _ _ _ er6) rfl (.refl _) rfl) <| s_mov (.int .i64 r_5) rfl <| w_done <| k_seq <| awp_seq <| w_reg <| s_mov (.int .i64 r_5) rfl <| s_q (.bool (r_5 != 0)) rfl rfl rfl <| w_done <| k_seq <| ?_
  rcases oi hf with ⟨c7, hf⟩ | ⟨c7, hf⟩
  ·refine w_condt rfl c7 <| awp_seq <| w_reg <| ?_; refine s_do (o_bslice (j := 0) (as' := []) rfl (fun _ => by decide) trivial (.refl _) rfl rfl rfl) ?_; refine s_do (o_bslice (j := 1) (as' := []) rfl (fun _ => by decide) trivial (.refl _) rfl rfl rfl) ?_; refine s_mov (.int .i64 r_5) rfl <| s_mov (.own 0 0 0) rfl <| s_mov (.own 1 0 0) rfl <| s_mov (.int .i64 r_5) rfl <| w_done <| k_seq <| w_ret <| ?_; obtain rfl := os hf; exact r_fresh ⟨trivial, ⟨trivial, ⟨trivial, trivial⟩⟩⟩ rfl (by decide) (.refl _)
  ·refine w_condf rfl (bf c7) <| w_skip <| k_seq <| awp_seq <| w_reg <| ?_
   obtain ⟨r_8, er9, hf⟩ := ob hf
   refine s_mov (.lst 2 (list_1.map encGLock)) rfl <| s_mov (.int .i64 session_2) rfl <| s_do (o_callf (v := (.tup [(.own 0 0 r_8.1.length), (.own 1 0 r_8.2.length)])) (h' := [.row 2 (r_8.1.map encGLock), .row 3 (r_8.2.map encGTold)]) (w_spec_l12All _ _ _ er9) rfl (.refl _) (by simp only [openV, openVs, List.length_map, List.nil_append, List.append_nil, List.cons_append]; rfl)) <| s_mov (.tup [(.own 0 0 r_8.1.length), (.own 1 0 r_8.2.length)]) rfl <| s_q (.own 0 0 r_8.1.length) rfl nle rfl <| s_q (.own 1 0 r_8.2.length) rfl nle rfl <| s_mov (.own 0 0 r_8.1.length) rfl <| s_mov (.own 1 0 r_8.2.length) rfl <| w_done <| k_seq <| awp_seq <| w_reg <| s_mov (.own 0 0 r_8.1.length) rfl <| s_mov (.own 1 0 r_8.2.length) rfl <| ?_
   refine s_mov (.own 0 0 r_8.1.length) rfl <| s_mov (.own 1 0 r_8.2.length) rfl <| s_mov (.int .i64 0) rfl <| w_done <| k_seq <| w_ret <| ?_; obtain rfl := os hf; exact r_fresh ⟨trivial, ⟨trivial, ⟨trivial, trivial⟩⟩⟩ rfl (by decide) (.tup (.cons (.of_eq (congrArg (AV.lst _) (tk (enc := encGLock) r_8.1))) (.cons (.of_eq (congrArg (AV.lst _) (tk (enc := encGTold) r_8.2))) (.cons (.refl _) .nil))))

/- impl.isList[impl.Lock] -/
def c197 : ACode :=
 (.seq (.reg (tm 2 (.c (.bool false)) .done))
 (.seq (.reg (tm 3 (.t 0) (tq 4 (.len (.t 3)) (tq 5 (.bin .leq (.t 4) (.c (.int .i64 4096))) (tm 2 (.t 5) .done)))))
 .ret))
theorem fc197 : fcomp Try.prog Try.f197 = some (c197.erase, [.mov (.t 2)], 6) := by kernel_rfl
def impl_isList_impl_Lock (list_1 : (List GLock)) : Option Bool :=
    some (decide ((list_1.length : Int) ≤ 4096))
theorem w_impl_isList_impl_Lock (list_1 : (List GLock)) (r : Bool) (hf : impl_isList_impl_Lock list_1 = some r) : CallOK Try.prog 197 .flat [(.lst 2 (list_1.map encGLock))] (.bool r) := by
  refine CallOK.of_awp mixed Try.func197 fc197 nle ?_
  rw [argT_eq]
  unfold impl_isList_impl_Lock at hf
  unfold c197
  refine (show awp Try.prog false 0 _ (ofL [(0, (.lst 2 (list_1.map encGLock)))]) [] _ from ?_)
  refine awp_seq ?_
  refine w_reg ?_
  refine s_do (o_mov (.bool false) rfl) ?_
  refine w_done ?_
  refine k_seq ?_
  refine awp_seq ?_
  refine w_reg ?_
  refine s_do (o_mov (.lst 2 (list_1.map encGLock)) rfl) ?_
  refine s_dof (o_len (enc := encGLock) rfl) fun hl2 => ?_
  refine s_do (o_q (.bool (decide ((list_1.length : Int) ≤ 4096))) rfl rfl rfl) ?_
  refine s_do (o_mov (.bool (decide ((list_1.length : Int) ≤ 4096))) rfl) ?_
  refine w_done ?_
  refine k_seq ?_
  refine w_ret ?_
  obtain rfl := os hf
  exact r_flat ⟨trivial, trivial⟩ rfl (.refl _)

/- impl.isText -/
def c198 : ACode :=
 (.seq (.reg (tm 2 (.c (.bool false)) .done))
 (.seq (.reg (tm 3 (.t 0) (tq 4 (.lenS (.t 3)) (tq 5 (.bin .leq (.t 4) (.c (.int .i64 65536))) (tm 2 (.t 5) .done)))))
 .ret))
theorem fc198 : fcomp Try.prog Try.f198 = some (c198.erase, [.mov (.t 2)], 6) := by kernel_rfl
def impl_isText (t_1 : Str) : Option Bool :=
    some (decide ((t_1.length : Int) ≤ 65536))
theorem w_impl_isText (t_1 : Str) (r : Bool) (hf : impl_isText t_1 = some r) : CallOK Try.prog 198 .flat [(.str t_1)] (.bool r) := by
  refine CallOK.of_awp mixed Try.func198 fc198 nle ?_
  rw [argT_eq]
  unfold impl_isText at hf
  unfold c198
  refine (show awp Try.prog false 0 _ (ofL [(0, (.str t_1))]) [] _ from ?_)
  refine awp_seq ?_
  refine w_reg ?_
  refine s_do (o_mov (.bool false) rfl) ?_
  refine w_done ?_
  refine k_seq ?_
  refine awp_seq ?_
  refine w_reg ?_
  refine s_do (o_mov (.str t_1) rfl) ?_
  refine s_dof (o_lenS rfl) fun hl2 => ?_
  refine s_do (o_q (.bool (decide ((t_1.length : Int) ≤ 65536))) rfl rfl rfl) ?_
  refine s_do (o_mov (.bool (decide ((t_1.length : Int) ≤ 65536))) rfl) ?_
  refine w_done ?_
  refine k_seq ?_
  refine w_ret ?_
  obtain rfl := os hf
  exact r_flat ⟨trivial, trivial⟩ rfl (.refl _)

/- impl.isDigit -/
def c192 : ACode :=
 (.seq (.reg (tm 2 (.c (.bool false)) .done))
 (.seq (.reg (tm 3 (.t 0) (tq 4 (.bin .geq (.t 3) (.c (.int .u8 48))) (tm 5 (.t 4) (tg 6 5 true (.mov (.t 0)) (tg 7 5 true (.bin .leq (.t 6) (.c (.int .u8 57))) (tq 8 (.pick (.t 5) (.t 7) (.c (.bool false))) (tm 2 (.t 8) .done))))))))
 .ret))
theorem fc192 : fcomp Try.prog Try.f192 = some (c192.erase, [.mov (.t 2)], 9) := by kernel_rfl
def impl_isDigit (b_1 : Int) : Option Bool :=
    if (decide (b_1 ≥ 48)) then
    some (decide (b_1 ≤ 57))
    else
    some false
theorem w_impl_isDigit (b_1 : Int) (r : Bool) (hf : impl_isDigit b_1 = some r) : CallOK Try.prog 192 .flat [(.int .u8 b_1)] (.bool r) := by
 refine CallOK.of_awp mixed Try.func192 fc192 nle ?_; rw [argT_eq]; unfold impl_isDigit at hf; unfold c192; refine (show awp Try.prog false 0 _ (ofL [(0, (.int .u8 b_1))]) [] _ from ?_); refine awp_seq <| w_reg <| s_mov (.bool false) rfl <| w_done <| k_seq <| awp_seq <| w_reg <| ?_
 rcases oi hf with ⟨c2, hf⟩ | ⟨c2, hf⟩
 ·refine s_mov (.int .u8 b_1) rfl <| s_q (.bool (decide (b_1 ≥ 48))) rfl rfl rfl <| s_mov (.bool (decide (b_1 ≥ 48))) rfl <| s_lit (s := 5) (b := true) rfl c2 <| s_on rfl <| s_mov (.int .u8 b_1) rfl <| s_on rfl <| s_q (.bool (decide (b_1 ≤ 57))) rfl rfl rfl <| s_q (.bool (decide (b_1 ≤ 57))) rfl trivial rfl <| s_mov (.bool (decide (b_1 ≤ 57))) rfl <| w_done <| k_seq <| w_ret <| ?_; obtain rfl := os hf; exact r_flat ⟨trivial, trivial⟩ rfl (.refl _)
 ·refine s_mov (.int .u8 b_1) rfl <| s_q (.bool (decide (b_1 ≥ 48))) rfl rfl rfl <| s_mov (.bool (decide (b_1 ≥ 48))) rfl <| s_lit (s := 5) (b := false) rfl (bf c2) <| s_off rfl rfl <| s_off rfl rfl <| s_q (.bool false) rfl trivial rfl <| s_mov (.bool false) rfl <| w_done <| k_seq <| w_ret <| ?_; obtain rfl := os hf; exact r_flat ⟨trivial, trivial⟩ rfl (.refl _)

/- impl.within -/
def c106 : ACode :=
 (.seq (.reg (tm 6 (.c (.bool false)) .done))
 (.seq (.reg (tm 7 (.t 0) (tm 8 (.t 1) (tq 9 (.bin .geq (.t 7) (.t 8)) (tm 10 (.t 9) (tg 11 10 true (.mov (.t 0)) (tg 12 10 true (.mov (.t 2)) (tg 13 10 true (.bin .leq (.t 11) (.t 12)) (tq 14 (.pick (.t 10) (.t 13) (.c (.bool false))) (tm 6 (.t 14) .done))))))))))
 .ret))
theorem fc106 : fcomp Try.prog Try.f106 = some (c106.erase, [.mov (.t 6)], 15) := by kernel_rfl
def impl_within (n_1 : Int) (low_2 : Int) (high_3 : Int) : Option Bool :=
    if (decide (n_1 ≥ low_2)) then
    some (decide (n_1 ≤ high_3))
    else
    some false
theorem w_impl_within (n_1 : Int) (low_2 : Int) (high_3 : Int) (r : Bool) (hf : impl_within n_1 low_2 high_3 = some r) : CallOK Try.prog 106 .flat [(.int .i64 n_1), (.int .i64 low_2), (.int .i64 high_3)] (.bool r) := by
 refine CallOK.of_awp mixed Try.func106 fc106 nle ?_; rw [argT_eq]; unfold impl_within at hf; unfold c106; refine (show awp Try.prog false 0 _ (ofL [(0, (.int .i64 n_1)), (1, (.int .i64 low_2)), (2, (.int .i64 high_3))]) [] _ from ?_); refine awp_seq <| w_reg <| s_mov (.bool false) rfl <| w_done <| k_seq <| awp_seq <| w_reg <| ?_
 rcases oi hf with ⟨c4, hf⟩ | ⟨c4, hf⟩
 ·refine s_mov (.int .i64 n_1) rfl <| s_mov (.int .i64 low_2) rfl <| s_q (.bool (decide (n_1 ≥ low_2))) rfl rfl rfl <| s_mov (.bool (decide (n_1 ≥ low_2))) rfl <| s_lit (s := 10) (b := true) rfl c4 <| s_on rfl <| s_mov (.int .i64 n_1) rfl <| s_on rfl <| s_mov (.int .i64 high_3) rfl <| s_on rfl <| s_q (.bool (decide (n_1 ≤ high_3))) rfl rfl rfl <| s_q (.bool (decide (n_1 ≤ high_3))) rfl trivial rfl <| s_mov (.bool (decide (n_1 ≤ high_3))) rfl <| w_done <| k_seq <| w_ret <| ?_; obtain rfl := os hf; exact r_flat ⟨trivial, trivial⟩ rfl (.refl _)
 ·refine s_mov (.int .i64 n_1) rfl <| s_mov (.int .i64 low_2) rfl <| s_q (.bool (decide (n_1 ≥ low_2))) rfl rfl rfl <| s_mov (.bool (decide (n_1 ≥ low_2))) rfl <| s_lit (s := 10) (b := false) rfl (bf c4) <| s_off rfl rfl <| s_off rfl rfl <| s_off rfl rfl <| s_q (.bool false) rfl trivial rfl <| s_mov (.bool false) rfl <| w_done <| k_seq <| w_ret <| ?_; obtain rfl := os hf; exact r_flat ⟨trivial, trivial⟩ rfl (.refl _)

/- impl.NameOK -/
def c105 : ACode :=
 (.seq (.reg (tm 2 (.c (.bool false)) .done))
 (.seq (.seq (.reg (tm 6 (.t 0) (tq 7 (.lenS (.t 6)) (tm 8 (.c (.int .i64 0)) .done))))
 (.block 0 (.loop (.seq (.reg (tq 9 (.bin .lss (.t 8) (.t 7)) .done))
 (.seq (.cond (.t 9) .skip
 (.exit 0))
 (.seq (.block 1 (.seq (.reg (tm 10 (.t 8) (tm 3 (.t 10) .done)))
 (.seq (.reg (tm 11 (.t 0) (tm 12 (.t 3) (tq 13 (.idxs (.t 11) (.t 12)) (tm 4 (.t 13) .done)))))
 (.seq (.reg (tm 14 (.t 4) (tq 15 (.bin .geq (.t 14) (.c (.int .u8 97))) (tm 16 (.t 15) (tg 17 16 true (.mov (.t 4)) (tg 18 16 true (.bin .leq (.t 17) (.c (.int .u8 122))) (tq 19 (.pick (.t 16) (.t 18) (.c (.bool false))) (tm 20 (.t 19) (tg 21 20 false (.mov (.t 4)) (tg 22 20 false (.bin .geq (.t 21) (.c (.int .u8 65))) (tg 23 20 false (.mov (.t 22)) (tg 24 23 true (.mov (.t 4)) (tg 25 23 true (.bin .leq (.t 24) (.c (.int .u8 90))) (tg 26 20 false (.pick (.t 23) (.t 25) (.c (.bool false))) (tq 27 (.pick (.t 20) (.c (.bool true)) (.t 26)) (tm 28 (.t 27) (tg 29 28 false (.mov (.t 4)) (tg 30 28 false (.bin .eql (.t 29) (.c (.int .u8 95))) (tq 31 (.pick (.t 28) (.c (.bool true)) (.t 30)) (tm 5 (.t 31) .done))))))))))))))))))))
 (.cut (.seq (.reg (tm 32 (.t 5) (tq 33 (.not (.t 32)) (tm 34 (.t 33) (tg 35 34 true (.mov (.t 3)) (tg 36 34 true (.bin .eql (.t 35) (.c (.int .i64 0))) (tg 37 34 true (.mov (.t 36)) (tg 38 37 false (.mov (.t 4)) (tg 39 37 false (.call 192 [(.t 38)]) (tg 40 37 false (.not (.t 39)) (tg 41 34 true (.pick (.t 37) (.c (.bool true)) (.t 40)) (tq 42 (.pick (.t 34) (.t 41) (.c (.bool false))) .done))))))))))))
 (.cut (.cond (.t 42) (.seq (.reg (tm 2 (.c (.bool false)) .done))
 .ret)
 .skip))))))))
 (.reg (tq 43 (.bin .add (.t 8) (.c (.int .i64 1))) (tm 8 (.t 43) .done)))))))))
 (.cut (.seq (.reg (tm 44 (.t 0) (tq 45 (.lenS (.t 44)) (tq 46 (.call 106 [(.t 45), (.c (.int .i64 1)), (.c (.int .i64 40))]) (tm 2 (.t 46) .done)))))
 .ret))))
theorem fc105 : fcomp Try.prog Try.f105 = some (c105.erase, [.mov (.t 2)], 47) := by kernel_rfl
def impl_NameOK_L1  : List UInt8 → Nat → Option (Fl Bool Unit)
  | [], s8_34 =>
    some (.go ())
  | x_57 :: xs, s8_34 =>
    ((some () : Option Unit)).bind fun _ =>
    ((if (!(bif (bif (bif (decide ((x_57.toNat : Int) ≥ 97)) then (decide ((x_57.toNat : Int) ≤ 122)) else false) then true else (bif (decide ((x_57.toNat : Int) ≥ 65)) then (decide ((x_57.toNat : Int) ≤ 90)) else false)) then true else ((x_57.toNat : Int) == 95))) then
    if ((s8_34 : Int) == 0) then
    some true
    else
    (impl_isDigit (x_57.toNat : Int)).bind fun r_67 =>
    some (!r_67)
    else
    some false : Option Bool)).bind fun s42_63 =>
    if s42_63 then
    some (.ret false)
    else
    impl_NameOK_L1 xs (s8_34 + 1)

def impl_NameOK (t_1 : Str) : Option Bool :=
    (impl_NameOK_L1 t_1 0).bind fun q => (match q with
    | .ret r => some r
    | .go _ =>
    (impl_within (t_1.length : Int) 1 40).bind fun r_71 =>
    some r_71)
theorem w_impl_NameOK (t_1 : Str) (r : Bool) (hf : impl_NameOK t_1 = some r) : CallOK Try.prog 105 .flat [(.str t_1)] (.bool r) := by
 refine CallOK.of_awp mixed Try.func105 fc105 nle ?_; rw [argT_eq]; unfold impl_NameOK at hf; unfold c105; refine (show awp Try.prog false 0 _ (ofL [(0, (.str t_1))]) [] _ from ?_); refine awp_seq <| w_reg <| s_mov (.bool false) rfl <| w_done <| k_seq <| awp_seq <| awp_seq <| w_reg <| s_mov (.str t_1) rfl <| s_dof (o_lenS rfl) fun hl2 => s_mov (.int .i64 0) rfl <| w_done <| k_seq <| ?_
 obtain ⟨p50, hb1, hf⟩ := ob hf
 refine awp_cutx (X := {q : Unit // p50 = .go q}) (fun q => ([(0, (.str t_1))], [])) ?_ ?_
 ·refine awp_loop (X := {q : Nat // impl_NameOK_L1 (t_1.drop q) q = some p50}) (fun q => ([(0, (.str t_1)), (7, (.int .i64 (t_1.length : Int))), (8, (.int .i64 (q.1 : Int)))], [])) (fun q => t_1.length - q.1) ⟨0, hb1⟩ ⟨[], [], _, _, rfl, rfl, ⟨.refl _, ⟨.refl _, ⟨.refl _, trivial⟩⟩⟩, (.refl _)⟩ ?_
  rintro ⟨s8_34, hc1⟩
  have hc1 : impl_NameOK_L1 (t_1.drop s8_34) s8_34 = some p50 := hc1
  refine (show awp Try.prog false 0 _ (ofL [(0, (.str t_1)), (7, (.int .i64 (t_1.length : Int))), (8, (.int .i64 (s8_34 : Int)))]) [] _ from ?_)
  rcases dropc t_1 s8_34 with ⟨hie53, hd56⟩ | ⟨hlt51, x_57, hx52, hd56⟩
  ·rw [hd56, impl_NameOK_L1.eq_1] at hc1
   have hq55 := dlf hie53
   refine awp_seq <| w_reg <| s_q (.bool (decide ((s8_34 : Int) < (t_1.length : Int)))) rfl rfl rfl <| w_done <| k_seq <| awp_seq <| w_condf rfl hq55 <| w_exit <| k_seqx <| k_loopx <| k_blkx <| ?_; obtain rfl := os hc1; exact k_cutn ⟨_, rfl⟩ ⟨[], [], _, _, rfl, rfl, ⟨.refl _, trivial⟩, (.refl _)⟩
  ·rw [hd56, impl_NameOK_L1.eq_2] at hc1
   have hq55 := dlt hlt51
   refine awp_seq <| w_reg <| s_q (.bool (decide ((s8_34 : Int) < (t_1.length : Int)))) rfl rfl rfl <| w_done <| k_seq <| awp_seq <| w_condt rfl hq55 <| w_skip <| k_seq <| awp_seq <| w_blk <| awp_seq <| w_reg <| s_mov (.int .i64 (s8_34 : Int)) rfl <| s_mov (.int .i64 (s8_34 : Int)) rfl <| w_done <| k_seq <| awp_seq <| w_reg <| s_mov (.str t_1) rfl <| s_mov (.int .i64 (s8_34 : Int)) rfl <| s_do (o_idxsn rfl rfl hx52) <| s_mov (.int .u8 (x_57.toNat : Int)) rfl <| w_done <| k_seq <| awp_seq <| ?_
   obtain ⟨p58, hb2, hc1⟩ := ob hc1
   refine awp_cut ([(0, (.str t_1)), (3, (.int .i64 (s8_34 : Int))), (4, (.int .u8 (x_57.toNat : Int))), (5, (.bool (bif (bif (bif (decide ((x_57.toNat : Int) ≥ 97)) then (decide ((x_57.toNat : Int) ≤ 122)) else false) then true else (bif (decide ((x_57.toNat : Int) ≥ 65)) then (decide ((x_57.toNat : Int) ≤ 90)) else false)) then true else ((x_57.toNat : Int) == 95)))), (7, (.int .i64 (t_1.length : Int))), (8, (.int .i64 (s8_34 : Int)))], []) ?_ ?_
   ·refine w_reg <| s_mov (.int .u8 (x_57.toNat : Int)) rfl <| s_q (.bool (decide ((x_57.toNat : Int) ≥ 97))) rfl rfl rfl <| s_mov (.bool (decide ((x_57.toNat : Int) ≥ 97))) rfl <| ?_; refine s_g (v := (decide ((x_57.toNat : Int) ≥ 97))) (.int .u8 (x_57.toNat : Int)) rfl (fun hv => by (try simp only [gs_on hv]); exact ⟨rfl, trivial, rfl⟩) ?_; refine s_g (v := (decide ((x_57.toNat : Int) ≥ 97))) (.bool (decide ((x_57.toNat : Int) ≤ 122))) rfl (fun hv => by (try simp only [gs_on hv]); exact ⟨rfl, rfl, rfl⟩) ?_; refine s_pick (x := (decide ((x_57.toNat : Int) ≤ 122))) (y := false) rfl (fun hv => by (try simp only [gs_on hv]); rfl) (fun hv => by (try simp only [gs_on hv]); rfl) ?_; refine s_mov (.bool (bif (decide ((x_57.toNat : Int) ≥ 97)) then (decide ((x_57.toNat : Int) ≤ 122)) else false)) rfl ?_
    refine s_g (v := (bif (decide ((x_57.toNat : Int) ≥ 97)) then (decide ((x_57.toNat : Int) ≤ 122)) else false)) (.int .u8 (x_57.toNat : Int)) rfl (fun hv => by (try simp only [gs_on hv]); exact ⟨rfl, trivial, rfl⟩) ?_; refine s_g (v := (bif (decide ((x_57.toNat : Int) ≥ 97)) then (decide ((x_57.toNat : Int) ≤ 122)) else false)) (.bool (decide ((x_57.toNat : Int) ≥ 65))) rfl (fun hv => by (try simp only [gs_on hv]); exact ⟨rfl, rfl, rfl⟩) ?_; refine s_g (v := (bif (decide ((x_57.toNat : Int) ≥ 97)) then (decide ((x_57.toNat : Int) ≤ 122)) else false)) (.bool (decide ((x_57.toNat : Int) ≥ 65))) rfl (fun hv => by (try simp only [gs_on hv]); exact ⟨rfl, trivial, rfl⟩) ?_; refine s_gg (v1 := (bif (decide ((x_57.toNat : Int) ≥ 97)) then (decide ((x_57.toNat : Int) ≤ 122)) else false)) (b1 := false) (v2 := (decide ((x_57.toNat : Int) ≥ 65))) (.int .u8 (x_57.toNat : Int)) rfl (fun hv hw => by (try simp only [gs_on hv, gs_on hw]); exact ⟨rfl, trivial, rfl⟩) ?_
    refine s_gg (v1 := (bif (decide ((x_57.toNat : Int) ≥ 97)) then (decide ((x_57.toNat : Int) ≤ 122)) else false)) (b1 := false) (v2 := (decide ((x_57.toNat : Int) ≥ 65))) (.bool (decide ((x_57.toNat : Int) ≤ 90))) rfl (fun hv hw => by (try simp only [gs_on hv, gs_on hw]); exact ⟨rfl, rfl, rfl⟩) ?_; refine s_gp (v1 := (bif (decide ((x_57.toNat : Int) ≥ 97)) then (decide ((x_57.toNat : Int) ≤ 122)) else false)) (b1 := false) (v2 := (decide ((x_57.toNat : Int) ≥ 65))) (x := (decide ((x_57.toNat : Int) ≤ 90))) (y := false) rfl (fun hv => by (try simp only [gs_on hv]); rfl) (fun hv hw => by (try simp only [gs_on hv, gs_on hw]); rfl) (fun hv hw => by (try simp only [gs_on hv, gs_on hw]); rfl) ?_; refine s_pick (x := true) (y := (bif (decide ((x_57.toNat : Int) ≥ 65)) then (decide ((x_57.toNat : Int) ≤ 90)) else false)) rfl (fun hv => by (try simp only [gs_on hv]); rfl) (fun hv => by (try simp only [gs_on hv]); rfl) ?_
    refine s_mov (.bool (bif (bif (decide ((x_57.toNat : Int) ≥ 97)) then (decide ((x_57.toNat : Int) ≤ 122)) else false) then true else (bif (decide ((x_57.toNat : Int) ≥ 65)) then (decide ((x_57.toNat : Int) ≤ 90)) else false))) rfl ?_; refine s_g (v := (bif (bif (decide ((x_57.toNat : Int) ≥ 97)) then (decide ((x_57.toNat : Int) ≤ 122)) else false) then true else (bif (decide ((x_57.toNat : Int) ≥ 65)) then (decide ((x_57.toNat : Int) ≤ 90)) else false))) (.int .u8 (x_57.toNat : Int)) rfl (fun hv => by (try simp only [gs_on hv]); exact ⟨rfl, trivial, rfl⟩) ?_; refine s_g (v := (bif (bif (decide ((x_57.toNat : Int) ≥ 97)) then (decide ((x_57.toNat : Int) ≤ 122)) else false) then true else (bif (decide ((x_57.toNat : Int) ≥ 65)) then (decide ((x_57.toNat : Int) ≤ 90)) else false))) (.bool ((x_57.toNat : Int) == 95)) rfl (fun hv => by (try simp only [gs_on hv]); exact ⟨rfl, rfl, rfl⟩) ?_
    refine s_pick (x := true) (y := ((x_57.toNat : Int) == 95)) rfl (fun hv => by (try simp only [gs_on hv]); rfl) (fun hv => by (try simp only [gs_on hv]); rfl) ?_; refine s_mov (.bool (bif (bif (bif (decide ((x_57.toNat : Int) ≥ 97)) then (decide ((x_57.toNat : Int) ≤ 122)) else false) then true else (bif (decide ((x_57.toNat : Int) ≥ 65)) then (decide ((x_57.toNat : Int) ≤ 90)) else false)) then true else ((x_57.toNat : Int) == 95))) rfl <| w_done <| ?_; obtain rfl := os hb2; exact ⟨[], [], _, _, rfl, rfl, ⟨.refl _, ⟨.refl _, ⟨.refl _, ⟨.refl _, ⟨.refl _, ⟨.refl _, trivial⟩⟩⟩⟩⟩⟩, (.refl _)⟩
   ·refine awp_seq ?_
    obtain ⟨s42_63, hb2, hc1⟩ := ob hc1
    refine awp_cut ([(0, (.str t_1)), (7, (.int .i64 (t_1.length : Int))), (8, (.int .i64 (s8_34 : Int))), (42, (.bool s42_63))], []) ?_ ?_
    ·refine w_reg ?_
     rcases oi hb2 with ⟨c65, hb2⟩ | ⟨c65, hb2⟩
     ·rcases oi hb2 with ⟨c66, hb2⟩ | ⟨c66, hb2⟩
      ·refine s_mov (.bool (bif (bif (bif (decide ((x_57.toNat : Int) ≥ 97)) then (decide ((x_57.toNat : Int) ≤ 122)) else false) then true else (bif (decide ((x_57.toNat : Int) ≥ 65)) then (decide ((x_57.toNat : Int) ≤ 90)) else false)) then true else ((x_57.toNat : Int) == 95))) rfl <| s_q (.bool (!(bif (bif (bif (decide ((x_57.toNat : Int) ≥ 97)) then (decide ((x_57.toNat : Int) ≤ 122)) else false) then true else (bif (decide ((x_57.toNat : Int) ≥ 65)) then (decide ((x_57.toNat : Int) ≤ 90)) else false)) then true else ((x_57.toNat : Int) == 95)))) rfl trivial rfl <| s_mov (.bool (!(bif (bif (bif (decide ((x_57.toNat : Int) ≥ 97)) then (decide ((x_57.toNat : Int) ≤ 122)) else false) then true else (bif (decide ((x_57.toNat : Int) ≥ 65)) then (decide ((x_57.toNat : Int) ≤ 90)) else false)) then true else ((x_57.toNat : Int) == 95)))) rfl <| ?_
       refine s_lit (s := 34) (b := true) rfl c65 <| s_on rfl <| s_mov (.int .i64 (s8_34 : Int)) rfl <| s_on rfl <| s_q (.bool ((s8_34 : Int) == 0)) rfl rfl rfl <| s_on rfl <| s_mov (.bool ((s8_34 : Int) == 0)) rfl <| s_lit (s := 37) (b := true) rfl c66 <| s_off rfl rfl <| s_off rfl rfl <| s_off rfl rfl <| s_on rfl <| s_q (.bool true) rfl trivial rfl <| s_q (.bool true) rfl trivial rfl <| w_done <| ?_; obtain rfl := os hb2; exact ⟨[], [], _, _, rfl, rfl, ⟨.refl _, ⟨.refl _, ⟨.refl _, ⟨.refl _, trivial⟩⟩⟩⟩, (.refl _)⟩
      ·obtain ⟨r_67, er68, hb2⟩ := ob hb2
       refine s_mov (.bool (bif (bif (bif (decide ((x_57.toNat : Int) ≥ 97)) then (decide ((x_57.toNat : Int) ≤ 122)) else false) then true else (bif (decide ((x_57.toNat : Int) ≥ 65)) then (decide ((x_57.toNat : Int) ≤ 90)) else false)) then true else ((x_57.toNat : Int) == 95))) rfl <| s_q (.bool (!(bif (bif (bif (decide ((x_57.toNat : Int) ≥ 97)) then (decide ((x_57.toNat : Int) ≤ 122)) else false) then true else (bif (decide ((x_57.toNat : Int) ≥ 65)) then (decide ((x_57.toNat : Int) ≤ 90)) else false)) then true else ((x_57.toNat : Int) == 95)))) rfl trivial rfl <| s_mov (.bool (!(bif (bif (bif (decide ((x_57.toNat : Int) ≥ 97)) then (decide ((x_57.toNat : Int) ≤ 122)) else false) then true else (bif (decide ((x_57.toNat : Int) ≥ 65)) then (decide ((x_57.toNat : Int) ≤ 90)) else false)) then true else ((x_57.toNat : Int) == 95)))) rfl <| ?_
       refine s_lit (s := 34) (b := true) rfl c65 <| s_on rfl <| s_mov (.int .i64 (s8_34 : Int)) rfl <| s_on rfl <| s_q (.bool ((s8_34 : Int) == 0)) rfl rfl rfl <| s_on rfl <| s_mov (.bool ((s8_34 : Int) == 0)) rfl <| s_lit (s := 37) (b := false) rfl (bf c66) <| s_on rfl <| s_mov (.int .u8 (x_57.toNat : Int)) rfl <| s_on rfl <| s_do (o_call (w_impl_isDigit _ _ er68) rfl (.refl _) rfl) <| s_on rfl <| s_q (.bool (!r_67)) rfl trivial rfl <| s_on rfl <| s_q (.bool (!r_67)) rfl trivial rfl <| s_q (.bool (!r_67)) rfl trivial rfl <| w_done <| ?_; obtain rfl := os hb2; exact ⟨[], [], _, _, rfl, rfl, ⟨.refl _, ⟨.refl _, ⟨.refl _, ⟨.refl _, trivial⟩⟩⟩⟩, (.refl _)⟩
     ·refine s_mov (.bool (bif (bif (bif (decide ((x_57.toNat : Int) ≥ 97)) then (decide ((x_57.toNat : Int) ≤ 122)) else false) then true else (bif (decide ((x_57.toNat : Int) ≥ 65)) then (decide ((x_57.toNat : Int) ≤ 90)) else false)) then true else ((x_57.toNat : Int) == 95))) rfl <| s_q (.bool (!(bif (bif (bif (decide ((x_57.toNat : Int) ≥ 97)) then (decide ((x_57.toNat : Int) ≤ 122)) else false) then true else (bif (decide ((x_57.toNat : Int) ≥ 65)) then (decide ((x_57.toNat : Int) ≤ 90)) else false)) then true else ((x_57.toNat : Int) == 95)))) rfl trivial rfl <| s_mov (.bool (!(bif (bif (bif (decide ((x_57.toNat : Int) ≥ 97)) then (decide ((x_57.toNat : Int) ≤ 122)) else false) then true else (bif (decide ((x_57.toNat : Int) ≥ 65)) then (decide ((x_57.toNat : Int) ≤ 90)) else false)) then true else ((x_57.toNat : Int) == 95)))) rfl <| ?_
      refine s_lit (s := 34) (b := false) rfl (bf c65) <| s_off rfl rfl <| s_off rfl rfl <| s_off rfl rfl <| s_offs rfl <| s_offs rfl <| s_offs rfl <| s_off rfl rfl <| s_q (.bool false) rfl trivial rfl <| w_done <| ?_; obtain rfl := os hb2; exact ⟨[], [], _, _, rfl, rfl, ⟨.refl _, ⟨.refl _, ⟨.refl _, ⟨.refl _, trivial⟩⟩⟩⟩, (.refl _)⟩
    ·rcases oi hc1 with ⟨c69, hc1⟩ | ⟨c69, hc1⟩
     ·refine w_condt rfl c69 <| awp_seq <| w_reg <| s_mov (.bool false) rfl <| w_done <| k_seq <| w_ret <| ?_; obtain rfl := os hc1; obtain rfl := os hf; exact r_flat ⟨trivial, trivial⟩ rfl (.refl _)
     ·refine w_condf rfl (bf c69) <| w_skip <| k_blk <| k_seq <| w_reg <| s_q (.int .i64 (w64 ((s8_34 : Int) + 1))) rfl rfl rfl <| s_mov (.int .i64 (w64 ((s8_34 : Int) + 1))) rfl <| w_done <| ?_; exact k_loopn ⟨(s8_34 + 1), hc1⟩ (mul hlt51) ⟨[], [], _, _, rfl, rfl, ⟨.refl _, ⟨.refl _, ⟨.of_eq (congrArg (AV.int _) (w64_incr hlt51 hl2)), trivial⟩⟩⟩, (.refl _)⟩
 ·rintro ⟨_, rfl⟩
  refine awp_seq <| w_reg <| ?_
  obtain ⟨r_71, er72, hf⟩ := ob hf
  refine s_mov (.str t_1) rfl <| s_dof (o_lenS rfl) fun hl70 => s_do (o_call (w_impl_within _ _ _ _ er72) rfl (.refl _) rfl) <| s_mov (.bool r_71) rfl <| w_done <| k_seq <| w_ret <| ?_; obtain rfl := os hf; exact r_flat ⟨trivial, trivial⟩ rfl (.refl _)

/- impl.isSession -/
def c107 : ACode :=
 (.seq (.reg (tm 2 (.c (.bool false)) .done))
 (.seq (.reg (tm 3 (.t 0) (tq 4 (.call 106 [(.t 3), (.c (.int .i64 0)), (.c (.int .i64 2))]) (tm 2 (.t 4) .done))))
 .ret))
theorem fc107 : fcomp Try.prog Try.f107 = some (c107.erase, [.mov (.t 2)], 5) := by kernel_rfl
def impl_isSession (n_1 : Int) : Option Bool :=
    (impl_within n_1 0 2).bind fun r_2 =>
    some r_2
theorem w_impl_isSession (n_1 : Int) (r : Bool) (hf : impl_isSession n_1 = some r) : CallOK Try.prog 107 .flat [(.int .i64 n_1)] (.bool r) := by
  refine CallOK.of_awp mixed Try.func107 fc107 nle ?_
  rw [argT_eq]
  unfold impl_isSession at hf
  unfold c107
  refine (show awp Try.prog false 0 _ (ofL [(0, (.int .i64 n_1))]) [] _ from ?_)
  refine awp_seq ?_
  refine w_reg ?_
  refine s_do (o_mov (.bool false) rfl) ?_
  refine w_done ?_
  refine k_seq ?_
  refine awp_seq ?_
  refine w_reg ?_
  obtain ⟨r_2, er3, hf⟩ := ob hf
  refine s_do (o_mov (.int .i64 n_1) rfl) ?_
  refine s_do (o_call (w_impl_within _ _ _ _ er3) rfl (.refl _) rfl) ?_
  refine s_do (o_mov (.bool r_2) rfl) ?_
  refine w_done ?_
  refine k_seq ?_
  refine w_ret ?_
  obtain rfl := os hf
  exact r_flat ⟨trivial, trivial⟩ rfl (.refl _)

/- slices.Index[[]int,int] -/
def c185 : ACode :=
 (.seq (.reg (tm 4 (.c (.int .i64 0)) .done))
 (.seq (.seq (.reg (tm 6 (.t 0) (tq 7 (.len (.t 6)) (tm 8 (.c (.int .i64 0)) .done))))
 (.block 0 (.loop (.seq (.reg (tq 9 (.bin .lss (.t 8) (.t 7)) .done))
 (.seq (.cond (.t 9) .skip
 (.exit 0))
 (.seq (.block 1 (.seq (.reg (tm 10 (.t 8) (tm 5 (.t 10) .done)))
 (.seq (.reg (tm 11 (.t 1) (tm 12 (.t 0) (tm 13 (.t 5) (tq 14 (.iaddr 1 (.t 12) (.t 13)) (tq 15 (.load 1 false (.t 14)) (tq 16 (.bin .eql (.t 11) (.t 15)) .done)))))))
 (.cond (.t 16) (.seq (.reg (tm 17 (.t 5) (tm 4 (.t 17) .done)))
 .ret)
 .skip))))
 (.reg (tq 18 (.bin .add (.t 8) (.c (.int .i64 1))) (tm 8 (.t 18) .done)))))))))
 (.cut (.seq (.reg (tq 4 (.mov (.c (.int .i64 (-1)))) .done))
 .ret))))
theorem fc185 : fcomp Try.prog Try.f185 = some (c185.erase, [.mov (.t 4)], 19) := by kernel_rfl
def slices_Index_int_int_L1 (v_2 : Int) : List Int → Nat → Option (Fl Int Unit)
  | [], s8_13 =>
    some (.go ())
  | x_25 :: xs, s8_13 =>
    if (v_2 == x_25) then
    some (.ret (s8_13 : Int))
    else
    slices_Index_int_int_L1 v_2 xs (s8_13 + 1)

def slices_Index_int_int (s_1 : (List Int)) (v_2 : Int) : Option Int :=
    (slices_Index_int_int_L1 v_2 s_1 0).bind fun q => (match q with
    | .ret r => some r
    | .go _ =>
    some (-1))
theorem w_slices_Index_int_int (s_1 : (List Int)) (v_2 : Int) (r : Int) (hf : slices_Index_int_int s_1 v_2 = some r) : CallOK Try.prog 185 .flat [(.lst 1 (s_1.map encI)), (.int .i64 v_2)] (.int .i64 r) := by
 refine CallOK.of_awp mixed Try.func185 fc185 nle ?_; rw [argT_eq]; unfold slices_Index_int_int at hf; unfold c185; refine (show awp Try.prog false 0 _ (ofL [(0, (.lst 1 (s_1.map encI))), (1, (.int .i64 v_2))]) [] _ from ?_); refine awp_seq <| w_reg <| s_mov (.int .i64 0) rfl <| w_done <| k_seq <| awp_seq <| awp_seq <| w_reg <| s_mov (.lst 1 (s_1.map encI)) rfl <| s_dof (o_len (enc := encI) rfl) fun hl3 => s_mov (.int .i64 0) rfl <| w_done <| k_seq <| ?_
 obtain ⟨p18, hb1, hf⟩ := ob hf
 refine awp_cutx (X := {q : Unit // p18 = .go q}) (fun q => ([], [])) ?_ ?_
 ·refine awp_loop (X := {q : Nat // slices_Index_int_int_L1 v_2 (s_1.drop q) q = some p18}) (fun q => ([(0, (.lst 1 (s_1.map encI))), (1, (.int .i64 v_2)), (7, (.int .i64 (s_1.length : Int))), (8, (.int .i64 (q.1 : Int)))], [])) (fun q => s_1.length - q.1) ⟨0, hb1⟩ ⟨[], [], _, _, rfl, rfl, ⟨.refl _, ⟨.refl _, ⟨.refl _, ⟨.refl _, trivial⟩⟩⟩⟩, (.refl _)⟩ ?_
  rintro ⟨s8_13, hc1⟩
  have hc1 : slices_Index_int_int_L1 v_2 (s_1.drop s8_13) s8_13 = some p18 := hc1
  refine (show awp Try.prog false 0 _ (ofL [(0, (.lst 1 (s_1.map encI))), (1, (.int .i64 v_2)), (7, (.int .i64 (s_1.length : Int))), (8, (.int .i64 (s8_13 : Int)))]) [] _ from ?_)
  rcases dropc s_1 s8_13 with ⟨hie21, hd24⟩ | ⟨hlt19, x_25, hx20, hd24⟩
  ·rw [hd24, slices_Index_int_int_L1.eq_1] at hc1
   have hq23 := dlf hie21
   refine awp_seq <| w_reg <| s_q (.bool (decide ((s8_13 : Int) < (s_1.length : Int)))) rfl rfl rfl <| w_done <| k_seq <| awp_seq <| w_condf rfl hq23 <| w_exit <| k_seqx <| k_loopx <| k_blkx <| ?_; obtain rfl := os hc1; exact k_cutn ⟨_, rfl⟩ ⟨[], [], _, _, rfl, rfl, trivial, (.refl _)⟩
  ·rw [hd24, slices_Index_int_int_L1.eq_2] at hc1
   have hq23 := dlt hlt19
   refine awp_seq <| w_reg <| s_q (.bool (decide ((s8_13 : Int) < (s_1.length : Int)))) rfl rfl rfl <| w_done <| k_seq <| awp_seq <| w_condt rfl hq23 <| w_skip <| k_seq <| awp_seq <| w_blk <| awp_seq <| w_reg <| s_mov (.int .i64 (s8_13 : Int)) rfl <| s_mov (.int .i64 (s8_13 : Int)) rfl <| w_done <| k_seq <| awp_seq <| w_reg <| s_mov (.int .i64 v_2) rfl <| s_mov (.lst 1 (s_1.map encI)) rfl <| s_mov (.int .i64 (s8_13 : Int)) rfl <| s_do (o_iaddrn (enc := encI) rfl rfl hx20) <| s_q (.int .i64 x_25) rfl ⟨rfl, rfl⟩ rfl <| s_q (.bool (v_2 == x_25)) rfl rfl rfl <| w_done <| k_seq <| ?_
   rcases oi hc1 with ⟨c26, hc1⟩ | ⟨c26, hc1⟩
   ·refine w_condt rfl c26 <| awp_seq <| w_reg <| s_mov (.int .i64 (s8_13 : Int)) rfl <| s_mov (.int .i64 (s8_13 : Int)) rfl <| w_done <| k_seq <| w_ret <| ?_; obtain rfl := os hc1; obtain rfl := os hf; exact r_flat ⟨trivial, trivial⟩ rfl (.refl _)
   ·refine w_condf rfl (bf c26) <| w_skip <| k_blk <| k_seq <| w_reg <| s_q (.int .i64 (w64 ((s8_13 : Int) + 1))) rfl rfl rfl <| s_mov (.int .i64 (w64 ((s8_13 : Int) + 1))) rfl <| w_done <| ?_; exact k_loopn ⟨(s8_13 + 1), hc1⟩ (mul hlt19) ⟨[], [], _, _, rfl, rfl, ⟨.refl _, ⟨.refl _, ⟨.refl _, ⟨.of_eq (congrArg (AV.int _) (w64_incr hlt19 hl3)), trivial⟩⟩⟩⟩, (.refl _)⟩
 ·rintro ⟨_, rfl⟩
  refine awp_seq <| w_reg <| s_mov (.int .i64 (-1)) rfl <| w_done <| k_seq <| w_ret <| ?_; obtain rfl := os hf; exact r_flat ⟨trivial, trivial⟩ rfl (.refl _)

/- slices.Contains[[]int,int] -/
def c100 : ACode :=
 (.seq (.reg (tm 4 (.c (.bool false)) .done))
 (.seq (.reg (tm 5 (.t 0) (tm 6 (.t 1) (tq 7 (.call 185 [(.t 5), (.t 6)]) (tq 8 (.bin .geq (.t 7) (.c (.int .i64 0))) (tm 4 (.t 8) .done))))))
 .ret))
theorem fc100 : fcomp Try.prog Try.f100 = some (c100.erase, [.mov (.t 4)], 9) := by kernel_rfl
def slices_Contains_int_int (s_1 : (List Int)) (v_2 : Int) : Option Bool :=
    (slices_Index_int_int s_1 v_2).bind fun r_3 =>
    some (decide (r_3 ≥ 0))
theorem w_slices_Contains_int_int (s_1 : (List Int)) (v_2 : Int) (r : Bool) (hf : slices_Contains_int_int s_1 v_2 = some r) : CallOK Try.prog 100 .flat [(.lst 1 (s_1.map encI)), (.int .i64 v_2)] (.bool r) := by
  refine CallOK.of_awp mixed Try.func100 fc100 nle ?_
  rw [argT_eq]
  unfold slices_Contains_int_int at hf
  unfold c100
  refine (show awp Try.prog false 0 _ (ofL [(0, (.lst 1 (s_1.map encI))), (1, (.int .i64 v_2))]) [] _ from ?_)
  refine awp_seq ?_
  refine w_reg ?_
  refine s_do (o_mov (.bool false) rfl) ?_
  refine w_done ?_
  refine k_seq ?_
  refine awp_seq ?_
  refine w_reg ?_
  obtain ⟨r_3, er4, hf⟩ := ob hf
  refine s_do (o_mov (.lst 1 (s_1.map encI)) rfl) ?_
  refine s_do (o_mov (.int .i64 v_2) rfl) ?_
  refine s_do (o_call (w_slices_Index_int_int _ _ _ er4) rfl (.refl _) rfl) ?_
  refine s_do (o_q (.bool (decide (r_3 ≥ 0))) rfl rfl rfl) ?_
  refine s_do (o_mov (.bool (decide (r_3 ≥ 0))) rfl) ?_
  refine w_done ?_
  refine k_seq ?_
  refine w_ret ?_
  obtain rfl := os hf
  exact r_flat ⟨trivial, trivial⟩ rfl (.refl _)

/- impl.LocksOK -/
def c31 : ACode :=
 (.seq (.reg (tm 2 (.c (.bool false)) .done))
 (.seq (.seq (.reg (tm 7 (.t 0) (tq 8 (.len (.t 7)) (tm 9 (.c (.int .i64 0)) .done))))
 (.block 0 (.loop (.seq (.reg (tq 10 (.bin .lss (.t 9) (.t 8)) .done))
 (.seq (.cond (.t 10) .skip
 (.exit 0))
 (.seq (.block 1 (.seq (.reg (tm 11 (.t 9) (tq 12 (.iaddr 2 (.t 7) (.t 9)) (tq 13 (.load 2 true (.t 12)) (tq 4 (.box 2 (.c (.agg [(.str []), .nil]))) (tm 3 (.t 11) (.q ⟨none, none, .store 2 (.t 4) (.t 13)⟩
 .done)))))))
 (.seq (.seq (.reg (tq 14 (.faddr 0 (.t 4)) (tq 15 (.load 1 false (.t 14)) (.l ⟨(some 16), none, .call 105 [(.t 15)]⟩ []
 (tq 17 (.not (.t 16)) (tm 18 (.t 17) (tg 19 18 false (.mov (.t 3)) (tg 20 18 false (.bin .gtr (.t 19) (.c (.int .i64 0))) (tg 21 18 false (.mov (.t 20)) (tg 22 21 true (.mov (.t 0)) (tg 23 21 true (.mov (.t 3)) (tg 24 21 true (.bin .sub (.t 23) (.c (.int .i64 1))) (tg 25 21 true (.iaddr 2 (.t 22) (.t 24)) (tg 26 21 true (.faddr 0 (.t 25)) (tg 27 21 true (.load 1 false (.t 26)) (tg 28 21 true (.faddr 0 (.t 4)) (tg 29 21 true (.load 1 false (.t 28)) (tg 30 21 true (.bin .geq (.t 27) (.t 29)) (tg 31 18 false (.pick (.t 21) (.t 30) (.c (.bool false))) (tq 32 (.pick (.t 18) (.c (.bool true)) (.t 31)) (tm 33 (.t 32) (tg 34 33 false (.faddr 1 (.t 4)) (tg 35 33 false (.load 1 false (.t 34)) (tg 36 33 false (.len (.t 35)) (.l ⟨(some 37), (some (33, false)), .call 106 [(.t 36), (.c (.int .i64 1)), (.c (.int .i64 3))]⟩ []
 (tg 38 33 false (.not (.t 37)) (tq 39 (.pick (.t 33) (.c (.bool true)) (.t 38)) .done)) .non))))))))))))))))))))) .non))))
 (.cut (.cond (.t 39) (.seq (.reg (tm 2 (.c (.bool false)) .done))
 .ret)
 .skip)))
 (.seq (.reg (tq 40 (.faddr 1 (.t 4)) (tq 41 (.load 1 false (.t 40)) (tq 42 (.len (.t 41)) (tm 43 (.c (.int .i64 0)) .done)))))
 (.block 2 (.loop (.seq (.reg (tq 44 (.bin .lss (.t 43) (.t 42)) .done))
 (.seq (.cond (.t 44) .skip
 (.exit 2))
 (.seq (.block 3 (.seq (.reg (tm 45 (.t 43) (tq 46 (.iaddr 1 (.t 41) (.t 43)) (tq 47 (.load 1 false (.t 46)) (tm 5 (.t 45) (tm 6 (.t 47) .done))))))
 (.seq (.reg (tm 48 (.t 6) (tq 49 (.call 107 [(.t 48)]) (tq 50 (.not (.t 49)) (tm 51 (.t 50) (tg 52 51 false (.faddr 1 (.t 4)) (tg 53 51 false (.load 1 false (.t 52)) (tg 54 51 false (.mov (.t 5)) (tg 55 51 false (.slice 1 (.t 53) none (some (.t 54))) (tg 56 51 false (.mov (.t 6)) (tg 57 51 false (.call 100 [(.t 55), (.t 56)]) (tq 58 (.pick (.t 51) (.c (.bool true)) (.t 57)) .done))))))))))))
 (.cut (.cond (.t 58) (.seq (.reg (tm 2 (.c (.bool false)) .done))
 .ret)
 .skip)))))
 (.reg (tq 59 (.bin .add (.t 43) (.c (.int .i64 1))) (tm 43 (.t 59) .done))))))))))))
 (.cut (.reg (tq 60 (.bin .add (.t 9) (.c (.int .i64 1))) (tm 9 (.t 60) .done))))))))))
 (.cut (.seq (.reg (tm 61 (.t 0) (tq 62 (.len (.t 61)) (tq 63 (.bin .leq (.t 62) (.c (.int .i64 6))) (tm 2 (.t 63) .done)))))
 .ret))))
theorem fc31 : fcomp Try.prog Try.f31 = some (c31.erase, [.mov (.t 2)], 64) := by kernel_rfl
def impl_LocksOK_L2 (x_354 : GLock) : List Int → Nat → Option (Fl Bool Unit)
  | [], s43_424 =>
    some (.go ())
  | x_450 :: xs, s43_424 =>
    (((impl_isSession x_450).bind fun r_459 =>
    if (!r_459) then
    some true
    else
    if (0 : Int) ≤ (s43_424 : Int) ∧ (s43_424 : Int) ≤ (x_354.Queue.length : Int) then
    (slices_Contains_int_int (x_354.Queue.take s43_424) x_450).bind fun r_463 =>
    some r_463
    else none : Option Bool)).bind fun s58_457 =>
    if s58_457 then
    some (.ret false)
    else
    impl_LocksOK_L2 x_354 xs (s43_424 + 1)

def impl_LocksOK_L1 (list_1 : (List GLock)) : List GLock → Nat → Option (Fl Bool Unit)
  | [], s9_232 =>
    some (.go ())
  | x_354 :: xs, s9_232 =>
    (((impl_NameOK x_354.Name).bind fun r_371 =>
    if (!r_371) then
    some true
    else
    if (decide ((s9_232 : Int) > 0)) then
    (idx list_1 (w64 ((s9_232 : Int) - 1))).bind fun x_375 =>
    if (!Op.bytesLess x_375.Name x_354.Name) then
    some true
    else
    (impl_within (x_354.Queue.length : Int) 1 3).bind fun r_380 =>
    some (!r_380)
    else
    (impl_within (x_354.Queue.length : Int) 1 3).bind fun r_383 =>
    some (!r_383) : Option Bool)).bind fun s39_369 =>
    if s39_369 then
    some (.ret false)
    else
    (impl_LocksOK_L2 x_354 x_354.Queue 0).bind fun q => (match q with
    | .ret r => some (.ret r)
    | .go _ =>
    impl_LocksOK_L1 list_1 xs (s9_232 + 1))

def impl_LocksOK (list_1 : (List GLock)) : Option Bool :=
    (impl_LocksOK_L1 list_1 list_1 0).bind fun q => (match q with
    | .ret r => some r
    | .go _ =>
    some (decide ((list_1.length : Int) ≤ 6)))
theorem w_impl_LocksOK (list_1 : (List GLock)) (r : Bool) (hf : impl_LocksOK list_1 = some r) : CallOK Try.prog 31 .flat [(.lst 2 (list_1.map encGLock))] (.bool r) := by
 refine CallOK.of_awp mixed Try.func31 fc31 nle ?_; rw [argT_eq]; unfold impl_LocksOK at hf; unfold c31; refine (show awp Try.prog false 0 _ (ofL [(0, (.lst 2 (list_1.map encGLock)))]) [] _ from ?_); refine awp_seq <| w_reg <| s_mov (.bool false) rfl <| w_done <| k_seq <| awp_seq <| awp_seq <| w_reg <| s_mov (.lst 2 (list_1.map encGLock)) rfl <| s_dof (o_len (enc := encGLock) rfl) fun hl2 => s_mov (.int .i64 0) rfl <| w_done <| k_seq <| ?_
 obtain ⟨p347, hb1, hf⟩ := ob hf
 refine awp_cutx (X := {q : Unit // p347 = .go q}) (fun q => ([(0, (.lst 2 (list_1.map encGLock)))], [])) ?_ ?_
 ·refine awp_loop (X := {q : Nat // impl_LocksOK_L1 list_1 (list_1.drop q) q = some p347}) (fun q => ([(0, (.lst 2 (list_1.map encGLock))), (7, (.lst 2 (list_1.map encGLock))), (8, (.int .i64 (list_1.length : Int))), (9, (.int .i64 (q.1 : Int)))], [])) (fun q => list_1.length - q.1) ⟨0, hb1⟩ ⟨[], [], _, _, rfl, rfl, ⟨.refl _, ⟨.refl _, ⟨.refl _, ⟨.refl _, trivial⟩⟩⟩⟩, (.refl _)⟩ ?_
  rintro ⟨s9_232, hc1⟩
  have hc1 : impl_LocksOK_L1 list_1 (list_1.drop s9_232) s9_232 = some p347 := hc1
  refine (show awp Try.prog false 0 _ (ofL [(0, (.lst 2 (list_1.map encGLock))), (7, (.lst 2 (list_1.map encGLock))), (8, (.int .i64 (list_1.length : Int))), (9, (.int .i64 (s9_232 : Int)))]) [] _ from ?_)
  rcases dropc list_1 s9_232 with ⟨hie350, hd353⟩ | ⟨hlt348, x_354, hx349, hd353⟩
  ·rw [hd353, impl_LocksOK_L1.eq_1] at hc1
   have hq352 := dlf hie350
   refine awp_seq <| w_reg <| s_q (.bool (decide ((s9_232 : Int) < (list_1.length : Int)))) rfl rfl rfl <| w_done <| k_seq <| awp_seq <| w_condf rfl hq352 <| w_exit <| k_seqx <| k_loopx <| k_blkx <| ?_; obtain rfl := os hc1; exact k_cutn ⟨_, rfl⟩ ⟨[], [], _, _, rfl, rfl, ⟨.refl _, trivial⟩, (.refl _)⟩
  ·rw [hd353, impl_LocksOK_L1.eq_2] at hc1
   have hq352 := dlt hlt348
   refine awp_seq <| w_reg <| s_q (.bool (decide ((s9_232 : Int) < (list_1.length : Int)))) rfl rfl rfl <| w_done <| k_seq <| awp_seq <| w_condt rfl hq352 <| w_skip <| k_seq <| awp_seq <| w_blk <| awp_seq <| w_reg <| s_mov (.int .i64 (s9_232 : Int)) rfl <| s_do (o_iaddrn (enc := encGLock) rfl rfl hx349) <| s_q (encGLock x_354) rfl nle rfl <| s_do (o_box (j := 0) (c := (.agg [(.str []), .nil])) rfl trivial rfl rfl) <| s_mov (.int .i64 (s9_232 : Int)) rfl <| s_do0 (o_storebox (v := (.agg [(.str x_354.Name), (.lst 1 (x_354.Queue.map encI))])) (y' := (.agg [(.str x_354.Name), (.lst 1 (x_354.Queue.map encI))])) rfl rfl rfl trivial ⟨rfl, nle⟩ ⟨⟨rfl, trivial⟩, ⟨⟨rfl, trivial⟩, trivial⟩⟩ rfl) <| w_done <| k_seq <| ?_
   refine awp_seq <| awp_seq <| ?_
   obtain ⟨s39_369, hb2, hc1⟩ := ob hc1
   refine awp_cut ([(0, (.lst 2 (list_1.map encGLock))), (4, (.ptr 0 0 0)), (7, (.lst 2 (list_1.map encGLock))), (8, (.int .i64 (list_1.length : Int))), (9, (.int .i64 (s9_232 : Int))), (39, (.bool s39_369))], [.box 2 (.agg [(.str x_354.Name), (.lst 1 (x_354.Queue.map encI))])]) ?_ ?_
   ·refine w_reg <| s_q (.ptr 0 0 0) rfl trivial rfl <| s_q (.str x_354.Name) rfl nle rfl <| ?_
    obtain ⟨r_371, er372, hb2⟩ := ob hb2
    refine s_dol (o_call (w_impl_NameOK _ _ er372) rfl (.refl _) rfl) a_same trivial <| s_q (.bool (!r_371)) rfl trivial rfl <| s_mov (.bool (!r_371)) rfl <| ?_
    rcases oi hb2 with ⟨c373, hb2⟩ | ⟨c373, hb2⟩
    ·refine s_lit (s := 18) (b := true) rfl c373 <| s_off rfl rfl <| s_off rfl rfl <| s_off rfl rfl <| s_offs rfl <| s_offs rfl <| s_offs rfl <| s_offs rfl <| s_offs rfl <| s_offs rfl <| s_offs rfl <| s_offs rfl <| s_offs rfl <| s_off rfl rfl <| s_q (.bool true) rfl trivial rfl <| s_mov (.bool true) rfl <| s_off rfl rfl <| s_off rfl rfl <| s_off rfl rfl <| s_offl rfl rfl trivial <| s_off rfl rfl <| s_q (.bool true) rfl trivial rfl <| w_done <| ?_; obtain rfl := os hb2; exact ⟨[], [0], _, _, rfl, rfl, ⟨.refl _, ⟨.refl _, ⟨.refl _, ⟨.refl _, ⟨.refl _, ⟨.refl _, trivial⟩⟩⟩⟩⟩⟩, (.refl _)⟩
    ·refine s_lit (s := 18) (b := false) rfl (bf c373) <| s_on rfl <| s_mov (.int .i64 (s9_232 : Int)) rfl <| s_on rfl <| s_q (.bool (decide ((s9_232 : Int) > 0))) rfl rfl rfl <| s_on rfl <| s_mov (.bool (decide ((s9_232 : Int) > 0))) rfl <| ?_
     rcases oi hb2 with ⟨c374, hb2⟩ | ⟨c374, hb2⟩
     ·refine s_lit (s := 21) (b := true) rfl c374 <| s_on rfl <| s_mov (.lst 2 (list_1.map encGLock)) rfl <| s_on rfl <| s_mov (.int .i64 (s9_232 : Int)) rfl <| s_on rfl <| s_q (.int .i64 (w64 ((s9_232 : Int) - 1))) rfl rfl rfl <| s_on rfl <| ?_
      obtain ⟨x_375, ex376, hb2⟩ := ob hb2
      refine s_do (o_iaddr (enc := encGLock) rfl rfl (idx0 ex376) (idx1 ex376)) <| s_on rfl <| s_q (.iptr (encGLock x_375) 0) rfl trivial rfl <| s_on rfl <| s_q (.str x_375.Name) rfl nle rfl <| s_on rfl <| s_q (.ptr 0 0 0) rfl trivial rfl <| s_on rfl <| s_q (.str x_354.Name) rfl nle rfl <| s_on rfl <| s_q (.bool (!Op.bytesLess x_375.Name x_354.Name)) rfl trivial rfl <| s_on rfl <| s_q (.bool (!Op.bytesLess x_375.Name x_354.Name)) rfl trivial rfl <| s_q (.bool (!Op.bytesLess x_375.Name x_354.Name)) rfl trivial rfl <| s_mov (.bool (!Op.bytesLess x_375.Name x_354.Name)) rfl <| ?_
      rcases oi hb2 with ⟨c378, hb2⟩ | ⟨c378, hb2⟩
      ·refine s_lit (s := 33) (b := true) rfl c378 <| s_off rfl rfl <| s_off rfl rfl <| s_off rfl rfl <| s_offl rfl rfl trivial <| s_off rfl rfl <| s_q (.bool true) rfl trivial rfl <| w_done <| ?_; obtain rfl := os hb2; exact ⟨[], [0], _, _, rfl, rfl, ⟨.refl _, ⟨.refl _, ⟨.refl _, ⟨.refl _, ⟨.refl _, ⟨.refl _, trivial⟩⟩⟩⟩⟩⟩, (.refl _)⟩
      ·refine s_lit (s := 33) (b := false) rfl (bf c378) <| s_on rfl <| s_q (.ptr 0 0 1) rfl trivial rfl <| s_on rfl <| s_q (.lst 1 (x_354.Queue.map encI)) rfl nle rfl <| s_on rfl <| s_dof (o_len (enc := encI) rfl) fun hl379 => s_onl rfl <| ?_
       obtain ⟨r_380, er381, hb2⟩ := ob hb2
       refine s_dol (o_call (w_impl_within _ _ _ _ er381) rfl (.refl _) rfl) a_same trivial <| s_on rfl <| s_q (.bool (!r_380)) rfl trivial rfl <| s_q (.bool (!r_380)) rfl trivial rfl <| w_done <| ?_; obtain rfl := os hb2; exact ⟨[], [0], _, _, rfl, rfl, ⟨.refl _, ⟨.refl _, ⟨.refl _, ⟨.refl _, ⟨.refl _, ⟨.refl _, trivial⟩⟩⟩⟩⟩⟩, (.refl _)⟩
     ·refine s_lit (s := 21) (b := false) rfl (bf c374) <| s_off rfl rfl <| s_off rfl rfl <| s_off rfl rfl <| s_off rfl rfl <| s_off rfl rfl <| s_off rfl rfl <| s_off rfl rfl <| s_off rfl rfl <| s_off rfl rfl <| s_on rfl <| s_q (.bool false) rfl trivial rfl <| s_q (.bool false) rfl trivial rfl <| s_mov (.bool false) rfl <| s_on rfl <| s_q (.ptr 0 0 1) rfl trivial rfl <| s_on rfl <| s_q (.lst 1 (x_354.Queue.map encI)) rfl nle rfl <| s_on rfl <| s_dof (o_len (enc := encI) rfl) fun hl382 => s_onl rfl <| ?_
      obtain ⟨r_383, er384, hb2⟩ := ob hb2
      refine s_dol (o_call (w_impl_within _ _ _ _ er384) rfl (.refl _) rfl) a_same trivial <| s_on rfl <| s_q (.bool (!r_383)) rfl trivial rfl <| s_q (.bool (!r_383)) rfl trivial rfl <| w_done <| ?_; obtain rfl := os hb2; exact ⟨[], [0], _, _, rfl, rfl, ⟨.refl _, ⟨.refl _, ⟨.refl _, ⟨.refl _, ⟨.refl _, ⟨.refl _, trivial⟩⟩⟩⟩⟩⟩, (.refl _)⟩
   ·rcases oi hc1 with ⟨c385, hc1⟩ | ⟨c385, hc1⟩
    ·refine w_condt rfl c385 <| awp_seq <| w_reg <| s_mov (.bool false) rfl <| w_done <| k_seq <| w_ret <| ?_; obtain rfl := os hc1; obtain rfl := os hf; exact r_flat ⟨trivial, trivial⟩ rfl (.refl _)
    ·refine w_condf rfl (bf c385) <| w_skip <| k_seq <| awp_seq <| w_reg <| s_q (.ptr 0 0 1) rfl trivial rfl <| s_q (.lst 1 (x_354.Queue.map encI)) rfl nle rfl <| s_dof (o_len (enc := encI) rfl) fun hl386 => s_mov (.int .i64 0) rfl <| w_done <| k_seq <| ?_
     obtain ⟨p443, hb2, hc1⟩ := ob hc1
     refine awp_cutxb (X := {q : Unit // p443 = .go q}) (fun q => ([(0, (.lst 2 (list_1.map encGLock))), (7, (.lst 2 (list_1.map encGLock))), (8, (.int .i64 (list_1.length : Int))), (9, (.int .i64 (s9_232 : Int)))], [])) ?_ ?_
     ·refine awp_loop (X := {q : Nat // impl_LocksOK_L2 x_354 (x_354.Queue.drop q) q = some p443}) (fun q => ([(0, (.lst 2 (list_1.map encGLock))), (4, (.ptr 0 0 0)), (7, (.lst 2 (list_1.map encGLock))), (8, (.int .i64 (list_1.length : Int))), (9, (.int .i64 (s9_232 : Int))), (41, (.lst 1 (x_354.Queue.map encI))), (42, (.int .i64 (x_354.Queue.length : Int))), (43, (.int .i64 (q.1 : Int)))], [.box 2 (.agg [(.str x_354.Name), (.lst 1 (x_354.Queue.map encI))])])) (fun q => x_354.Queue.length - q.1) ⟨0, hb2⟩ ⟨[], [0], _, _, rfl, rfl, ⟨.refl _, ⟨.refl _, ⟨.refl _, ⟨.refl _, ⟨.refl _, ⟨.refl _, ⟨.refl _, ⟨.refl _, trivial⟩⟩⟩⟩⟩⟩⟩⟩, (.refl _)⟩ ?_
      rintro ⟨s43_424, hc2⟩
      have hc2 : impl_LocksOK_L2 x_354 (x_354.Queue.drop s43_424) s43_424 = some p443 := hc2
      refine (show awp Try.prog false 0 _ (ofL [(0, (.lst 2 (list_1.map encGLock))), (4, (.ptr 0 0 0)), (7, (.lst 2 (list_1.map encGLock))), (8, (.int .i64 (list_1.length : Int))), (9, (.int .i64 (s9_232 : Int))), (41, (.lst 1 (x_354.Queue.map encI))), (42, (.int .i64 (x_354.Queue.length : Int))), (43, (.int .i64 (s43_424 : Int)))]) [.box 2 (.agg [(.str x_354.Name), (.lst 1 (x_354.Queue.map encI))])] _ from ?_)
      rcases dropc x_354.Queue s43_424 with ⟨hie446, hd449⟩ | ⟨hlt444, x_450, hx445, hd449⟩
      ·rw [hd449, impl_LocksOK_L2.eq_1] at hc2
       have hq448 := dlf hie446
       refine awp_seq <| w_reg <| s_q (.bool (decide ((s43_424 : Int) < (x_354.Queue.length : Int)))) rfl rfl rfl <| w_done <| k_seq <| awp_seq <| w_condf rfl hq448 <| w_exit <| k_seqx <| k_loopx <| k_blkx <| ?_; refine k_blk ?_; obtain rfl := os hc2; exact k_cutn ⟨_, rfl⟩ ⟨[], [], _, _, rfl, rfl, ⟨.refl _, ⟨.refl _, ⟨.refl _, ⟨.refl _, trivial⟩⟩⟩⟩, (.refl _)⟩
      ·rw [hd449, impl_LocksOK_L2.eq_2] at hc2
       have hq448 := dlt hlt444
       refine awp_seq <| w_reg <| s_q (.bool (decide ((s43_424 : Int) < (x_354.Queue.length : Int)))) rfl rfl rfl <| w_done <| k_seq <| awp_seq <| w_condt rfl hq448 <| w_skip <| k_seq <| awp_seq <| w_blk <| awp_seq <| w_reg <| s_mov (.int .i64 (s43_424 : Int)) rfl <| s_do (o_iaddrn (enc := encI) rfl rfl hx445) <| s_q (.int .i64 x_450) rfl ⟨rfl, rfl⟩ rfl <| s_mov (.int .i64 (s43_424 : Int)) rfl <| s_mov (.int .i64 x_450) rfl <| w_done <| k_seq <| awp_seq <| ?_
       obtain ⟨s58_457, hb3, hc2⟩ := ob hc2
       refine awp_cut ([(0, (.lst 2 (list_1.map encGLock))), (4, (.ptr 0 0 0)), (7, (.lst 2 (list_1.map encGLock))), (8, (.int .i64 (list_1.length : Int))), (9, (.int .i64 (s9_232 : Int))), (41, (.lst 1 (x_354.Queue.map encI))), (42, (.int .i64 (x_354.Queue.length : Int))), (43, (.int .i64 (s43_424 : Int))), (58, (.bool s58_457))], [.box 2 (.agg [(.str x_354.Name), (.lst 1 (x_354.Queue.map encI))])]) ?_ ?_
       ·refine w_reg ?_
        obtain ⟨r_459, er460, hb3⟩ := ob hb3
        rcases oi hb3 with ⟨c461, hb3⟩ | ⟨c461, hb3⟩
        ·refine s_mov (.int .i64 x_450) rfl <| s_do (o_call (w_impl_isSession _ _ er460) rfl (.refl _) rfl) <| s_q (.bool (!r_459)) rfl trivial rfl <| s_mov (.bool (!r_459)) rfl <| s_lit (s := 51) (b := true) rfl c461 <| s_off rfl rfl <| s_off rfl rfl <| s_off rfl rfl <| s_off rfl rfl <| s_off rfl rfl <| s_off rfl rfl <| s_q (.bool true) rfl trivial rfl <| w_done <| ?_; obtain rfl := os hb3; exact ⟨[], [0], _, _, rfl, rfl, ⟨.refl _, ⟨.refl _, ⟨.refl _, ⟨.refl _, ⟨.refl _, ⟨.refl _, ⟨.refl _, ⟨.refl _, ⟨.refl _, trivial⟩⟩⟩⟩⟩⟩⟩⟩⟩, (.refl _)⟩
        ·obtain ⟨g462, hb3⟩ := og hb3
         obtain ⟨r_463, er464, hb3⟩ := ob hb3
         refine s_mov (.int .i64 x_450) rfl <| s_do (o_call (w_impl_isSession _ _ er460) rfl (.refl _) rfl) <| s_q (.bool (!r_459)) rfl trivial rfl <| s_mov (.bool (!r_459)) rfl <| s_lit (s := 51) (b := false) rfl (bf c461) <| s_on rfl <| s_q (.ptr 0 0 1) rfl trivial rfl <| s_on rfl <| s_q (.lst 1 (x_354.Queue.map encI)) rfl nle rfl <| s_on rfl <| s_mov (.int .i64 (s43_424 : Int)) rfl <| s_on rfl <| s_do (o_slt (enc := encI) rfl rfl g462.1 g462.2) <| s_on rfl <| s_mov (.int .i64 x_450) rfl <| s_on rfl <| s_do (o_call (w_slices_Contains_int_int _ _ _ er464) rfl (.refl _) rfl) <| s_q (.bool r_463) rfl trivial rfl <| w_done <| ?_; obtain rfl := os hb3; exact ⟨[], [0], _, _, rfl, rfl, ⟨.refl _, ⟨.refl _, ⟨.refl _, ⟨.refl _, ⟨.refl _, ⟨.refl _, ⟨.refl _, ⟨.refl _, ⟨.refl _, trivial⟩⟩⟩⟩⟩⟩⟩⟩⟩, (.refl _)⟩
       ·rcases oi hc2 with ⟨c465, hc2⟩ | ⟨c465, hc2⟩
        ·refine w_condt rfl c465 <| awp_seq <| w_reg <| s_mov (.bool false) rfl <| w_done <| k_seq <| w_ret <| ?_; obtain rfl := os hc2; obtain rfl := os hc1; obtain rfl := os hf; exact r_flat ⟨trivial, trivial⟩ rfl (.refl _)
        ·refine w_condf rfl (bf c465) <| w_skip <| k_blk <| k_seq <| w_reg <| s_q (.int .i64 (w64 ((s43_424 : Int) + 1))) rfl rfl rfl <| s_mov (.int .i64 (w64 ((s43_424 : Int) + 1))) rfl <| w_done <| ?_; exact k_loopn ⟨(s43_424 + 1), hc2⟩ (mul hlt444) ⟨[], [0], _, _, rfl, rfl, ⟨.refl _, ⟨.refl _, ⟨.refl _, ⟨.refl _, ⟨.refl _, ⟨.refl _, ⟨.refl _, ⟨.of_eq (congrArg (AV.int _) (w64_incr hlt444 hl386)), trivial⟩⟩⟩⟩⟩⟩⟩⟩, (.refl _)⟩
     ·rintro ⟨_, rfl⟩
      refine w_reg <| s_q (.int .i64 (w64 ((s9_232 : Int) + 1))) rfl rfl rfl <| s_mov (.int .i64 (w64 ((s9_232 : Int) + 1))) rfl <| w_done <| ?_; exact k_loopn ⟨(s9_232 + 1), hc1⟩ (mul hlt348) ⟨[], [], _, _, rfl, rfl, ⟨.refl _, ⟨.refl _, ⟨.refl _, ⟨.of_eq (congrArg (AV.int _) (w64_incr hlt348 hl2)), trivial⟩⟩⟩⟩, (.refl _)⟩
 ·rintro ⟨_, rfl⟩
  refine awp_seq <| w_reg <| s_mov (.lst 2 (list_1.map encGLock)) rfl <| s_dof (o_len (enc := encGLock) rfl) fun hl466 => s_q (.bool (decide ((list_1.length : Int) ≤ 6))) rfl rfl rfl <| s_mov (.bool (decide ((list_1.length : Int) ≤ 6))) rfl <| w_done <| k_seq <| w_ret <| ?_; obtain rfl := os hf; exact r_flat ⟨trivial, trivial⟩ rfl (.refl _)

/- impl.locksCode -/
def c111 : ACode :=
 (.seq (.reg (tm 6 (.c (.int .i64 0)) .done))
 (.seq (.block 0 (.seq (.reg (tm 8 (.t 0) (tq 9 (.call 197 [(.t 8)]) (tq 10 (.not (.t 9)) (tm 11 (.t 10) (tg 12 11 false (.mov (.t 2)) (tg 13 11 false (.call 198 [(.t 12)]) (tg 14 11 false (.not (.t 13)) (tq 15 (.pick (.t 11) (.c (.bool true)) (.t 14)) (tm 7 (.t 15) .done))))))))))
 (.cut (.cond (.t 7) (.seq (.reg (tm 6 (.c (.int .i64 2)) .done))
 .ret)
 (.seq (.reg (tm 17 (.t 0) (tq 18 (.call 31 [(.t 17)]) (tq 19 (.not (.t 18)) (tm 16 (.t 19) .done)))))
 (.cond (.t 16) (.seq (.reg (tm 6 (.c (.int .i64 1)) .done))
 .ret)
 (.seq (.reg (tm 21 (.t 1) (tq 22 (.call 107 [(.t 21)]) (tq 23 (.not (.t 22)) (tm 24 (.t 23) (tg 25 24 false (.mov (.t 2)) (tg 26 24 false (.call 105 [(.t 25)]) (tg 27 24 false (.not (.t 26)) (tq 28 (.pick (.t 24) (.c (.bool true)) (.t 27)) (tm 20 (.t 28) .done))))))))))
 (.cut (.cond (.t 20) (.seq (.reg (tm 6 (.c (.int .i64 4)) .done))
 .ret)
 .skip)))))))))
 (.seq (.reg (tm 6 (.c (.int .i64 0)) .done))
 .ret)))
theorem fc111 : fcomp Try.prog Try.f111 = some (c111.erase, [.mov (.t 6)], 29) := by kernel_rfl
def impl_locksCode (list_1 : (List GLock)) (session_2 : Int) (name_3 : Str) : Option Int :=
    (((impl_isList_impl_Lock list_1).bind fun r_11 =>
    if (!r_11) then
    some true
    else
    (impl_isText name_3).bind fun r_14 =>
    some (!r_14) : Option Bool)).bind fun s7_9 =>
    if s7_9 then
    some 2
    else
    (impl_LocksOK list_1).bind fun r_17 =>
    if (!r_17) then
    some 1
    else
    (((impl_isSession session_2).bind fun r_27 =>
    if (!r_27) then
    some true
    else
    (impl_NameOK name_3).bind fun r_30 =>
    some (!r_30) : Option Bool)).bind fun s20_25 =>
    if s20_25 then
    some 4
    else
    some 0
theorem w_impl_locksCode (list_1 : (List GLock)) (session_2 : Int) (name_3 : Str) (r : Int) (hf : impl_locksCode list_1 session_2 name_3 = some r) : CallOK Try.prog 111 .flat [(.lst 2 (list_1.map encGLock)), (.int .i64 session_2), (.str name_3)] (.int .i64 r) := by
 refine CallOK.of_awp mixed Try.func111 fc111 nle ?_; rw [argT_eq]; unfold impl_locksCode at hf; unfold c111; refine (show awp Try.prog false 0 _ (ofL [(0, (.lst 2 (list_1.map encGLock))), (1, (.int .i64 session_2)), (2, (.str name_3))]) [] _ from ?_); refine awp_seq <| w_reg <| s_mov (.int .i64 0) rfl <| w_done <| k_seq <| awp_seq <| w_blk <| awp_seq <| ?_
 obtain ⟨s7_9, hb1, hf⟩ := ob hf
 refine awp_cut ([(0, (.lst 2 (list_1.map encGLock))), (1, (.int .i64 session_2)), (2, (.str name_3)), (7, (.bool s7_9))], []) ?_ ?_
 ·refine w_reg ?_
  obtain ⟨r_11, er12, hb1⟩ := ob hb1
  rcases oi hb1 with ⟨c13, hb1⟩ | ⟨c13, hb1⟩
  ·refine s_mov (.lst 2 (list_1.map encGLock)) rfl <| s_do (o_call (w_impl_isList_impl_Lock _ _ er12) rfl (.refl _) rfl) <| s_q (.bool (!r_11)) rfl trivial rfl <| s_mov (.bool (!r_11)) rfl <| s_lit (s := 11) (b := true) rfl c13 <| s_off rfl rfl <| s_off rfl rfl <| s_off rfl rfl <| s_q (.bool true) rfl trivial rfl <| s_mov (.bool true) rfl <| w_done <| ?_; obtain rfl := os hb1; exact ⟨[], [], _, _, rfl, rfl, ⟨.refl _, ⟨.refl _, ⟨.refl _, ⟨.refl _, trivial⟩⟩⟩⟩, (.refl _)⟩
  ·obtain ⟨r_14, er15, hb1⟩ := ob hb1
   refine s_mov (.lst 2 (list_1.map encGLock)) rfl <| s_do (o_call (w_impl_isList_impl_Lock _ _ er12) rfl (.refl _) rfl) <| s_q (.bool (!r_11)) rfl trivial rfl <| s_mov (.bool (!r_11)) rfl <| s_lit (s := 11) (b := false) rfl (bf c13) <| s_on rfl <| s_mov (.str name_3) rfl <| s_on rfl <| s_do (o_call (w_impl_isText _ _ er15) rfl (.refl _) rfl) <| s_on rfl <| s_q (.bool (!r_14)) rfl trivial rfl <| s_q (.bool (!r_14)) rfl trivial rfl <| s_mov (.bool (!r_14)) rfl <| w_done <| ?_; obtain rfl := os hb1; exact ⟨[], [], _, _, rfl, rfl, ⟨.refl _, ⟨.refl _, ⟨.refl _, ⟨.refl _, trivial⟩⟩⟩⟩, (.refl _)⟩
 ·rcases oi hf with ⟨c16, hf⟩ | ⟨c16, hf⟩
  ·refine w_condt rfl c16 <| awp_seq <| w_reg <| s_mov (.int .i64 2) rfl <| w_done <| k_seq <| w_ret <| ?_; obtain rfl := os hf; exact r_flat ⟨trivial, trivial⟩ rfl (.refl _)
  ·refine w_condf rfl (bf c16) <| awp_seq <| w_reg <| ?_
   obtain ⟨r_17, er18, hf⟩ := ob hf
   refine s_mov (.lst 2 (list_1.map encGLock)) rfl <| s_do (o_call (w_impl_LocksOK _ _ er18) rfl (.refl _) rfl) <| s_q (.bool (!r_17)) rfl trivial rfl <| s_mov (.bool (!r_17)) rfl <| w_done <| k_seq <| ?_
   rcases oi hf with ⟨c19, hf⟩ | ⟨c19, hf⟩
   ·refine w_condt rfl c19 <| awp_seq <| w_reg <| s_mov (.int .i64 1) rfl <| w_done <| k_seq <| w_ret <| ?_; obtain rfl := os hf; exact r_flat ⟨trivial, trivial⟩ rfl (.refl _)
   ·refine w_condf rfl (bf c19) <| awp_seq <| ?_
    obtain ⟨s20_25, hb1, hf⟩ := ob hf
    refine awp_cut ([(20, (.bool s20_25))], []) ?_ ?_
    ·refine w_reg ?_
     obtain ⟨r_27, er28, hb1⟩ := ob hb1
     rcases oi hb1 with ⟨c29, hb1⟩ | ⟨c29, hb1⟩
     ·refine s_mov (.int .i64 session_2) rfl <| s_do (o_call (w_impl_isSession _ _ er28) rfl (.refl _) rfl) <| s_q (.bool (!r_27)) rfl trivial rfl <| s_mov (.bool (!r_27)) rfl <| s_lit (s := 24) (b := true) rfl c29 <| s_off rfl rfl <| s_off rfl rfl <| s_off rfl rfl <| s_q (.bool true) rfl trivial rfl <| s_mov (.bool true) rfl <| w_done <| ?_; obtain rfl := os hb1; exact ⟨[], [], _, _, rfl, rfl, ⟨.refl _, trivial⟩, (.refl _)⟩
     ·obtain ⟨r_30, er31, hb1⟩ := ob hb1
      refine s_mov (.int .i64 session_2) rfl <| s_do (o_call (w_impl_isSession _ _ er28) rfl (.refl _) rfl) <| s_q (.bool (!r_27)) rfl trivial rfl <| s_mov (.bool (!r_27)) rfl <| s_lit (s := 24) (b := false) rfl (bf c29) <| s_on rfl <| s_mov (.str name_3) rfl <| s_on rfl <| s_do (o_call (w_impl_NameOK _ _ er31) rfl (.refl _) rfl) <| s_on rfl <| s_q (.bool (!r_30)) rfl trivial rfl <| s_q (.bool (!r_30)) rfl trivial rfl <| s_mov (.bool (!r_30)) rfl <| w_done <| ?_; obtain rfl := os hb1; exact ⟨[], [], _, _, rfl, rfl, ⟨.refl _, trivial⟩, (.refl _)⟩
    ·rcases oi hf with ⟨c32, hf⟩ | ⟨c32, hf⟩
     ·refine w_condt rfl c32 <| awp_seq <| w_reg <| s_mov (.int .i64 4) rfl <| w_done <| k_seq <| w_ret <| ?_; obtain rfl := os hf; exact r_flat ⟨trivial, trivial⟩ rfl (.refl _)
     ·refine w_condf rfl (bf c32) <| w_skip <| k_blk <| k_seq <| awp_seq <| w_reg <| s_mov (.int .i64 0) rfl <| w_done <| k_seq <| w_ret <| ?_; obtain rfl := os hf; exact r_flat ⟨trivial, trivial⟩ rfl (.refl _)

/- impl.sessionCode -/
def c97 : ACode :=
 (.seq (.reg (tm 4 (.c (.int .i64 0)) .done))
 (.seq (.reg (tm 5 (.t 0) (tm 6 (.t 1) (tq 7 (.call 111 [(.t 5), (.t 6), (.c (.str [110, 97, 109, 101]))]) (tm 4 (.t 7) .done)))))
 .ret))
theorem fc97 : fcomp Try.prog Try.f97 = some (c97.erase, [.mov (.t 4)], 8) := by kernel_rfl
def impl_sessionCode (list_1 : (List GLock)) (session_2 : Int) : Option Int :=
    (impl_locksCode list_1 session_2 [110, 97, 109, 101]).bind fun r_3 =>
    some r_3
theorem w_impl_sessionCode (list_1 : (List GLock)) (session_2 : Int) (r : Int) (hf : impl_sessionCode list_1 session_2 = some r) : CallOK Try.prog 97 .flat [(.lst 2 (list_1.map encGLock)), (.int .i64 session_2)] (.int .i64 r) := by
  refine CallOK.of_awp mixed Try.func97 fc97 nle ?_
  rw [argT_eq]
  unfold impl_sessionCode at hf
  unfold c97
  refine (show awp Try.prog false 0 _ (ofL [(0, (.lst 2 (list_1.map encGLock))), (1, (.int .i64 session_2))]) [] _ from ?_)
  refine awp_seq ?_
  refine w_reg ?_
  refine s_do (o_mov (.int .i64 0) rfl) ?_
  refine w_done ?_
  refine k_seq ?_
  refine awp_seq ?_
  refine w_reg ?_
  obtain ⟨r_3, er4, hf⟩ := ob hf
  refine s_do (o_mov (.lst 2 (list_1.map encGLock)) rfl) ?_
  refine s_do (o_mov (.int .i64 session_2) rfl) ?_
  refine s_do (o_call (w_impl_locksCode _ _ _ _ er4) rfl (.refl _) rfl) ?_
  refine s_do (o_mov (.int .i64 r_3) rfl) ?_
  refine w_done ?_
  refine k_seq ?_
  refine w_ret ?_
  obtain rfl := os hf
  exact r_flat ⟨trivial, trivial⟩ rfl (.refl _)

/- slices.Clone[[]int,int] -/
def c120 : ACode :=
 (.seq (.reg (tm 2 (.c .nil) .done))
 (.seq (.seq (.reg (tm 3 (.t 0) (tq 4 (.isnil false (.t 3)) .done)))
 (.cond (.t 4) (.seq (.reg (tm 2 (.c .nil) .done))
 .ret)
 .skip))
 (.seq (.reg (tq 5 (.bslice 1 []) (tm 6 (.t 0) (tq 7 (.append 1 8 (.t 5) (.t 6)) (tm 2 (.t 7) .done)))))
 .ret)))
theorem fc120 : fcomp Try.prog Try.f120 = some (c120.erase, [.mov (.t 2)], 8) := by kernel_rfl
def slices_Clone_int_int (s_1 : (List Int)) : Option (List Int) :=
    if ([] ++ s_1).length ≤ 2 ^ 30 then
    some ([] ++ s_1)
    else none
theorem w_slices_Clone_int_int (s_1 : (List Int)) (r : (List Int)) (hf : slices_Clone_int_int s_1 = some r) : CallOK Try.prog 120 .fresh [(.lst 1 (s_1.map encI))] (.lst 1 (r.map encI)) := by
 refine CallOK.of_awp mixed Try.func120 fc120 nle ?_; rw [argT_eq]; unfold slices_Clone_int_int at hf; unfold c120; refine (show awp Try.prog true 0 _ (ofL [(0, (.lst 1 (s_1.map encI)))]) [] _ from ?_); refine awp_seq <| w_reg <| s_mov .nil rfl <| w_done <| k_seq <| awp_seq <| awp_seq <| w_reg <| s_mov (.lst 1 (s_1.map encI)) rfl <| s_isn (l := s_1.map encI) rfl <| ?_
 intro b hb3
 rcases b with _ | _
 ·refine w_done <| k_seq <| w_condf rfl rfl <| w_skip <| k_seq <| awp_seq <| w_reg <| ?_
  obtain ⟨g2, hf⟩ := og hf
  refine s_do (o_bslice (j := 0) (as' := []) rfl (fun _ => by decide) trivial (.refl _) rfl rfl rfl) ?_; refine s_mov (.lst 1 (s_1.map encI)) rfl ?_
  refine s_do (o_appendd (j := 1) (L := (([] ++ s_1).map encI)) (len := ([] ++ s_1).length) rfl false rfl rfl (fun _ => flm (fun _ => rfl) _) (fun _ _ _ => flm (fun _ => rfl) _) (by decide) ((by simp)) (by simp <;> omega) g2 rfl rfl) ?_
  refine s_mov (.own 1 0 (([] ++ s_1).length)) rfl <| w_done <| k_seq <| w_ret <| ?_; obtain rfl := os hf; exact r_fresh ⟨trivial, trivial⟩ rfl (by decide) (.of_eq (congrArg (AV.lst _) (tk (enc := encI) ([] ++ s_1))))
 ·have he4 : s_1 = [] := mapnil (hb3 rfl)
  have hE : (if ([] ++ s_1).length ≤ 2 ^ 30 then some ([] ++ s_1) else none) = (some []) := by simp [he4]
  rw [hE] at hf; refine w_done <| k_seq <| w_condt rfl rfl <| awp_seq <| w_reg <| s_mov .nil rfl <| w_done <| k_seq <| w_ret <| ?_; obtain rfl := os hf; exact r_fresh ⟨trivial, trivial⟩ rfl (by decide) (.nil _)

end Go.R
