/- Walks. -/
import Derived.Test.YtgmkibkmcohikaaRQT
set_option linter.all false
namespace Go.R
open Go Go.Proofs
set_option linter.unusedVariables false
set_option linter.unusedSimpArgs false
set_option maxHeartbeats 8000000
/- laws.szStringS -/
def c119 : ACode :=
 (.seq (.reg (tm 4 (.c (.int .i64 0)) .done))
 (.seq (.reg (tm 6 (.t 1) (tm 7 (.t 0) (tq 8 (.len (.t 7)) (tq 9 (.bin .sub (.t 6) (.t 8)) (tm 1 (.t 9) .done))))))
 (.seq (.seq (.reg (tm 10 (.t 1) (tq 11 (.bin .lss (.t 10) (.c (.int .i64 0))) .done)))
 (.cond (.t 11) (.seq (.reg (tq 4 (.mov (.c (.int .i64 (-1)))) .done))
 .ret)
 .skip))
 (.seq (.seq (.reg (tm 5 (.c (.int .i64 0)) .done))
 (.block 0 (.loop (.seq (.seq (.reg (tm 12 (.t 5) (tm 13 (.t 0) (tq 14 (.len (.t 13)) (tq 15 (.bin .lss (.t 12) (.t 14)) .done)))))
 (.cond (.t 15) .skip
 (.exit 0)))
 (.seq (.block 1 (.seq (.reg (tm 18 (.t 1) (tm 19 (.t 0) (tm 20 (.t 5) (tq 21 (.iaddr 1 (.t 19) (.t 20)) (tq 22 (.load 1 false (.t 21)) (tq 23 (.lenS (.t 22)) (tq 24 (.bin .sub (.t 18) (.t 23)) (tm 1 (.t 24) .done)))))))))
 (.seq (.reg (tm 25 (.t 1) (tq 26 (.bin .lss (.t 25) (.c (.int .i64 0))) .done)))
 (.cond (.t 26) (.seq (.reg (tq 4 (.mov (.c (.int .i64 (-1)))) .done))
 .ret)
 .skip))))
 (.reg (tm 16 (.t 5) (tq 17 (.bin .add (.t 16) (.c (.int .i64 1))) (tm 5 (.t 17) .done)))))))))
 (.cut (.seq (.reg (tm 27 (.t 1) (tm 4 (.t 27) .done)))
 .ret))))))
theorem fc119 : fcomp Try.prog Try.f119 = some (c119.erase, [.mov (.t 4)], 28) := by kernel_rfl
def laws_szStringS_L1  : List Str → Int → Option (Fl Int Int)
  | [], left_19 =>
    some (.go left_19)
  | x_36 :: xs, left_19 =>
    if (decide (w64 (left_19 - (x_36.length : Int)) < 0)) then
    some (.ret (-1))
    else
    laws_szStringS_L1 xs (w64 (left_19 - (x_36.length : Int))) 

def laws_szStringS (a_1 : (List Str)) (left_2 : Int) : Option Int :=
    if (decide (w64 (left_2 - (a_1.length : Int)) < 0)) then
    some (-1)
    else
    (laws_szStringS_L1 a_1 (w64 (left_2 - (a_1.length : Int)))).bind fun q => (match q with
    | .ret r => some r
    | .go left_28 =>
    some left_28)
theorem w_laws_szStringS (a_1 : (List Str)) (left_2 : Int) (r : Int) (hf : laws_szStringS a_1 left_2 = some r) : CallOK Try.prog 119 .flat [(.lst 1 (a_1.map AV.str)), (.int .i64 left_2)] (.int .i64 r) := by
 refine CallOK.of_awp mixed Try.func119 fc119 nle ?_; rw [argT_eq]; unfold laws_szStringS at hf; unfold c119; refine (show awp Try.prog false 0 _ (ofL [(0, (.lst 1 (a_1.map AV.str))), (1, (.int .i64 left_2))]) [] _ from ?_); refine awp_seq <| w_reg <| s_mov (.int .i64 0) rfl <| w_done <| k_seq <| awp_seq <| w_reg <| s_mov (.int .i64 left_2) rfl <| s_mov (.lst 1 (a_1.map AV.str)) rfl <| s_dof (o_len (enc := AV.str) rfl) fun hl3 => s_q (.int .i64 (w64 (left_2 - (a_1.length : Int)))) rfl rfl rfl <| s_mov (.int .i64 (w64 (left_2 - (a_1.length : Int)))) rfl <| w_done <| k_seq <| awp_seq <| awp_seq <| w_reg <| s_mov (.int .i64 (w64 (left_2 - (a_1.length : Int)))) rfl <| s_q (.bool (decide (w64 (left_2 - (a_1.length : Int)) < 0))) rfl rfl rfl <| ?_
 refine w_done <| k_seq <| ?_
 rcases oi hf with ⟨c4, hf⟩ | ⟨c4, hf⟩
 ·refine w_condt rfl c4 <| awp_seq <| w_reg <| s_mov (.int .i64 (-1)) rfl <| w_done <| k_seq <| w_ret <| ?_; obtain rfl := os hf; exact r_flat ⟨trivial, trivial⟩ rfl (.refl _)
 ·refine w_condf rfl (bf c4) <| w_skip <| k_seq <| awp_seq <| awp_seq <| w_reg <| s_mov (.int .i64 0) rfl <| w_done <| k_seq <| ?_
  obtain ⟨p29, hb1, hf⟩ := ob hf
  refine awp_cutx (X := {q : Int // p29 = .go q}) (fun q => ([(1, (.int .i64 q.1))], [])) ?_ ?_
  ·refine awp_loop (X := {q : (Int × Nat) // laws_szStringS_L1 (a_1.drop q.2) q.1 = some p29}) (fun q => ([(0, (.lst 1 (a_1.map AV.str))), (1, (.int .i64 q.1.1)), (5, (.int .i64 (q.1.2 : Int)))], [])) (fun q => a_1.length - q.1.2) ⟨(w64 (left_2 - (a_1.length : Int)), 0), hb1⟩ ⟨[], [], _, _, rfl, rfl, ⟨.refl _, ⟨.refl _, ⟨.refl _, trivial⟩⟩⟩, (.refl _)⟩ ?_
   rintro ⟨⟨left_19, i_20⟩, hc1⟩
   have hc1 : laws_szStringS_L1 (a_1.drop i_20) left_19 = some p29 := hc1
   refine (show awp Try.prog false 0 _ (ofL [(0, (.lst 1 (a_1.map AV.str))), (1, (.int .i64 left_19)), (5, (.int .i64 (i_20 : Int)))]) [] _ from ?_)
   rcases dropc a_1 i_20 with ⟨hie32, hd35⟩ | ⟨hlt30, x_36, hx31, hd35⟩
   ·rw [hd35, laws_szStringS_L1.eq_1] at hc1
    have hq34 := dlf hie32
    refine awp_seq <| awp_seq <| w_reg <| s_mov (.int .i64 (i_20 : Int)) rfl <| s_mov (.lst 1 (a_1.map AV.str)) rfl <| s_dof (o_len (enc := AV.str) rfl) fun hl37 => s_q (.bool (decide ((i_20 : Int) < (a_1.length : Int)))) rfl rfl rfl <| w_done <| k_seq <| w_condf rfl hq34 <| w_exit <| k_seqx <| k_loopx <| k_blkx <| ?_; obtain rfl := os hc1; exact k_cutn ⟨_, rfl⟩ ⟨[], [], _, _, rfl, rfl, ⟨.refl _, trivial⟩, (.refl _)⟩
   ·rw [hd35, laws_szStringS_L1.eq_2] at hc1
    have hq34 := dlt hlt30
    refine awp_seq <| awp_seq <| w_reg <| s_mov (.int .i64 (i_20 : Int)) rfl <| s_mov (.lst 1 (a_1.map AV.str)) rfl <| s_dof (o_len (enc := AV.str) rfl) fun hl38 => s_q (.bool (decide ((i_20 : Int) < (a_1.length : Int)))) rfl rfl rfl <| w_done <| k_seq <| w_condt rfl hq34 <| w_skip <| k_seq <| awp_seq <| w_blk <| awp_seq <| w_reg <| s_mov (.int .i64 left_19) rfl <| s_mov (.lst 1 (a_1.map AV.str)) rfl <| s_mov (.int .i64 (i_20 : Int)) rfl <| s_do (o_iaddrn (enc := AV.str) rfl rfl hx31) <| s_q (.str x_36) rfl ⟨rfl, rfl⟩ rfl <| s_dof (o_lenS rfl) fun hl39 => s_q (.int .i64 (w64 (left_19 - (x_36.length : Int)))) rfl rfl rfl <| s_mov (.int .i64 (w64 (left_19 - (x_36.length : Int)))) rfl <| w_done <| k_seq <| ?_
    refine awp_seq <| w_reg <| s_mov (.int .i64 (w64 (left_19 - (x_36.length : Int)))) rfl <| s_q (.bool (decide (w64 (left_19 - (x_36.length : Int)) < 0))) rfl rfl rfl <| w_done <| k_seq <| ?_
    rcases oi hc1 with ⟨c40, hc1⟩ | ⟨c40, hc1⟩
    ·refine w_condt rfl c40 <| awp_seq <| w_reg <| s_mov (.int .i64 (-1)) rfl <| w_done <| k_seq <| w_ret <| ?_; obtain rfl := os hc1; obtain rfl := os hf; exact r_flat ⟨trivial, trivial⟩ rfl (.refl _)
    ·refine w_condf rfl (bf c40) <| w_skip <| k_blk <| k_seq <| w_reg <| s_mov (.int .i64 (i_20 : Int)) rfl <| s_q (.int .i64 (w64 ((i_20 : Int) + 1))) rfl rfl rfl <| s_mov (.int .i64 (w64 ((i_20 : Int) + 1))) rfl <| w_done <| ?_; exact k_loopn ⟨(w64 (left_19 - (x_36.length : Int)), (i_20 + 1)), hc1⟩ (mul hlt30) ⟨[], [], _, _, rfl, rfl, ⟨.refl _, ⟨.refl _, ⟨.of_eq (congrArg (AV.int _) (w64_incr hlt30 hl38)), trivial⟩⟩⟩, (.refl _)⟩
  ·rintro ⟨left_28, rfl⟩
   refine awp_seq <| w_reg <| s_mov (.int .i64 left_28) rfl <| s_mov (.int .i64 left_28) rfl <| w_done <| k_seq <| w_ret <| ?_; obtain rfl := os hf; exact r_flat ⟨trivial, trivial⟩ rfl (.refl _)

/- laws.szJsonS -/
def c120 : ACode :=
 (.seq (.reg (tm 4 (.c (.int .i64 0)) .done))
 (.seq (.reg (tm 6 (.t 1) (tm 7 (.t 0) (tq 8 (.len (.t 7)) (tq 9 (.bin .sub (.t 6) (.t 8)) (tm 1 (.t 9) .done))))))
 (.seq (.seq (.reg (tm 10 (.t 1) (tq 11 (.bin .lss (.t 10) (.c (.int .i64 0))) .done)))
 (.cond (.t 11) (.seq (.reg (tq 4 (.mov (.c (.int .i64 (-1)))) .done))
 .ret)
 .skip))
 (.seq (.seq (.reg (tm 5 (.c (.int .i64 0)) .done))
 (.block 0 (.loop (.seq (.seq (.reg (tm 12 (.t 5) (tm 13 (.t 0) (tq 14 (.len (.t 13)) (tq 15 (.bin .lss (.t 12) (.t 14)) .done)))))
 (.cond (.t 15) .skip
 (.exit 0)))
 (.seq (.block 1 (.seq (.reg (tm 18 (.t 0) (tm 19 (.t 5) (tq 20 (.iaddr 5 (.t 18) (.t 19)) (tq 21 (.load 5 true (.t 20)) (tm 22 (.t 1) (tq 23 (.call 47 [(.t 21), (.t 22)]) (tm 1 (.t 23) .done))))))))
 (.seq (.reg (tm 24 (.t 1) (tq 25 (.bin .lss (.t 24) (.c (.int .i64 0))) .done)))
 (.cond (.t 25) (.seq (.reg (tq 4 (.mov (.c (.int .i64 (-1)))) .done))
 .ret)
 .skip))))
 (.reg (tm 16 (.t 5) (tq 17 (.bin .add (.t 16) (.c (.int .i64 1))) (tm 5 (.t 17) .done)))))))))
 (.cut (.seq (.reg (tm 26 (.t 1) (tm 4 (.t 26) .done)))
 .ret))))))
theorem fc120 : fcomp Try.prog Try.f120 = some (c120.erase, [.mov (.t 4)], 27) := by kernel_rfl
def laws_szJsonS_L1 (rec : (GJson → Int → Option Int)) : List GJson → Int → Option (Fl Int Int)
  | [], left_21 =>
    some (.go left_21)
  | x_39 :: xs, left_21 =>
    (rec x_39 left_21).bind fun r_42 =>
    if (decide (r_42 < 0)) then
    some (.ret (-1))
    else
    laws_szJsonS_L1 rec xs r_42 

def laws_szJsonS (rec : (GJson → Int → Option Int)) (a_1 : (List GJson)) (left_2 : Int) : Option Int :=
    if (decide (w64 (left_2 - (a_1.length : Int)) < 0)) then
    some (-1)
    else
    (laws_szJsonS_L1 rec a_1 (w64 (left_2 - (a_1.length : Int)))).bind fun q => (match q with
    | .ret r => some r
    | .go left_31 =>
    some left_31)
theorem w_laws_szJsonS (rec : (GJson → Int → Option Int)) (hrec : ∀ a0 a1 r, rec a0 a1 = some r → CallOK Try.prog 47 .flat [(encGJson a0), (.int .i64 a1)] (.int .i64 r)) (a_1 : (List GJson)) (left_2 : Int) (r : Int) (hf : laws_szJsonS rec a_1 left_2 = some r) : CallOK Try.prog 120 .flat [(.lst 5 (a_1.map encGJson)), (.int .i64 left_2)] (.int .i64 r) := by
 refine CallOK.of_awp mixed Try.func120 fc120 nle ?_; rw [argT_eq]; unfold laws_szJsonS at hf; unfold c120; refine (show awp Try.prog false 0 _ (ofL [(0, (.lst 5 (a_1.map encGJson))), (1, (.int .i64 left_2))]) [] _ from ?_); refine awp_seq <| w_reg <| s_mov (.int .i64 0) rfl <| w_done <| k_seq <| awp_seq <| w_reg <| s_mov (.int .i64 left_2) rfl <| s_mov (.lst 5 (a_1.map encGJson)) rfl <| s_dof (o_len (enc := encGJson) rfl) fun hl3 => s_q (.int .i64 (w64 (left_2 - (a_1.length : Int)))) rfl rfl rfl <| s_mov (.int .i64 (w64 (left_2 - (a_1.length : Int)))) rfl <| w_done <| k_seq <| awp_seq <| awp_seq <| w_reg <| s_mov (.int .i64 (w64 (left_2 - (a_1.length : Int)))) rfl <| s_q (.bool (decide (w64 (left_2 - (a_1.length : Int)) < 0))) rfl rfl rfl <| ?_
 refine w_done <| k_seq <| ?_
 rcases oi hf with ⟨c4, hf⟩ | ⟨c4, hf⟩
 ·refine w_condt rfl c4 <| awp_seq <| w_reg <| s_mov (.int .i64 (-1)) rfl <| w_done <| k_seq <| w_ret <| ?_; obtain rfl := os hf; exact r_flat ⟨trivial, trivial⟩ rfl (.refl _)
 ·refine w_condf rfl (bf c4) <| w_skip <| k_seq <| awp_seq <| awp_seq <| w_reg <| s_mov (.int .i64 0) rfl <| w_done <| k_seq <| ?_
  obtain ⟨p32, hb1, hf⟩ := ob hf
  refine awp_cutx (X := {q : Int // p32 = .go q}) (fun q => ([(1, (.int .i64 q.1))], [])) ?_ ?_
  ·refine awp_loop (X := {q : (Int × Nat) // laws_szJsonS_L1 rec (a_1.drop q.2) q.1 = some p32}) (fun q => ([(0, (.lst 5 (a_1.map encGJson))), (1, (.int .i64 q.1.1)), (5, (.int .i64 (q.1.2 : Int)))], [])) (fun q => a_1.length - q.1.2) ⟨(w64 (left_2 - (a_1.length : Int)), 0), hb1⟩ ⟨[], [], _, _, rfl, rfl, ⟨.refl _, ⟨.refl _, ⟨.refl _, trivial⟩⟩⟩, (.refl _)⟩ ?_
   rintro ⟨⟨left_21, i_22⟩, hc1⟩
   have hc1 : laws_szJsonS_L1 rec (a_1.drop i_22) left_21 = some p32 := hc1
   refine (show awp Try.prog false 0 _ (ofL [(0, (.lst 5 (a_1.map encGJson))), (1, (.int .i64 left_21)), (5, (.int .i64 (i_22 : Int)))]) [] _ from ?_)
   rcases dropc a_1 i_22 with ⟨hie35, hd38⟩ | ⟨hlt33, x_39, hx34, hd38⟩
   ·rw [hd38, laws_szJsonS_L1.eq_1] at hc1
    have hq37 := dlf hie35
    refine awp_seq <| awp_seq <| w_reg <| s_mov (.int .i64 (i_22 : Int)) rfl <| s_mov (.lst 5 (a_1.map encGJson)) rfl <| s_dof (o_len (enc := encGJson) rfl) fun hl40 => s_q (.bool (decide ((i_22 : Int) < (a_1.length : Int)))) rfl rfl rfl <| w_done <| k_seq <| w_condf rfl hq37 <| w_exit <| k_seqx <| k_loopx <| k_blkx <| ?_; obtain rfl := os hc1; exact k_cutn ⟨_, rfl⟩ ⟨[], [], _, _, rfl, rfl, ⟨.refl _, trivial⟩, (.refl _)⟩
   ·rw [hd38, laws_szJsonS_L1.eq_2] at hc1
    have hq37 := dlt hlt33
    refine awp_seq <| awp_seq <| w_reg <| s_mov (.int .i64 (i_22 : Int)) rfl <| s_mov (.lst 5 (a_1.map encGJson)) rfl <| s_dof (o_len (enc := encGJson) rfl) fun hl41 => s_q (.bool (decide ((i_22 : Int) < (a_1.length : Int)))) rfl rfl rfl <| w_done <| k_seq <| w_condt rfl hq37 <| w_skip <| k_seq <| awp_seq <| w_blk <| awp_seq <| w_reg <| ?_
    obtain ⟨r_42, er43, hc1⟩ := ob hc1
    refine s_mov (.lst 5 (a_1.map encGJson)) rfl <| s_mov (.int .i64 (i_22 : Int)) rfl <| s_do (o_iaddrn (enc := encGJson) rfl rfl hx34) <| s_do (o_loadeq (v := (.agg [(.int .i64 x_39.Kind), (.int .i64 x_39.N), (.str x_39.T), (.lst 1 (x_39.Keys.map AV.str)), (.lst 5 (x_39.Items.map encGJson))])) rfl (encGJson_eq _) nle rfl) <| s_mov (.int .i64 left_21) rfl <| s_do (o_call (hrec _ _ _ er43) rfl (.cons (.of_eq (encGJson_eq x_39).symm) (.cons (.refl _) .nil)) rfl) <| s_mov (.int .i64 r_42) rfl <| w_done <| k_seq <| awp_seq <| w_reg <| s_mov (.int .i64 r_42) rfl <| s_q (.bool (decide (r_42 < 0))) rfl rfl rfl <| w_done <| k_seq <| ?_
    rcases oi hc1 with ⟨c44, hc1⟩ | ⟨c44, hc1⟩
    ·refine w_condt rfl c44 <| awp_seq <| w_reg <| s_mov (.int .i64 (-1)) rfl <| w_done <| k_seq <| w_ret <| ?_; obtain rfl := os hc1; obtain rfl := os hf; exact r_flat ⟨trivial, trivial⟩ rfl (.refl _)
    ·refine w_condf rfl (bf c44) <| w_skip <| k_blk <| k_seq <| w_reg <| s_mov (.int .i64 (i_22 : Int)) rfl <| s_q (.int .i64 (w64 ((i_22 : Int) + 1))) rfl rfl rfl <| s_mov (.int .i64 (w64 ((i_22 : Int) + 1))) rfl <| w_done <| ?_; exact k_loopn ⟨(r_42, (i_22 + 1)), hc1⟩ (mul hlt33) ⟨[], [], _, _, rfl, rfl, ⟨.refl _, ⟨.refl _, ⟨.of_eq (congrArg (AV.int _) (w64_incr hlt33 hl41)), trivial⟩⟩⟩, (.refl _)⟩
  ·rintro ⟨left_31, rfl⟩
   refine awp_seq <| w_reg <| s_mov (.int .i64 left_31) rfl <| s_mov (.int .i64 left_31) rfl <| w_done <| k_seq <| w_ret <| ?_; obtain rfl := os hf; exact r_flat ⟨trivial, trivial⟩ rfl (.refl _)

/- laws.szJson -/
def c47 : ACode :=
 (.seq (.reg (tq 2 (.box 5 (.t 0)) (tm 4 (.c (.int .i64 0)) .done)))
 (.seq (.reg (tm 5 (.t 1) (tq 6 (.faddr 2 (.t 2)) (tq 7 (.load 1 false (.t 6)) (tq 8 (.lenS (.t 7)) (tq 9 (.bin .sub (.t 5) (.t 8)) (tm 1 (.t 9) .done)))))))
 (.seq (.seq (.reg (tm 10 (.t 1) (tq 11 (.bin .lss (.t 10) (.c (.int .i64 0))) .done)))
 (.cond (.t 11) (.seq (.reg (tq 4 (.mov (.c (.int .i64 (-1)))) .done))
 .ret)
 .skip))
 (.seq (.reg (tq 12 (.faddr 3 (.t 2)) (tq 13 (.load 1 false (.t 12)) (tm 14 (.t 1) (tq 15 (.call 119 [(.t 13), (.t 14)]) (tm 1 (.t 15) .done))))))
 (.seq (.seq (.reg (tm 16 (.t 1) (tq 17 (.bin .lss (.t 16) (.c (.int .i64 0))) .done)))
 (.cond (.t 17) (.seq (.reg (tq 4 (.mov (.c (.int .i64 (-1)))) .done))
 .ret)
 .skip))
 (.seq (.reg (tq 18 (.faddr 4 (.t 2)) (tq 19 (.load 1 false (.t 18)) (tm 20 (.t 1) (tq 21 (.call 120 [(.t 19), (.t 20)]) (tm 1 (.t 21) .done))))))
 (.seq (.seq (.reg (tm 22 (.t 1) (tq 23 (.bin .lss (.t 22) (.c (.int .i64 0))) .done)))
 (.cond (.t 23) (.seq (.reg (tq 4 (.mov (.c (.int .i64 (-1)))) .done))
 .ret)
 .skip))
 (.seq (.reg (tm 24 (.t 1) (tm 4 (.t 24) .done)))
 .ret))))))))
theorem fc47 : fcomp Try.prog Try.f47 = some (c47.erase, [.mov (.t 4)], 25) := by kernel_rfl
def laws_szJson_B (rec : (GJson → Int → Option Int)) (a_1 : GJson) (left_2 : Int) : Option Int :=
    if (decide (w64 (left_2 - (a_1.T.length : Int)) < 0)) then
    some (-1)
    else
    (laws_szStringS a_1.Keys (w64 (left_2 - (a_1.T.length : Int)))).bind fun r_5 =>
    if (decide (r_5 < 0)) then
    some (-1)
    else
    (laws_szJsonS rec a_1.Items r_5).bind fun r_8 =>
    if (decide (r_8 < 0)) then
    some (-1)
    else
    some r_8
theorem w_laws_szJson_B (rec : (GJson → Int → Option Int)) (hrec : ∀ a0 a1 r, rec a0 a1 = some r → CallOK Try.prog 47 .flat [(encGJson a0), (.int .i64 a1)] (.int .i64 r)) (a_1 : GJson) (left_2 : Int) (r : Int) (hf : laws_szJson_B rec a_1 left_2 = some r) : CallOK Try.prog 47 .flat [(encGJson a_1), (.int .i64 left_2)] (.int .i64 r) := by
 refine CallOK.of_awp mixed Try.func47 fc47 nle ?_; rw [argT_eq]; rw [encGJson_eq a_1]; unfold laws_szJson_B at hf; unfold c47; refine (show awp Try.prog false 0 _ (ofL [(0, (.agg [(.int .i64 a_1.Kind), (.int .i64 a_1.N), (.str a_1.T), (.lst 1 (a_1.Keys.map AV.str)), (.lst 5 (a_1.Items.map encGJson))])), (1, (.int .i64 left_2))]) [] _ from ?_); refine awp_seq <| w_reg <| s_do (o_box (j := 0) (c := (.agg [(.int .i64 a_1.Kind), (.int .i64 a_1.N), (.str a_1.T), (.lst 1 (a_1.Keys.map AV.str)), (.lst 5 (a_1.Items.map encGJson))])) rfl trivial rfl rfl) <| s_mov (.int .i64 0) rfl <| w_done <| k_seq <| awp_seq <| w_reg <| s_mov (.int .i64 left_2) rfl <| s_q (.ptr 0 0 2) rfl trivial rfl <| s_q (.str a_1.T) rfl nle rfl <| s_dof (o_lenS rfl) fun hl3 => ?_
 refine s_q (.int .i64 (w64 (left_2 - (a_1.T.length : Int)))) rfl rfl rfl <| s_mov (.int .i64 (w64 (left_2 - (a_1.T.length : Int)))) rfl <| w_done <| k_seq <| awp_seq <| awp_seq <| w_reg <| s_mov (.int .i64 (w64 (left_2 - (a_1.T.length : Int)))) rfl <| s_q (.bool (decide (w64 (left_2 - (a_1.T.length : Int)) < 0))) rfl rfl rfl <| w_done <| k_seq <| ?_
 rcases oi hf with ⟨c4, hf⟩ | ⟨c4, hf⟩
 ·refine w_condt rfl c4 <| awp_seq <| w_reg <| s_mov (.int .i64 (-1)) rfl <| w_done <| k_seq <| w_ret <| ?_; obtain rfl := os hf; exact r_flat ⟨trivial, trivial⟩ rfl (.refl _)
 ·refine w_condf rfl (bf c4) <| w_skip <| k_seq <| awp_seq <| w_reg <| ?_
  obtain ⟨r_5, er6, hf⟩ := ob hf
  refine s_q (.ptr 0 0 3) rfl trivial rfl <| s_q (.lst 1 (a_1.Keys.map AV.str)) rfl nle rfl <| s_mov (.int .i64 (w64 (left_2 - (a_1.T.length : Int)))) rfl <| s_do (o_call (w_laws_szStringS _ _ _ er6) rfl (.refl _) rfl) <| s_mov (.int .i64 r_5) rfl <| w_done <| k_seq <| awp_seq <| awp_seq <| w_reg <| s_mov (.int .i64 r_5) rfl <| s_q (.bool (decide (r_5 < 0))) rfl rfl rfl <| w_done <| k_seq <| ?_
  rcases oi hf with ⟨c7, hf⟩ | ⟨c7, hf⟩
  ·refine w_condt rfl c7 <| awp_seq <| w_reg <| s_mov (.int .i64 (-1)) rfl <| w_done <| k_seq <| w_ret <| ?_; obtain rfl := os hf; exact r_flat ⟨trivial, trivial⟩ rfl (.refl _)
  ·refine w_condf rfl (bf c7) <| w_skip <| k_seq <| awp_seq <| w_reg <| ?_
   obtain ⟨r_8, er9, hf⟩ := ob hf
   refine s_q (.ptr 0 0 4) rfl trivial rfl <| s_q (.lst 5 (a_1.Items.map encGJson)) rfl nle rfl <| s_mov (.int .i64 r_5) rfl <| s_do (o_call (w_laws_szJsonS rec hrec _ _ _ er9) rfl (.refl _) rfl) <| s_mov (.int .i64 r_8) rfl <| w_done <| k_seq <| awp_seq <| awp_seq <| w_reg <| s_mov (.int .i64 r_8) rfl <| s_q (.bool (decide (r_8 < 0))) rfl rfl rfl <| w_done <| k_seq <| ?_
   rcases oi hf with ⟨c10, hf⟩ | ⟨c10, hf⟩
   ·refine w_condt rfl c10 <| awp_seq <| w_reg <| s_mov (.int .i64 (-1)) rfl <| w_done <| k_seq <| w_ret <| ?_; obtain rfl := os hf; exact r_flat ⟨trivial, trivial⟩ rfl (.refl _)
   ·refine w_condf rfl (bf c10) <| w_skip <| k_seq <| awp_seq <| w_reg <| s_mov (.int .i64 r_8) rfl <| s_mov (.int .i64 r_8) rfl <| w_done <| k_seq <| w_ret <| ?_; obtain rfl := os hf; exact r_flat ⟨trivial, trivial⟩ rfl (.refl _)
def laws_szJson : Nat → GJson → Int → Option Int
 | 0, _, _ => none
 | k + 1, a_1, left_2 => laws_szJson_B (laws_szJson k) a_1 left_2
theorem w_laws_szJson : ∀ (k : Nat) (a_1 : GJson) (left_2 : Int) (r : Int), laws_szJson k a_1 left_2 = some r → CallOK Try.prog 47 .flat [(encGJson a_1), (.int .i64 left_2)] (.int .i64 r)
 | 0, a_1, left_2, r, h => by rw [laws_szJson.eq_1] at h; cases h
 | k + 1, a_1, left_2, r, h => by
  rw [laws_szJson.eq_2] at h; exact w_laws_szJson_B _ (w_laws_szJson k) a_1 left_2 r h

/- laws.toStringS -/
def c123 : ACode :=
 (.seq (.reg (tm 2 (.c .nil) .done))
 (.seq (.reg (tm 5 (.t 0) (tq 6 (.len (.t 5)) (tq 7 (.mkslice 1 16 (.str []) (.t 6) (.t 6)) (tm 3 (.t 7) .done)))))
 (.seq (.seq (.reg (tm 4 (.c (.int .i64 0)) .done))
 (.block 0 (.loop (.seq (.seq (.reg (tm 8 (.t 4) (tm 9 (.t 0) (tq 10 (.len (.t 9)) (tq 11 (.bin .lss (.t 8) (.t 10)) .done)))))
 (.cond (.t 11) .skip
 (.exit 0)))
 (.seq (.block 1 (.reg (tm 14 (.t 3) (tm 15 (.t 4) (tm 16 (.t 0) (tm 17 (.t 4) (tq 18 (.iaddr 1 (.t 16) (.t 17)) (tq 19 (.load 1 false (.t 18)) (tq 20 (.iaddr 1 (.t 14) (.t 15)) (.q ⟨none, none, .store 1 (.t 20) (.t 19)⟩
 .done))))))))))
 (.reg (tm 12 (.t 4) (tq 13 (.bin .add (.t 12) (.c (.int .i64 1))) (tm 4 (.t 13) .done)))))))))
 (.cut (.seq (.reg (tm 21 (.t 3) (tm 2 (.t 21) .done)))
 .ret)))))
theorem fc123 : fcomp Try.prog Try.f123 = some (c123.erase, [.mov (.t 2)], 22) := by kernel_rfl
def laws_toStringS_L1  : List Str → Nat → (List Str) → Option (List Str)
  | [], i_20, out_21 =>
    some out_21
  | x_38 :: xs, i_20, out_21 =>
    if i_20 < out_21.length then
    (out_21[i_20]?).bind fun x_42 =>
    laws_toStringS_L1 xs (i_20 + 1) (out_21.set i_20 x_38)
    else none

def laws_toStringS (a_1 : (List Str)) : Option (List Str) :=
    if (a_1.length : Int) ≤ 2 ^ 30 then
    (laws_toStringS_L1 a_1 0 (List.replicate a_1.length [])).bind fun out_30 =>
    some out_30
    else none
theorem w_laws_toStringS (a_1 : (List Str)) (r : (List Str)) (hf : laws_toStringS a_1 = some r) : CallOK Try.prog 123 .fresh [(.lst 1 (a_1.map AV.str))] (.lst 1 (r.map AV.str)) := by
 refine CallOK.of_awp mixed Try.func123 fc123 nle ?_; rw [argT_eq]; unfold laws_toStringS at hf; unfold c123; refine (show awp Try.prog true 0 _ (ofL [(0, (.lst 1 (a_1.map AV.str)))]) [] _ from ?_); refine awp_seq <| w_reg <| s_mov .nil rfl <| w_done <| k_seq <| awp_seq <| w_reg <| ?_
 obtain ⟨g3, hf⟩ := og hf
 refine s_mov (.lst 1 (a_1.map AV.str)) rfl <| s_dof (o_len (enc := AV.str) rfl) fun hl2 => s_do (o_mkslice (j := 0) (enc := AV.str) (m := a_1.length) [] (.refl _) rfl rfl (Int.le_refl _) g3 rfl) <| s_mov (.own 0 0 a_1.length) rfl <| w_done <| k_seq <| awp_seq <| awp_seq <| w_reg <| s_mov (.int .i64 0) rfl <| w_done <| k_seq <| ?_
 obtain ⟨out_30, hb1, hf⟩ := ob hf
 refine awp_cut ([(3, (.own 0 0 out_30.length))], [.row 1 (out_30.map AV.str)]) ?_ ?_
 ·refine awp_loop (X := {q : (Nat × (List Str)) // laws_toStringS_L1 (a_1.drop q.1) q.1 q.2 = some out_30}) (fun q => ([(0, (.lst 1 (a_1.map AV.str))), (3, (.own 0 0 q.1.2.length)), (4, (.int .i64 (q.1.1 : Int)))], [.row 1 (q.1.2.map AV.str)])) (fun q => a_1.length - q.1.1) ⟨(0, List.replicate a_1.length []), hb1⟩ ⟨[], [0], _, _, rfl, rfl, ⟨.refl _, ⟨.of_eq (congrArg (AV.own _ 0) (by simp)), ⟨.refl _, trivial⟩⟩⟩, (.refl _)⟩ ?_
  rintro ⟨⟨i_20, out_21⟩, hc1⟩
  have hc1 : laws_toStringS_L1 (a_1.drop i_20) i_20 out_21 = some out_30 := hc1
  refine (show awp Try.prog true 0 _ (ofL [(0, (.lst 1 (a_1.map AV.str))), (3, (.own 0 0 out_21.length)), (4, (.int .i64 (i_20 : Int)))]) [.row 1 (out_21.map AV.str)] _ from ?_)
  rcases dropc a_1 i_20 with ⟨hie34, hd37⟩ | ⟨hlt32, x_38, hx33, hd37⟩
  ·rw [hd37, laws_toStringS_L1.eq_1] at hc1
   have hq36 := dlf hie34
   refine awp_seq <| awp_seq <| w_reg <| s_mov (.int .i64 (i_20 : Int)) rfl <| s_mov (.lst 1 (a_1.map AV.str)) rfl <| s_dof (o_len (enc := AV.str) rfl) fun hl39 => s_q (.bool (decide ((i_20 : Int) < (a_1.length : Int)))) rfl rfl rfl <| w_done <| k_seq <| w_condf rfl hq36 <| w_exit <| k_seqx <| k_loopx <| k_blkx <| ?_; obtain rfl := os hc1; exact ⟨[], [0], _, _, rfl, rfl, ⟨.refl _, trivial⟩, (.refl _)⟩
  ·rw [hd37, laws_toStringS_L1.eq_2] at hc1
   have hq36 := dlt hlt32
   refine awp_seq <| awp_seq <| w_reg <| s_mov (.int .i64 (i_20 : Int)) rfl <| s_mov (.lst 1 (a_1.map AV.str)) rfl <| s_dof (o_len (enc := AV.str) rfl) fun hl40 => s_q (.bool (decide ((i_20 : Int) < (a_1.length : Int)))) rfl rfl rfl <| w_done <| k_seq <| w_condt rfl hq36 <| w_skip <| k_seq <| awp_seq <| w_blk <| w_reg <| ?_
   obtain ⟨g41, hc1⟩ := og hc1
   obtain ⟨x_42, ex43, hc1⟩ := ob hc1
   refine s_mov (.own 0 0 out_21.length) rfl <| s_mov (.int .i64 (i_20 : Int)) rfl <| s_mov (.lst 1 (a_1.map AV.str)) rfl <| s_mov (.int .i64 (i_20 : Int)) rfl <| s_do (o_iaddrn (enc := AV.str) rfl rfl hx33) <| s_q (.str x_38) rfl ⟨rfl, rfl⟩ rfl <| s_do (o_iaddrownn rfl rfl g41 rfl rfl) <| ?_; refine s_do0 (o_storerow (v' := (.str x_38)) (e' := x_38) rfl rfl ex43 rfl rfl rfl (by decide) (fun _ => by decide) ⟨rfl, rfl, rfl⟩ (.refl _) rfl) ?_; refine w_done <| k_blk <| k_seq <| w_reg <| s_mov (.int .i64 (i_20 : Int)) rfl <| s_q (.int .i64 (w64 ((i_20 : Int) + 1))) rfl rfl rfl <| s_mov (.int .i64 (w64 ((i_20 : Int) + 1))) rfl <| w_done <| ?_; exact k_loopn ⟨((i_20 + 1), out_21.set i_20 x_38), hc1⟩ (mul hlt32) ⟨[], [0], _, _, rfl, rfl, ⟨.refl _, ⟨.of_eq (congrArg (AV.own _ 0) (by simp)), ⟨.of_eq (congrArg (AV.int _) (w64_incr hlt32 hl40)), trivial⟩⟩⟩, (.refl _)⟩
 ·refine awp_seq <| w_reg <| s_mov (.own 0 0 out_30.length) rfl <| s_mov (.own 0 0 out_30.length) rfl <| w_done <| k_seq <| w_ret <| ?_; obtain rfl := os hf; exact r_fresh ⟨trivial, trivial⟩ rfl (by decide) (.of_eq (congrArg (AV.lst _) (tk (enc := AV.str) out_30)))

/- laws.toJsonS -/
def c124 : ACode :=
 (.seq (.reg (tm 2 (.c .nil) .done))
 (.seq (.reg (tm 5 (.t 0) (tq 6 (.len (.t 5)) (tq 7 (.mkslice 5 80 (.agg [(.int .i64 0), (.int .i64 0), (.str []), .nil, .nil]) (.t 6) (.t 6)) (tm 3 (.t 7) .done)))))
 (.seq (.seq (.reg (tm 4 (.c (.int .i64 0)) .done))
 (.block 0 (.loop (.seq (.seq (.reg (tm 8 (.t 4) (tm 9 (.t 0) (tq 10 (.len (.t 9)) (tq 11 (.bin .lss (.t 8) (.t 10)) .done)))))
 (.cond (.t 11) .skip
 (.exit 0)))
 (.seq (.block 1 (.reg (tm 14 (.t 3) (tm 15 (.t 4) (tm 16 (.t 0) (tm 17 (.t 4) (tq 18 (.iaddr 5 (.t 16) (.t 17)) (tq 19 (.load 5 true (.t 18)) (tq 20 (.call 49 [(.t 19)]) (tq 21 (.iaddr 5 (.t 14) (.t 15)) (.q ⟨none, none, .store 5 (.t 21) (.t 20)⟩
 .done)))))))))))
 (.reg (tm 12 (.t 4) (tq 13 (.bin .add (.t 12) (.c (.int .i64 1))) (tm 4 (.t 13) .done)))))))))
 (.cut (.seq (.reg (tm 22 (.t 3) (tm 2 (.t 22) .done)))
 .ret)))))
theorem fc124 : fcomp Try.prog Try.f124 = some (c124.erase, [.mov (.t 2)], 23) := by kernel_rfl
def laws_toJsonS_L1 (rec : (GJson → Option GJson)) : List GJson → Nat → (List GJson) → Option (List GJson)
  | [], i_24, out_25 =>
    some out_25
  | x_44 :: xs, i_24, out_25 =>
    (rec x_44).bind fun r_47 =>
    if i_24 < out_25.length then
    (out_25[i_24]?).bind fun x_50 =>
    laws_toJsonS_L1 rec xs (i_24 + 1) (out_25.set i_24 r_47)
    else none

def laws_toJsonS (rec : (GJson → Option GJson)) (a_1 : (List GJson)) : Option (List GJson) :=
    if (a_1.length : Int) ≤ 2 ^ 30 then
    (laws_toJsonS_L1 rec a_1 0 (List.replicate a_1.length (⟨0, 0, [], [], []⟩ : GJson))).bind fun out_36 =>
    some out_36
    else none
theorem w_laws_toJsonS (rec : (GJson → Option GJson)) (hrec : ∀ a0 r, rec a0 = some r → CallOK Try.prog 49 .fresh [(encGJson a0)] (encGJson r)) (a_1 : (List GJson)) (r : (List GJson)) (hf : laws_toJsonS rec a_1 = some r) : CallOK Try.prog 124 .fresh [(.lst 5 (a_1.map encGJson))] (.lst 5 (r.map encGJson)) := by
 refine CallOK.of_awp mixed Try.func124 fc124 nle ?_; rw [argT_eq]; unfold laws_toJsonS at hf; unfold c124; refine (show awp Try.prog true 0 _ (ofL [(0, (.lst 5 (a_1.map encGJson)))]) [] _ from ?_); refine awp_seq <| w_reg <| s_mov .nil rfl <| w_done <| k_seq <| awp_seq <| w_reg <| ?_
 obtain ⟨g3, hf⟩ := og hf
 refine s_mov (.lst 5 (a_1.map encGJson)) rfl <| s_dof (o_len (enc := encGJson) rfl) fun hl2 => s_do (o_mkslice (j := 0) (enc := encGJson) (m := a_1.length) (⟨0, 0, [], [], []⟩ : GJson) (leJ (x := (⟨0, 0, [], [], []⟩ : GJson)) (.agg (.cons (.refl _) (.cons (.refl _) (.cons (.refl _) (.cons (.nil _) (.cons (.nil _) .nil))))))) rfl rfl (Int.le_refl _) g3 rfl) <| s_mov (.own 0 0 a_1.length) rfl <| w_done <| k_seq <| awp_seq <| awp_seq <| w_reg <| s_mov (.int .i64 0) rfl <| w_done <| k_seq <| ?_
 obtain ⟨out_36, hb1, hf⟩ := ob hf
 refine awp_cut ([(3, (.own 0 0 out_36.length))], [.row 5 (out_36.map encGJson)]) ?_ ?_
 ·refine awp_loop (X := {q : (Nat × (List GJson)) // laws_toJsonS_L1 rec (a_1.drop q.1) q.1 q.2 = some out_36}) (fun q => ([(0, (.lst 5 (a_1.map encGJson))), (3, (.own 0 0 q.1.2.length)), (4, (.int .i64 (q.1.1 : Int)))], [.row 5 (q.1.2.map encGJson)])) (fun q => a_1.length - q.1.1) ⟨(0, List.replicate a_1.length (⟨0, 0, [], [], []⟩ : GJson)), hb1⟩ ⟨[], [0], _, _, rfl, rfl, ⟨.refl _, ⟨.of_eq (congrArg (AV.own _ 0) (by simp)), ⟨.refl _, trivial⟩⟩⟩, (.refl _)⟩ ?_
  rintro ⟨⟨i_24, out_25⟩, hc1⟩
  have hc1 : laws_toJsonS_L1 rec (a_1.drop i_24) i_24 out_25 = some out_36 := hc1
  refine (show awp Try.prog true 0 _ (ofL [(0, (.lst 5 (a_1.map encGJson))), (3, (.own 0 0 out_25.length)), (4, (.int .i64 (i_24 : Int)))]) [.row 5 (out_25.map encGJson)] _ from ?_)
  rcases dropc a_1 i_24 with ⟨hie40, hd43⟩ | ⟨hlt38, x_44, hx39, hd43⟩
  ·rw [hd43, laws_toJsonS_L1.eq_1] at hc1
   have hq42 := dlf hie40
   refine awp_seq <| awp_seq <| w_reg <| s_mov (.int .i64 (i_24 : Int)) rfl <| s_mov (.lst 5 (a_1.map encGJson)) rfl <| s_dof (o_len (enc := encGJson) rfl) fun hl45 => s_q (.bool (decide ((i_24 : Int) < (a_1.length : Int)))) rfl rfl rfl <| w_done <| k_seq <| w_condf rfl hq42 <| w_exit <| k_seqx <| k_loopx <| k_blkx <| ?_; obtain rfl := os hc1; exact ⟨[], [0], _, _, rfl, rfl, ⟨.refl _, trivial⟩, (.refl _)⟩
  ·rw [hd43, laws_toJsonS_L1.eq_2] at hc1
   have hq42 := dlt hlt38
   refine awp_seq <| awp_seq <| w_reg <| s_mov (.int .i64 (i_24 : Int)) rfl <| s_mov (.lst 5 (a_1.map encGJson)) rfl <| s_dof (o_len (enc := encGJson) rfl) fun hl46 => s_q (.bool (decide ((i_24 : Int) < (a_1.length : Int)))) rfl rfl rfl <| w_done <| k_seq <| w_condt rfl hq42 <| w_skip <| k_seq <| awp_seq <| w_blk <| w_reg <| ?_
   obtain ⟨r_47, er48, hc1⟩ := ob hc1
   obtain ⟨g49, hc1⟩ := og hc1
   obtain ⟨x_50, ex51, hc1⟩ := ob hc1
   refine s_mov (.own 0 0 out_25.length) rfl <| s_mov (.int .i64 (i_24 : Int)) rfl <| s_mov (.lst 5 (a_1.map encGJson)) rfl <| s_mov (.int .i64 (i_24 : Int)) rfl <| s_do (o_iaddrn (enc := encGJson) rfl rfl hx39) <| s_do (o_loadeq (v := (.agg [(.int .i64 x_44.Kind), (.int .i64 x_44.N), (.str x_44.T), (.lst 1 (x_44.Keys.map AV.str)), (.lst 5 (x_44.Items.map encGJson))])) rfl (encGJson_eq _) nle rfl) <| s_do (o_callf (v := (.agg [(.int .i64 r_47.Kind), (.int .i64 r_47.N), (.str r_47.T), (.own 1 0 r_47.Keys.length), (.own 2 0 r_47.Items.length)])) (h' := [.row 1 (r_47.Keys.map AV.str), .row 5 (r_47.Items.map encGJson)]) (hrec _ _ er48) rfl (.cons (.of_eq (encGJson_eq x_44).symm) .nil) (by simp only [openV, openVs, List.length_map, encGJson_eq, List.nil_append, List.append_nil, List.cons_append]; rfl)) <| ?_
   refine s_do (o_iaddrownn rfl rfl g49 rfl rfl) ?_; refine s_do0 (o_storeroweq (v' := (.agg [(.int .i64 r_47.Kind), (.int .i64 r_47.N), (.str r_47.T), (.lst 1 (r_47.Keys.map AV.str)), (.lst 5 (r_47.Items.map encGJson))])) (e' := r_47) rfl rfl ex51 (encGJson_eq _) rfl rfl (by simp only [tk, tko, List.take_length]) (by decide) (fun _ => by decide) ⟨rfl, nle⟩ (.of_eq (encGJson_eq r_47).symm) rfl) ?_; refine w_done <| k_blk <| k_seq <| w_reg <| s_mov (.int .i64 (i_24 : Int)) rfl <| s_q (.int .i64 (w64 ((i_24 : Int) + 1))) rfl rfl rfl <| s_mov (.int .i64 (w64 ((i_24 : Int) + 1))) rfl <| w_done <| ?_; exact k_loopn ⟨((i_24 + 1), out_25.set i_24 r_47), hc1⟩ (mul hlt38) ⟨[], [0], _, _, rfl, rfl, ⟨.refl _, ⟨.of_eq (congrArg (AV.own _ 0) (by simp)), ⟨.of_eq (congrArg (AV.int _) (w64_incr hlt38 hl46)), trivial⟩⟩⟩, (.refl _)⟩
 ·refine awp_seq <| w_reg <| s_mov (.own 0 0 out_36.length) rfl <| s_mov (.own 0 0 out_36.length) rfl <| w_done <| k_seq <| w_ret <| ?_; obtain rfl := os hf; exact r_fresh ⟨trivial, trivial⟩ rfl (by decide) (.of_eq (congrArg (AV.lst _) (tk (enc := encGJson) out_36)))

/- laws.toJson -/
def c49 : ACode :=
 (.seq (.reg (tq 1 (.box 5 (.t 0)) (tq 2 (.box 5 (.c (.agg [(.int .i64 0), (.int .i64 0), (.str []), .nil, .nil]))) .done)))
 (.seq (.reg (tq 3 (.box 5 (.c (.agg [(.int .i64 0), (.int .i64 0), (.str []), .nil, .nil]))) .done))
 (.seq (.reg (tq 4 (.faddr 0 (.t 1)) (tq 5 (.load 1 false (.t 4)) (tq 6 (.faddr 0 (.t 3)) (.q ⟨none, none, .store 1 (.t 6) (.t 5)⟩
 .done)))))
 (.seq (.reg (tq 7 (.faddr 1 (.t 1)) (tq 8 (.load 1 false (.t 7)) (tq 9 (.faddr 1 (.t 3)) (.q ⟨none, none, .store 1 (.t 9) (.t 8)⟩
 .done)))))
 (.seq (.reg (tq 10 (.faddr 2 (.t 1)) (tq 11 (.load 1 false (.t 10)) (tq 12 (.faddr 2 (.t 3)) (.q ⟨none, none, .store 1 (.t 12) (.t 11)⟩
 .done)))))
 (.seq (.reg (tq 13 (.faddr 3 (.t 1)) (tq 14 (.load 1 false (.t 13)) (tq 15 (.call 123 [(.t 14)]) (tq 16 (.faddr 3 (.t 3)) (.q ⟨none, none, .store 1 (.t 16) (.t 15)⟩
 .done))))))
 (.seq (.reg (tq 17 (.faddr 4 (.t 1)) (tq 18 (.load 1 false (.t 17)) (tq 19 (.call 124 [(.t 18)]) (tq 20 (.faddr 4 (.t 3)) (.q ⟨none, none, .store 1 (.t 20) (.t 19)⟩
 .done))))))
 (.seq (.reg (tq 21 (.load 5 true (.t 3)) (.q ⟨none, none, .store 5 (.t 2) (.t 21)⟩
 .done)))
 .ret))))))))
theorem fc49 : fcomp Try.prog Try.f49 = some (c49.erase, [.load 5 true (.t 2)], 22) := by kernel_rfl
def laws_toJson_B (rec : (GJson → Option GJson)) (a_1 : GJson) : Option GJson :=
    (laws_toStringS a_1.Keys).bind fun r_2 =>
    (laws_toJsonS rec a_1.Items).bind fun r_4 =>
    some (⟨a_1.Kind, a_1.N, a_1.T, r_2, r_4⟩ : GJson)
theorem w_laws_toJson_B (rec : (GJson → Option GJson)) (hrec : ∀ a0 r, rec a0 = some r → CallOK Try.prog 49 .fresh [(encGJson a0)] (encGJson r)) (a_1 : GJson) (r : GJson) (hf : laws_toJson_B rec a_1 = some r) : CallOK Try.prog 49 .fresh [(encGJson a_1)] (encGJson r) := by
 refine CallOK.of_awp mixed Try.func49 fc49 nle ?_; rw [argT_eq]; rw [encGJson_eq a_1]; unfold laws_toJson_B at hf; unfold c49; refine (show awp Try.prog true 0 _ (ofL [(0, (.agg [(.int .i64 a_1.Kind), (.int .i64 a_1.N), (.str a_1.T), (.lst 1 (a_1.Keys.map AV.str)), (.lst 5 (a_1.Items.map encGJson))]))]) [] _ from ?_); refine awp_seq <| w_reg <| s_do (o_box (j := 0) (c := (.agg [(.int .i64 a_1.Kind), (.int .i64 a_1.N), (.str a_1.T), (.lst 1 (a_1.Keys.map AV.str)), (.lst 5 (a_1.Items.map encGJson))])) rfl trivial rfl rfl) <| s_do (o_box (j := 1) (c := (.agg [(.int .i64 0), (.int .i64 0), (.str []), .nil, .nil])) rfl trivial rfl rfl) <| w_done <| k_seq <| awp_seq <| w_reg <| s_do (o_box (j := 2) (c := (.agg [(.int .i64 0), (.int .i64 0), (.str []), .nil, .nil])) rfl trivial rfl rfl) <| ?_
 refine w_done <| k_seq <| awp_seq <| w_reg <| s_q (.ptr 0 0 0) rfl trivial rfl <| s_q (.int .i64 a_1.Kind) rfl nle rfl <| s_q (.ptr 2 0 0) rfl trivial rfl <| s_do0 (o_storebox (v := (.int .i64 a_1.Kind)) (y' := (.agg [(.int .i64 a_1.Kind), (.int .i64 0), (.str []), .nil, .nil])) rfl rfl rfl trivial ⟨rfl, nle⟩ ⟨⟨rfl, trivial⟩, trivial⟩ rfl) <| w_done <| k_seq <| awp_seq <| w_reg <| s_q (.ptr 0 0 1) rfl trivial rfl <| s_q (.int .i64 a_1.N) rfl nle rfl <| s_q (.ptr 2 0 1) rfl trivial rfl <| s_do0 (o_storebox (v := (.int .i64 a_1.N)) (y' := (.agg [(.int .i64 a_1.Kind), (.int .i64 a_1.N), (.str []), .nil, .nil])) rfl rfl rfl trivial ⟨rfl, nle⟩ ⟨⟨rfl, trivial⟩, trivial⟩ rfl) <| w_done <| k_seq <| awp_seq <| ?_
 refine w_reg <| s_q (.ptr 0 0 2) rfl trivial rfl <| s_q (.str a_1.T) rfl nle rfl <| s_q (.ptr 2 0 2) rfl trivial rfl <| s_do0 (o_storebox (v := (.str a_1.T)) (y' := (.agg [(.int .i64 a_1.Kind), (.int .i64 a_1.N), (.str a_1.T), .nil, .nil])) rfl rfl rfl trivial ⟨rfl, nle⟩ ⟨⟨rfl, trivial⟩, trivial⟩ rfl) <| w_done <| k_seq <| awp_seq <| w_reg <| ?_
 obtain ⟨r_2, er3, hf⟩ := ob hf
 refine s_q (.ptr 0 0 3) rfl trivial rfl <| s_q (.lst 1 (a_1.Keys.map AV.str)) rfl nle rfl <| s_do (o_callf (v := (.own 3 0 r_2.length)) (h' := [.row 1 (r_2.map AV.str)]) (w_laws_toStringS _ _ er3) rfl (.refl _) (by simp only [openV, openVs, List.length_map, List.nil_append, List.append_nil, List.cons_append]; rfl)) <| s_q (.ptr 2 0 3) rfl trivial rfl <| s_do0 (o_storebox (v := (.own 3 0 r_2.length)) (y' := (.agg [(.int .i64 a_1.Kind), (.int .i64 a_1.N), (.str a_1.T), (.own 3 0 r_2.length), .nil])) rfl rfl rfl trivial ⟨rfl, nle⟩ ⟨⟨rfl, trivial⟩, trivial⟩ rfl) <| w_done <| k_seq <| awp_seq <| w_reg <| ?_
 obtain ⟨r_4, er5, hf⟩ := ob hf
 refine s_q (.ptr 0 0 4) rfl trivial rfl <| s_q (.lst 5 (a_1.Items.map encGJson)) rfl nle rfl <| s_do (o_callf (v := (.own 4 0 r_4.length)) (h' := [.row 5 (r_4.map encGJson)]) (w_laws_toJsonS rec hrec _ _ er5) rfl (.refl _) (by simp only [openV, openVs, List.length_map, List.nil_append, List.append_nil, List.cons_append]; rfl)) <| s_q (.ptr 2 0 4) rfl trivial rfl <| s_do0 (o_storebox (v := (.own 4 0 r_4.length)) (y' := (.agg [(.int .i64 a_1.Kind), (.int .i64 a_1.N), (.str a_1.T), (.own 3 0 r_2.length), (.own 4 0 r_4.length)])) rfl rfl rfl trivial ⟨rfl, nle⟩ ⟨⟨rfl, trivial⟩, trivial⟩ rfl) <| w_done <| k_seq <| awp_seq <| w_reg <| s_q (.agg [(.int .i64 a_1.Kind), (.int .i64 a_1.N), (.str a_1.T), (.own 3 0 r_2.length), (.own 4 0 r_4.length)]) rfl nle rfl <| ?_
 refine s_do0 (o_storebox (v := (.agg [(.int .i64 a_1.Kind), (.int .i64 a_1.N), (.str a_1.T), (.own 3 0 r_2.length), (.own 4 0 r_4.length)])) (y' := (.agg [(.int .i64 a_1.Kind), (.int .i64 a_1.N), (.str a_1.T), (.own 3 0 r_2.length), (.own 4 0 r_4.length)])) rfl rfl rfl trivial ⟨rfl, nle⟩ ⟨⟨rfl, trivial⟩, ⟨⟨rfl, trivial⟩, ⟨⟨rfl, trivial⟩, ⟨⟨rfl, trivial⟩, ⟨⟨rfl, trivial⟩, trivial⟩⟩⟩⟩⟩ rfl) <| w_done <| k_seq <| w_ret <| ?_; obtain rfl := os hf; exact r_fresh ⟨nle, trivial⟩ rfl (by decide) (leJ (x := (⟨a_1.Kind, a_1.N, a_1.T, r_2, r_4⟩ : GJson)) (.agg (.cons (.refl _) (.cons (.refl _) (.cons (.refl _) (.cons (.of_eq (congrArg (AV.lst _) (tk (enc := AV.str) r_2))) (.cons (.of_eq (congrArg (AV.lst _) (tk (enc := encGJson) r_4))) .nil)))))))
def laws_toJson : Nat → GJson → Option GJson
 | 0, _ => none
 | k + 1, a_1 => laws_toJson_B (laws_toJson k) a_1
theorem w_laws_toJson : ∀ (k : Nat) (a_1 : GJson) (r : GJson), laws_toJson k a_1 = some r → CallOK Try.prog 49 .fresh [(encGJson a_1)] (encGJson r)
 | 0, a_1, r, h => by rw [laws_toJson.eq_1] at h; cases h
 | k + 1, a_1, r, h => by
  rw [laws_toJson.eq_2] at h; exact w_laws_toJson_B _ (w_laws_toJson k) a_1 r h

/- spec.l01In -/
def c81 : ACode :=
 (.seq (.reg (tm 6 (.c (.bool false)) .done))
 (.seq (.reg (tm 7 (.t 1) (tm 8 (.t 0) (tq 9 (.bin .leq (.t 7) (.t 8)) (tm 10 (.t 9) (tg 11 10 true (.mov (.t 0)) (tg 12 10 true (.mov (.t 2)) (tg 13 10 true (.bin .leq (.t 11) (.t 12)) (tq 14 (.pick (.t 10) (.t 13) (.c (.bool false))) (tm 6 (.t 14) .done))))))))))
 .ret))
theorem fc81 : fcomp Try.prog Try.f81 = some (c81.erase, [.mov (.t 6)], 15) := by kernel_rfl
def spec_l01In (n_1 : Int) (low_2 : Int) (high_3 : Int) : Option Bool :=
    if (decide (low_2 ≤ n_1)) then
    some (decide (n_1 ≤ high_3))
    else
    some false
theorem w_spec_l01In (n_1 : Int) (low_2 : Int) (high_3 : Int) (r : Bool) (hf : spec_l01In n_1 low_2 high_3 = some r) : CallOK Try.prog 81 .flat [(.int .i64 n_1), (.int .i64 low_2), (.int .i64 high_3)] (.bool r) := by
 refine CallOK.of_awp mixed Try.func81 fc81 nle ?_; rw [argT_eq]; unfold spec_l01In at hf; unfold c81; refine (show awp Try.prog false 0 _ (ofL [(0, (.int .i64 n_1)), (1, (.int .i64 low_2)), (2, (.int .i64 high_3))]) [] _ from ?_); refine awp_seq <| w_reg <| s_mov (.bool false) rfl <| w_done <| k_seq <| awp_seq <| w_reg <| ?_
 rcases oi hf with ⟨c4, hf⟩ | ⟨c4, hf⟩
 ·refine s_mov (.int .i64 low_2) rfl <| s_mov (.int .i64 n_1) rfl <| s_q (.bool (decide (low_2 ≤ n_1))) rfl rfl rfl <| s_mov (.bool (decide (low_2 ≤ n_1))) rfl <| s_lit (s := 10) (b := true) rfl c4 <| s_on rfl <| s_mov (.int .i64 n_1) rfl <| s_on rfl <| s_mov (.int .i64 high_3) rfl <| s_on rfl <| s_q (.bool (decide (n_1 ≤ high_3))) rfl rfl rfl <| s_q (.bool (decide (n_1 ≤ high_3))) rfl trivial rfl <| s_mov (.bool (decide (n_1 ≤ high_3))) rfl <| w_done <| k_seq <| w_ret <| ?_; obtain rfl := os hf; exact r_flat ⟨trivial, trivial⟩ rfl (.refl _)
 ·refine s_mov (.int .i64 low_2) rfl <| s_mov (.int .i64 n_1) rfl <| s_q (.bool (decide (low_2 ≤ n_1))) rfl rfl rfl <| s_mov (.bool (decide (low_2 ≤ n_1))) rfl <| s_lit (s := 10) (b := false) rfl (bf c4) <| s_off rfl rfl <| s_off rfl rfl <| s_off rfl rfl <| s_q (.bool false) rfl trivial rfl <| s_mov (.bool false) rfl <| w_done <| k_seq <| w_ret <| ?_; obtain rfl := os hf; exact r_flat ⟨trivial, trivial⟩ rfl (.refl _)

/- spec.l01Text -/
def c169 : ACode :=
 (.seq (.reg (tm 2 (.c (.bool false)) .done))
 (.seq (.seq (.reg (tm 3 (.c (.int .i64 0)) .done))
 (.block 0 (.loop (.seq (.seq (.reg (tm 4 (.t 3) (tm 5 (.t 0) (tq 6 (.lenS (.t 5)) (tq 7 (.bin .lss (.t 4) (.t 6)) .done)))))
 (.cond (.t 7) .skip
 (.exit 0)))
 (.seq (.block 1 (.seq (.reg (tm 10 (.t 0) (tm 11 (.t 3) (tq 12 (.idxs (.t 10) (.t 11)) (tq 13 (.bin .lss (.t 12) (.c (.int .u8 32))) (tm 14 (.t 13) (tg 15 14 false (.mov (.t 0)) (tg 16 14 false (.mov (.t 3)) (tg 17 14 false (.idxs (.t 15) (.t 16)) (tg 18 14 false (.bin .gtr (.t 17) (.c (.int .u8 126))) (tq 19 (.pick (.t 14) (.c (.bool true)) (.t 18)) .done)))))))))))
 (.cut (.cond (.t 19) (.seq (.reg (tm 2 (.c (.bool false)) .done))
 .ret)
 .skip))))
 (.reg (tm 8 (.t 3) (tq 9 (.bin .add (.t 8) (.c (.int .i64 1))) (tm 3 (.t 9) .done)))))))))
 (.cut (.seq (.reg (tm 20 (.t 0) (tq 21 (.lenS (.t 20)) (tq 22 (.bin .leq (.t 21) (.c (.int .i64 200))) (tm 2 (.t 22) .done)))))
 .ret))))
theorem fc169 : fcomp Try.prog Try.f169 = some (c169.erase, [.mov (.t 2)], 23) := by kernel_rfl
def spec_l01Text_L1  : List UInt8 → Option (Fl Bool Unit)
  | [] =>
    some (.go ())
  | x_57 :: xs =>
    ((if (decide ((x_57.toNat : Int) < 32)) then
    some true
    else
    some (decide ((x_57.toNat : Int) > 126)) : Option Bool)).bind fun s19_61 =>
    if s19_61 then
    some (.ret false)
    else
    spec_l01Text_L1 xs 

def spec_l01Text (t_1 : Str) : Option Bool :=
    (spec_l01Text_L1 t_1 ).bind fun q => (match q with
    | .ret r => some r
    | .go _ =>
    some (decide ((t_1.length : Int) ≤ 200)))
theorem w_spec_l01Text (t_1 : Str) (r : Bool) (hf : spec_l01Text t_1 = some r) : CallOK Try.prog 169 .flat [(.str t_1)] (.bool r) := by
 refine CallOK.of_awp mixed Try.func169 fc169 nle ?_; rw [argT_eq]; unfold spec_l01Text at hf; unfold c169; refine (show awp Try.prog false 0 _ (ofL [(0, (.str t_1))]) [] _ from ?_); refine awp_seq <| w_reg <| s_mov (.bool false) rfl <| w_done <| k_seq <| awp_seq <| awp_seq <| w_reg <| s_mov (.int .i64 0) rfl <| w_done <| k_seq <| ?_
 obtain ⟨p50, hb1, hf⟩ := ob hf
 refine awp_cutx (X := {q : Unit // p50 = .go q}) (fun q => ([(0, (.str t_1))], [])) ?_ ?_
 ·refine awp_loop (X := {q : Nat // spec_l01Text_L1 (t_1.drop q)  = some p50}) (fun q => ([(0, (.str t_1)), (3, (.int .i64 (q.1 : Int)))], [])) (fun q => t_1.length - q.1) ⟨0, hb1⟩ ⟨[], [], _, _, rfl, rfl, ⟨.refl _, ⟨.refl _, trivial⟩⟩, (.refl _)⟩ ?_
  rintro ⟨i_33, hc1⟩
  have hc1 : spec_l01Text_L1 (t_1.drop i_33)  = some p50 := hc1
  refine (show awp Try.prog false 0 _ (ofL [(0, (.str t_1)), (3, (.int .i64 (i_33 : Int)))]) [] _ from ?_)
  rcases dropc t_1 i_33 with ⟨hie53, hd56⟩ | ⟨hlt51, x_57, hx52, hd56⟩
  ·rw [hd56, spec_l01Text_L1.eq_1] at hc1
   have hq55 := dlf hie53
   refine awp_seq <| awp_seq <| w_reg <| s_mov (.int .i64 (i_33 : Int)) rfl <| s_mov (.str t_1) rfl <| s_dof (o_lenS rfl) fun hl58 => s_q (.bool (decide ((i_33 : Int) < (t_1.length : Int)))) rfl rfl rfl <| w_done <| k_seq <| w_condf rfl hq55 <| w_exit <| k_seqx <| k_loopx <| k_blkx <| ?_; obtain rfl := os hc1; exact k_cutn ⟨_, rfl⟩ ⟨[], [], _, _, rfl, rfl, ⟨.refl _, trivial⟩, (.refl _)⟩
  ·rw [hd56, spec_l01Text_L1.eq_2] at hc1
   have hq55 := dlt hlt51
   refine awp_seq <| awp_seq <| w_reg <| s_mov (.int .i64 (i_33 : Int)) rfl <| s_mov (.str t_1) rfl <| s_dof (o_lenS rfl) fun hl59 => s_q (.bool (decide ((i_33 : Int) < (t_1.length : Int)))) rfl rfl rfl <| w_done <| k_seq <| w_condt rfl hq55 <| w_skip <| k_seq <| awp_seq <| w_blk <| awp_seq <| ?_
   obtain ⟨s19_61, hb2, hc1⟩ := ob hc1
   refine awp_cut ([(0, (.str t_1)), (3, (.int .i64 (i_33 : Int))), (19, (.bool s19_61))], []) ?_ ?_
   ·refine w_reg ?_
    rcases oi hb2 with ⟨c63, hb2⟩ | ⟨c63, hb2⟩
    ·refine s_mov (.str t_1) rfl <| s_mov (.int .i64 (i_33 : Int)) rfl <| s_do (o_idxsn rfl rfl hx52) <| s_q (.bool (decide ((x_57.toNat : Int) < 32))) rfl rfl rfl <| s_mov (.bool (decide ((x_57.toNat : Int) < 32))) rfl <| s_lit (s := 14) (b := true) rfl c63 <| s_off rfl rfl <| s_off rfl rfl <| s_off rfl rfl <| s_off rfl rfl <| s_q (.bool true) rfl trivial rfl <| w_done <| ?_; obtain rfl := os hb2; exact ⟨[], [], _, _, rfl, rfl, ⟨.refl _, ⟨.refl _, ⟨.refl _, trivial⟩⟩⟩, (.refl _)⟩
    ·refine s_mov (.str t_1) rfl <| s_mov (.int .i64 (i_33 : Int)) rfl <| s_do (o_idxsn rfl rfl hx52) <| s_q (.bool (decide ((x_57.toNat : Int) < 32))) rfl rfl rfl <| s_mov (.bool (decide ((x_57.toNat : Int) < 32))) rfl <| s_lit (s := 14) (b := false) rfl (bf c63) <| s_on rfl <| s_mov (.str t_1) rfl <| s_on rfl <| s_mov (.int .i64 (i_33 : Int)) rfl <| s_on rfl <| s_do (o_idxsn rfl rfl hx52) <| s_on rfl <| s_q (.bool (decide ((x_57.toNat : Int) > 126))) rfl rfl rfl <| s_q (.bool (decide ((x_57.toNat : Int) > 126))) rfl trivial rfl <| w_done <| ?_; obtain rfl := os hb2; exact ⟨[], [], _, _, rfl, rfl, ⟨.refl _, ⟨.refl _, ⟨.refl _, trivial⟩⟩⟩, (.refl _)⟩
   ·rcases oi hc1 with ⟨c64, hc1⟩ | ⟨c64, hc1⟩
    ·refine w_condt rfl c64 <| awp_seq <| w_reg <| s_mov (.bool false) rfl <| w_done <| k_seq <| w_ret <| ?_; obtain rfl := os hc1; obtain rfl := os hf; exact r_flat ⟨trivial, trivial⟩ rfl (.refl _)
    ·refine w_condf rfl (bf c64) <| w_skip <| k_blk <| k_seq <| w_reg <| s_mov (.int .i64 (i_33 : Int)) rfl <| s_q (.int .i64 (w64 ((i_33 : Int) + 1))) rfl rfl rfl <| s_mov (.int .i64 (w64 ((i_33 : Int) + 1))) rfl <| w_done <| ?_; exact k_loopn ⟨(i_33 + 1), hc1⟩ (mul hlt51) ⟨[], [], _, _, rfl, rfl, ⟨.refl _, ⟨.of_eq (congrArg (AV.int _) (w64_incr hlt51 hl59)), trivial⟩⟩, (.refl _)⟩
 ·rintro ⟨_, rfl⟩
  refine awp_seq <| w_reg <| s_mov (.str t_1) rfl <| s_dof (o_lenS rfl) fun hl65 => s_q (.bool (decide ((t_1.length : Int) ≤ 200))) rfl rfl rfl <| s_mov (.bool (decide ((t_1.length : Int) ≤ 200))) rfl <| w_done <| k_seq <| w_ret <| ?_; obtain rfl := os hf; exact r_flat ⟨trivial, trivial⟩ rfl (.refl _)

/- spec.l01OK -/
def c181 : ACode :=
 (.seq (.reg (tq 2 (.box 5 (.t 0)) (tm 4 (.c (.int .i64 0)) (tm 5 (.c (.bool false)) .done))))
 (.seq (.seq (.reg (tm 11 (.t 1) (tq 12 (.bin .eql (.t 11) (.c (.int .i64 0))) .done)))
 (.cond (.t 12) (.seq (.reg (tm 4 (.c (.int .i64 0)) (tm 5 (.c (.bool false)) .done)))
 .ret)
 .skip))
 (.seq (.reg (tq 13 (.faddr 3 (.t 2)) (tq 14 (.load 1 false (.t 13)) (tq 15 (.len (.t 14)) (tq 16 (.bin .eql (.t 15) (.c (.int .i64 0))) (tm 17 (.t 16) (tg 18 17 true (.faddr 4 (.t 2)) (tg 19 17 true (.load 1 false (.t 18)) (tg 20 17 true (.len (.t 19)) (tg 21 17 true (.bin .eql (.t 20) (.c (.int .i64 0))) (tq 22 (.pick (.t 17) (.t 21) (.c (.bool false))) (tm 6 (.t 22) .done))))))))))))
 (.cut (.seq (.seq (.reg (tq 23 (.faddr 0 (.t 2)) (tq 24 (.load 1 false (.t 23)) .done)))
 (.block 0 (.seq (.reg (tq 26 (.bin .eql (.t 24) (.c (.int .i64 0))) (tm 25 (.t 26) .done)))
 (.cond (.t 25) (.seq (.reg (tm 27 (.t 6) (tm 28 (.t 27) (tg 29 28 true (.faddr 1 (.t 2)) (tg 30 28 true (.load 1 false (.t 29)) (tg 31 28 true (.bin .eql (.t 30) (.c (.int .i64 0))) (tq 32 (.pick (.t 28) (.t 31) (.c (.bool false))) (tm 33 (.t 32) (tg 34 33 true (.faddr 2 (.t 2)) (tg 35 33 true (.load 1 false (.t 34)) (tg 36 33 true (.bin .eql (.t 35) (.c (.str []))) (tq 37 (.pick (.t 33) (.t 36) (.c (.bool false))) (tm 4 (.c (.int .i64 1)) (tm 5 (.t 37) .done))))))))))))))
 .ret)
 (.seq (.reg (tq 39 (.bin .eql (.t 24) (.c (.int .i64 1))) (tm 38 (.t 39) .done)))
 (.cond (.t 38) (.seq (.reg (tm 40 (.t 6) (tm 41 (.t 40) (tg 42 41 true (.faddr 1 (.t 2)) (tg 43 41 true (.load 1 false (.t 42)) (.l ⟨(some 44), (some (41, true)), .call 81 [(.t 43), (.c (.int .i64 0)), (.c (.int .i64 1))]⟩ []
 (tq 45 (.pick (.t 41) (.t 44) (.c (.bool false))) (tm 46 (.t 45) (tg 47 46 true (.faddr 2 (.t 2)) (tg 48 46 true (.load 1 false (.t 47)) (tg 49 46 true (.bin .eql (.t 48) (.c (.str []))) (tq 50 (.pick (.t 46) (.t 49) (.c (.bool false))) (tm 4 (.c (.int .i64 1)) (tm 5 (.t 50) .done)))))))) .non))))))
 .ret)
 (.seq (.reg (tq 52 (.bin .eql (.t 24) (.c (.int .i64 2))) (tm 51 (.t 52) .done)))
 (.cond (.t 51) (.seq (.reg (tm 53 (.t 6) (tm 54 (.t 53) (tg 55 54 true (.faddr 1 (.t 2)) (tg 56 54 true (.load 1 false (.t 55)) (.l ⟨(some 57), (some (54, true)), .call 81 [(.t 56), (.c (.int .i64 (-1000000000))), (.c (.int .i64 1000000000))]⟩ []
 (tq 58 (.pick (.t 54) (.t 57) (.c (.bool false))) (tm 59 (.t 58) (tg 60 59 true (.faddr 2 (.t 2)) (tg 61 59 true (.load 1 false (.t 60)) (tg 62 59 true (.bin .eql (.t 61) (.c (.str []))) (tq 63 (.pick (.t 59) (.t 62) (.c (.bool false))) (tm 4 (.c (.int .i64 1)) (tm 5 (.t 63) .done)))))))) .non))))))
 .ret)
 (.seq (.reg (tq 65 (.bin .eql (.t 24) (.c (.int .i64 3))) (tm 64 (.t 65) .done)))
 (.cond (.t 64) (.seq (.reg (tm 66 (.t 6) (tm 67 (.t 66) (tg 68 67 true (.faddr 1 (.t 2)) (tg 69 67 true (.load 1 false (.t 68)) (tg 70 67 true (.bin .eql (.t 69) (.c (.int .i64 0))) (tq 71 (.pick (.t 67) (.t 70) (.c (.bool false))) (tm 72 (.t 71) (tg 73 72 true (.faddr 2 (.t 2)) (tg 74 72 true (.load 1 false (.t 73)) (tg 75 72 true (.call 169 [(.t 74)]) (tq 76 (.pick (.t 72) (.t 75) (.c (.bool false))) (tm 4 (.c (.int .i64 1)) (tm 5 (.t 76) .done))))))))))))))
 .ret)
 .skip))))))))))
 (.seq (.seq (.reg (tq 77 (.faddr 0 (.t 2)) (tq 78 (.load 1 false (.t 77)) (tq 79 (.bin .neq (.t 78) (.c (.int .i64 4))) (tm 80 (.t 79) (tg 81 80 true (.faddr 0 (.t 2)) (tg 82 80 true (.load 1 false (.t 81)) (tg 83 80 true (.bin .neq (.t 82) (.c (.int .i64 5))) (tq 84 (.pick (.t 80) (.t 83) (.c (.bool false))) (tm 85 (.t 84) (tg 86 85 false (.faddr 1 (.t 2)) (tg 87 85 false (.load 1 false (.t 86)) (tg 88 85 false (.bin .neq (.t 87) (.c (.int .i64 0))) (tq 89 (.pick (.t 85) (.c (.bool true)) (.t 88)) (tm 90 (.t 89) (tg 91 90 false (.faddr 2 (.t 2)) (tg 92 90 false (.load 1 false (.t 91)) (tg 93 90 false (.bin .neq (.t 92) (.c (.str []))) (tq 94 (.pick (.t 90) (.c (.bool true)) (.t 93)) (tm 95 (.t 94) (tg 96 95 false (.faddr 0 (.t 2)) (tg 97 95 false (.load 1 false (.t 96)) (tg 98 95 false (.bin .eql (.t 97) (.c (.int .i64 4))) (tg 99 95 false (.mov (.t 98)) (tg 100 99 true (.faddr 3 (.t 2)) (tg 101 99 true (.load 1 false (.t 100)) (tg 102 99 true (.len (.t 101)) (tg 103 99 true (.bin .gtr (.t 102) (.c (.int .i64 0))) (tg 104 95 false (.pick (.t 99) (.t 103) (.c (.bool false))) (tq 105 (.pick (.t 95) (.c (.bool true)) (.t 104)) (tm 106 (.t 105) (tg 107 106 false (.faddr 0 (.t 2)) (tg 108 106 false (.load 1 false (.t 107)) (tg 109 106 false (.bin .eql (.t 108) (.c (.int .i64 5))) (tg 110 106 false (.mov (.t 109)) (tg 111 110 true (.faddr 3 (.t 2)) (tg 112 110 true (.load 1 false (.t 111)) (tg 113 110 true (.len (.t 112)) (tg 114 110 true (.faddr 4 (.t 2)) (tg 115 110 true (.load 1 false (.t 114)) (tg 116 110 true (.len (.t 115)) (tg 117 110 true (.bin .neq (.t 113) (.t 116)) (tg 118 106 false (.pick (.t 110) (.t 117) (.c (.bool false))) (tq 119 (.pick (.t 106) (.c (.bool true)) (.t 118)) .done))))))))))))))))))))))))))))))))))))))))))))
 (.cut (.cond (.t 119) (.seq (.reg (tm 4 (.c (.int .i64 0)) (tm 5 (.c (.bool false)) .done)))
 .ret)
 .skip)))
 (.seq (.reg (tm 7 (.c (.int .i64 1)) .done))
 (.seq (.seq (.reg (tm 8 (.c (.int .i64 0)) .done))
 (.block 1 (.loop (.seq (.seq (.reg (tm 120 (.t 8) (tq 121 (.faddr 4 (.t 2)) (tq 122 (.load 1 false (.t 121)) (tq 123 (.len (.t 122)) (tq 124 (.bin .lss (.t 120) (.t 123)) .done))))))
 (.cond (.t 124) .skip
 (.exit 1)))
 (.seq (.block 2 (.seq (.seq (.reg (tq 127 (.faddr 0 (.t 2)) (tq 128 (.load 1 false (.t 127)) (tq 129 (.bin .eql (.t 128) (.c (.int .i64 5))) (tm 130 (.t 129) (tg 131 130 true (.faddr 3 (.t 2)) (tg 132 130 true (.load 1 false (.t 131)) (tg 133 130 true (.mov (.t 8)) (tg 134 130 true (.iaddr 1 (.t 132) (.t 133)) (tg 135 130 true (.load 1 false (.t 134)) (.l ⟨(some 136), (some (130, true)), .call 169 [(.t 135)]⟩ []
 (tg 137 130 true (.not (.t 136)) (tg 138 130 true (.mov (.t 137)) (tg 139 138 false (.mov (.t 8)) (tg 140 138 false (.bin .gtr (.t 139) (.c (.int .i64 0))) (tg 141 138 false (.mov (.t 140)) (tg 142 141 true (.faddr 3 (.t 2)) (tg 143 141 true (.load 1 false (.t 142)) (tg 144 141 true (.mov (.t 8)) (tg 145 141 true (.bin .sub (.t 144) (.c (.int .i64 1))) (tg 146 141 true (.iaddr 1 (.t 143) (.t 145)) (tg 147 141 true (.load 1 false (.t 146)) (tg 148 141 true (.faddr 3 (.t 2)) (tg 149 141 true (.load 1 false (.t 148)) (tg 150 141 true (.mov (.t 8)) (tg 151 141 true (.iaddr 1 (.t 149) (.t 150)) (tg 152 141 true (.load 1 false (.t 151)) (tg 153 141 true (.bin .geq (.t 147) (.t 152)) (tg 154 138 false (.pick (.t 141) (.t 153) (.c (.bool false))) (tg 155 130 true (.pick (.t 138) (.c (.bool true)) (.t 154)) (tq 156 (.pick (.t 130) (.t 155) (.c (.bool false))) .done)))))))))))))))))))) .non)))))))))))
 (.cut (.cond (.t 156) (.seq (.reg (tm 4 (.c (.int .i64 0)) (tm 5 (.c (.bool false)) .done)))
 .ret)
 .skip)))
 (.seq (.reg (tq 158 (.faddr 4 (.t 2)) (tq 159 (.load 1 false (.t 158)) (tm 160 (.t 8) (tq 161 (.iaddr 5 (.t 159) (.t 160)) (tq 162 (.load 5 true (.t 161)) (tm 163 (.t 1) (tq 164 (.bin .sub (.t 163) (.c (.int .i64 1))) (tq 165 (.call 181 [(.t 162), (.t 164)]) (tm 157 (.t 165) (tq 166 (.extract 0 (.t 157)) (tq 167 (.extract 1 (.t 157)) (tm 9 (.t 166) (tm 10 (.t 167) .done))))))))))))))
 (.seq (.reg (tm 168 (.t 7) (tm 169 (.t 9) (tq 170 (.bin .add (.t 168) (.t 169)) (tm 7 (.t 170) .done)))))
 (.seq (.reg (tm 171 (.t 10) (tq 172 (.not (.t 171)) (tm 173 (.t 172) (tg 174 173 false (.mov (.t 7)) (tg 175 173 false (.bin .gtr (.t 174) (.c (.int .i64 400))) (tq 176 (.pick (.t 173) (.c (.bool true)) (.t 175)) .done)))))))
 (.cut (.cond (.t 176) (.seq (.reg (tm 4 (.c (.int .i64 0)) (tm 5 (.c (.bool false)) .done)))
 .ret)
 .skip)))))))
 (.reg (tm 125 (.t 8) (tq 126 (.bin .add (.t 125) (.c (.int .i64 1))) (tm 8 (.t 126) .done)))))))))
 (.cut (.seq (.reg (tm 177 (.t 7) (tm 4 (.t 177) (tm 5 (.c (.bool true)) .done))))
 .ret))))))))))
theorem fc181 : fcomp Try.prog Try.f181 = some (c181.erase, [.mov (.t 4), .mov (.t 5)], 178) := by kernel_rfl
def spec_l01OK_B_L1 (j_1 : GJson) (rec : (GJson → Int → Option (Int × Bool))) (deep_2 : Int) : List GJson → Int → Nat → Option (Fl (Int × Bool) Int)
  | [], n_107, i_108 =>
    some (.go n_107)
  | x_154 :: xs, n_107, i_108 =>
    ((if (j_1.Kind == 5) then
    (idx j_1.Keys (i_108 : Int)).bind fun x_171 =>
    (spec_l01Text x_171).bind fun r_173 =>
    if (!r_173) then
    some true
    else
    if (decide ((i_108 : Int) > 0)) then
    (idx j_1.Keys (w64 ((i_108 : Int) - 1))).bind fun x_177 =>
    (idx j_1.Keys (i_108 : Int)).bind fun x_179 =>
    some (!Op.bytesLess x_177 x_179)
    else
    some false
    else
    some false : Option Bool)).bind fun s156_168 =>
    if s156_168 then
    some (.ret (0, false))
    else
    (rec x_154 (w64 (deep_2 - 1))).bind fun r_182 =>
    ((if (!r_182.2) then
    some true
    else
    some (decide (w64 (n_107 + r_182.1) > 400)) : Option Bool)).bind fun s176_185 =>
    if s176_185 then
    some (.ret (0, false))
    else
    spec_l01OK_B_L1 j_1 rec deep_2 xs (w64 (n_107 + r_182.1)) (i_108 + 1)

def spec_l01OK_B (rec : (GJson → Int → Option (Int × Bool))) (j_1 : GJson) (deep_2 : Int) : Option (Int × Bool) :=
    if (deep_2 == 0) then
    some (0, false)
    else
    ((if ((j_1.Keys.length : Int) == 0) then
    some ((j_1.Items.length : Int) == 0)
    else
    some false : Option Bool)).bind fun plain_7 =>
    if (j_1.Kind == 0) then
    some (1, (bif (bif plain_7 then (j_1.N == 0) else false) then (j_1.T == []) else false))
    else
    if (j_1.Kind == 1) then
    if plain_7 then
    (spec_l01In j_1.N 0 1).bind fun r_15 =>
    some (1, (bif r_15 then (j_1.T == []) else false))
    else
    some (1, false)
    else
    if (j_1.Kind == 2) then
    if plain_7 then
    (spec_l01In j_1.N (-1000000000) 1000000000).bind fun r_19 =>
    some (1, (bif r_19 then (j_1.T == []) else false))
    else
    some (1, false)
    else
    if (j_1.Kind == 3) then
    if (bif plain_7 then (j_1.N == 0) else false) then
    (spec_l01Text j_1.T).bind fun r_23 =>
    some (1, r_23)
    else
    some (1, false)
    else
    ((some () : Option Unit)).bind fun _ =>
    if (bif (bif (bif (bif (bif (j_1.Kind != 4) then (j_1.Kind != 5) else false) then true else (j_1.N != 0)) then true else (!(j_1.T == []))) then true else (bif (j_1.Kind == 4) then (decide ((j_1.Keys.length : Int) > 0)) else false)) then true else (bif (j_1.Kind == 5) then ((j_1.Keys.length : Int) != (j_1.Items.length : Int)) else false)) then
    some (0, false)
    else
    (spec_l01OK_B_L1 j_1 rec deep_2 j_1.Items 1 0).bind fun q => (match q with
    | .ret r => some r
    | .go n_146 =>
    some (n_146, true))
theorem w_spec_l01OK_B (rec : (GJson → Int → Option (Int × Bool))) (hrec : ∀ a0 a1 r, rec a0 a1 = some r → CallOK Try.prog 181 .flat [(encGJson a0), (.int .i64 a1)] (.tup [(.int .i64 r.1), (.bool r.2)])) (j_1 : GJson) (deep_2 : Int) (r : (Int × Bool)) (hf : spec_l01OK_B rec j_1 deep_2 = some r) : CallOK Try.prog 181 .flat [(encGJson j_1), (.int .i64 deep_2)] (.tup [(.int .i64 r.1), (.bool r.2)]) := by
 refine CallOK.of_awp mixed Try.func181 fc181 nle ?_; rw [argT_eq]; rw [encGJson_eq j_1]; unfold spec_l01OK_B at hf; unfold c181; refine (show awp Try.prog false 0 _ (ofL [(0, (.agg [(.int .i64 j_1.Kind), (.int .i64 j_1.N), (.str j_1.T), (.lst 1 (j_1.Keys.map AV.str)), (.lst 5 (j_1.Items.map encGJson))])), (1, (.int .i64 deep_2))]) [] _ from ?_); refine awp_seq <| w_reg <| s_do (o_box (j := 0) (c := (.agg [(.int .i64 j_1.Kind), (.int .i64 j_1.N), (.str j_1.T), (.lst 1 (j_1.Keys.map AV.str)), (.lst 5 (j_1.Items.map encGJson))])) rfl trivial rfl rfl) <| s_mov (.int .i64 0) rfl <| s_mov (.bool false) rfl <| w_done <| k_seq <| awp_seq <| awp_seq <| w_reg <| s_mov (.int .i64 deep_2) rfl <| s_q (.bool (deep_2 == 0)) rfl rfl rfl <| ?_
 refine w_done <| k_seq <| ?_
 rcases oi hf with ⟨c3, hf⟩ | ⟨c3, hf⟩
 ·refine w_condt rfl c3 <| awp_seq <| w_reg <| s_mov (.int .i64 0) rfl <| s_mov (.bool false) rfl <| w_done <| k_seq <| w_ret <| ?_; obtain rfl := os hf; exact r_flat ⟨trivial, ⟨trivial, trivial⟩⟩ rfl (.refl _)
 ·refine w_condf rfl (bf c3) <| w_skip <| k_seq <| awp_seq <| ?_
  obtain ⟨plain_7, hb1, hf⟩ := ob hf
  refine awp_cut ([(1, (.int .i64 deep_2)), (2, (.ptr 0 0 0)), (6, (.bool plain_7))], [.box 5 (.agg [(.int .i64 j_1.Kind), (.int .i64 j_1.N), (.str j_1.T), (.lst 1 (j_1.Keys.map AV.str)), (.lst 5 (j_1.Items.map encGJson))])]) ?_ ?_
  ·refine w_reg ?_
   rcases oi hb1 with ⟨c10, hb1⟩ | ⟨c10, hb1⟩
   ·refine s_q (.ptr 0 0 3) rfl trivial rfl <| s_q (.lst 1 (j_1.Keys.map AV.str)) rfl nle rfl <| s_dof (o_len (enc := AV.str) rfl) fun hl9 => s_q (.bool ((j_1.Keys.length : Int) == 0)) rfl rfl rfl <| s_mov (.bool ((j_1.Keys.length : Int) == 0)) rfl <| s_lit (s := 17) (b := true) rfl c10 <| s_on rfl <| s_q (.ptr 0 0 4) rfl trivial rfl <| s_on rfl <| s_q (.lst 5 (j_1.Items.map encGJson)) rfl nle rfl <| s_on rfl <| s_dof (o_len (enc := encGJson) rfl) fun hl11 => s_on rfl <| s_q (.bool ((j_1.Items.length : Int) == 0)) rfl rfl rfl <| s_q (.bool ((j_1.Items.length : Int) == 0)) rfl trivial rfl <| s_mov (.bool ((j_1.Items.length : Int) == 0)) rfl <| w_done <| ?_; obtain rfl := os hb1; exact ⟨[], [0], _, _, rfl, rfl, ⟨.refl _, ⟨.refl _, ⟨.refl _, trivial⟩⟩⟩, (.refl _)⟩
   ·refine s_q (.ptr 0 0 3) rfl trivial rfl <| s_q (.lst 1 (j_1.Keys.map AV.str)) rfl nle rfl <| s_dof (o_len (enc := AV.str) rfl) fun hl9 => s_q (.bool ((j_1.Keys.length : Int) == 0)) rfl rfl rfl <| s_mov (.bool ((j_1.Keys.length : Int) == 0)) rfl <| s_lit (s := 17) (b := false) rfl (bf c10) <| s_off rfl rfl <| s_off rfl rfl <| s_off rfl rfl <| s_off rfl rfl <| s_q (.bool false) rfl trivial rfl <| s_mov (.bool false) rfl <| w_done <| ?_; obtain rfl := os hb1; exact ⟨[], [0], _, _, rfl, rfl, ⟨.refl _, ⟨.refl _, ⟨.refl _, trivial⟩⟩⟩, (.refl _)⟩
  ·refine awp_seq <| awp_seq <| w_reg <| s_q (.ptr 0 0 0) rfl trivial rfl <| s_q (.int .i64 j_1.Kind) rfl nle rfl <| w_done <| k_seq <| w_blk <| awp_seq <| w_reg <| s_q (.bool (j_1.Kind == 0)) rfl rfl rfl <| s_mov (.bool (j_1.Kind == 0)) rfl <| w_done <| k_seq <| ?_
   rcases oi hf with ⟨c12, hf⟩ | ⟨c12, hf⟩
   ·refine w_condt rfl c12 <| awp_seq <| w_reg <| s_mov (.bool plain_7) rfl <| s_mov (.bool plain_7) rfl <| ?_; refine s_g (v := plain_7) (.ptr 0 0 1) rfl (fun hv => by (try simp only [gs_on hv]); exact ⟨rfl, trivial, rfl⟩) ?_; refine s_g (v := plain_7) (.int .i64 j_1.N) rfl (fun hv => by (try simp only [gs_on hv]); exact ⟨rfl, nle, rfl⟩) ?_; refine s_g (v := plain_7) (.bool (j_1.N == 0)) rfl (fun hv => by (try simp only [gs_on hv]); exact ⟨rfl, rfl, rfl⟩) ?_; refine s_pick (x := (j_1.N == 0)) (y := false) rfl (fun hv => by (try simp only [gs_on hv]); rfl) (fun hv => by (try simp only [gs_on hv]); rfl) ?_; refine s_mov (.bool (bif plain_7 then (j_1.N == 0) else false)) rfl ?_; refine s_g (v := (bif plain_7 then (j_1.N == 0) else false)) (.ptr 0 0 2) rfl (fun hv => by (try simp only [gs_on hv]); exact ⟨rfl, trivial, rfl⟩) ?_
    refine s_g (v := (bif plain_7 then (j_1.N == 0) else false)) (.str j_1.T) rfl (fun hv => by (try simp only [gs_on hv]); exact ⟨rfl, nle, rfl⟩) ?_; refine s_g (v := (bif plain_7 then (j_1.N == 0) else false)) (.bool (j_1.T == [])) rfl (fun hv => by (try simp only [gs_on hv]); exact ⟨rfl, trivial, rfl⟩) ?_; refine s_pick (x := (j_1.T == [])) (y := false) rfl (fun hv => by (try simp only [gs_on hv]); rfl) (fun hv => by (try simp only [gs_on hv]); rfl) ?_; refine s_mov (.int .i64 1) rfl <| s_mov (.bool (bif (bif plain_7 then (j_1.N == 0) else false) then (j_1.T == []) else false)) rfl <| w_done <| k_seq <| w_ret <| ?_; obtain rfl := os hf; exact r_flat ⟨trivial, ⟨trivial, trivial⟩⟩ rfl (.refl _)
   ·refine w_condf rfl (bf c12) <| awp_seq <| w_reg <| s_q (.bool (j_1.Kind == 1)) rfl rfl rfl <| s_mov (.bool (j_1.Kind == 1)) rfl <| w_done <| k_seq <| ?_
    rcases oi hf with ⟨c13, hf⟩ | ⟨c13, hf⟩
    ·refine w_condt rfl c13 <| awp_seq <| w_reg <| s_mov (.bool plain_7) rfl <| s_mov (.bool plain_7) rfl <| ?_
     rcases oi hf with ⟨c14, hf⟩ | ⟨c14, hf⟩
     ·refine s_lit (s := 41) (b := true) rfl c14 <| s_on rfl <| s_q (.ptr 0 0 1) rfl trivial rfl <| s_on rfl <| s_q (.int .i64 j_1.N) rfl nle rfl <| s_onl rfl <| ?_
      obtain ⟨r_15, er16, hf⟩ := ob hf
      refine s_dol (o_call (w_spec_l01In _ _ _ _ er16) rfl (.refl _) rfl) a_same trivial <| s_q (.bool r_15) rfl trivial rfl <| s_mov (.bool r_15) rfl <| ?_; refine s_g (v := r_15) (.ptr 0 0 2) rfl (fun hv => by (try simp only [gs_on hv]); exact ⟨rfl, trivial, rfl⟩) ?_; refine s_g (v := r_15) (.str j_1.T) rfl (fun hv => by (try simp only [gs_on hv]); exact ⟨rfl, nle, rfl⟩) ?_; refine s_g (v := r_15) (.bool (j_1.T == [])) rfl (fun hv => by (try simp only [gs_on hv]); exact ⟨rfl, trivial, rfl⟩) ?_; refine s_pick (x := (j_1.T == [])) (y := false) rfl (fun hv => by (try simp only [gs_on hv]); rfl) (fun hv => by (try simp only [gs_on hv]); rfl) ?_; refine s_mov (.int .i64 1) rfl <| s_mov (.bool (bif r_15 then (j_1.T == []) else false)) rfl <| ?_
      refine w_done <| k_seq <| w_ret <| ?_; obtain rfl := os hf; exact r_flat ⟨trivial, ⟨trivial, trivial⟩⟩ rfl (.refl _)
     ·refine s_lit (s := 41) (b := false) rfl (bf c14) <| s_off rfl rfl <| s_off rfl rfl <| s_offl rfl rfl trivial <| s_q (.bool false) rfl trivial rfl <| s_mov (.bool false) rfl <| s_off rfl rfl <| s_off rfl rfl <| s_off rfl rfl <| s_q (.bool false) rfl trivial rfl <| s_mov (.int .i64 1) rfl <| s_mov (.bool false) rfl <| w_done <| k_seq <| w_ret <| ?_; obtain rfl := os hf; exact r_flat ⟨trivial, ⟨trivial, trivial⟩⟩ rfl (.refl _)
    ·refine w_condf rfl (bf c13) <| awp_seq <| w_reg <| s_q (.bool (j_1.Kind == 2)) rfl rfl rfl <| s_mov (.bool (j_1.Kind == 2)) rfl <| w_done <| k_seq <| ?_
     rcases oi hf with ⟨c17, hf⟩ | ⟨c17, hf⟩
     ·refine w_condt rfl c17 <| awp_seq <| w_reg <| s_mov (.bool plain_7) rfl <| s_mov (.bool plain_7) rfl <| ?_
      rcases oi hf with ⟨c18, hf⟩ | ⟨c18, hf⟩
      ·refine s_lit (s := 54) (b := true) rfl c18 <| s_on rfl <| s_q (.ptr 0 0 1) rfl trivial rfl <| s_on rfl <| s_q (.int .i64 j_1.N) rfl nle rfl <| s_onl rfl <| ?_
       obtain ⟨r_19, er20, hf⟩ := ob hf
       refine s_dol (o_call (w_spec_l01In _ _ _ _ er20) rfl (.refl _) rfl) a_same trivial <| s_q (.bool r_19) rfl trivial rfl <| s_mov (.bool r_19) rfl <| ?_; refine s_g (v := r_19) (.ptr 0 0 2) rfl (fun hv => by (try simp only [gs_on hv]); exact ⟨rfl, trivial, rfl⟩) ?_; refine s_g (v := r_19) (.str j_1.T) rfl (fun hv => by (try simp only [gs_on hv]); exact ⟨rfl, nle, rfl⟩) ?_; refine s_g (v := r_19) (.bool (j_1.T == [])) rfl (fun hv => by (try simp only [gs_on hv]); exact ⟨rfl, trivial, rfl⟩) ?_; refine s_pick (x := (j_1.T == [])) (y := false) rfl (fun hv => by (try simp only [gs_on hv]); rfl) (fun hv => by (try simp only [gs_on hv]); rfl) ?_; refine s_mov (.int .i64 1) rfl <| s_mov (.bool (bif r_19 then (j_1.T == []) else false)) rfl <| ?_
       refine w_done <| k_seq <| w_ret <| ?_; obtain rfl := os hf; exact r_flat ⟨trivial, ⟨trivial, trivial⟩⟩ rfl (.refl _)
      ·refine s_lit (s := 54) (b := false) rfl (bf c18) <| s_off rfl rfl <| s_off rfl rfl <| s_offl rfl rfl trivial <| s_q (.bool false) rfl trivial rfl <| s_mov (.bool false) rfl <| s_off rfl rfl <| s_off rfl rfl <| s_off rfl rfl <| s_q (.bool false) rfl trivial rfl <| s_mov (.int .i64 1) rfl <| s_mov (.bool false) rfl <| w_done <| k_seq <| w_ret <| ?_; obtain rfl := os hf; exact r_flat ⟨trivial, ⟨trivial, trivial⟩⟩ rfl (.refl _)
     ·refine w_condf rfl (bf c17) <| awp_seq <| w_reg <| s_q (.bool (j_1.Kind == 3)) rfl rfl rfl <| s_mov (.bool (j_1.Kind == 3)) rfl <| w_done <| k_seq <| ?_
      rcases oi hf with ⟨c21, hf⟩ | ⟨c21, hf⟩
      ·refine w_condt rfl c21 <| awp_seq <| w_reg <| s_mov (.bool plain_7) rfl <| s_mov (.bool plain_7) rfl <| ?_; refine s_g (v := plain_7) (.ptr 0 0 1) rfl (fun hv => by (try simp only [gs_on hv]); exact ⟨rfl, trivial, rfl⟩) ?_; refine s_g (v := plain_7) (.int .i64 j_1.N) rfl (fun hv => by (try simp only [gs_on hv]); exact ⟨rfl, nle, rfl⟩) ?_; refine s_g (v := plain_7) (.bool (j_1.N == 0)) rfl (fun hv => by (try simp only [gs_on hv]); exact ⟨rfl, rfl, rfl⟩) ?_; refine s_pick (x := (j_1.N == 0)) (y := false) rfl (fun hv => by (try simp only [gs_on hv]); rfl) (fun hv => by (try simp only [gs_on hv]); rfl) ?_; refine s_mov (.bool (bif plain_7 then (j_1.N == 0) else false)) rfl ?_
       rcases oi hf with ⟨c22, hf⟩ | ⟨c22, hf⟩
       ·refine s_lit (s := 72) (b := true) rfl c22 <| s_on rfl <| s_q (.ptr 0 0 2) rfl trivial rfl <| s_on rfl <| s_q (.str j_1.T) rfl nle rfl <| s_on rfl <| ?_
        obtain ⟨r_23, er24, hf⟩ := ob hf
        refine s_do (o_call (w_spec_l01Text _ _ er24) rfl (.refl _) rfl) <| s_q (.bool r_23) rfl trivial rfl <| s_mov (.int .i64 1) rfl <| s_mov (.bool r_23) rfl <| w_done <| k_seq <| w_ret <| ?_; obtain rfl := os hf; exact r_flat ⟨trivial, ⟨trivial, trivial⟩⟩ rfl (.refl _)
       ·refine s_lit (s := 72) (b := false) rfl (bf c22) <| s_off rfl rfl <| s_off rfl rfl <| s_off rfl rfl <| s_q (.bool false) rfl trivial rfl <| s_mov (.int .i64 1) rfl <| s_mov (.bool false) rfl <| w_done <| k_seq <| w_ret <| ?_; obtain rfl := os hf; exact r_flat ⟨trivial, ⟨trivial, trivial⟩⟩ rfl (.refl _)
      ·refine w_condf rfl (bf c21) <| w_skip <| k_blk <| k_seq <| awp_seq <| awp_seq <| ?_
       obtain ⟨p28, hb1, hf⟩ := ob hf
       refine awp_cut ([(1, (.int .i64 deep_2)), (2, (.ptr 0 0 0)), (119, (.bool (bif (bif (bif (bif (bif (j_1.Kind != 4) then (j_1.Kind != 5) else false) then true else (j_1.N != 0)) then true else (!(j_1.T == []))) then true else (bif (j_1.Kind == 4) then (decide ((j_1.Keys.length : Int) > 0)) else false)) then true else (bif (j_1.Kind == 5) then ((j_1.Keys.length : Int) != (j_1.Items.length : Int)) else false))))], [.box 5 (.agg [(.int .i64 j_1.Kind), (.int .i64 j_1.N), (.str j_1.T), (.lst 1 (j_1.Keys.map AV.str)), (.lst 5 (j_1.Items.map encGJson))])]) ?_ ?_
       ·refine w_reg <| s_q (.ptr 0 0 0) rfl trivial rfl <| s_q (.int .i64 j_1.Kind) rfl nle rfl <| s_q (.bool (j_1.Kind != 4)) rfl rfl rfl <| s_mov (.bool (j_1.Kind != 4)) rfl <| ?_; refine s_g (v := (j_1.Kind != 4)) (.ptr 0 0 0) rfl (fun hv => by (try simp only [gs_on hv]); exact ⟨rfl, trivial, rfl⟩) ?_; refine s_g (v := (j_1.Kind != 4)) (.int .i64 j_1.Kind) rfl (fun hv => by (try simp only [gs_on hv]); exact ⟨rfl, nle, rfl⟩) ?_; refine s_g (v := (j_1.Kind != 4)) (.bool (j_1.Kind != 5)) rfl (fun hv => by (try simp only [gs_on hv]); exact ⟨rfl, rfl, rfl⟩) ?_; refine s_pick (x := (j_1.Kind != 5)) (y := false) rfl (fun hv => by (try simp only [gs_on hv]); rfl) (fun hv => by (try simp only [gs_on hv]); rfl) ?_; refine s_mov (.bool (bif (j_1.Kind != 4) then (j_1.Kind != 5) else false)) rfl ?_
        refine s_g (v := (bif (j_1.Kind != 4) then (j_1.Kind != 5) else false)) (.ptr 0 0 1) rfl (fun hv => by (try simp only [gs_on hv]); exact ⟨rfl, trivial, rfl⟩) ?_; refine s_g (v := (bif (j_1.Kind != 4) then (j_1.Kind != 5) else false)) (.int .i64 j_1.N) rfl (fun hv => by (try simp only [gs_on hv]); exact ⟨rfl, nle, rfl⟩) ?_; refine s_g (v := (bif (j_1.Kind != 4) then (j_1.Kind != 5) else false)) (.bool (j_1.N != 0)) rfl (fun hv => by (try simp only [gs_on hv]); exact ⟨rfl, rfl, rfl⟩) ?_; refine s_pick (x := true) (y := (j_1.N != 0)) rfl (fun hv => by (try simp only [gs_on hv]); rfl) (fun hv => by (try simp only [gs_on hv]); rfl) ?_; refine s_mov (.bool (bif (bif (j_1.Kind != 4) then (j_1.Kind != 5) else false) then true else (j_1.N != 0))) rfl ?_
        refine s_g (v := (bif (bif (j_1.Kind != 4) then (j_1.Kind != 5) else false) then true else (j_1.N != 0))) (.ptr 0 0 2) rfl (fun hv => by (try simp only [gs_on hv]); exact ⟨rfl, trivial, rfl⟩) ?_; refine s_g (v := (bif (bif (j_1.Kind != 4) then (j_1.Kind != 5) else false) then true else (j_1.N != 0))) (.str j_1.T) rfl (fun hv => by (try simp only [gs_on hv]); exact ⟨rfl, nle, rfl⟩) ?_; refine s_g (v := (bif (bif (j_1.Kind != 4) then (j_1.Kind != 5) else false) then true else (j_1.N != 0))) (.bool (!(j_1.T == []))) rfl (fun hv => by (try simp only [gs_on hv]); exact ⟨rfl, trivial, rfl⟩) ?_; refine s_pick (x := true) (y := (!(j_1.T == []))) rfl (fun hv => by (try simp only [gs_on hv]); rfl) (fun hv => by (try simp only [gs_on hv]); rfl) ?_
        refine s_mov (.bool (bif (bif (bif (j_1.Kind != 4) then (j_1.Kind != 5) else false) then true else (j_1.N != 0)) then true else (!(j_1.T == [])))) rfl ?_; refine s_g (v := (bif (bif (bif (j_1.Kind != 4) then (j_1.Kind != 5) else false) then true else (j_1.N != 0)) then true else (!(j_1.T == [])))) (.ptr 0 0 0) rfl (fun hv => by (try simp only [gs_on hv]); exact ⟨rfl, trivial, rfl⟩) ?_; refine s_g (v := (bif (bif (bif (j_1.Kind != 4) then (j_1.Kind != 5) else false) then true else (j_1.N != 0)) then true else (!(j_1.T == [])))) (.int .i64 j_1.Kind) rfl (fun hv => by (try simp only [gs_on hv]); exact ⟨rfl, nle, rfl⟩) ?_; refine s_g (v := (bif (bif (bif (j_1.Kind != 4) then (j_1.Kind != 5) else false) then true else (j_1.N != 0)) then true else (!(j_1.T == [])))) (.bool (j_1.Kind == 4)) rfl (fun hv => by (try simp only [gs_on hv]); exact ⟨rfl, rfl, rfl⟩) ?_
        refine s_g (v := (bif (bif (bif (j_1.Kind != 4) then (j_1.Kind != 5) else false) then true else (j_1.N != 0)) then true else (!(j_1.T == [])))) (.bool (j_1.Kind == 4)) rfl (fun hv => by (try simp only [gs_on hv]); exact ⟨rfl, trivial, rfl⟩) ?_; refine s_gg (v1 := (bif (bif (bif (j_1.Kind != 4) then (j_1.Kind != 5) else false) then true else (j_1.N != 0)) then true else (!(j_1.T == [])))) (b1 := false) (v2 := (j_1.Kind == 4)) (.ptr 0 0 3) rfl (fun hv hw => by (try simp only [gs_on hv, gs_on hw]); exact ⟨rfl, trivial, rfl⟩) ?_; refine s_gg (v1 := (bif (bif (bif (j_1.Kind != 4) then (j_1.Kind != 5) else false) then true else (j_1.N != 0)) then true else (!(j_1.T == [])))) (b1 := false) (v2 := (j_1.Kind == 4)) (.lst 1 (j_1.Keys.map AV.str)) rfl (fun hv hw => by (try simp only [gs_on hv, gs_on hw]); exact ⟨rfl, nle, rfl⟩) ?_
        refine s_gg (v1 := (bif (bif (bif (j_1.Kind != 4) then (j_1.Kind != 5) else false) then true else (j_1.N != 0)) then true else (!(j_1.T == [])))) (b1 := false) (v2 := (j_1.Kind == 4)) (.int .i64 (j_1.Keys.length : Int)) rfl (fun hv hw => by (try simp only [gs_on hv, gs_on hw]); exact ⟨rfl, trivial, lenV _ _⟩) ?_; refine s_gg (v1 := (bif (bif (bif (j_1.Kind != 4) then (j_1.Kind != 5) else false) then true else (j_1.N != 0)) then true else (!(j_1.T == [])))) (b1 := false) (v2 := (j_1.Kind == 4)) (.bool (decide ((j_1.Keys.length : Int) > 0))) rfl (fun hv hw => by (try simp only [gs_on hv, gs_on hw]); exact ⟨rfl, rfl, rfl⟩) ?_; refine s_gp (v1 := (bif (bif (bif (j_1.Kind != 4) then (j_1.Kind != 5) else false) then true else (j_1.N != 0)) then true else (!(j_1.T == [])))) (b1 := false) (v2 := (j_1.Kind == 4)) (x := (decide ((j_1.Keys.length : Int) > 0))) (y := false) rfl (fun hv => by (try simp only [gs_on hv]); rfl) (fun hv hw => by (try simp only [gs_on hv, gs_on hw]); rfl) (fun hv hw => by (try simp only [gs_on hv, gs_on hw]); rfl) ?_
        refine s_pick (x := true) (y := (bif (j_1.Kind == 4) then (decide ((j_1.Keys.length : Int) > 0)) else false)) rfl (fun hv => by (try simp only [gs_on hv]); rfl) (fun hv => by (try simp only [gs_on hv]); rfl) ?_; refine s_mov (.bool (bif (bif (bif (bif (j_1.Kind != 4) then (j_1.Kind != 5) else false) then true else (j_1.N != 0)) then true else (!(j_1.T == []))) then true else (bif (j_1.Kind == 4) then (decide ((j_1.Keys.length : Int) > 0)) else false))) rfl ?_; refine s_g (v := (bif (bif (bif (bif (j_1.Kind != 4) then (j_1.Kind != 5) else false) then true else (j_1.N != 0)) then true else (!(j_1.T == []))) then true else (bif (j_1.Kind == 4) then (decide ((j_1.Keys.length : Int) > 0)) else false))) (.ptr 0 0 0) rfl (fun hv => by (try simp only [gs_on hv]); exact ⟨rfl, trivial, rfl⟩) ?_
        refine s_g (v := (bif (bif (bif (bif (j_1.Kind != 4) then (j_1.Kind != 5) else false) then true else (j_1.N != 0)) then true else (!(j_1.T == []))) then true else (bif (j_1.Kind == 4) then (decide ((j_1.Keys.length : Int) > 0)) else false))) (.int .i64 j_1.Kind) rfl (fun hv => by (try simp only [gs_on hv]); exact ⟨rfl, nle, rfl⟩) ?_; refine s_g (v := (bif (bif (bif (bif (j_1.Kind != 4) then (j_1.Kind != 5) else false) then true else (j_1.N != 0)) then true else (!(j_1.T == []))) then true else (bif (j_1.Kind == 4) then (decide ((j_1.Keys.length : Int) > 0)) else false))) (.bool (j_1.Kind == 5)) rfl (fun hv => by (try simp only [gs_on hv]); exact ⟨rfl, rfl, rfl⟩) ?_; refine s_g (v := (bif (bif (bif (bif (j_1.Kind != 4) then (j_1.Kind != 5) else false) then true else (j_1.N != 0)) then true else (!(j_1.T == []))) then true else (bif (j_1.Kind == 4) then (decide ((j_1.Keys.length : Int) > 0)) else false))) (.bool (j_1.Kind == 5)) rfl (fun hv => by (try simp only [gs_on hv]); exact ⟨rfl, trivial, rfl⟩) ?_
        refine s_gg (v1 := (bif (bif (bif (bif (j_1.Kind != 4) then (j_1.Kind != 5) else false) then true else (j_1.N != 0)) then true else (!(j_1.T == []))) then true else (bif (j_1.Kind == 4) then (decide ((j_1.Keys.length : Int) > 0)) else false))) (b1 := false) (v2 := (j_1.Kind == 5)) (.ptr 0 0 3) rfl (fun hv hw => by (try simp only [gs_on hv, gs_on hw]); exact ⟨rfl, trivial, rfl⟩) ?_; refine s_gg (v1 := (bif (bif (bif (bif (j_1.Kind != 4) then (j_1.Kind != 5) else false) then true else (j_1.N != 0)) then true else (!(j_1.T == []))) then true else (bif (j_1.Kind == 4) then (decide ((j_1.Keys.length : Int) > 0)) else false))) (b1 := false) (v2 := (j_1.Kind == 5)) (.lst 1 (j_1.Keys.map AV.str)) rfl (fun hv hw => by (try simp only [gs_on hv, gs_on hw]); exact ⟨rfl, nle, rfl⟩) ?_
        refine s_gg (v1 := (bif (bif (bif (bif (j_1.Kind != 4) then (j_1.Kind != 5) else false) then true else (j_1.N != 0)) then true else (!(j_1.T == []))) then true else (bif (j_1.Kind == 4) then (decide ((j_1.Keys.length : Int) > 0)) else false))) (b1 := false) (v2 := (j_1.Kind == 5)) (.int .i64 (j_1.Keys.length : Int)) rfl (fun hv hw => by (try simp only [gs_on hv, gs_on hw]); exact ⟨rfl, trivial, lenV _ _⟩) ?_; refine s_gg (v1 := (bif (bif (bif (bif (j_1.Kind != 4) then (j_1.Kind != 5) else false) then true else (j_1.N != 0)) then true else (!(j_1.T == []))) then true else (bif (j_1.Kind == 4) then (decide ((j_1.Keys.length : Int) > 0)) else false))) (b1 := false) (v2 := (j_1.Kind == 5)) (.ptr 0 0 4) rfl (fun hv hw => by (try simp only [gs_on hv, gs_on hw]); exact ⟨rfl, trivial, rfl⟩) ?_
        refine s_gg (v1 := (bif (bif (bif (bif (j_1.Kind != 4) then (j_1.Kind != 5) else false) then true else (j_1.N != 0)) then true else (!(j_1.T == []))) then true else (bif (j_1.Kind == 4) then (decide ((j_1.Keys.length : Int) > 0)) else false))) (b1 := false) (v2 := (j_1.Kind == 5)) (.lst 5 (j_1.Items.map encGJson)) rfl (fun hv hw => by (try simp only [gs_on hv, gs_on hw]); exact ⟨rfl, nle, rfl⟩) ?_; refine s_gg (v1 := (bif (bif (bif (bif (j_1.Kind != 4) then (j_1.Kind != 5) else false) then true else (j_1.N != 0)) then true else (!(j_1.T == []))) then true else (bif (j_1.Kind == 4) then (decide ((j_1.Keys.length : Int) > 0)) else false))) (b1 := false) (v2 := (j_1.Kind == 5)) (.int .i64 (j_1.Items.length : Int)) rfl (fun hv hw => by (try simp only [gs_on hv, gs_on hw]); exact ⟨rfl, trivial, lenV _ _⟩) ?_
        refine s_gg (v1 := (bif (bif (bif (bif (j_1.Kind != 4) then (j_1.Kind != 5) else false) then true else (j_1.N != 0)) then true else (!(j_1.T == []))) then true else (bif (j_1.Kind == 4) then (decide ((j_1.Keys.length : Int) > 0)) else false))) (b1 := false) (v2 := (j_1.Kind == 5)) (.bool ((j_1.Keys.length : Int) != (j_1.Items.length : Int))) rfl (fun hv hw => by (try simp only [gs_on hv, gs_on hw]); exact ⟨rfl, rfl, rfl⟩) ?_; refine s_gp (v1 := (bif (bif (bif (bif (j_1.Kind != 4) then (j_1.Kind != 5) else false) then true else (j_1.N != 0)) then true else (!(j_1.T == []))) then true else (bif (j_1.Kind == 4) then (decide ((j_1.Keys.length : Int) > 0)) else false))) (b1 := false) (v2 := (j_1.Kind == 5)) (x := ((j_1.Keys.length : Int) != (j_1.Items.length : Int))) (y := false) rfl (fun hv => by (try simp only [gs_on hv]); rfl) (fun hv hw => by (try simp only [gs_on hv, gs_on hw]); rfl) (fun hv hw => by (try simp only [gs_on hv, gs_on hw]); rfl) ?_
        refine s_pick (x := true) (y := (bif (j_1.Kind == 5) then ((j_1.Keys.length : Int) != (j_1.Items.length : Int)) else false)) rfl (fun hv => by (try simp only [gs_on hv]); rfl) (fun hv => by (try simp only [gs_on hv]); rfl) ?_; refine w_done ?_; obtain rfl := os hb1; exact ⟨[], [0], _, _, rfl, rfl, ⟨.refl _, ⟨.refl _, ⟨.refl _, trivial⟩⟩⟩, (.refl _)⟩
       ·rcases oi hf with ⟨c32, hf⟩ | ⟨c32, hf⟩
        ·refine w_condt rfl c32 <| awp_seq <| w_reg <| s_mov (.int .i64 0) rfl <| s_mov (.bool false) rfl <| w_done <| k_seq <| w_ret <| ?_; obtain rfl := os hf; exact r_flat ⟨trivial, ⟨trivial, trivial⟩⟩ rfl (.refl _)
        ·refine w_condf rfl (bf c32) <| w_skip <| k_seq <| awp_seq <| w_reg <| s_mov (.int .i64 1) rfl <| w_done <| k_seq <| awp_seq <| awp_seq <| w_reg <| s_mov (.int .i64 0) rfl <| w_done <| k_seq <| ?_
         obtain ⟨p147, hb1, hf⟩ := ob hf
         refine awp_cutx (X := {q : Int // p147 = .go q}) (fun q => ([(7, (.int .i64 q.1))], [])) ?_ ?_
         ·refine awp_loop (X := {q : (Int × Nat) // spec_l01OK_B_L1 j_1 rec deep_2 (j_1.Items.drop q.2) q.1 q.2 = some p147}) (fun q => ([(1, (.int .i64 deep_2)), (2, (.ptr 0 0 0)), (7, (.int .i64 q.1.1)), (8, (.int .i64 (q.1.2 : Int)))], [.box 5 (.agg [(.int .i64 j_1.Kind), (.int .i64 j_1.N), (.str j_1.T), (.lst 1 (j_1.Keys.map AV.str)), (.lst 5 (j_1.Items.map encGJson))])])) (fun q => j_1.Items.length - q.1.2) ⟨(1, 0), hb1⟩ ⟨[], [0], _, _, rfl, rfl, ⟨.refl _, ⟨.refl _, ⟨.refl _, ⟨.refl _, trivial⟩⟩⟩⟩, (.refl _)⟩ ?_
          rintro ⟨⟨n_107, i_108⟩, hc1⟩
          have hc1 : spec_l01OK_B_L1 j_1 rec deep_2 (j_1.Items.drop i_108) n_107 i_108 = some p147 := hc1
          refine (show awp Try.prog false 0 _ (ofL [(1, (.int .i64 deep_2)), (2, (.ptr 0 0 0)), (7, (.int .i64 n_107)), (8, (.int .i64 (i_108 : Int)))]) [.box 5 (.agg [(.int .i64 j_1.Kind), (.int .i64 j_1.N), (.str j_1.T), (.lst 1 (j_1.Keys.map AV.str)), (.lst 5 (j_1.Items.map encGJson))])] _ from ?_)
          rcases dropc j_1.Items i_108 with ⟨hie150, hd153⟩ | ⟨hlt148, x_154, hx149, hd153⟩
          ·rw [hd153, spec_l01OK_B_L1.eq_1] at hc1
           have hq152 := dlf hie150
           refine awp_seq <| awp_seq <| w_reg <| s_mov (.int .i64 (i_108 : Int)) rfl <| s_q (.ptr 0 0 4) rfl trivial rfl <| s_q (.lst 5 (j_1.Items.map encGJson)) rfl nle rfl <| s_dof (o_len (enc := encGJson) rfl) fun hl155 => s_q (.bool (decide ((i_108 : Int) < (j_1.Items.length : Int)))) rfl rfl rfl <| w_done <| k_seq <| w_condf rfl hq152 <| w_exit <| k_seqx <| k_loopx <| k_blkx <| ?_; obtain rfl := os hc1; exact k_cutn ⟨_, rfl⟩ ⟨[], [], _, _, rfl, rfl, ⟨.refl _, trivial⟩, (.refl _)⟩
          ·rw [hd153, spec_l01OK_B_L1.eq_2] at hc1
           have hq152 := dlt hlt148
           refine awp_seq <| awp_seq <| w_reg <| s_mov (.int .i64 (i_108 : Int)) rfl <| s_q (.ptr 0 0 4) rfl trivial rfl <| s_q (.lst 5 (j_1.Items.map encGJson)) rfl nle rfl <| s_dof (o_len (enc := encGJson) rfl) fun hl156 => s_q (.bool (decide ((i_108 : Int) < (j_1.Items.length : Int)))) rfl rfl rfl <| w_done <| k_seq <| w_condt rfl hq152 <| w_skip <| k_seq <| awp_seq <| w_blk <| awp_seq <| awp_seq <| ?_
           obtain ⟨s156_168, hb2, hc1⟩ := ob hc1
           refine awp_cut ([(1, (.int .i64 deep_2)), (2, (.ptr 0 0 0)), (7, (.int .i64 n_107)), (8, (.int .i64 (i_108 : Int))), (156, (.bool s156_168))], [.box 5 (.agg [(.int .i64 j_1.Kind), (.int .i64 j_1.N), (.str j_1.T), (.lst 1 (j_1.Keys.map AV.str)), (.lst 5 (j_1.Items.map encGJson))])]) ?_ ?_
           ·refine w_reg <| s_q (.ptr 0 0 0) rfl trivial rfl <| s_q (.int .i64 j_1.Kind) rfl nle rfl <| s_q (.bool (j_1.Kind == 5)) rfl rfl rfl <| s_mov (.bool (j_1.Kind == 5)) rfl <| ?_
            rcases oi hb2 with ⟨c170, hb2⟩ | ⟨c170, hb2⟩
            ·refine s_lit (s := 130) (b := true) rfl c170 <| s_on rfl <| s_q (.ptr 0 0 3) rfl trivial rfl <| s_on rfl <| s_q (.lst 1 (j_1.Keys.map AV.str)) rfl nle rfl <| s_on rfl <| s_mov (.int .i64 (i_108 : Int)) rfl <| s_on rfl <| ?_
             obtain ⟨x_171, ex172, hb2⟩ := ob hb2
             refine s_do (o_iaddr (enc := AV.str) rfl rfl (idx0 ex172) (idx1 ex172)) <| s_on rfl <| s_q (.str x_171) rfl ⟨rfl, rfl⟩ rfl <| s_onl rfl <| ?_
             obtain ⟨r_173, er174, hb2⟩ := ob hb2
             refine s_dol (o_call (w_spec_l01Text _ _ er174) rfl (.refl _) rfl) a_same trivial <| s_on rfl <| s_q (.bool (!r_173)) rfl trivial rfl <| s_on rfl <| s_mov (.bool (!r_173)) rfl <| ?_
             rcases oi hb2 with ⟨c175, hb2⟩ | ⟨c175, hb2⟩
             ·refine s_lit (s := 138) (b := true) rfl c175 <| s_off rfl rfl <| s_off rfl rfl <| s_off rfl rfl <| s_offs rfl <| s_offs rfl <| s_offs rfl <| s_offs rfl <| s_offs rfl <| s_offs rfl <| s_offs rfl <| s_offs rfl <| s_offs rfl <| s_offs rfl <| s_offs rfl <| s_offs rfl <| s_off rfl rfl <| s_on rfl <| s_q (.bool true) rfl trivial rfl <| s_q (.bool true) rfl trivial rfl <| w_done <| ?_; obtain rfl := os hb2; exact ⟨[], [0], _, _, rfl, rfl, ⟨.refl _, ⟨.refl _, ⟨.refl _, ⟨.refl _, ⟨.refl _, trivial⟩⟩⟩⟩⟩, (.refl _)⟩
             ·refine s_lit (s := 138) (b := false) rfl (bf c175) <| s_on rfl <| s_mov (.int .i64 (i_108 : Int)) rfl <| s_on rfl <| s_q (.bool (decide ((i_108 : Int) > 0))) rfl rfl rfl <| s_on rfl <| s_mov (.bool (decide ((i_108 : Int) > 0))) rfl <| ?_
              rcases oi hb2 with ⟨c176, hb2⟩ | ⟨c176, hb2⟩
              ·refine s_lit (s := 141) (b := true) rfl c176 <| s_on rfl <| s_q (.ptr 0 0 3) rfl trivial rfl <| s_on rfl <| s_q (.lst 1 (j_1.Keys.map AV.str)) rfl nle rfl <| s_on rfl <| s_mov (.int .i64 (i_108 : Int)) rfl <| s_on rfl <| s_q (.int .i64 (w64 ((i_108 : Int) - 1))) rfl rfl rfl <| s_on rfl <| ?_
               obtain ⟨x_177, ex178, hb2⟩ := ob hb2
               refine s_do (o_iaddr (enc := AV.str) rfl rfl (idx0 ex178) (idx1 ex178)) <| s_on rfl <| s_q (.str x_177) rfl ⟨rfl, rfl⟩ rfl <| s_on rfl <| s_q (.ptr 0 0 3) rfl trivial rfl <| s_on rfl <| s_q (.lst 1 (j_1.Keys.map AV.str)) rfl nle rfl <| s_on rfl <| s_mov (.int .i64 (i_108 : Int)) rfl <| s_on rfl <| ?_
               obtain ⟨x_179, ex180, hb2⟩ := ob hb2
               refine s_do (o_iaddr (enc := AV.str) rfl rfl (idx0 ex180) (idx1 ex180)) <| s_on rfl <| s_q (.str x_179) rfl ⟨rfl, rfl⟩ rfl <| s_on rfl <| s_q (.bool (!Op.bytesLess x_177 x_179)) rfl trivial rfl <| s_on rfl <| s_q (.bool (!Op.bytesLess x_177 x_179)) rfl trivial rfl <| s_on rfl <| s_q (.bool (!Op.bytesLess x_177 x_179)) rfl trivial rfl <| s_q (.bool (!Op.bytesLess x_177 x_179)) rfl trivial rfl <| w_done <| ?_; obtain rfl := os hb2; exact ⟨[], [0], _, _, rfl, rfl, ⟨.refl _, ⟨.refl _, ⟨.refl _, ⟨.refl _, ⟨.refl _, trivial⟩⟩⟩⟩⟩, (.refl _)⟩
              ·refine s_lit (s := 141) (b := false) rfl (bf c176) <| s_off rfl rfl <| s_off rfl rfl <| s_off rfl rfl <| s_off rfl rfl <| s_off rfl rfl <| s_off rfl rfl <| s_off rfl rfl <| s_off rfl rfl <| s_off rfl rfl <| s_off rfl rfl <| s_off rfl rfl <| s_off rfl rfl <| s_on rfl <| s_q (.bool false) rfl trivial rfl <| s_on rfl <| s_q (.bool false) rfl trivial rfl <| s_q (.bool false) rfl trivial rfl <| w_done <| ?_; obtain rfl := os hb2; exact ⟨[], [0], _, _, rfl, rfl, ⟨.refl _, ⟨.refl _, ⟨.refl _, ⟨.refl _, ⟨.refl _, trivial⟩⟩⟩⟩⟩, (.refl _)⟩
            ·refine s_lit (s := 130) (b := false) rfl (bf c170) <| s_off rfl rfl <| s_off rfl rfl <| s_off rfl rfl <| s_off rfl rfl <| s_off rfl rfl <| s_offl rfl rfl trivial <| s_off rfl rfl <| s_off rfl rfl <| s_offs rfl <| s_offs rfl <| s_offs rfl <| s_offs rfl <| s_offs rfl <| s_offs rfl <| s_offs rfl <| s_offs rfl <| s_offs rfl <| s_offs rfl <| s_offs rfl <| s_offs rfl <| s_offs rfl <| s_offs rfl <| s_offs rfl <| s_offs rfl <| s_off rfl rfl <| s_q (.bool false) rfl trivial rfl <| w_done <| ?_; obtain rfl := os hb2; exact ⟨[], [0], _, _, rfl, rfl, ⟨.refl _, ⟨.refl _, ⟨.refl _, ⟨.refl _, ⟨.refl _, trivial⟩⟩⟩⟩⟩, (.refl _)⟩
           ·rcases oi hc1 with ⟨c181, hc1⟩ | ⟨c181, hc1⟩
            ·refine w_condt rfl c181 <| awp_seq <| w_reg <| s_mov (.int .i64 0) rfl <| s_mov (.bool false) rfl <| w_done <| k_seq <| w_ret <| ?_; obtain rfl := os hc1; obtain rfl := os hf; exact r_flat ⟨trivial, ⟨trivial, trivial⟩⟩ rfl (.refl _)
            ·refine w_condf rfl (bf c181) <| w_skip <| k_seq <| awp_seq <| w_reg <| s_q (.ptr 0 0 4) rfl trivial rfl <| s_q (.lst 5 (j_1.Items.map encGJson)) rfl nle rfl <| s_mov (.int .i64 (i_108 : Int)) rfl <| s_do (o_iaddrn (enc := encGJson) rfl rfl hx149) <| s_do (o_loadeq (v := (.agg [(.int .i64 x_154.Kind), (.int .i64 x_154.N), (.str x_154.T), (.lst 1 (x_154.Keys.map AV.str)), (.lst 5 (x_154.Items.map encGJson))])) rfl (encGJson_eq _) nle rfl) <| s_mov (.int .i64 deep_2) rfl <| s_q (.int .i64 (w64 (deep_2 - 1))) rfl rfl rfl <| ?_
             obtain ⟨r_182, er183, hc1⟩ := ob hc1
             refine s_do (o_call (hrec _ _ _ er183) rfl (.cons (.of_eq (encGJson_eq x_154).symm) (.cons (.refl _) .nil)) rfl) <| s_mov (.tup [(.int .i64 r_182.1), (.bool r_182.2)]) rfl <| s_q (.int .i64 r_182.1) rfl nle rfl <| s_q (.bool r_182.2) rfl nle rfl <| s_mov (.int .i64 r_182.1) rfl <| s_mov (.bool r_182.2) rfl <| w_done <| k_seq <| awp_seq <| w_reg <| s_mov (.int .i64 n_107) rfl <| s_mov (.int .i64 r_182.1) rfl <| s_q (.int .i64 (w64 (n_107 + r_182.1))) rfl rfl rfl <| s_mov (.int .i64 (w64 (n_107 + r_182.1))) rfl <| w_done <| k_seq <| awp_seq <| ?_
             obtain ⟨s176_185, hb2, hc1⟩ := ob hc1
             refine awp_cut ([(1, (.int .i64 deep_2)), (2, (.ptr 0 0 0)), (7, (.int .i64 (w64 (n_107 + r_182.1)))), (8, (.int .i64 (i_108 : Int))), (176, (.bool s176_185))], [.box 5 (.agg [(.int .i64 j_1.Kind), (.int .i64 j_1.N), (.str j_1.T), (.lst 1 (j_1.Keys.map AV.str)), (.lst 5 (j_1.Items.map encGJson))])]) ?_ ?_
             ·refine w_reg ?_
              rcases oi hb2 with ⟨c187, hb2⟩ | ⟨c187, hb2⟩
              ·refine s_mov (.bool r_182.2) rfl <| s_q (.bool (!r_182.2)) rfl trivial rfl <| s_mov (.bool (!r_182.2)) rfl <| s_lit (s := 173) (b := true) rfl c187 <| s_off rfl rfl <| s_off rfl rfl <| s_q (.bool true) rfl trivial rfl <| w_done <| ?_; obtain rfl := os hb2; exact ⟨[], [0], _, _, rfl, rfl, ⟨.refl _, ⟨.refl _, ⟨.refl _, ⟨.refl _, ⟨.refl _, trivial⟩⟩⟩⟩⟩, (.refl _)⟩
              ·refine s_mov (.bool r_182.2) rfl <| s_q (.bool (!r_182.2)) rfl trivial rfl <| s_mov (.bool (!r_182.2)) rfl <| s_lit (s := 173) (b := false) rfl (bf c187) <| s_on rfl <| s_mov (.int .i64 (w64 (n_107 + r_182.1))) rfl <| s_on rfl <| s_q (.bool (decide (w64 (n_107 + r_182.1) > 400))) rfl rfl rfl <| s_q (.bool (decide (w64 (n_107 + r_182.1) > 400))) rfl trivial rfl <| w_done <| ?_; obtain rfl := os hb2; exact ⟨[], [0], _, _, rfl, rfl, ⟨.refl _, ⟨.refl _, ⟨.refl _, ⟨.refl _, ⟨.refl _, trivial⟩⟩⟩⟩⟩, (.refl _)⟩
             ·rcases oi hc1 with ⟨c188, hc1⟩ | ⟨c188, hc1⟩
              ·refine w_condt rfl c188 <| awp_seq <| w_reg <| s_mov (.int .i64 0) rfl <| s_mov (.bool false) rfl <| w_done <| k_seq <| w_ret <| ?_; obtain rfl := os hc1; obtain rfl := os hf; exact r_flat ⟨trivial, ⟨trivial, trivial⟩⟩ rfl (.refl _)
              ·refine w_condf rfl (bf c188) <| w_skip <| k_blk <| k_seq <| w_reg <| s_mov (.int .i64 (i_108 : Int)) rfl <| s_q (.int .i64 (w64 ((i_108 : Int) + 1))) rfl rfl rfl <| s_mov (.int .i64 (w64 ((i_108 : Int) + 1))) rfl <| w_done <| ?_; exact k_loopn ⟨(w64 (n_107 + r_182.1), (i_108 + 1)), hc1⟩ (mul hlt148) ⟨[], [0], _, _, rfl, rfl, ⟨.refl _, ⟨.refl _, ⟨.refl _, ⟨.of_eq (congrArg (AV.int _) (w64_incr hlt148 hl156)), trivial⟩⟩⟩⟩, (.refl _)⟩
         ·rintro ⟨n_146, rfl⟩
          refine awp_seq <| w_reg <| s_mov (.int .i64 n_146) rfl <| s_mov (.int .i64 n_146) rfl <| s_mov (.bool true) rfl <| w_done <| k_seq <| w_ret <| ?_; obtain rfl := os hf; exact r_flat ⟨trivial, ⟨trivial, trivial⟩⟩ rfl (.refl _)
def spec_l01OK : Nat → GJson → Int → Option (Int × Bool)
 | 0, _, _ => none
 | k + 1, j_1, deep_2 => spec_l01OK_B (spec_l01OK k) j_1 deep_2
theorem w_spec_l01OK : ∀ (k : Nat) (j_1 : GJson) (deep_2 : Int) (r : (Int × Bool)), spec_l01OK k j_1 deep_2 = some r → CallOK Try.prog 181 .flat [(encGJson j_1), (.int .i64 deep_2)] (.tup [(.int .i64 r.1), (.bool r.2)])
 | 0, j_1, deep_2, r, h => by rw [spec_l01OK.eq_1] at h; cases h
 | k + 1, j_1, deep_2, r, h => by
  rw [spec_l01OK.eq_2] at h; exact w_spec_l01OK_B _ (w_spec_l01OK k) j_1 deep_2 r h

/- spec.JsonOK -/
def c121 : ACode :=
 (.seq (.reg (tq 1 (.box 5 (.t 0)) (tm 2 (.c (.bool false)) .done)))
 (.seq (.reg (tq 6 (.load 5 true (.t 1)) (tq 7 (.call 181 [(.t 6), (.c (.int .i64 12))]) (tm 5 (.t 7) (tq 8 (.extract 0 (.t 5)) (tq 9 (.extract 1 (.t 5)) (tm 3 (.t 8) (tm 4 (.t 9) .done))))))))
 (.seq (.reg (tm 10 (.t 4) (tm 2 (.t 10) .done)))
 .ret)))
theorem fc121 : fcomp Try.prog Try.f121 = some (c121.erase, [.mov (.t 2)], 11) := by kernel_rfl
def spec_JsonOK (j_1 : GJson) : Option Bool :=
    (spec_l01OK FUEL j_1 12).bind fun r_2 =>
    some r_2.2
theorem w_spec_JsonOK (j_1 : GJson) (r : Bool) (hf : spec_JsonOK j_1 = some r) : CallOK Try.prog 121 .flat [(encGJson j_1)] (.bool r) := by
 refine CallOK.of_awp mixed Try.func121 fc121 nle ?_; rw [argT_eq]; rw [encGJson_eq j_1]; unfold spec_JsonOK at hf; unfold c121; refine (show awp Try.prog false 0 _ (ofL [(0, (.agg [(.int .i64 j_1.Kind), (.int .i64 j_1.N), (.str j_1.T), (.lst 1 (j_1.Keys.map AV.str)), (.lst 5 (j_1.Items.map encGJson))]))]) [] _ from ?_); refine awp_seq <| w_reg <| s_do (o_box (j := 0) (c := (.agg [(.int .i64 j_1.Kind), (.int .i64 j_1.N), (.str j_1.T), (.lst 1 (j_1.Keys.map AV.str)), (.lst 5 (j_1.Items.map encGJson))])) rfl trivial rfl rfl) <| s_mov (.bool false) rfl <| w_done <| k_seq <| awp_seq <| w_reg <| ?_
 obtain ⟨r_2, er3, hf⟩ := ob hf
 refine s_q (.agg [(.int .i64 j_1.Kind), (.int .i64 j_1.N), (.str j_1.T), (.lst 1 (j_1.Keys.map AV.str)), (.lst 5 (j_1.Items.map encGJson))]) rfl nle rfl <| s_do (o_call (w_spec_l01OK FUEL _ _ _ er3) rfl (.cons (.of_eq (encGJson_eq j_1).symm) (.cons (.refl _) .nil)) rfl) <| s_mov (.tup [(.int .i64 r_2.1), (.bool r_2.2)]) rfl <| s_q (.int .i64 r_2.1) rfl nle rfl <| s_q (.bool r_2.2) rfl nle rfl <| s_mov (.int .i64 r_2.1) rfl <| s_mov (.bool r_2.2) rfl <| w_done <| k_seq <| awp_seq <| w_reg <| s_mov (.bool r_2.2) rfl <| s_mov (.bool r_2.2) rfl <| w_done <| k_seq <| w_ret <| ?_; obtain rfl := os hf; exact r_flat ⟨trivial, trivial⟩ rfl (.refl _)

/- spec.l13Request -/
def c137 : ACode :=
 (.seq (.reg (tq 1 (.box 5 (.t 0)) (tq 2 (.box 3 (.c (.agg [(.int .i64 0), (.str []), .nil]))) (tm 3 (.c (.bool false)) .done))))
 (.seq (.seq (.reg (tq 5 (.faddr 0 (.t 1)) (tq 6 (.load 1 false (.t 5)) (tq 7 (.bin .neq (.t 6) (.c (.int .i64 5))) (tm 8 (.t 7) (tg 9 8 false (.faddr 3 (.t 1)) (tg 10 8 false (.load 1 false (.t 9)) (tg 11 8 false (.len (.t 10)) (tg 12 8 false (.bin .neq (.t 11) (.c (.int .i64 3))) (tq 13 (.pick (.t 8) (.c (.bool true)) (.t 12)) (tm 14 (.t 13) (tg 15 14 false (.faddr 3 (.t 1)) (tg 16 14 false (.load 1 false (.t 15)) (tg 17 14 false (.iaddr 1 (.t 16) (.c (.int .i64 0))) (tg 18 14 false (.load 1 false (.t 17)) (tg 19 14 false (.bin .neq (.t 18) (.c (.str [105, 100]))) (tq 20 (.pick (.t 14) (.c (.bool true)) (.t 19)) (tm 21 (.t 20) (tg 22 21 false (.faddr 3 (.t 1)) (tg 23 21 false (.load 1 false (.t 22)) (tg 24 21 false (.iaddr 1 (.t 23) (.c (.int .i64 1))) (tg 25 21 false (.load 1 false (.t 24)) (tg 26 21 false (.bin .neq (.t 25) (.c (.str [109, 101, 116, 104, 111, 100]))) (tq 27 (.pick (.t 21) (.c (.bool true)) (.t 26)) (tm 28 (.t 27) (tg 29 28 false (.faddr 3 (.t 1)) (tg 30 28 false (.load 1 false (.t 29)) (tg 31 28 false (.iaddr 1 (.t 30) (.c (.int .i64 2))) (tg 32 28 false (.load 1 false (.t 31)) (tg 33 28 false (.bin .neq (.t 32) (.c (.str [112, 97, 114, 97, 109, 115]))) (tq 34 (.pick (.t 28) (.c (.bool true)) (.t 33)) .done)))))))))))))))))))))))))))))))
 (.cut (.cond (.t 34) (.seq (.reg (tq 35 (.build [(.int .i64 0), (.str []), .nil] []) (.q ⟨none, none, .store 3 (.t 2) (.t 35)⟩
 (tm 3 (.c (.bool false)) .done))))
 .ret)
 .skip)))
 (.seq (.reg (tq 36 (.faddr 4 (.t 1)) (tq 37 (.load 1 false (.t 36)) (tq 38 (.iaddr 5 (.t 37) (.c (.int .i64 0))) (tq 39 (.faddr 1 (.t 38)) (tq 40 (.load 1 false (.t 39)) (tq 41 (.faddr 4 (.t 1)) (tq 42 (.load 1 false (.t 41)) (tq 43 (.iaddr 5 (.t 42) (.c (.int .i64 1))) (tq 44 (.faddr 2 (.t 43)) (tq 45 (.load 1 false (.t 44)) (tq 46 (.faddr 4 (.t 1)) (tq 47 (.load 1 false (.t 46)) (tq 48 (.iaddr 5 (.t 47) (.c (.int .i64 2))) (tq 49 (.faddr 4 (.t 48)) (tq 50 (.load 1 false (.t 49)) (tq 51 (.build [(.int .i64 0), (.str []), .nil] [(0, 1, (.t 40)), (1, 1, (.t 45)), (2, 1, (.t 50))]) (.l ⟨(some 4), none, .box 3 (.c (.agg [(.int .i64 0), (.str []), .nil]))⟩ [⟨(some 51), none, .build [(.int .i64 0), (.str []), .nil] [(0, 1, (.t 40)), (1, 1, (.t 45)), (2, 1, (.t 50))]⟩, ⟨(some 50), none, .load 1 false (.t 49)⟩, ⟨(some 49), none, .faddr 4 (.t 48)⟩, ⟨(some 48), none, .iaddr 5 (.t 47) (.c (.int .i64 2))⟩, ⟨(some 47), none, .load 1 false (.t 46)⟩, ⟨(some 46), none, .faddr 4 (.t 1)⟩, ⟨(some 45), none, .load 1 false (.t 44)⟩, ⟨(some 44), none, .faddr 2 (.t 43)⟩, ⟨(some 43), none, .iaddr 5 (.t 42) (.c (.int .i64 1))⟩, ⟨(some 42), none, .load 1 false (.t 41)⟩, ⟨(some 41), none, .faddr 4 (.t 1)⟩, ⟨(some 40), none, .load 1 false (.t 39)⟩, ⟨(some 39), none, .faddr 1 (.t 38)⟩, ⟨(some 38), none, .iaddr 5 (.t 37) (.c (.int .i64 0))⟩, ⟨(some 37), none, .load 1 false (.t 36)⟩, ⟨(some 36), none, .faddr 4 (.t 1)⟩]
 (.l ⟨none, none, .store 3 (.t 4) (.t 51)⟩ []
 .done .non) .non))))))))))))))))))
 (.seq (.reg (tq 52 (.load 3 true (.t 4)) (tq 53 (.faddr 4 (.t 1)) (tq 54 (.load 1 false (.t 53)) (tq 55 (.iaddr 5 (.t 54) (.c (.int .i64 0))) (tq 56 (.faddr 0 (.t 55)) (tq 57 (.load 1 false (.t 56)) (tq 58 (.bin .eql (.t 57) (.c (.int .i64 2))) (tm 59 (.t 58) (tg 60 59 true (.faddr 4 (.t 1)) (tg 61 59 true (.load 1 false (.t 60)) (tg 62 59 true (.iaddr 5 (.t 61) (.c (.int .i64 1))) (tg 63 59 true (.faddr 0 (.t 62)) (tg 64 59 true (.load 1 false (.t 63)) (tg 65 59 true (.bin .eql (.t 64) (.c (.int .i64 3))) (tq 66 (.pick (.t 59) (.t 65) (.c (.bool false))) (tm 67 (.t 66) (tg 68 67 true (.faddr 4 (.t 1)) (tg 69 67 true (.load 1 false (.t 68)) (tg 70 67 true (.iaddr 5 (.t 69) (.c (.int .i64 2))) (tg 71 67 true (.faddr 0 (.t 70)) (tg 72 67 true (.load 1 false (.t 71)) (tg 73 67 true (.bin .eql (.t 72) (.c (.int .i64 4))) (tq 74 (.pick (.t 67) (.t 73) (.c (.bool false))) (.l ⟨none, none, .store 3 (.t 2) (.t 52)⟩ [⟨(some 72), (some (67, true)), .load 1 false (.t 71)⟩, ⟨(some 71), (some (67, true)), .faddr 0 (.t 70)⟩, ⟨(some 70), (some (67, true)), .iaddr 5 (.t 69) (.c (.int .i64 2))⟩, ⟨(some 69), (some (67, true)), .load 1 false (.t 68)⟩, ⟨(some 68), (some (67, true)), .faddr 4 (.t 1)⟩]
 (tm 3 (.t 74) .done) .non)))))))))))))))))))))))))
 .ret))))
theorem fc137 : fcomp Try.prog Try.f137 = some (c137.erase, [.load 3 true (.t 2), .mov (.t 3)], 75) := by kernel_rfl
def spec_l13Request (j_1 : GJson) : Option (GRequest × Bool) :=
    ((if (bif (j_1.Kind != 5) then true else ((j_1.Keys.length : Int) != 3)) then
    some true
    else
    (idx j_1.Keys 0).bind fun x_16 =>
    if (!(x_16 == [105, 100])) then
    some true
    else
    (idx j_1.Keys 1).bind fun x_19 =>
    if (!(x_19 == [109, 101, 116, 104, 111, 100])) then
    some true
    else
    (idx j_1.Keys 2).bind fun x_22 =>
    some (!(x_22 == [112, 97, 114, 97, 109, 115])) : Option Bool)).bind fun s34_12 =>
    if s34_12 then
    some ((⟨0, [], []⟩ : GRequest), false)
    else
    (idx j_1.Items 0).bind fun x_25 =>
    (idx j_1.Items 1).bind fun x_27 =>
    (idx j_1.Items 2).bind fun x_29 =>
    (idx j_1.Items 0).bind fun x_31 =>
    if (x_31.Kind == 2) then
    (idx j_1.Items 1).bind fun x_34 =>
    if (x_34.Kind == 3) then
    (idx j_1.Items 2).bind fun x_37 =>
    some ((⟨x_25.N, x_27.T, x_29.Items⟩ : GRequest), (x_37.Kind == 4))
    else
    some ((⟨x_25.N, x_27.T, x_29.Items⟩ : GRequest), false)
    else
    some ((⟨x_25.N, x_27.T, x_29.Items⟩ : GRequest), false)
theorem w_spec_l13Request (j_1 : GJson) (r : (GRequest × Bool)) (hf : spec_l13Request j_1 = some r) : CallOK Try.prog 137 .weak [(encGJson j_1)] (.tup [(encGRequest r.1), (.bool r.2)]) := by
 refine CallOK.of_awp mixed Try.func137 fc137 nle ?_; rw [argT_eq]; rw [encGJson_eq j_1]; unfold spec_l13Request at hf; unfold c137; refine (show awp Try.prog false 0 _ (ofL [(0, (.agg [(.int .i64 j_1.Kind), (.int .i64 j_1.N), (.str j_1.T), (.lst 1 (j_1.Keys.map AV.str)), (.lst 5 (j_1.Items.map encGJson))]))]) [] _ from ?_); refine awp_seq <| w_reg <| s_do (o_box (j := 0) (c := (.agg [(.int .i64 j_1.Kind), (.int .i64 j_1.N), (.str j_1.T), (.lst 1 (j_1.Keys.map AV.str)), (.lst 5 (j_1.Items.map encGJson))])) rfl trivial rfl rfl) <| s_do (o_box (j := 1) (c := (.agg [(.int .i64 0), (.str []), .nil])) rfl trivial rfl rfl) <| s_mov (.bool false) rfl <| w_done <| k_seq <| awp_seq <| awp_seq <| ?_
 obtain ⟨s34_12, hb1, hf⟩ := ob hf
 refine awp_cut ([(1, (.ptr 0 0 0)), (2, (.ptr 1 0 0)), (34, (.bool s34_12))], [.box 5 (.agg [(.int .i64 j_1.Kind), (.int .i64 j_1.N), (.str j_1.T), (.lst 1 (j_1.Keys.map AV.str)), (.lst 5 (j_1.Items.map encGJson))]), .box 3 (.agg [(.int .i64 0), (.str []), .nil])]) ?_ ?_
 ·refine w_reg <| s_q (.ptr 0 0 0) rfl trivial rfl <| s_q (.int .i64 j_1.Kind) rfl nle rfl <| s_q (.bool (j_1.Kind != 5)) rfl rfl rfl <| s_mov (.bool (j_1.Kind != 5)) rfl <| ?_; refine s_g (v := (j_1.Kind != 5)) (.ptr 0 0 3) rfl (fun hv => by (try simp only [gs_on hv]); exact ⟨rfl, trivial, rfl⟩) ?_; refine s_g (v := (j_1.Kind != 5)) (.lst 1 (j_1.Keys.map AV.str)) rfl (fun hv => by (try simp only [gs_on hv]); exact ⟨rfl, nle, rfl⟩) ?_; refine s_g (v := (j_1.Kind != 5)) (.int .i64 (j_1.Keys.length : Int)) rfl (fun hv => by (try simp only [gs_on hv]); exact ⟨rfl, trivial, lenV _ _⟩) ?_; refine s_g (v := (j_1.Kind != 5)) (.bool ((j_1.Keys.length : Int) != 3)) rfl (fun hv => by (try simp only [gs_on hv]); exact ⟨rfl, rfl, rfl⟩) ?_
  refine s_pick (x := true) (y := ((j_1.Keys.length : Int) != 3)) rfl (fun hv => by (try simp only [gs_on hv]); rfl) (fun hv => by (try simp only [gs_on hv]); rfl) ?_; refine s_mov (.bool (bif (j_1.Kind != 5) then true else ((j_1.Keys.length : Int) != 3))) rfl ?_
  rcases oi hb1 with ⟨c15, hb1⟩ | ⟨c15, hb1⟩
  ·refine s_lit (s := 14) (b := true) rfl c15 <| s_off rfl rfl <| s_off rfl rfl <| s_off rfl rfl <| s_off rfl rfl <| s_off rfl rfl <| s_q (.bool true) rfl trivial rfl <| s_mov (.bool true) rfl <| s_off rfl rfl <| s_off rfl rfl <| s_off rfl rfl <| s_off rfl rfl <| s_off rfl rfl <| s_q (.bool true) rfl trivial rfl <| s_mov (.bool true) rfl <| s_off rfl rfl <| s_off rfl rfl <| s_off rfl rfl <| s_off rfl rfl <| s_off rfl rfl <| s_q (.bool true) rfl trivial rfl <| w_done <| ?_; obtain rfl := os hb1; exact ⟨[], [0, 1], _, _, rfl, rfl, ⟨.refl _, ⟨.refl _, ⟨.refl _, trivial⟩⟩⟩, (.refl _)⟩
  ·refine s_lit (s := 14) (b := false) rfl (bf c15) <| s_on rfl <| s_q (.ptr 0 0 3) rfl trivial rfl <| s_on rfl <| s_q (.lst 1 (j_1.Keys.map AV.str)) rfl nle rfl <| s_on rfl <| ?_
   obtain ⟨x_16, ex17, hb1⟩ := ob hb1
   refine s_do (o_iaddr (enc := AV.str) rfl rfl (idx0 ex17) (idx1 ex17)) <| s_on rfl <| s_q (.str x_16) rfl ⟨rfl, rfl⟩ rfl <| s_on rfl <| s_q (.bool (!(x_16 == [105, 100]))) rfl trivial rfl <| s_q (.bool (!(x_16 == [105, 100]))) rfl trivial rfl <| s_mov (.bool (!(x_16 == [105, 100]))) rfl <| ?_
   rcases oi hb1 with ⟨c18, hb1⟩ | ⟨c18, hb1⟩
   ·refine s_lit (s := 21) (b := true) rfl c18 <| s_off rfl rfl <| s_off rfl rfl <| s_off rfl rfl <| s_off rfl rfl <| s_off rfl rfl <| s_q (.bool true) rfl trivial rfl <| s_mov (.bool true) rfl <| s_off rfl rfl <| s_off rfl rfl <| s_off rfl rfl <| s_off rfl rfl <| s_off rfl rfl <| s_q (.bool true) rfl trivial rfl <| w_done <| ?_; obtain rfl := os hb1; exact ⟨[], [0, 1], _, _, rfl, rfl, ⟨.refl _, ⟨.refl _, ⟨.refl _, trivial⟩⟩⟩, (.refl _)⟩
   ·refine s_lit (s := 21) (b := false) rfl (bf c18) <| s_on rfl <| s_q (.ptr 0 0 3) rfl trivial rfl <| s_on rfl <| s_q (.lst 1 (j_1.Keys.map AV.str)) rfl nle rfl <| s_on rfl <| ?_
    obtain ⟨x_19, ex20, hb1⟩ := ob hb1
    refine s_do (o_iaddr (enc := AV.str) rfl rfl (idx0 ex20) (idx1 ex20)) <| s_on rfl <| s_q (.str x_19) rfl ⟨rfl, rfl⟩ rfl <| s_on rfl <| s_q (.bool (!(x_19 == [109, 101, 116, 104, 111, 100]))) rfl trivial rfl <| s_q (.bool (!(x_19 == [109, 101, 116, 104, 111, 100]))) rfl trivial rfl <| s_mov (.bool (!(x_19 == [109, 101, 116, 104, 111, 100]))) rfl <| ?_
    rcases oi hb1 with ⟨c21, hb1⟩ | ⟨c21, hb1⟩
    ·refine s_lit (s := 28) (b := true) rfl c21 <| s_off rfl rfl <| s_off rfl rfl <| s_off rfl rfl <| s_off rfl rfl <| s_off rfl rfl <| s_q (.bool true) rfl trivial rfl <| w_done <| ?_; obtain rfl := os hb1; exact ⟨[], [0, 1], _, _, rfl, rfl, ⟨.refl _, ⟨.refl _, ⟨.refl _, trivial⟩⟩⟩, (.refl _)⟩
    ·refine s_lit (s := 28) (b := false) rfl (bf c21) <| s_on rfl <| s_q (.ptr 0 0 3) rfl trivial rfl <| s_on rfl <| s_q (.lst 1 (j_1.Keys.map AV.str)) rfl nle rfl <| s_on rfl <| ?_
     obtain ⟨x_22, ex23, hb1⟩ := ob hb1
     refine s_do (o_iaddr (enc := AV.str) rfl rfl (idx0 ex23) (idx1 ex23)) <| s_on rfl <| s_q (.str x_22) rfl ⟨rfl, rfl⟩ rfl <| s_on rfl <| s_q (.bool (!(x_22 == [112, 97, 114, 97, 109, 115]))) rfl trivial rfl <| s_q (.bool (!(x_22 == [112, 97, 114, 97, 109, 115]))) rfl trivial rfl <| w_done <| ?_; obtain rfl := os hb1; exact ⟨[], [0, 1], _, _, rfl, rfl, ⟨.refl _, ⟨.refl _, ⟨.refl _, trivial⟩⟩⟩, (.refl _)⟩
 ·rcases oi hf with ⟨c24, hf⟩ | ⟨c24, hf⟩
  ·refine w_condt rfl c24 <| awp_seq <| w_reg <| s_q (.agg [(.int .i64 0), (.str []), .nil]) rfl trivial rfl <| s_do0 (o_storebox (v := (.agg [(.int .i64 0), (.str []), .nil])) (y' := (.agg [(.int .i64 0), (.str []), .nil])) rfl rfl rfl trivial ⟨rfl, nle⟩ ⟨⟨rfl, trivial⟩, ⟨⟨rfl, trivial⟩, ⟨⟨rfl, trivial⟩, trivial⟩⟩⟩ rfl) <| s_mov (.bool false) rfl <| w_done <| k_seq <| w_ret <| ?_; obtain rfl := os hf; exact r_weak ⟨nle, ⟨trivial, trivial⟩⟩ rfl (.tup (.cons (.agg (.cons (.refl _) (.cons (.refl _) (.cons (.nil _) .nil)))) (.cons (.refl _) .nil)))
  ·refine w_condf rfl (bf c24) <| w_skip <| k_seq <| awp_seq <| w_reg <| s_q (.ptr 0 0 4) rfl trivial rfl <| s_q (.lst 5 (j_1.Items.map encGJson)) rfl nle rfl <| ?_
   obtain ⟨x_25, ex26, hf⟩ := ob hf
   refine s_do (o_iaddr (enc := encGJson) rfl rfl (idx0 ex26) (idx1 ex26)) <| s_q (.iptr (encGJson x_25) 1) rfl trivial rfl <| s_do (o_loadeq (v := (.int .i64 x_25.N)) rfl (encGJson_eq _) nle rfl) <| s_q (.ptr 0 0 4) rfl trivial rfl <| s_q (.lst 5 (j_1.Items.map encGJson)) rfl nle rfl <| ?_
   obtain ⟨x_27, ex28, hf⟩ := ob hf
   refine s_do (o_iaddr (enc := encGJson) rfl rfl (idx0 ex28) (idx1 ex28)) <| s_q (.iptr (encGJson x_27) 2) rfl trivial rfl <| s_do (o_loadeq (v := (.str x_27.T)) rfl (encGJson_eq _) nle rfl) <| s_q (.ptr 0 0 4) rfl trivial rfl <| s_q (.lst 5 (j_1.Items.map encGJson)) rfl nle rfl <| ?_
   obtain ⟨x_29, ex30, hf⟩ := ob hf
   refine s_do (o_iaddr (enc := encGJson) rfl rfl (idx0 ex30) (idx1 ex30)) <| s_q (.iptr (encGJson x_29) 4) rfl trivial rfl <| s_do (o_loadeq (v := (.lst 5 (x_29.Items.map encGJson))) rfl (encGJson_eq _) nle rfl) <| s_q (.agg [(.int .i64 x_25.N), (.str x_27.T), (.lst 5 (x_29.Items.map encGJson))]) rfl ⟨⟨rfl, nle, trivial⟩, ⟨⟨rfl, nle, trivial⟩, ⟨⟨rfl, nle, trivial⟩, trivial⟩⟩⟩ rfl <| s_dol (o_box (j := 2) (c := (.agg [(.int .i64 0), (.str []), .nil])) rfl trivial rfl rfl) (.inr ⟨⟨⟨⟨rfl, nle, trivial⟩, ⟨⟨rfl, nle, trivial⟩, ⟨⟨rfl, nle, trivial⟩, trivial⟩⟩⟩, rfl⟩, ⟨(ag_loadeq (v := (.lst 5 (x_29.Items.map encGJson))) rfl (encGJson_eq _) nle rfl), ⟨⟨trivial, rfl⟩, ⟨(ag_iaddr (enc := encGJson) rfl rfl (idx0 ex30) (idx1 ex30)), ⟨⟨nle, rfl⟩, ⟨⟨trivial, rfl⟩, ⟨(ag_loadeq (v := (.str x_27.T)) rfl (encGJson_eq _) nle rfl), ⟨⟨trivial, rfl⟩, ⟨(ag_iaddr (enc := encGJson) rfl rfl (idx0 ex28) (idx1 ex28)), ⟨⟨nle, rfl⟩, ⟨⟨trivial, rfl⟩, ⟨(ag_loadeq (v := (.int .i64 x_25.N)) rfl (encGJson_eq _) nle rfl), ⟨⟨trivial, rfl⟩, ⟨(ag_iaddr (enc := encGJson) rfl rfl (idx0 ex26) (idx1 ex26)), ⟨⟨nle, rfl⟩, ⟨⟨trivial, rfl⟩, trivial⟩⟩⟩⟩⟩⟩⟩⟩⟩⟩⟩⟩⟩⟩⟩⟩) trivial <| ?_
   refine s_dol0 (o_storebox (v := (.agg [(.int .i64 x_25.N), (.str x_27.T), (.lst 5 (x_29.Items.map encGJson))])) (y' := (.agg [(.int .i64 x_25.N), (.str x_27.T), (.lst 5 (x_29.Items.map encGJson))])) rfl rfl rfl trivial ⟨rfl, nle⟩ ⟨⟨rfl, trivial⟩, ⟨⟨rfl, trivial⟩, ⟨⟨rfl, trivial⟩, trivial⟩⟩⟩ rfl) trivial trivial <| w_done <| k_seq <| awp_seq <| w_reg <| s_q (.agg [(.int .i64 x_25.N), (.str x_27.T), (.lst 5 (x_29.Items.map encGJson))]) rfl nle rfl <| s_q (.ptr 0 0 4) rfl trivial rfl <| s_q (.lst 5 (j_1.Items.map encGJson)) rfl nle rfl <| ?_
   obtain ⟨x_31, ex32, hf⟩ := ob hf
   refine s_do (o_iaddr (enc := encGJson) rfl rfl (idx0 ex32) (idx1 ex32)) <| s_q (.iptr (encGJson x_31) 0) rfl trivial rfl <| s_do (o_loadeq (v := (.int .i64 x_31.Kind)) rfl (encGJson_eq _) nle rfl) <| s_q (.bool (x_31.Kind == 2)) rfl rfl rfl <| s_mov (.bool (x_31.Kind == 2)) rfl <| ?_
   rcases oi hf with ⟨c33, hf⟩ | ⟨c33, hf⟩
   ·refine s_lit (s := 59) (b := true) rfl c33 <| s_on rfl <| s_q (.ptr 0 0 4) rfl trivial rfl <| s_on rfl <| s_q (.lst 5 (j_1.Items.map encGJson)) rfl nle rfl <| s_on rfl <| ?_
    obtain ⟨x_34, ex35, hf⟩ := ob hf
    refine s_do (o_iaddr (enc := encGJson) rfl rfl (idx0 ex35) (idx1 ex35)) <| s_on rfl <| s_q (.iptr (encGJson x_34) 0) rfl trivial rfl <| s_on rfl <| s_do (o_loadeq (v := (.int .i64 x_34.Kind)) rfl (encGJson_eq _) nle rfl) <| s_on rfl <| s_q (.bool (x_34.Kind == 3)) rfl rfl rfl <| s_q (.bool (x_34.Kind == 3)) rfl trivial rfl <| s_mov (.bool (x_34.Kind == 3)) rfl <| ?_
    rcases oi hf with ⟨c36, hf⟩ | ⟨c36, hf⟩
    ·refine s_lit (s := 67) (b := true) rfl c36 <| s_on rfl <| s_q (.ptr 0 0 4) rfl trivial rfl <| s_on rfl <| s_q (.lst 5 (j_1.Items.map encGJson)) rfl nle rfl <| s_on rfl <| ?_
     obtain ⟨x_37, ex38, hf⟩ := ob hf
     refine s_do (o_iaddr (enc := encGJson) rfl rfl (idx0 ex38) (idx1 ex38)) <| s_on rfl <| s_q (.iptr (encGJson x_37) 0) rfl trivial rfl <| s_on rfl <| s_do (o_loadeq (v := (.int .i64 x_37.Kind)) rfl (encGJson_eq _) nle rfl) <| s_on rfl <| s_q (.bool (x_37.Kind == 4)) rfl rfl rfl <| s_q (.bool (x_37.Kind == 4)) rfl trivial rfl <| ?_; refine s_dol0 (o_storebox (v := (.agg [(.int .i64 x_25.N), (.str x_27.T), (.lst 5 (x_29.Items.map encGJson))])) (y' := (.agg [(.int .i64 x_25.N), (.str x_27.T), (.lst 5 (x_29.Items.map encGJson))])) rfl rfl rfl trivial ⟨rfl, nle⟩ ⟨⟨rfl, trivial⟩, ⟨⟨rfl, trivial⟩, ⟨⟨rfl, trivial⟩, trivial⟩⟩⟩ rfl) (.inr ⟨⟨fun _ => (ag_loadeq (v := (.int .i64 x_37.Kind)) rfl (encGJson_eq _) nle rfl), fun h => Bool.noConfusion h⟩, ⟨⟨fun _ => ⟨trivial, rfl⟩, fun h => Bool.noConfusion h⟩, ⟨⟨fun _ => (ag_iaddr (enc := encGJson) rfl rfl (idx0 ex38) (idx1 ex38)), fun h => Bool.noConfusion h⟩, ⟨⟨fun _ => ⟨nle, rfl⟩, fun h => Bool.noConfusion h⟩, ⟨⟨fun _ => ⟨trivial, rfl⟩, fun h => Bool.noConfusion h⟩, trivial⟩⟩⟩⟩⟩) trivial ?_
     refine s_mov (.bool (x_37.Kind == 4)) rfl <| w_done <| k_seq <| w_ret <| ?_; obtain rfl := os hf; exact r_weak ⟨nle, ⟨trivial, trivial⟩⟩ rfl (.refl _)
    ·refine s_lit (s := 67) (b := false) rfl (bf c36) <| s_off rfl rfl <| s_off rfl rfl <| s_off rfl rfl <| s_off rfl rfl <| s_off rfl rfl <| s_off rfl rfl <| s_q (.bool false) rfl trivial rfl <| ?_; refine s_dol0 (o_storebox (v := (.agg [(.int .i64 x_25.N), (.str x_27.T), (.lst 5 (x_29.Items.map encGJson))])) (y' := (.agg [(.int .i64 x_25.N), (.str x_27.T), (.lst 5 (x_29.Items.map encGJson))])) rfl rfl rfl trivial ⟨rfl, nle⟩ ⟨⟨rfl, trivial⟩, ⟨⟨rfl, trivial⟩, ⟨⟨rfl, trivial⟩, trivial⟩⟩⟩ rfl) (.inr ⟨⟨fun h => Bool.noConfusion h, fun _ => rfl⟩, ⟨⟨fun h => Bool.noConfusion h, fun _ => rfl⟩, ⟨⟨fun h => Bool.noConfusion h, fun _ => rfl⟩, ⟨⟨fun h => Bool.noConfusion h, fun _ => rfl⟩, ⟨⟨fun h => Bool.noConfusion h, fun _ => rfl⟩, trivial⟩⟩⟩⟩⟩) trivial ?_
     refine s_mov (.bool false) rfl <| w_done <| k_seq <| w_ret <| ?_; obtain rfl := os hf; exact r_weak ⟨nle, ⟨trivial, trivial⟩⟩ rfl (.refl _)
   ·refine s_lit (s := 59) (b := false) rfl (bf c33) <| s_off rfl rfl <| s_off rfl rfl <| s_off rfl rfl <| s_off rfl rfl <| s_off rfl rfl <| s_off rfl rfl <| s_q (.bool false) rfl trivial rfl <| s_mov (.bool false) rfl <| s_off rfl rfl <| s_off rfl rfl <| s_off rfl rfl <| s_off rfl rfl <| s_off rfl rfl <| s_off rfl rfl <| s_q (.bool false) rfl trivial rfl <| ?_; refine s_dol0 (o_storebox (v := (.agg [(.int .i64 x_25.N), (.str x_27.T), (.lst 5 (x_29.Items.map encGJson))])) (y' := (.agg [(.int .i64 x_25.N), (.str x_27.T), (.lst 5 (x_29.Items.map encGJson))])) rfl rfl rfl trivial ⟨rfl, nle⟩ ⟨⟨rfl, trivial⟩, ⟨⟨rfl, trivial⟩, ⟨⟨rfl, trivial⟩, trivial⟩⟩⟩ rfl) (.inr ⟨⟨fun h => Bool.noConfusion h, fun _ => rfl⟩, ⟨⟨fun h => Bool.noConfusion h, fun _ => rfl⟩, ⟨⟨fun h => Bool.noConfusion h, fun _ => rfl⟩, ⟨⟨fun h => Bool.noConfusion h, fun _ => rfl⟩, ⟨⟨fun h => Bool.noConfusion h, fun _ => rfl⟩, trivial⟩⟩⟩⟩⟩) trivial ?_
    refine s_mov (.bool false) rfl <| w_done <| k_seq <| w_ret <| ?_; obtain rfl := os hf; exact r_weak ⟨nle, ⟨trivial, trivial⟩⟩ rfl (.refl _)

/- spec.l01Own -/
def c107 : ACode :=
 (.seq (.reg (tq 1 (.box 5 (.t 0)) (tq 2 (.box 5 (.c (.agg [(.int .i64 0), (.int .i64 0), (.str []), .nil, .nil]))) .done)))
 (.seq (.reg (tq 5 (.faddr 0 (.t 1)) (tq 6 (.load 1 false (.t 5)) (tq 7 (.faddr 1 (.t 1)) (tq 8 (.load 1 false (.t 7)) (tq 9 (.faddr 2 (.t 1)) (tq 10 (.load 1 false (.t 9)) (tq 12 (.faddr 3 (.t 1)) (tq 13 (.load 1 false (.t 12)) (.l ⟨(some 11), none, .bslice 1 []⟩ [⟨(some 13), none, .load 1 false (.t 12)⟩, ⟨(some 12), none, .faddr 3 (.t 1)⟩, ⟨(some 10), none, .load 1 false (.t 9)⟩, ⟨(some 9), none, .faddr 2 (.t 1)⟩, ⟨(some 8), none, .load 1 false (.t 7)⟩, ⟨(some 7), none, .faddr 1 (.t 1)⟩, ⟨(some 6), none, .load 1 false (.t 5)⟩, ⟨(some 5), none, .faddr 0 (.t 1)⟩]
 (.l ⟨(some 14), none, .append 1 16 (.t 11) (.t 13)⟩ [⟨(some 10), none, .load 1 false (.t 9)⟩, ⟨(some 9), none, .faddr 2 (.t 1)⟩, ⟨(some 8), none, .load 1 false (.t 7)⟩, ⟨(some 7), none, .faddr 1 (.t 1)⟩, ⟨(some 6), none, .load 1 false (.t 5)⟩, ⟨(some 5), none, .faddr 0 (.t 1)⟩]
 (.l ⟨(some 15), none, .bslice 5 []⟩ [⟨(some 13), none, .load 1 false (.t 12)⟩, ⟨(some 12), none, .faddr 3 (.t 1)⟩, ⟨(some 10), none, .load 1 false (.t 9)⟩, ⟨(some 9), none, .faddr 2 (.t 1)⟩, ⟨(some 8), none, .load 1 false (.t 7)⟩, ⟨(some 7), none, .faddr 1 (.t 1)⟩, ⟨(some 6), none, .load 1 false (.t 5)⟩, ⟨(some 5), none, .faddr 0 (.t 1)⟩]
 (tq 16 (.build [(.int .i64 0), (.int .i64 0), (.str []), .nil, .nil] [(0, 1, (.t 6)), (1, 1, (.t 8)), (2, 1, (.t 10)), (3, 1, (.t 14)), (4, 1, (.t 15))]) (.l ⟨(some 3), none, .box 5 (.c (.agg [(.int .i64 0), (.int .i64 0), (.str []), .nil, .nil]))⟩ [⟨(some 16), none, .build [(.int .i64 0), (.int .i64 0), (.str []), .nil, .nil] [(0, 1, (.t 6)), (1, 1, (.t 8)), (2, 1, (.t 10)), (3, 1, (.t 14)), (4, 1, (.t 15))]⟩, ⟨(some 13), none, .load 1 false (.t 12)⟩, ⟨(some 12), none, .faddr 3 (.t 1)⟩, ⟨(some 10), none, .load 1 false (.t 9)⟩, ⟨(some 9), none, .faddr 2 (.t 1)⟩, ⟨(some 8), none, .load 1 false (.t 7)⟩, ⟨(some 7), none, .faddr 1 (.t 1)⟩, ⟨(some 6), none, .load 1 false (.t 5)⟩, ⟨(some 5), none, .faddr 0 (.t 1)⟩]
 (.l ⟨none, none, .store 5 (.t 3) (.t 16)⟩ []
 .done .non) .non)) (.l ⟨(some 3), none, .box 5 (.c (.agg [(.int .i64 0), (.int .i64 0), (.str []), .nil, .nil]))⟩ [⟨(some 13), none, .load 1 false (.t 12)⟩, ⟨(some 12), none, .faddr 3 (.t 1)⟩, ⟨(some 10), none, .load 1 false (.t 9)⟩, ⟨(some 9), none, .faddr 2 (.t 1)⟩, ⟨(some 8), none, .load 1 false (.t 7)⟩, ⟨(some 7), none, .faddr 1 (.t 1)⟩, ⟨(some 6), none, .load 1 false (.t 5)⟩, ⟨(some 5), none, .faddr 0 (.t 1)⟩]
 (.l ⟨(some 15), none, .bslice 5 []⟩ [⟨(some 13), none, .load 1 false (.t 12)⟩, ⟨(some 12), none, .faddr 3 (.t 1)⟩, ⟨(some 10), none, .load 1 false (.t 9)⟩, ⟨(some 9), none, .faddr 2 (.t 1)⟩, ⟨(some 8), none, .load 1 false (.t 7)⟩, ⟨(some 7), none, .faddr 1 (.t 1)⟩, ⟨(some 6), none, .load 1 false (.t 5)⟩, ⟨(some 5), none, .faddr 0 (.t 1)⟩]
 (tq 16 (.build [(.int .i64 0), (.int .i64 0), (.str []), .nil, .nil] [(0, 1, (.t 6)), (1, 1, (.t 8)), (2, 1, (.t 10)), (3, 1, (.t 14)), (4, 1, (.t 15))]) (.l ⟨none, none, .store 5 (.t 3) (.t 16)⟩ []
 .done .non)) .non) .non)) (.l ⟨(some 15), none, .bslice 5 []⟩ [⟨(some 13), none, .load 1 false (.t 12)⟩, ⟨(some 12), none, .faddr 3 (.t 1)⟩, ⟨(some 10), none, .load 1 false (.t 9)⟩, ⟨(some 9), none, .faddr 2 (.t 1)⟩, ⟨(some 8), none, .load 1 false (.t 7)⟩, ⟨(some 7), none, .faddr 1 (.t 1)⟩, ⟨(some 6), none, .load 1 false (.t 5)⟩, ⟨(some 5), none, .faddr 0 (.t 1)⟩]
 (.l ⟨(some 14), none, .append 1 16 (.t 11) (.t 13)⟩ [⟨(some 10), none, .load 1 false (.t 9)⟩, ⟨(some 9), none, .faddr 2 (.t 1)⟩, ⟨(some 8), none, .load 1 false (.t 7)⟩, ⟨(some 7), none, .faddr 1 (.t 1)⟩, ⟨(some 6), none, .load 1 false (.t 5)⟩, ⟨(some 5), none, .faddr 0 (.t 1)⟩]
 (tq 16 (.build [(.int .i64 0), (.int .i64 0), (.str []), .nil, .nil] [(0, 1, (.t 6)), (1, 1, (.t 8)), (2, 1, (.t 10)), (3, 1, (.t 14)), (4, 1, (.t 15))]) (.l ⟨(some 3), none, .box 5 (.c (.agg [(.int .i64 0), (.int .i64 0), (.str []), .nil, .nil]))⟩ [⟨(some 16), none, .build [(.int .i64 0), (.int .i64 0), (.str []), .nil, .nil] [(0, 1, (.t 6)), (1, 1, (.t 8)), (2, 1, (.t 10)), (3, 1, (.t 14)), (4, 1, (.t 15))]⟩, ⟨(some 13), none, .load 1 false (.t 12)⟩, ⟨(some 12), none, .faddr 3 (.t 1)⟩, ⟨(some 10), none, .load 1 false (.t 9)⟩, ⟨(some 9), none, .faddr 2 (.t 1)⟩, ⟨(some 8), none, .load 1 false (.t 7)⟩, ⟨(some 7), none, .faddr 1 (.t 1)⟩, ⟨(some 6), none, .load 1 false (.t 5)⟩, ⟨(some 5), none, .faddr 0 (.t 1)⟩]
 (.l ⟨none, none, .store 5 (.t 3) (.t 16)⟩ []
 .done .non) .non)) (.l ⟨(some 3), none, .box 5 (.c (.agg [(.int .i64 0), (.int .i64 0), (.str []), .nil, .nil]))⟩ [⟨(some 13), none, .load 1 false (.t 12)⟩, ⟨(some 12), none, .faddr 3 (.t 1)⟩, ⟨(some 10), none, .load 1 false (.t 9)⟩, ⟨(some 9), none, .faddr 2 (.t 1)⟩, ⟨(some 8), none, .load 1 false (.t 7)⟩, ⟨(some 7), none, .faddr 1 (.t 1)⟩, ⟨(some 6), none, .load 1 false (.t 5)⟩, ⟨(some 5), none, .faddr 0 (.t 1)⟩]
 (.l ⟨(some 14), none, .append 1 16 (.t 11) (.t 13)⟩ [⟨(some 10), none, .load 1 false (.t 9)⟩, ⟨(some 9), none, .faddr 2 (.t 1)⟩, ⟨(some 8), none, .load 1 false (.t 7)⟩, ⟨(some 7), none, .faddr 1 (.t 1)⟩, ⟨(some 6), none, .load 1 false (.t 5)⟩, ⟨(some 5), none, .faddr 0 (.t 1)⟩]
 (tq 16 (.build [(.int .i64 0), (.int .i64 0), (.str []), .nil, .nil] [(0, 1, (.t 6)), (1, 1, (.t 8)), (2, 1, (.t 10)), (3, 1, (.t 14)), (4, 1, (.t 15))]) (.l ⟨none, none, .store 5 (.t 3) (.t 16)⟩ []
 .done .non)) .non) .non)) (.l ⟨(some 3), none, .box 5 (.c (.agg [(.int .i64 0), (.int .i64 0), (.str []), .nil, .nil]))⟩ [⟨(some 13), none, .load 1 false (.t 12)⟩, ⟨(some 12), none, .faddr 3 (.t 1)⟩, ⟨(some 10), none, .load 1 false (.t 9)⟩, ⟨(some 9), none, .faddr 2 (.t 1)⟩, ⟨(some 8), none, .load 1 false (.t 7)⟩, ⟨(some 7), none, .faddr 1 (.t 1)⟩, ⟨(some 6), none, .load 1 false (.t 5)⟩, ⟨(some 5), none, .faddr 0 (.t 1)⟩]
 (.l ⟨(some 14), none, .append 1 16 (.t 11) (.t 13)⟩ [⟨(some 10), none, .load 1 false (.t 9)⟩, ⟨(some 9), none, .faddr 2 (.t 1)⟩, ⟨(some 8), none, .load 1 false (.t 7)⟩, ⟨(some 7), none, .faddr 1 (.t 1)⟩, ⟨(some 6), none, .load 1 false (.t 5)⟩, ⟨(some 5), none, .faddr 0 (.t 1)⟩]
 (.l ⟨(some 15), none, .bslice 5 []⟩ [⟨(some 13), none, .load 1 false (.t 12)⟩, ⟨(some 12), none, .faddr 3 (.t 1)⟩, ⟨(some 10), none, .load 1 false (.t 9)⟩, ⟨(some 9), none, .faddr 2 (.t 1)⟩, ⟨(some 8), none, .load 1 false (.t 7)⟩, ⟨(some 7), none, .faddr 1 (.t 1)⟩, ⟨(some 6), none, .load 1 false (.t 5)⟩, ⟨(some 5), none, .faddr 0 (.t 1)⟩]
 (tq 16 (.build [(.int .i64 0), (.int .i64 0), (.str []), .nil, .nil] [(0, 1, (.t 6)), (1, 1, (.t 8)), (2, 1, (.t 10)), (3, 1, (.t 14)), (4, 1, (.t 15))]) (.l ⟨none, none, .store 5 (.t 3) (.t 16)⟩ []
 .done .non)) .non) (.l ⟨(some 15), none, .bslice 5 []⟩ [⟨(some 13), none, .load 1 false (.t 12)⟩, ⟨(some 12), none, .faddr 3 (.t 1)⟩, ⟨(some 10), none, .load 1 false (.t 9)⟩, ⟨(some 9), none, .faddr 2 (.t 1)⟩, ⟨(some 8), none, .load 1 false (.t 7)⟩, ⟨(some 7), none, .faddr 1 (.t 1)⟩, ⟨(some 6), none, .load 1 false (.t 5)⟩, ⟨(some 5), none, .faddr 0 (.t 1)⟩]
 (.l ⟨(some 14), none, .append 1 16 (.t 11) (.t 13)⟩ [⟨(some 10), none, .load 1 false (.t 9)⟩, ⟨(some 9), none, .faddr 2 (.t 1)⟩, ⟨(some 8), none, .load 1 false (.t 7)⟩, ⟨(some 7), none, .faddr 1 (.t 1)⟩, ⟨(some 6), none, .load 1 false (.t 5)⟩, ⟨(some 5), none, .faddr 0 (.t 1)⟩]
 (tq 16 (.build [(.int .i64 0), (.int .i64 0), (.str []), .nil, .nil] [(0, 1, (.t 6)), (1, 1, (.t 8)), (2, 1, (.t 10)), (3, 1, (.t 14)), (4, 1, (.t 15))]) (.l ⟨none, none, .store 5 (.t 3) (.t 16)⟩ []
 .done .non)) .non) .non)) .non))) (.l ⟨(some 15), none, .bslice 5 []⟩ [⟨(some 13), none, .load 1 false (.t 12)⟩, ⟨(some 12), none, .faddr 3 (.t 1)⟩, ⟨(some 10), none, .load 1 false (.t 9)⟩, ⟨(some 9), none, .faddr 2 (.t 1)⟩, ⟨(some 8), none, .load 1 false (.t 7)⟩, ⟨(some 7), none, .faddr 1 (.t 1)⟩, ⟨(some 6), none, .load 1 false (.t 5)⟩, ⟨(some 5), none, .faddr 0 (.t 1)⟩]
 (.l ⟨(some 11), none, .bslice 1 []⟩ [⟨(some 13), none, .load 1 false (.t 12)⟩, ⟨(some 12), none, .faddr 3 (.t 1)⟩, ⟨(some 10), none, .load 1 false (.t 9)⟩, ⟨(some 9), none, .faddr 2 (.t 1)⟩, ⟨(some 8), none, .load 1 false (.t 7)⟩, ⟨(some 7), none, .faddr 1 (.t 1)⟩, ⟨(some 6), none, .load 1 false (.t 5)⟩, ⟨(some 5), none, .faddr 0 (.t 1)⟩]
 (.l ⟨(some 14), none, .append 1 16 (.t 11) (.t 13)⟩ [⟨(some 10), none, .load 1 false (.t 9)⟩, ⟨(some 9), none, .faddr 2 (.t 1)⟩, ⟨(some 8), none, .load 1 false (.t 7)⟩, ⟨(some 7), none, .faddr 1 (.t 1)⟩, ⟨(some 6), none, .load 1 false (.t 5)⟩, ⟨(some 5), none, .faddr 0 (.t 1)⟩]
 (tq 16 (.build [(.int .i64 0), (.int .i64 0), (.str []), .nil, .nil] [(0, 1, (.t 6)), (1, 1, (.t 8)), (2, 1, (.t 10)), (3, 1, (.t 14)), (4, 1, (.t 15))]) (.l ⟨(some 3), none, .box 5 (.c (.agg [(.int .i64 0), (.int .i64 0), (.str []), .nil, .nil]))⟩ [⟨(some 16), none, .build [(.int .i64 0), (.int .i64 0), (.str []), .nil, .nil] [(0, 1, (.t 6)), (1, 1, (.t 8)), (2, 1, (.t 10)), (3, 1, (.t 14)), (4, 1, (.t 15))]⟩, ⟨(some 13), none, .load 1 false (.t 12)⟩, ⟨(some 12), none, .faddr 3 (.t 1)⟩, ⟨(some 10), none, .load 1 false (.t 9)⟩, ⟨(some 9), none, .faddr 2 (.t 1)⟩, ⟨(some 8), none, .load 1 false (.t 7)⟩, ⟨(some 7), none, .faddr 1 (.t 1)⟩, ⟨(some 6), none, .load 1 false (.t 5)⟩, ⟨(some 5), none, .faddr 0 (.t 1)⟩]
 (.l ⟨none, none, .store 5 (.t 3) (.t 16)⟩ []
 .done .non) .non)) (.l ⟨(some 3), none, .box 5 (.c (.agg [(.int .i64 0), (.int .i64 0), (.str []), .nil, .nil]))⟩ [⟨(some 13), none, .load 1 false (.t 12)⟩, ⟨(some 12), none, .faddr 3 (.t 1)⟩, ⟨(some 10), none, .load 1 false (.t 9)⟩, ⟨(some 9), none, .faddr 2 (.t 1)⟩, ⟨(some 8), none, .load 1 false (.t 7)⟩, ⟨(some 7), none, .faddr 1 (.t 1)⟩, ⟨(some 6), none, .load 1 false (.t 5)⟩, ⟨(some 5), none, .faddr 0 (.t 1)⟩]
 (.l ⟨(some 14), none, .append 1 16 (.t 11) (.t 13)⟩ [⟨(some 10), none, .load 1 false (.t 9)⟩, ⟨(some 9), none, .faddr 2 (.t 1)⟩, ⟨(some 8), none, .load 1 false (.t 7)⟩, ⟨(some 7), none, .faddr 1 (.t 1)⟩, ⟨(some 6), none, .load 1 false (.t 5)⟩, ⟨(some 5), none, .faddr 0 (.t 1)⟩]
 (tq 16 (.build [(.int .i64 0), (.int .i64 0), (.str []), .nil, .nil] [(0, 1, (.t 6)), (1, 1, (.t 8)), (2, 1, (.t 10)), (3, 1, (.t 14)), (4, 1, (.t 15))]) (.l ⟨none, none, .store 5 (.t 3) (.t 16)⟩ []
 .done .non)) .non) .non)) (.l ⟨(some 3), none, .box 5 (.c (.agg [(.int .i64 0), (.int .i64 0), (.str []), .nil, .nil]))⟩ [⟨(some 13), none, .load 1 false (.t 12)⟩, ⟨(some 12), none, .faddr 3 (.t 1)⟩, ⟨(some 10), none, .load 1 false (.t 9)⟩, ⟨(some 9), none, .faddr 2 (.t 1)⟩, ⟨(some 8), none, .load 1 false (.t 7)⟩, ⟨(some 7), none, .faddr 1 (.t 1)⟩, ⟨(some 6), none, .load 1 false (.t 5)⟩, ⟨(some 5), none, .faddr 0 (.t 1)⟩]
 (.l ⟨(some 11), none, .bslice 1 []⟩ [⟨(some 13), none, .load 1 false (.t 12)⟩, ⟨(some 12), none, .faddr 3 (.t 1)⟩, ⟨(some 10), none, .load 1 false (.t 9)⟩, ⟨(some 9), none, .faddr 2 (.t 1)⟩, ⟨(some 8), none, .load 1 false (.t 7)⟩, ⟨(some 7), none, .faddr 1 (.t 1)⟩, ⟨(some 6), none, .load 1 false (.t 5)⟩, ⟨(some 5), none, .faddr 0 (.t 1)⟩]
 (.l ⟨(some 14), none, .append 1 16 (.t 11) (.t 13)⟩ [⟨(some 10), none, .load 1 false (.t 9)⟩, ⟨(some 9), none, .faddr 2 (.t 1)⟩, ⟨(some 8), none, .load 1 false (.t 7)⟩, ⟨(some 7), none, .faddr 1 (.t 1)⟩, ⟨(some 6), none, .load 1 false (.t 5)⟩, ⟨(some 5), none, .faddr 0 (.t 1)⟩]
 (tq 16 (.build [(.int .i64 0), (.int .i64 0), (.str []), .nil, .nil] [(0, 1, (.t 6)), (1, 1, (.t 8)), (2, 1, (.t 10)), (3, 1, (.t 14)), (4, 1, (.t 15))]) (.l ⟨none, none, .store 5 (.t 3) (.t 16)⟩ []
 .done .non)) .non) .non) .non)) (.l ⟨(some 3), none, .box 5 (.c (.agg [(.int .i64 0), (.int .i64 0), (.str []), .nil, .nil]))⟩ [⟨(some 13), none, .load 1 false (.t 12)⟩, ⟨(some 12), none, .faddr 3 (.t 1)⟩, ⟨(some 10), none, .load 1 false (.t 9)⟩, ⟨(some 9), none, .faddr 2 (.t 1)⟩, ⟨(some 8), none, .load 1 false (.t 7)⟩, ⟨(some 7), none, .faddr 1 (.t 1)⟩, ⟨(some 6), none, .load 1 false (.t 5)⟩, ⟨(some 5), none, .faddr 0 (.t 1)⟩]
 (.l ⟨(some 11), none, .bslice 1 []⟩ [⟨(some 13), none, .load 1 false (.t 12)⟩, ⟨(some 12), none, .faddr 3 (.t 1)⟩, ⟨(some 10), none, .load 1 false (.t 9)⟩, ⟨(some 9), none, .faddr 2 (.t 1)⟩, ⟨(some 8), none, .load 1 false (.t 7)⟩, ⟨(some 7), none, .faddr 1 (.t 1)⟩, ⟨(some 6), none, .load 1 false (.t 5)⟩, ⟨(some 5), none, .faddr 0 (.t 1)⟩]
 (.l ⟨(some 14), none, .append 1 16 (.t 11) (.t 13)⟩ [⟨(some 10), none, .load 1 false (.t 9)⟩, ⟨(some 9), none, .faddr 2 (.t 1)⟩, ⟨(some 8), none, .load 1 false (.t 7)⟩, ⟨(some 7), none, .faddr 1 (.t 1)⟩, ⟨(some 6), none, .load 1 false (.t 5)⟩, ⟨(some 5), none, .faddr 0 (.t 1)⟩]
 (.l ⟨(some 15), none, .bslice 5 []⟩ [⟨(some 13), none, .load 1 false (.t 12)⟩, ⟨(some 12), none, .faddr 3 (.t 1)⟩, ⟨(some 10), none, .load 1 false (.t 9)⟩, ⟨(some 9), none, .faddr 2 (.t 1)⟩, ⟨(some 8), none, .load 1 false (.t 7)⟩, ⟨(some 7), none, .faddr 1 (.t 1)⟩, ⟨(some 6), none, .load 1 false (.t 5)⟩, ⟨(some 5), none, .faddr 0 (.t 1)⟩]
 (tq 16 (.build [(.int .i64 0), (.int .i64 0), (.str []), .nil, .nil] [(0, 1, (.t 6)), (1, 1, (.t 8)), (2, 1, (.t 10)), (3, 1, (.t 14)), (4, 1, (.t 15))]) (.l ⟨none, none, .store 5 (.t 3) (.t 16)⟩ []
 .done .non)) .non) (.l ⟨(some 15), none, .bslice 5 []⟩ [⟨(some 13), none, .load 1 false (.t 12)⟩, ⟨(some 12), none, .faddr 3 (.t 1)⟩, ⟨(some 10), none, .load 1 false (.t 9)⟩, ⟨(some 9), none, .faddr 2 (.t 1)⟩, ⟨(some 8), none, .load 1 false (.t 7)⟩, ⟨(some 7), none, .faddr 1 (.t 1)⟩, ⟨(some 6), none, .load 1 false (.t 5)⟩, ⟨(some 5), none, .faddr 0 (.t 1)⟩]
 (.l ⟨(some 14), none, .append 1 16 (.t 11) (.t 13)⟩ [⟨(some 10), none, .load 1 false (.t 9)⟩, ⟨(some 9), none, .faddr 2 (.t 1)⟩, ⟨(some 8), none, .load 1 false (.t 7)⟩, ⟨(some 7), none, .faddr 1 (.t 1)⟩, ⟨(some 6), none, .load 1 false (.t 5)⟩, ⟨(some 5), none, .faddr 0 (.t 1)⟩]
 (tq 16 (.build [(.int .i64 0), (.int .i64 0), (.str []), .nil, .nil] [(0, 1, (.t 6)), (1, 1, (.t 8)), (2, 1, (.t 10)), (3, 1, (.t 14)), (4, 1, (.t 15))]) (.l ⟨none, none, .store 5 (.t 3) (.t 16)⟩ []
 .done .non)) .non) .non)) (.l ⟨(some 15), none, .bslice 5 []⟩ [⟨(some 13), none, .load 1 false (.t 12)⟩, ⟨(some 12), none, .faddr 3 (.t 1)⟩, ⟨(some 10), none, .load 1 false (.t 9)⟩, ⟨(some 9), none, .faddr 2 (.t 1)⟩, ⟨(some 8), none, .load 1 false (.t 7)⟩, ⟨(some 7), none, .faddr 1 (.t 1)⟩, ⟨(some 6), none, .load 1 false (.t 5)⟩, ⟨(some 5), none, .faddr 0 (.t 1)⟩]
 (.l ⟨(some 11), none, .bslice 1 []⟩ [⟨(some 13), none, .load 1 false (.t 12)⟩, ⟨(some 12), none, .faddr 3 (.t 1)⟩, ⟨(some 10), none, .load 1 false (.t 9)⟩, ⟨(some 9), none, .faddr 2 (.t 1)⟩, ⟨(some 8), none, .load 1 false (.t 7)⟩, ⟨(some 7), none, .faddr 1 (.t 1)⟩, ⟨(some 6), none, .load 1 false (.t 5)⟩, ⟨(some 5), none, .faddr 0 (.t 1)⟩]
 (.l ⟨(some 14), none, .append 1 16 (.t 11) (.t 13)⟩ [⟨(some 10), none, .load 1 false (.t 9)⟩, ⟨(some 9), none, .faddr 2 (.t 1)⟩, ⟨(some 8), none, .load 1 false (.t 7)⟩, ⟨(some 7), none, .faddr 1 (.t 1)⟩, ⟨(some 6), none, .load 1 false (.t 5)⟩, ⟨(some 5), none, .faddr 0 (.t 1)⟩]
 (tq 16 (.build [(.int .i64 0), (.int .i64 0), (.str []), .nil, .nil] [(0, 1, (.t 6)), (1, 1, (.t 8)), (2, 1, (.t 10)), (3, 1, (.t 14)), (4, 1, (.t 15))]) (.l ⟨none, none, .store 5 (.t 3) (.t 16)⟩ []
 .done .non)) .non) .non) .non)) .non))))))))))))
 (.cut (.seq (.seq (.reg (tm 4 (.c (.int .i64 0)) .done))
 (.block 0 (.loop (.seq (.seq (.reg (tm 17 (.t 4) (tq 18 (.faddr 4 (.t 1)) (tq 19 (.load 1 false (.t 18)) (tq 20 (.len (.t 19)) (tq 21 (.bin .lss (.t 17) (.t 20)) .done))))))
 (.cond (.t 21) .skip
 (.exit 0)))
 (.seq (.block 1 (.reg (tq 24 (.faddr 4 (.t 3)) (tq 25 (.load 1 false (.t 24)) (tq 26 (.faddr 4 (.t 1)) (tq 27 (.load 1 false (.t 26)) (tm 28 (.t 4) (tq 29 (.iaddr 5 (.t 27) (.t 28)) (tq 30 (.load 5 true (.t 29)) (.l ⟨(some 31), none, .call 107 [(.t 30)]⟩ [⟨(some 25), none, .load 1 false (.t 24)⟩, ⟨(some 24), none, .faddr 4 (.t 3)⟩]
 (.l ⟨(some 32), none, .bslice 5 [(.t 31)]⟩ [⟨(some 25), none, .load 1 false (.t 24)⟩, ⟨(some 24), none, .faddr 4 (.t 3)⟩]
 (.l ⟨(some 33), none, .append 5 80 (.t 25) (.t 32)⟩ []
 (tq 34 (.faddr 4 (.t 3)) (.l ⟨none, none, .store 1 (.t 34) (.t 33)⟩ []
 .done .non)) .non) .non) .non))))))))))
 (.reg (tm 22 (.t 4) (tq 23 (.bin .add (.t 22) (.c (.int .i64 1))) (tm 4 (.t 23) .done)))))))))
 (.cut (.seq (.reg (tq 35 (.load 5 true (.t 3)) (.q ⟨none, none, .store 5 (.t 2) (.t 35)⟩
 .done)))
 .ret))))))
theorem fc107 : fcomp Try.prog Try.f107 = some (c107.erase, [.load 5 true (.t 2)], 36) := by kernel_rfl
def spec_l01Own_B_L1 (rec : (GJson → Option GJson)) : List GJson → (List GJson) → Option (List GJson)
  | [], x_22 =>
    some x_22
  | x_39 :: xs, x_22 =>
    (rec x_39).bind fun r_42 =>
    if (x_22 ++ [r_42]).length ≤ 2 ^ 30 then
    spec_l01Own_B_L1 rec xs  (x_22 ++ [r_42])
    else none

def spec_l01Own_B (rec : (GJson → Option GJson)) (j_1 : GJson) : Option GJson :=
    ((if ([] ++ j_1.Keys).length ≤ 2 ^ 30 then
    some ()
    else none : Option Unit)).bind fun _ =>
    (spec_l01Own_B_L1 rec j_1.Items []).bind fun x_31 =>
    some (⟨j_1.Kind, j_1.N, j_1.T, [] ++ j_1.Keys, x_31⟩ : GJson)
theorem w_spec_l01Own_B (rec : (GJson → Option GJson)) (hrec : ∀ a0 r, rec a0 = some r → CallOK Try.prog 107 .fresh [(encGJson a0)] (encGJson r)) (j_1 : GJson) (r : GJson) (hf : spec_l01Own_B rec j_1 = some r) : CallOK Try.prog 107 .fresh [(encGJson j_1)] (encGJson r) := by
 refine CallOK.of_awp mixed Try.func107 fc107 nle ?_; rw [argT_eq]; rw [encGJson_eq j_1]; unfold spec_l01Own_B at hf; unfold c107; refine (show awp Try.prog true 0 _ (ofL [(0, (.agg [(.int .i64 j_1.Kind), (.int .i64 j_1.N), (.str j_1.T), (.lst 1 (j_1.Keys.map AV.str)), (.lst 5 (j_1.Items.map encGJson))]))]) [] _ from ?_); refine awp_seq <| w_reg <| s_do (o_box (j := 0) (c := (.agg [(.int .i64 j_1.Kind), (.int .i64 j_1.N), (.str j_1.T), (.lst 1 (j_1.Keys.map AV.str)), (.lst 5 (j_1.Items.map encGJson))])) rfl trivial rfl rfl) <| s_do (o_box (j := 1) (c := (.agg [(.int .i64 0), (.int .i64 0), (.str []), .nil, .nil])) rfl trivial rfl rfl) <| w_done <| k_seq <| awp_seq <| ?_
 obtain ⟨p3, hb1, hf⟩ := ob hf
 refine awp_cut ([(1, (.ptr 0 0 0)), (2, (.ptr 1 0 0)), (3, (.ptr 2 0 0))], [.box 5 (.agg [(.int .i64 j_1.Kind), (.int .i64 j_1.N), (.str j_1.T), (.lst 1 (j_1.Keys.map AV.str)), (.lst 5 (j_1.Items.map encGJson))]), .box 5 (.agg [(.int .i64 0), (.int .i64 0), (.str []), .nil, .nil]), .box 5 (.agg [(.int .i64 j_1.Kind), (.int .i64 j_1.N), (.str j_1.T), (.own 3 0 (([] ++ j_1.Keys).length)), (.own 4 0 0)]), .row 1 (([] ++ j_1.Keys).map AV.str), .row 5 ([].map encGJson)]) ?_ ?_
 ·refine w_reg ?_
  obtain ⟨g4, hb1⟩ := og hb1
  refine s_q (.ptr 0 0 0) rfl trivial rfl <| s_q (.int .i64 j_1.Kind) rfl nle rfl <| s_q (.ptr 0 0 1) rfl trivial rfl <| s_q (.int .i64 j_1.N) rfl nle rfl <| s_q (.ptr 0 0 2) rfl trivial rfl <| s_q (.str j_1.T) rfl nle rfl <| s_q (.ptr 0 0 3) rfl trivial rfl <| s_q (.lst 1 (j_1.Keys.map AV.str)) rfl nle rfl <| ?_; refine s_dol (o_bslice (j := 2) (as' := []) rfl (fun _ => by decide) trivial (.refl _) rfl rfl rfl) (.inr ⟨⟨nle, rfl⟩, ⟨⟨trivial, rfl⟩, ⟨⟨nle, rfl⟩, ⟨⟨trivial, rfl⟩, ⟨⟨nle, rfl⟩, ⟨⟨trivial, rfl⟩, ⟨⟨nle, rfl⟩, ⟨⟨trivial, rfl⟩, trivial⟩⟩⟩⟩⟩⟩⟩⟩) ?_ ?_
  ·refine s_dol (o_bslice (j := 2) (as' := []) rfl (fun _ => by decide) trivial (.refl _) rfl rfl rfl) (.inr ⟨⟨nle, rfl⟩, ⟨⟨trivial, rfl⟩, ⟨⟨nle, rfl⟩, ⟨⟨trivial, rfl⟩, ⟨⟨nle, rfl⟩, ⟨⟨trivial, rfl⟩, ⟨⟨nle, rfl⟩, ⟨⟨trivial, rfl⟩, trivial⟩⟩⟩⟩⟩⟩⟩⟩) ?_ ?_
   ·refine s_dol (o_box (j := 2) (c := (.agg [(.int .i64 0), (.int .i64 0), (.str []), .nil, .nil])) rfl trivial rfl rfl) (.inr ⟨⟨nle, rfl⟩, ⟨⟨trivial, rfl⟩, ⟨⟨nle, rfl⟩, ⟨⟨trivial, rfl⟩, ⟨⟨nle, rfl⟩, ⟨⟨trivial, rfl⟩, ⟨⟨nle, rfl⟩, ⟨⟨trivial, rfl⟩, trivial⟩⟩⟩⟩⟩⟩⟩⟩) trivial ?_; refine s_dol (o_bslice (j := 3) (as' := []) rfl (fun _ => by decide) trivial (.refl _) rfl rfl rfl) (.inr ⟨⟨nle, rfl⟩, ⟨⟨trivial, rfl⟩, ⟨⟨nle, rfl⟩, ⟨⟨trivial, rfl⟩, ⟨⟨nle, rfl⟩, ⟨⟨trivial, rfl⟩, ⟨⟨nle, rfl⟩, ⟨⟨trivial, rfl⟩, trivial⟩⟩⟩⟩⟩⟩⟩⟩) ?_ ?_
    ·refine s_dol (o_bslice (j := 3) (as' := []) rfl (fun _ => by decide) trivial (.refl _) rfl rfl rfl) (.inr ⟨⟨nle, rfl⟩, ⟨⟨trivial, rfl⟩, ⟨⟨nle, rfl⟩, ⟨⟨trivial, rfl⟩, ⟨⟨nle, rfl⟩, ⟨⟨trivial, rfl⟩, ⟨⟨nle, rfl⟩, ⟨⟨trivial, rfl⟩, trivial⟩⟩⟩⟩⟩⟩⟩⟩) trivial ?_; refine s_dol (o_bslice (j := 4) (as' := []) rfl (fun _ => by decide) trivial (.refl _) rfl rfl rfl) (.inr ⟨⟨nle, rfl⟩, ⟨⟨trivial, rfl⟩, ⟨⟨nle, rfl⟩, ⟨⟨trivial, rfl⟩, ⟨⟨nle, rfl⟩, ⟨⟨trivial, rfl⟩, ⟨⟨nle, rfl⟩, ⟨⟨trivial, rfl⟩, trivial⟩⟩⟩⟩⟩⟩⟩⟩) trivial ?_
     refine s_dol (o_appendd (j := 5) (L := (([] ++ j_1.Keys).map AV.str)) (len := ([] ++ j_1.Keys).length) rfl false rfl rfl (fun _ => flm (fun _ => rfl) _) (fun _ _ _ => flm (fun _ => rfl) _) (by decide) ((by simp)) (by simp <;> omega) g4 rfl rfl) (.inr ⟨⟨nle, rfl⟩, ⟨⟨trivial, rfl⟩, ⟨⟨nle, rfl⟩, ⟨⟨trivial, rfl⟩, ⟨⟨nle, rfl⟩, ⟨⟨trivial, rfl⟩, trivial⟩⟩⟩⟩⟩⟩) trivial ?_
     refine s_q (.agg [(.int .i64 j_1.Kind), (.int .i64 j_1.N), (.str j_1.T), (.own 5 0 (([] ++ j_1.Keys).length)), (.own 3 0 0)]) rfl ⟨⟨rfl, nle, trivial⟩, ⟨⟨rfl, nle, trivial⟩, ⟨⟨rfl, nle, trivial⟩, ⟨⟨rfl, nle, trivial⟩, ⟨⟨rfl, nle, trivial⟩, trivial⟩⟩⟩⟩⟩ rfl <| s_dol0 (o_storebox (v := (.agg [(.int .i64 j_1.Kind), (.int .i64 j_1.N), (.str j_1.T), (.own 5 0 (([] ++ j_1.Keys).length)), (.own 3 0 0)])) (y' := (.agg [(.int .i64 j_1.Kind), (.int .i64 j_1.N), (.str j_1.T), (.own 5 0 (([] ++ j_1.Keys).length)), (.own 3 0 0)])) rfl rfl rfl trivial ⟨rfl, nle⟩ ⟨⟨rfl, trivial⟩, ⟨⟨rfl, trivial⟩, ⟨⟨rfl, trivial⟩, ⟨⟨rfl, trivial⟩, ⟨⟨rfl, trivial⟩, trivial⟩⟩⟩⟩⟩ rfl) trivial trivial <| w_done <| ?_; obtain rfl := os hb1; exact ⟨[], [0, 1, 2, 5, 3], _, _, rfl, rfl, ⟨.refl _, ⟨.refl _, ⟨.refl _, trivial⟩⟩⟩, (.cons (.refl _) (.cons (.refl _) (.cons (.box (.agg (.cons (.refl _) (.cons (.refl _) (.cons (.refl _) (.cons (.refl _) (.cons (.of_eq (congrArg (AV.own _ 0) (by simp))) .nil))))))) (.cons (.refl _) (.cons (.refl _) .nil)))))⟩
    ·refine s_dol (o_appendd (j := 4) (L := (([] ++ j_1.Keys).map AV.str)) (len := ([] ++ j_1.Keys).length) rfl false rfl rfl (fun _ => flm (fun _ => rfl) _) (fun _ _ _ => flm (fun _ => rfl) _) (by decide) ((by simp)) (by simp <;> omega) g4 rfl rfl) (.inr ⟨⟨nle, rfl⟩, ⟨⟨trivial, rfl⟩, ⟨⟨nle, rfl⟩, ⟨⟨trivial, rfl⟩, ⟨⟨nle, rfl⟩, ⟨⟨trivial, rfl⟩, trivial⟩⟩⟩⟩⟩⟩) ?_ ?_
     ·refine s_dol (o_bslice (j := 4) (as' := []) rfl (fun _ => by decide) trivial (.refl _) rfl rfl rfl) (.inr ⟨⟨nle, rfl⟩, ⟨⟨trivial, rfl⟩, ⟨⟨nle, rfl⟩, ⟨⟨trivial, rfl⟩, ⟨⟨nle, rfl⟩, ⟨⟨trivial, rfl⟩, ⟨⟨nle, rfl⟩, ⟨⟨trivial, rfl⟩, trivial⟩⟩⟩⟩⟩⟩⟩⟩) trivial ?_
      refine s_dol (o_appendd (j := 5) (L := (([] ++ j_1.Keys).map AV.str)) (len := ([] ++ j_1.Keys).length) rfl false rfl rfl (fun _ => flm (fun _ => rfl) _) (fun _ _ _ => flm (fun _ => rfl) _) (by decide) ((by simp)) (by simp <;> omega) g4 rfl rfl) (.inr ⟨⟨nle, rfl⟩, ⟨⟨trivial, rfl⟩, ⟨⟨nle, rfl⟩, ⟨⟨trivial, rfl⟩, ⟨⟨nle, rfl⟩, ⟨⟨trivial, rfl⟩, trivial⟩⟩⟩⟩⟩⟩) trivial ?_
      refine s_q (.agg [(.int .i64 j_1.Kind), (.int .i64 j_1.N), (.str j_1.T), (.own 5 0 (([] ++ j_1.Keys).length)), (.own 4 0 0)]) rfl ⟨⟨rfl, nle, trivial⟩, ⟨⟨rfl, nle, trivial⟩, ⟨⟨rfl, nle, trivial⟩, ⟨⟨rfl, nle, trivial⟩, ⟨⟨rfl, nle, trivial⟩, trivial⟩⟩⟩⟩⟩ rfl <| s_dol0 (o_storebox (v := (.agg [(.int .i64 j_1.Kind), (.int .i64 j_1.N), (.str j_1.T), (.own 5 0 (([] ++ j_1.Keys).length)), (.own 4 0 0)])) (y' := (.agg [(.int .i64 j_1.Kind), (.int .i64 j_1.N), (.str j_1.T), (.own 5 0 (([] ++ j_1.Keys).length)), (.own 4 0 0)])) rfl rfl rfl trivial ⟨rfl, nle⟩ ⟨⟨rfl, trivial⟩, ⟨⟨rfl, trivial⟩, ⟨⟨rfl, trivial⟩, ⟨⟨rfl, trivial⟩, ⟨⟨rfl, trivial⟩, trivial⟩⟩⟩⟩⟩ rfl) trivial trivial <| w_done <| ?_; obtain rfl := os hb1; exact ⟨[], [0, 1, 2, 5, 4], _, _, rfl, rfl, ⟨.refl _, ⟨.refl _, ⟨.refl _, trivial⟩⟩⟩, (.cons (.refl _) (.cons (.refl _) (.cons (.box (.agg (.cons (.refl _) (.cons (.refl _) (.cons (.refl _) (.cons (.refl _) (.cons (.of_eq (congrArg (AV.own _ 0) (by simp))) .nil))))))) (.cons (.refl _) (.cons (.refl _) .nil)))))⟩
     ·refine s_dol (o_bslice (j := 5) (as' := []) rfl (fun _ => by decide) trivial (.refl _) rfl rfl rfl) (.inr ⟨⟨nle, rfl⟩, ⟨⟨trivial, rfl⟩, ⟨⟨nle, rfl⟩, ⟨⟨trivial, rfl⟩, ⟨⟨nle, rfl⟩, ⟨⟨trivial, rfl⟩, ⟨⟨nle, rfl⟩, ⟨⟨trivial, rfl⟩, trivial⟩⟩⟩⟩⟩⟩⟩⟩) trivial ?_; refine s_q (.agg [(.int .i64 j_1.Kind), (.int .i64 j_1.N), (.str j_1.T), (.own 4 0 (([] ++ j_1.Keys).length)), (.own 5 0 0)]) rfl ⟨⟨rfl, nle, trivial⟩, ⟨⟨rfl, nle, trivial⟩, ⟨⟨rfl, nle, trivial⟩, ⟨⟨rfl, nle, trivial⟩, ⟨⟨rfl, nle, trivial⟩, trivial⟩⟩⟩⟩⟩ rfl <| s_dol0 (o_storebox (v := (.agg [(.int .i64 j_1.Kind), (.int .i64 j_1.N), (.str j_1.T), (.own 4 0 (([] ++ j_1.Keys).length)), (.own 5 0 0)])) (y' := (.agg [(.int .i64 j_1.Kind), (.int .i64 j_1.N), (.str j_1.T), (.own 4 0 (([] ++ j_1.Keys).length)), (.own 5 0 0)])) rfl rfl rfl trivial ⟨rfl, nle⟩ ⟨⟨rfl, trivial⟩, ⟨⟨rfl, trivial⟩, ⟨⟨rfl, trivial⟩, ⟨⟨rfl, trivial⟩, ⟨⟨rfl, trivial⟩, trivial⟩⟩⟩⟩⟩ rfl) trivial trivial <| ?_
      refine w_done ?_; obtain rfl := os hb1; exact ⟨[], [0, 1, 2, 4, 5], _, _, rfl, rfl, ⟨.refl _, ⟨.refl _, ⟨.refl _, trivial⟩⟩⟩, (.cons (.refl _) (.cons (.refl _) (.cons (.box (.agg (.cons (.refl _) (.cons (.refl _) (.cons (.refl _) (.cons (.refl _) (.cons (.of_eq (congrArg (AV.own _ 0) (by simp))) .nil))))))) (.cons (.refl _) (.cons (.refl _) .nil)))))⟩
   ·refine s_dol (o_bslice (j := 3) (as' := []) rfl (fun _ => by decide) trivial (.refl _) rfl rfl rfl) (.inr ⟨⟨nle, rfl⟩, ⟨⟨trivial, rfl⟩, ⟨⟨nle, rfl⟩, ⟨⟨trivial, rfl⟩, ⟨⟨nle, rfl⟩, ⟨⟨trivial, rfl⟩, ⟨⟨nle, rfl⟩, ⟨⟨trivial, rfl⟩, trivial⟩⟩⟩⟩⟩⟩⟩⟩) ?_ ?_
    ·refine s_dol (o_box (j := 3) (c := (.agg [(.int .i64 0), (.int .i64 0), (.str []), .nil, .nil])) rfl trivial rfl rfl) (.inr ⟨⟨nle, rfl⟩, ⟨⟨trivial, rfl⟩, ⟨⟨nle, rfl⟩, ⟨⟨trivial, rfl⟩, ⟨⟨nle, rfl⟩, ⟨⟨trivial, rfl⟩, ⟨⟨nle, rfl⟩, ⟨⟨trivial, rfl⟩, trivial⟩⟩⟩⟩⟩⟩⟩⟩) trivial ?_; refine s_dol (o_bslice (j := 4) (as' := []) rfl (fun _ => by decide) trivial (.refl _) rfl rfl rfl) (.inr ⟨⟨nle, rfl⟩, ⟨⟨trivial, rfl⟩, ⟨⟨nle, rfl⟩, ⟨⟨trivial, rfl⟩, ⟨⟨nle, rfl⟩, ⟨⟨trivial, rfl⟩, ⟨⟨nle, rfl⟩, ⟨⟨trivial, rfl⟩, trivial⟩⟩⟩⟩⟩⟩⟩⟩) trivial ?_
     refine s_dol (o_appendd (j := 5) (L := (([] ++ j_1.Keys).map AV.str)) (len := ([] ++ j_1.Keys).length) rfl false rfl rfl (fun _ => flm (fun _ => rfl) _) (fun _ _ _ => flm (fun _ => rfl) _) (by decide) ((by simp)) (by simp <;> omega) g4 rfl rfl) (.inr ⟨⟨nle, rfl⟩, ⟨⟨trivial, rfl⟩, ⟨⟨nle, rfl⟩, ⟨⟨trivial, rfl⟩, ⟨⟨nle, rfl⟩, ⟨⟨trivial, rfl⟩, trivial⟩⟩⟩⟩⟩⟩) trivial ?_
     refine s_q (.agg [(.int .i64 j_1.Kind), (.int .i64 j_1.N), (.str j_1.T), (.own 5 0 (([] ++ j_1.Keys).length)), (.own 2 0 0)]) rfl ⟨⟨rfl, nle, trivial⟩, ⟨⟨rfl, nle, trivial⟩, ⟨⟨rfl, nle, trivial⟩, ⟨⟨rfl, nle, trivial⟩, ⟨⟨rfl, nle, trivial⟩, trivial⟩⟩⟩⟩⟩ rfl <| s_dol0 (o_storebox (v := (.agg [(.int .i64 j_1.Kind), (.int .i64 j_1.N), (.str j_1.T), (.own 5 0 (([] ++ j_1.Keys).length)), (.own 2 0 0)])) (y' := (.agg [(.int .i64 j_1.Kind), (.int .i64 j_1.N), (.str j_1.T), (.own 5 0 (([] ++ j_1.Keys).length)), (.own 2 0 0)])) rfl rfl rfl trivial ⟨rfl, nle⟩ ⟨⟨rfl, trivial⟩, ⟨⟨rfl, trivial⟩, ⟨⟨rfl, trivial⟩, ⟨⟨rfl, trivial⟩, ⟨⟨rfl, trivial⟩, trivial⟩⟩⟩⟩⟩ rfl) trivial trivial <| w_done <| ?_; obtain rfl := os hb1; exact ⟨[], [0, 1, 3, 5, 2], _, _, rfl, rfl, ⟨.refl _, ⟨.refl _, ⟨.refl _, trivial⟩⟩⟩, (.cons (.refl _) (.cons (.refl _) (.cons (.box (.agg (.cons (.refl _) (.cons (.refl _) (.cons (.refl _) (.cons (.refl _) (.cons (.of_eq (congrArg (AV.own _ 0) (by simp))) .nil))))))) (.cons (.refl _) (.cons (.refl _) .nil)))))⟩
    ·refine s_dol (o_appendd (j := 4) (L := (([] ++ j_1.Keys).map AV.str)) (len := ([] ++ j_1.Keys).length) rfl false rfl rfl (fun _ => flm (fun _ => rfl) _) (fun _ _ _ => flm (fun _ => rfl) _) (by decide) ((by simp)) (by simp <;> omega) g4 rfl rfl) (.inr ⟨⟨nle, rfl⟩, ⟨⟨trivial, rfl⟩, ⟨⟨nle, rfl⟩, ⟨⟨trivial, rfl⟩, ⟨⟨nle, rfl⟩, ⟨⟨trivial, rfl⟩, trivial⟩⟩⟩⟩⟩⟩) ?_ ?_
     ·refine s_dol (o_box (j := 4) (c := (.agg [(.int .i64 0), (.int .i64 0), (.str []), .nil, .nil])) rfl trivial rfl rfl) (.inr ⟨⟨nle, rfl⟩, ⟨⟨trivial, rfl⟩, ⟨⟨nle, rfl⟩, ⟨⟨trivial, rfl⟩, ⟨⟨nle, rfl⟩, ⟨⟨trivial, rfl⟩, ⟨⟨nle, rfl⟩, ⟨⟨trivial, rfl⟩, trivial⟩⟩⟩⟩⟩⟩⟩⟩) trivial ?_
      refine s_dol (o_appendd (j := 5) (L := (([] ++ j_1.Keys).map AV.str)) (len := ([] ++ j_1.Keys).length) rfl false rfl rfl (fun _ => flm (fun _ => rfl) _) (fun _ _ _ => flm (fun _ => rfl) _) (by decide) ((by simp)) (by simp <;> omega) g4 rfl rfl) (.inr ⟨⟨nle, rfl⟩, ⟨⟨trivial, rfl⟩, ⟨⟨nle, rfl⟩, ⟨⟨trivial, rfl⟩, ⟨⟨nle, rfl⟩, ⟨⟨trivial, rfl⟩, trivial⟩⟩⟩⟩⟩⟩) trivial ?_
      refine s_q (.agg [(.int .i64 j_1.Kind), (.int .i64 j_1.N), (.str j_1.T), (.own 5 0 (([] ++ j_1.Keys).length)), (.own 2 0 0)]) rfl ⟨⟨rfl, nle, trivial⟩, ⟨⟨rfl, nle, trivial⟩, ⟨⟨rfl, nle, trivial⟩, ⟨⟨rfl, nle, trivial⟩, ⟨⟨rfl, nle, trivial⟩, trivial⟩⟩⟩⟩⟩ rfl <| s_dol0 (o_storebox (v := (.agg [(.int .i64 j_1.Kind), (.int .i64 j_1.N), (.str j_1.T), (.own 5 0 (([] ++ j_1.Keys).length)), (.own 2 0 0)])) (y' := (.agg [(.int .i64 j_1.Kind), (.int .i64 j_1.N), (.str j_1.T), (.own 5 0 (([] ++ j_1.Keys).length)), (.own 2 0 0)])) rfl rfl rfl trivial ⟨rfl, nle⟩ ⟨⟨rfl, trivial⟩, ⟨⟨rfl, trivial⟩, ⟨⟨rfl, trivial⟩, ⟨⟨rfl, trivial⟩, ⟨⟨rfl, trivial⟩, trivial⟩⟩⟩⟩⟩ rfl) trivial trivial <| w_done <| ?_; obtain rfl := os hb1; exact ⟨[], [0, 1, 4, 5, 2], _, _, rfl, rfl, ⟨.refl _, ⟨.refl _, ⟨.refl _, trivial⟩⟩⟩, (.cons (.refl _) (.cons (.refl _) (.cons (.box (.agg (.cons (.refl _) (.cons (.refl _) (.cons (.refl _) (.cons (.refl _) (.cons (.of_eq (congrArg (AV.own _ 0) (by simp))) .nil))))))) (.cons (.refl _) (.cons (.refl _) .nil)))))⟩
     ·refine s_q (.agg [(.int .i64 j_1.Kind), (.int .i64 j_1.N), (.str j_1.T), (.own 4 0 (([] ++ j_1.Keys).length)), (.own 2 0 0)]) rfl ⟨⟨rfl, nle, trivial⟩, ⟨⟨rfl, nle, trivial⟩, ⟨⟨rfl, nle, trivial⟩, ⟨⟨rfl, nle, trivial⟩, ⟨⟨rfl, nle, trivial⟩, trivial⟩⟩⟩⟩⟩ rfl <| s_dol (o_box (j := 5) (c := (.agg [(.int .i64 0), (.int .i64 0), (.str []), .nil, .nil])) rfl trivial rfl rfl) (.inr ⟨⟨⟨⟨rfl, nle, trivial⟩, ⟨⟨rfl, nle, trivial⟩, ⟨⟨rfl, nle, trivial⟩, ⟨⟨rfl, nle, trivial⟩, ⟨⟨rfl, nle, trivial⟩, trivial⟩⟩⟩⟩⟩, rfl⟩, ⟨⟨nle, rfl⟩, ⟨⟨trivial, rfl⟩, ⟨⟨nle, rfl⟩, ⟨⟨trivial, rfl⟩, ⟨⟨nle, rfl⟩, ⟨⟨trivial, rfl⟩, ⟨⟨nle, rfl⟩, ⟨⟨trivial, rfl⟩, trivial⟩⟩⟩⟩⟩⟩⟩⟩⟩) trivial <| s_dol0 (o_storebox (v := (.agg [(.int .i64 j_1.Kind), (.int .i64 j_1.N), (.str j_1.T), (.own 4 0 (([] ++ j_1.Keys).length)), (.own 2 0 0)])) (y' := (.agg [(.int .i64 j_1.Kind), (.int .i64 j_1.N), (.str j_1.T), (.own 4 0 (([] ++ j_1.Keys).length)), (.own 2 0 0)])) rfl rfl rfl trivial ⟨rfl, nle⟩ ⟨⟨rfl, trivial⟩, ⟨⟨rfl, trivial⟩, ⟨⟨rfl, trivial⟩, ⟨⟨rfl, trivial⟩, ⟨⟨rfl, trivial⟩, trivial⟩⟩⟩⟩⟩ rfl) trivial trivial <| ?_
      refine w_done ?_; obtain rfl := os hb1; exact ⟨[], [0, 1, 5, 4, 2], _, _, rfl, rfl, ⟨.refl _, ⟨.refl _, ⟨.refl _, trivial⟩⟩⟩, (.cons (.refl _) (.cons (.refl _) (.cons (.box (.agg (.cons (.refl _) (.cons (.refl _) (.cons (.refl _) (.cons (.refl _) (.cons (.of_eq (congrArg (AV.own _ 0) (by simp))) .nil))))))) (.cons (.refl _) (.cons (.refl _) .nil)))))⟩
  ·refine s_dol (o_appendd (j := 3) (L := (([] ++ j_1.Keys).map AV.str)) (len := ([] ++ j_1.Keys).length) rfl false rfl rfl (fun _ => flm (fun _ => rfl) _) (fun _ _ _ => flm (fun _ => rfl) _) (by decide) ((by simp)) (by simp <;> omega) g4 rfl rfl) (.inr ⟨⟨nle, rfl⟩, ⟨⟨trivial, rfl⟩, ⟨⟨nle, rfl⟩, ⟨⟨trivial, rfl⟩, ⟨⟨nle, rfl⟩, ⟨⟨trivial, rfl⟩, trivial⟩⟩⟩⟩⟩⟩) ?_ ?_
   ·refine s_dol (o_bslice (j := 3) (as' := []) rfl (fun _ => by decide) trivial (.refl _) rfl rfl rfl) (.inr ⟨⟨nle, rfl⟩, ⟨⟨trivial, rfl⟩, ⟨⟨nle, rfl⟩, ⟨⟨trivial, rfl⟩, ⟨⟨nle, rfl⟩, ⟨⟨trivial, rfl⟩, ⟨⟨nle, rfl⟩, ⟨⟨trivial, rfl⟩, trivial⟩⟩⟩⟩⟩⟩⟩⟩) ?_ ?_
    ·refine s_dol (o_box (j := 3) (c := (.agg [(.int .i64 0), (.int .i64 0), (.str []), .nil, .nil])) rfl trivial rfl rfl) (.inr ⟨⟨nle, rfl⟩, ⟨⟨trivial, rfl⟩, ⟨⟨nle, rfl⟩, ⟨⟨trivial, rfl⟩, ⟨⟨nle, rfl⟩, ⟨⟨trivial, rfl⟩, ⟨⟨nle, rfl⟩, ⟨⟨trivial, rfl⟩, trivial⟩⟩⟩⟩⟩⟩⟩⟩) trivial ?_
     refine s_dol (o_appendd (j := 4) (L := (([] ++ j_1.Keys).map AV.str)) (len := ([] ++ j_1.Keys).length) rfl false rfl rfl (fun _ => flm (fun _ => rfl) _) (fun _ _ _ => flm (fun _ => rfl) _) (by decide) ((by simp)) (by simp <;> omega) g4 rfl rfl) (.inr ⟨⟨nle, rfl⟩, ⟨⟨trivial, rfl⟩, ⟨⟨nle, rfl⟩, ⟨⟨trivial, rfl⟩, ⟨⟨nle, rfl⟩, ⟨⟨trivial, rfl⟩, trivial⟩⟩⟩⟩⟩⟩) ?_ ?_
     ·refine s_dol (o_bslice (j := 4) (as' := []) rfl (fun _ => by decide) trivial (.refl _) rfl rfl rfl) (.inr ⟨⟨nle, rfl⟩, ⟨⟨trivial, rfl⟩, ⟨⟨nle, rfl⟩, ⟨⟨trivial, rfl⟩, ⟨⟨nle, rfl⟩, ⟨⟨trivial, rfl⟩, ⟨⟨nle, rfl⟩, ⟨⟨trivial, rfl⟩, trivial⟩⟩⟩⟩⟩⟩⟩⟩) trivial ?_
      refine s_dol (o_appendd (j := 5) (L := (([] ++ j_1.Keys).map AV.str)) (len := ([] ++ j_1.Keys).length) rfl false rfl rfl (fun _ => flm (fun _ => rfl) _) (fun _ _ _ => flm (fun _ => rfl) _) (by decide) ((by simp)) (by simp <;> omega) g4 rfl rfl) (.inr ⟨⟨nle, rfl⟩, ⟨⟨trivial, rfl⟩, ⟨⟨nle, rfl⟩, ⟨⟨trivial, rfl⟩, ⟨⟨nle, rfl⟩, ⟨⟨trivial, rfl⟩, trivial⟩⟩⟩⟩⟩⟩) trivial ?_
      refine s_q (.agg [(.int .i64 j_1.Kind), (.int .i64 j_1.N), (.str j_1.T), (.own 5 0 (([] ++ j_1.Keys).length)), (.own 4 0 0)]) rfl ⟨⟨rfl, nle, trivial⟩, ⟨⟨rfl, nle, trivial⟩, ⟨⟨rfl, nle, trivial⟩, ⟨⟨rfl, nle, trivial⟩, ⟨⟨rfl, nle, trivial⟩, trivial⟩⟩⟩⟩⟩ rfl <| s_dol0 (o_storebox (v := (.agg [(.int .i64 j_1.Kind), (.int .i64 j_1.N), (.str j_1.T), (.own 5 0 (([] ++ j_1.Keys).length)), (.own 4 0 0)])) (y' := (.agg [(.int .i64 j_1.Kind), (.int .i64 j_1.N), (.str j_1.T), (.own 5 0 (([] ++ j_1.Keys).length)), (.own 4 0 0)])) rfl rfl rfl trivial ⟨rfl, nle⟩ ⟨⟨rfl, trivial⟩, ⟨⟨rfl, trivial⟩, ⟨⟨rfl, trivial⟩, ⟨⟨rfl, trivial⟩, ⟨⟨rfl, trivial⟩, trivial⟩⟩⟩⟩⟩ rfl) trivial trivial <| w_done <| ?_; obtain rfl := os hb1; exact ⟨[], [0, 1, 3, 5, 4], _, _, rfl, rfl, ⟨.refl _, ⟨.refl _, ⟨.refl _, trivial⟩⟩⟩, (.cons (.refl _) (.cons (.refl _) (.cons (.box (.agg (.cons (.refl _) (.cons (.refl _) (.cons (.refl _) (.cons (.refl _) (.cons (.of_eq (congrArg (AV.own _ 0) (by simp))) .nil))))))) (.cons (.refl _) (.cons (.refl _) .nil)))))⟩
     ·refine s_dol (o_bslice (j := 5) (as' := []) rfl (fun _ => by decide) trivial (.refl _) rfl rfl rfl) (.inr ⟨⟨nle, rfl⟩, ⟨⟨trivial, rfl⟩, ⟨⟨nle, rfl⟩, ⟨⟨trivial, rfl⟩, ⟨⟨nle, rfl⟩, ⟨⟨trivial, rfl⟩, ⟨⟨nle, rfl⟩, ⟨⟨trivial, rfl⟩, trivial⟩⟩⟩⟩⟩⟩⟩⟩) trivial ?_; refine s_q (.agg [(.int .i64 j_1.Kind), (.int .i64 j_1.N), (.str j_1.T), (.own 4 0 (([] ++ j_1.Keys).length)), (.own 5 0 0)]) rfl ⟨⟨rfl, nle, trivial⟩, ⟨⟨rfl, nle, trivial⟩, ⟨⟨rfl, nle, trivial⟩, ⟨⟨rfl, nle, trivial⟩, ⟨⟨rfl, nle, trivial⟩, trivial⟩⟩⟩⟩⟩ rfl <| s_dol0 (o_storebox (v := (.agg [(.int .i64 j_1.Kind), (.int .i64 j_1.N), (.str j_1.T), (.own 4 0 (([] ++ j_1.Keys).length)), (.own 5 0 0)])) (y' := (.agg [(.int .i64 j_1.Kind), (.int .i64 j_1.N), (.str j_1.T), (.own 4 0 (([] ++ j_1.Keys).length)), (.own 5 0 0)])) rfl rfl rfl trivial ⟨rfl, nle⟩ ⟨⟨rfl, trivial⟩, ⟨⟨rfl, trivial⟩, ⟨⟨rfl, trivial⟩, ⟨⟨rfl, trivial⟩, ⟨⟨rfl, trivial⟩, trivial⟩⟩⟩⟩⟩ rfl) trivial trivial <| ?_
      refine w_done ?_; obtain rfl := os hb1; exact ⟨[], [0, 1, 3, 4, 5], _, _, rfl, rfl, ⟨.refl _, ⟨.refl _, ⟨.refl _, trivial⟩⟩⟩, (.cons (.refl _) (.cons (.refl _) (.cons (.box (.agg (.cons (.refl _) (.cons (.refl _) (.cons (.refl _) (.cons (.refl _) (.cons (.of_eq (congrArg (AV.own _ 0) (by simp))) .nil))))))) (.cons (.refl _) (.cons (.refl _) .nil)))))⟩
    ·refine s_dol (o_appendd (j := 4) (L := (([] ++ j_1.Keys).map AV.str)) (len := ([] ++ j_1.Keys).length) rfl false rfl rfl (fun _ => flm (fun _ => rfl) _) (fun _ _ _ => flm (fun _ => rfl) _) (by decide) ((by simp)) (by simp <;> omega) g4 rfl rfl) (.inr ⟨⟨nle, rfl⟩, ⟨⟨trivial, rfl⟩, ⟨⟨nle, rfl⟩, ⟨⟨trivial, rfl⟩, ⟨⟨nle, rfl⟩, ⟨⟨trivial, rfl⟩, trivial⟩⟩⟩⟩⟩⟩) ?_ ?_
     ·refine s_dol (o_box (j := 4) (c := (.agg [(.int .i64 0), (.int .i64 0), (.str []), .nil, .nil])) rfl trivial rfl rfl) (.inr ⟨⟨nle, rfl⟩, ⟨⟨trivial, rfl⟩, ⟨⟨nle, rfl⟩, ⟨⟨trivial, rfl⟩, ⟨⟨nle, rfl⟩, ⟨⟨trivial, rfl⟩, ⟨⟨nle, rfl⟩, ⟨⟨trivial, rfl⟩, trivial⟩⟩⟩⟩⟩⟩⟩⟩) trivial ?_
      refine s_dol (o_appendd (j := 5) (L := (([] ++ j_1.Keys).map AV.str)) (len := ([] ++ j_1.Keys).length) rfl false rfl rfl (fun _ => flm (fun _ => rfl) _) (fun _ _ _ => flm (fun _ => rfl) _) (by decide) ((by simp)) (by simp <;> omega) g4 rfl rfl) (.inr ⟨⟨nle, rfl⟩, ⟨⟨trivial, rfl⟩, ⟨⟨nle, rfl⟩, ⟨⟨trivial, rfl⟩, ⟨⟨nle, rfl⟩, ⟨⟨trivial, rfl⟩, trivial⟩⟩⟩⟩⟩⟩) trivial ?_
      refine s_q (.agg [(.int .i64 j_1.Kind), (.int .i64 j_1.N), (.str j_1.T), (.own 5 0 (([] ++ j_1.Keys).length)), (.own 3 0 0)]) rfl ⟨⟨rfl, nle, trivial⟩, ⟨⟨rfl, nle, trivial⟩, ⟨⟨rfl, nle, trivial⟩, ⟨⟨rfl, nle, trivial⟩, ⟨⟨rfl, nle, trivial⟩, trivial⟩⟩⟩⟩⟩ rfl <| s_dol0 (o_storebox (v := (.agg [(.int .i64 j_1.Kind), (.int .i64 j_1.N), (.str j_1.T), (.own 5 0 (([] ++ j_1.Keys).length)), (.own 3 0 0)])) (y' := (.agg [(.int .i64 j_1.Kind), (.int .i64 j_1.N), (.str j_1.T), (.own 5 0 (([] ++ j_1.Keys).length)), (.own 3 0 0)])) rfl rfl rfl trivial ⟨rfl, nle⟩ ⟨⟨rfl, trivial⟩, ⟨⟨rfl, trivial⟩, ⟨⟨rfl, trivial⟩, ⟨⟨rfl, trivial⟩, ⟨⟨rfl, trivial⟩, trivial⟩⟩⟩⟩⟩ rfl) trivial trivial <| w_done <| ?_; obtain rfl := os hb1; exact ⟨[], [0, 1, 4, 5, 3], _, _, rfl, rfl, ⟨.refl _, ⟨.refl _, ⟨.refl _, trivial⟩⟩⟩, (.cons (.refl _) (.cons (.refl _) (.cons (.box (.agg (.cons (.refl _) (.cons (.refl _) (.cons (.refl _) (.cons (.refl _) (.cons (.of_eq (congrArg (AV.own _ 0) (by simp))) .nil))))))) (.cons (.refl _) (.cons (.refl _) .nil)))))⟩
     ·refine s_q (.agg [(.int .i64 j_1.Kind), (.int .i64 j_1.N), (.str j_1.T), (.own 4 0 (([] ++ j_1.Keys).length)), (.own 3 0 0)]) rfl ⟨⟨rfl, nle, trivial⟩, ⟨⟨rfl, nle, trivial⟩, ⟨⟨rfl, nle, trivial⟩, ⟨⟨rfl, nle, trivial⟩, ⟨⟨rfl, nle, trivial⟩, trivial⟩⟩⟩⟩⟩ rfl <| s_dol (o_box (j := 5) (c := (.agg [(.int .i64 0), (.int .i64 0), (.str []), .nil, .nil])) rfl trivial rfl rfl) (.inr ⟨⟨⟨⟨rfl, nle, trivial⟩, ⟨⟨rfl, nle, trivial⟩, ⟨⟨rfl, nle, trivial⟩, ⟨⟨rfl, nle, trivial⟩, ⟨⟨rfl, nle, trivial⟩, trivial⟩⟩⟩⟩⟩, rfl⟩, ⟨⟨nle, rfl⟩, ⟨⟨trivial, rfl⟩, ⟨⟨nle, rfl⟩, ⟨⟨trivial, rfl⟩, ⟨⟨nle, rfl⟩, ⟨⟨trivial, rfl⟩, ⟨⟨nle, rfl⟩, ⟨⟨trivial, rfl⟩, trivial⟩⟩⟩⟩⟩⟩⟩⟩⟩) trivial <| s_dol0 (o_storebox (v := (.agg [(.int .i64 j_1.Kind), (.int .i64 j_1.N), (.str j_1.T), (.own 4 0 (([] ++ j_1.Keys).length)), (.own 3 0 0)])) (y' := (.agg [(.int .i64 j_1.Kind), (.int .i64 j_1.N), (.str j_1.T), (.own 4 0 (([] ++ j_1.Keys).length)), (.own 3 0 0)])) rfl rfl rfl trivial ⟨rfl, nle⟩ ⟨⟨rfl, trivial⟩, ⟨⟨rfl, trivial⟩, ⟨⟨rfl, trivial⟩, ⟨⟨rfl, trivial⟩, ⟨⟨rfl, trivial⟩, trivial⟩⟩⟩⟩⟩ rfl) trivial trivial <| ?_
      refine w_done ?_; obtain rfl := os hb1; exact ⟨[], [0, 1, 5, 4, 3], _, _, rfl, rfl, ⟨.refl _, ⟨.refl _, ⟨.refl _, trivial⟩⟩⟩, (.cons (.refl _) (.cons (.refl _) (.cons (.box (.agg (.cons (.refl _) (.cons (.refl _) (.cons (.refl _) (.cons (.refl _) (.cons (.of_eq (congrArg (AV.own _ 0) (by simp))) .nil))))))) (.cons (.refl _) (.cons (.refl _) .nil)))))⟩
   ·refine s_dol (o_bslice (j := 4) (as' := []) rfl (fun _ => by decide) trivial (.refl _) rfl rfl rfl) (.inr ⟨⟨nle, rfl⟩, ⟨⟨trivial, rfl⟩, ⟨⟨nle, rfl⟩, ⟨⟨trivial, rfl⟩, ⟨⟨nle, rfl⟩, ⟨⟨trivial, rfl⟩, ⟨⟨nle, rfl⟩, ⟨⟨trivial, rfl⟩, trivial⟩⟩⟩⟩⟩⟩⟩⟩) ?_ ?_
    ·refine s_dol (o_box (j := 4) (c := (.agg [(.int .i64 0), (.int .i64 0), (.str []), .nil, .nil])) rfl trivial rfl rfl) (.inr ⟨⟨nle, rfl⟩, ⟨⟨trivial, rfl⟩, ⟨⟨nle, rfl⟩, ⟨⟨trivial, rfl⟩, ⟨⟨nle, rfl⟩, ⟨⟨trivial, rfl⟩, ⟨⟨nle, rfl⟩, ⟨⟨trivial, rfl⟩, trivial⟩⟩⟩⟩⟩⟩⟩⟩) trivial ?_; refine s_dol (o_bslice (j := 5) (as' := []) rfl (fun _ => by decide) trivial (.refl _) rfl rfl rfl) (.inr ⟨⟨nle, rfl⟩, ⟨⟨trivial, rfl⟩, ⟨⟨nle, rfl⟩, ⟨⟨trivial, rfl⟩, ⟨⟨nle, rfl⟩, ⟨⟨trivial, rfl⟩, ⟨⟨nle, rfl⟩, ⟨⟨trivial, rfl⟩, trivial⟩⟩⟩⟩⟩⟩⟩⟩) trivial ?_; refine s_q (.agg [(.int .i64 j_1.Kind), (.int .i64 j_1.N), (.str j_1.T), (.own 3 0 (([] ++ j_1.Keys).length)), (.own 5 0 0)]) rfl ⟨⟨rfl, nle, trivial⟩, ⟨⟨rfl, nle, trivial⟩, ⟨⟨rfl, nle, trivial⟩, ⟨⟨rfl, nle, trivial⟩, ⟨⟨rfl, nle, trivial⟩, trivial⟩⟩⟩⟩⟩ rfl ?_
     refine s_dol0 (o_storebox (v := (.agg [(.int .i64 j_1.Kind), (.int .i64 j_1.N), (.str j_1.T), (.own 3 0 (([] ++ j_1.Keys).length)), (.own 5 0 0)])) (y' := (.agg [(.int .i64 j_1.Kind), (.int .i64 j_1.N), (.str j_1.T), (.own 3 0 (([] ++ j_1.Keys).length)), (.own 5 0 0)])) rfl rfl rfl trivial ⟨rfl, nle⟩ ⟨⟨rfl, trivial⟩, ⟨⟨rfl, trivial⟩, ⟨⟨rfl, trivial⟩, ⟨⟨rfl, trivial⟩, ⟨⟨rfl, trivial⟩, trivial⟩⟩⟩⟩⟩ rfl) trivial trivial <| w_done <| ?_; obtain rfl := os hb1; exact ⟨[], [0, 1, 4, 3, 5], _, _, rfl, rfl, ⟨.refl _, ⟨.refl _, ⟨.refl _, trivial⟩⟩⟩, (.cons (.refl _) (.cons (.refl _) (.cons (.box (.agg (.cons (.refl _) (.cons (.refl _) (.cons (.refl _) (.cons (.refl _) (.cons (.of_eq (congrArg (AV.own _ 0) (by simp))) .nil))))))) (.cons (.refl _) (.cons (.refl _) .nil)))))⟩
    ·refine s_q (.agg [(.int .i64 j_1.Kind), (.int .i64 j_1.N), (.str j_1.T), (.own 3 0 (([] ++ j_1.Keys).length)), (.own 4 0 0)]) rfl ⟨⟨rfl, nle, trivial⟩, ⟨⟨rfl, nle, trivial⟩, ⟨⟨rfl, nle, trivial⟩, ⟨⟨rfl, nle, trivial⟩, ⟨⟨rfl, nle, trivial⟩, trivial⟩⟩⟩⟩⟩ rfl <| s_dol (o_box (j := 5) (c := (.agg [(.int .i64 0), (.int .i64 0), (.str []), .nil, .nil])) rfl trivial rfl rfl) (.inr ⟨⟨⟨⟨rfl, nle, trivial⟩, ⟨⟨rfl, nle, trivial⟩, ⟨⟨rfl, nle, trivial⟩, ⟨⟨rfl, nle, trivial⟩, ⟨⟨rfl, nle, trivial⟩, trivial⟩⟩⟩⟩⟩, rfl⟩, ⟨⟨nle, rfl⟩, ⟨⟨trivial, rfl⟩, ⟨⟨nle, rfl⟩, ⟨⟨trivial, rfl⟩, ⟨⟨nle, rfl⟩, ⟨⟨trivial, rfl⟩, ⟨⟨nle, rfl⟩, ⟨⟨trivial, rfl⟩, trivial⟩⟩⟩⟩⟩⟩⟩⟩⟩) trivial <| s_dol0 (o_storebox (v := (.agg [(.int .i64 j_1.Kind), (.int .i64 j_1.N), (.str j_1.T), (.own 3 0 (([] ++ j_1.Keys).length)), (.own 4 0 0)])) (y' := (.agg [(.int .i64 j_1.Kind), (.int .i64 j_1.N), (.str j_1.T), (.own 3 0 (([] ++ j_1.Keys).length)), (.own 4 0 0)])) rfl rfl rfl trivial ⟨rfl, nle⟩ ⟨⟨rfl, trivial⟩, ⟨⟨rfl, trivial⟩, ⟨⟨rfl, trivial⟩, ⟨⟨rfl, trivial⟩, ⟨⟨rfl, trivial⟩, trivial⟩⟩⟩⟩⟩ rfl) trivial trivial <| ?_
     refine w_done ?_; obtain rfl := os hb1; exact ⟨[], [0, 1, 5, 3, 4], _, _, rfl, rfl, ⟨.refl _, ⟨.refl _, ⟨.refl _, trivial⟩⟩⟩, (.cons (.refl _) (.cons (.refl _) (.cons (.box (.agg (.cons (.refl _) (.cons (.refl _) (.cons (.refl _) (.cons (.refl _) (.cons (.of_eq (congrArg (AV.own _ 0) (by simp))) .nil))))))) (.cons (.refl _) (.cons (.refl _) .nil)))))⟩
 ·refine awp_seq <| awp_seq <| w_reg <| s_mov (.int .i64 0) rfl <| w_done <| k_seq <| ?_
  obtain ⟨x_31, hb1, hf⟩ := ob hf
  refine awp_cut ([(2, (.ptr 0 0 0)), (3, (.ptr 1 0 0))], [.box 5 (.agg [(.int .i64 0), (.int .i64 0), (.str []), .nil, .nil]), .box 5 (.agg [(.int .i64 j_1.Kind), (.int .i64 j_1.N), (.str j_1.T), (.own 2 0 (([] ++ j_1.Keys).length)), (.own 3 0 x_31.length)]), .row 1 (([] ++ j_1.Keys).map AV.str), .row 5 (x_31.map encGJson)]) ?_ ?_
  ·refine awp_loop (X := {q : (Nat × (List GJson)) // spec_l01Own_B_L1 rec (j_1.Items.drop q.1) q.2 = some x_31}) (fun q => ([(1, (.ptr 0 0 0)), (2, (.ptr 1 0 0)), (3, (.ptr 2 0 0)), (4, (.int .i64 (q.1.1 : Int)))], [.box 5 (.agg [(.int .i64 j_1.Kind), (.int .i64 j_1.N), (.str j_1.T), (.lst 1 (j_1.Keys.map AV.str)), (.lst 5 (j_1.Items.map encGJson))]), .box 5 (.agg [(.int .i64 0), (.int .i64 0), (.str []), .nil, .nil]), .box 5 (.agg [(.int .i64 j_1.Kind), (.int .i64 j_1.N), (.str j_1.T), (.own 3 0 (([] ++ j_1.Keys).length)), (.own 4 0 q.1.2.length)]), .row 1 (([] ++ j_1.Keys).map AV.str), .row 5 (q.1.2.map encGJson)])) (fun q => j_1.Items.length - q.1.1) ⟨(0, []), hb1⟩ ⟨[], [0, 1, 2, 3, 4], _, _, rfl, rfl, ⟨.refl _, ⟨.refl _, ⟨.refl _, ⟨.refl _, trivial⟩⟩⟩⟩, (.refl _)⟩ ?_
   rintro ⟨⟨i_21, x_22⟩, hc1⟩
   have hc1 : spec_l01Own_B_L1 rec (j_1.Items.drop i_21) x_22 = some x_31 := hc1
   refine (show awp Try.prog true 0 _ (ofL [(1, (.ptr 0 0 0)), (2, (.ptr 1 0 0)), (3, (.ptr 2 0 0)), (4, (.int .i64 (i_21 : Int)))]) [.box 5 (.agg [(.int .i64 j_1.Kind), (.int .i64 j_1.N), (.str j_1.T), (.lst 1 (j_1.Keys.map AV.str)), (.lst 5 (j_1.Items.map encGJson))]), .box 5 (.agg [(.int .i64 0), (.int .i64 0), (.str []), .nil, .nil]), .box 5 (.agg [(.int .i64 j_1.Kind), (.int .i64 j_1.N), (.str j_1.T), (.own 3 0 (([] ++ j_1.Keys).length)), (.own 4 0 x_22.length)]), .row 1 (([] ++ j_1.Keys).map AV.str), .row 5 (x_22.map encGJson)] _ from ?_)
   rcases dropc j_1.Items i_21 with ⟨hie35, hd38⟩ | ⟨hlt33, x_39, hx34, hd38⟩
   ·rw [hd38, spec_l01Own_B_L1.eq_1] at hc1
    have hq37 := dlf hie35
    refine awp_seq <| awp_seq <| w_reg <| s_mov (.int .i64 (i_21 : Int)) rfl <| s_q (.ptr 0 0 4) rfl trivial rfl <| s_q (.lst 5 (j_1.Items.map encGJson)) rfl nle rfl <| s_dof (o_len (enc := encGJson) rfl) fun hl40 => s_q (.bool (decide ((i_21 : Int) < (j_1.Items.length : Int)))) rfl rfl rfl <| w_done <| k_seq <| w_condf rfl hq37 <| w_exit <| k_seqx <| k_loopx <| k_blkx <| ?_; obtain rfl := os hc1; exact ⟨[], [1, 2, 3, 4], _, _, rfl, rfl, ⟨.refl _, ⟨.refl _, trivial⟩⟩, (.refl _)⟩
   ·rw [hd38, spec_l01Own_B_L1.eq_2] at hc1
    have hq37 := dlt hlt33
    refine awp_seq <| awp_seq <| w_reg <| s_mov (.int .i64 (i_21 : Int)) rfl <| s_q (.ptr 0 0 4) rfl trivial rfl <| s_q (.lst 5 (j_1.Items.map encGJson)) rfl nle rfl <| s_dof (o_len (enc := encGJson) rfl) fun hl41 => s_q (.bool (decide ((i_21 : Int) < (j_1.Items.length : Int)))) rfl rfl rfl <| w_done <| k_seq <| w_condt rfl hq37 <| w_skip <| k_seq <| awp_seq <| w_blk <| w_reg <| ?_
    obtain ⟨r_42, er43, hc1⟩ := ob hc1
    obtain ⟨g44, hc1⟩ := og hc1
    refine s_q (.ptr 2 0 4) rfl trivial rfl <| s_q (.own 4 0 x_22.length) rfl nle rfl <| s_q (.ptr 0 0 4) rfl trivial rfl <| s_q (.lst 5 (j_1.Items.map encGJson)) rfl nle rfl <| s_mov (.int .i64 (i_21 : Int)) rfl <| s_do (o_iaddrn (enc := encGJson) rfl rfl hx34) <| s_do (o_loadeq (v := (.agg [(.int .i64 x_39.Kind), (.int .i64 x_39.N), (.str x_39.T), (.lst 1 (x_39.Keys.map AV.str)), (.lst 5 (x_39.Items.map encGJson))])) rfl (encGJson_eq _) nle rfl) <| s_dol (o_callf (v := (.agg [(.int .i64 r_42.Kind), (.int .i64 r_42.N), (.str r_42.T), (.own 5 0 r_42.Keys.length), (.own 6 0 r_42.Items.length)])) (h' := [.row 1 (r_42.Keys.map AV.str), .row 5 (r_42.Items.map encGJson)]) (hrec _ _ er43) rfl (.cons (.of_eq (encGJson_eq x_39).symm) .nil) (by simp only [openV, openVs, List.length_map, encGJson_eq, List.nil_append, List.append_nil, List.cons_append]; rfl)) (.inr ⟨⟨nle, rfl⟩, ⟨⟨trivial, rfl⟩, trivial⟩⟩) trivial <| ?_
    refine s_dol (o_bslice (j := 7) (as' := [(encGJson r_42)]) rfl (fun _ => by decide) ⟨rfl, trivial⟩ (.cons (leJ (x := r_42) (.agg (.cons (.refl _) (.cons (.refl _) (.cons (.refl _) (.cons (.of_eq (congrArg (AV.lst _) (tk (enc := AV.str) r_42.Keys))) (.cons (.of_eq (congrArg (AV.lst _) (tk (enc := encGJson) r_42.Items))) .nil))))))) .nil) rfl rfl rfl) (.inr ⟨⟨nle, rfl⟩, ⟨⟨trivial, rfl⟩, trivial⟩⟩) trivial ?_
    refine s_dol (o_appendd (j := 8) (L := ((x_22 ++ [r_42]).map encGJson)) (len := (x_22 ++ [r_42]).length) rfl true rfl rfl (fun h => Bool.noConfusion h) (fun _ _ h => (ownl (show AV.own _ _ _ = AV.lst _ _ from h)).elim) (by decide) (apo (enc := encGJson) x_22 [r_42]) (by simp <;> omega) g44 rfl rfl) trivial trivial ?_
    refine s_q (.ptr 2 0 4) rfl trivial rfl <| s_dol0 (o_storebox (v := (.own 8 0 ((x_22 ++ [r_42]).length))) (y' := (.agg [(.int .i64 j_1.Kind), (.int .i64 j_1.N), (.str j_1.T), (.own 3 0 (([] ++ j_1.Keys).length)), (.own 8 0 ((x_22 ++ [r_42]).length))])) rfl rfl rfl trivial ⟨rfl, nle⟩ ⟨⟨rfl, trivial⟩, trivial⟩ rfl) trivial trivial <| w_done <| k_blk <| k_seq <| w_reg <| s_mov (.int .i64 (i_21 : Int)) rfl <| s_q (.int .i64 (w64 ((i_21 : Int) + 1))) rfl rfl rfl <| s_mov (.int .i64 (w64 ((i_21 : Int) + 1))) rfl <| w_done <| ?_; exact k_loopn ⟨((i_21 + 1), x_22 ++ [r_42]), hc1⟩ (mul hlt33) ⟨[], [0, 1, 2, 3, 8], _, _, rfl, rfl, ⟨.refl _, ⟨.refl _, ⟨.refl _, ⟨.of_eq (congrArg (AV.int _) (w64_incr hlt33 hl41)), trivial⟩⟩⟩⟩, (.refl _)⟩
  ·refine awp_seq <| w_reg <| s_q (.agg [(.int .i64 j_1.Kind), (.int .i64 j_1.N), (.str j_1.T), (.own 2 0 (([] ++ j_1.Keys).length)), (.own 3 0 x_31.length)]) rfl nle rfl <| s_do0 (o_storebox (v := (.agg [(.int .i64 j_1.Kind), (.int .i64 j_1.N), (.str j_1.T), (.own 2 0 (([] ++ j_1.Keys).length)), (.own 3 0 x_31.length)])) (y' := (.agg [(.int .i64 j_1.Kind), (.int .i64 j_1.N), (.str j_1.T), (.own 2 0 (([] ++ j_1.Keys).length)), (.own 3 0 x_31.length)])) rfl rfl rfl trivial ⟨rfl, nle⟩ ⟨⟨rfl, trivial⟩, ⟨⟨rfl, trivial⟩, ⟨⟨rfl, trivial⟩, ⟨⟨rfl, trivial⟩, ⟨⟨rfl, trivial⟩, trivial⟩⟩⟩⟩⟩ rfl) <| w_done <| k_seq <| w_ret <| ?_; obtain rfl := os hf; exact r_fresh ⟨nle, trivial⟩ rfl (by decide) (leJ (x := (⟨j_1.Kind, j_1.N, j_1.T, [] ++ j_1.Keys, x_31⟩ : GJson)) (.agg (.cons (.refl _) (.cons (.refl _) (.cons (.refl _) (.cons (.of_eq (congrArg (AV.lst _) (tk (enc := AV.str) ([] ++ j_1.Keys)))) (.cons (.of_eq (congrArg (AV.lst _) (tk (enc := encGJson) x_31))) .nil)))))))
def spec_l01Own : Nat → GJson → Option GJson
 | 0, _ => none
 | k + 1, j_1 => spec_l01Own_B (spec_l01Own k) j_1
theorem w_spec_l01Own : ∀ (k : Nat) (j_1 : GJson) (r : GJson), spec_l01Own k j_1 = some r → CallOK Try.prog 107 .fresh [(encGJson j_1)] (encGJson r)
 | 0, j_1, r, h => by rw [spec_l01Own.eq_1] at h; cases h
 | k + 1, j_1, r, h => by
  rw [spec_l01Own.eq_2] at h; exact w_spec_l01Own_B _ (w_spec_l01Own k) j_1 r h

/- spec.JsonRequest -/
def c61 : ACode :=
 (.seq (.reg (tq 1 (.box 5 (.t 0)) (tq 2 (.box 3 (.c (.agg [(.int .i64 0), (.str []), .nil]))) (tm 3 (.c (.int .i64 0)) .done))))
 (.seq (.seq (.reg (tq 8 (.load 5 true (.t 1)) (tq 9 (.call 121 [(.t 8)]) (tq 10 (.not (.t 9)) .done))))
 (.cond (.t 10) (.seq (.reg (tq 11 (.build [(.int .i64 0), (.str []), .nil] []) (.q ⟨none, none, .store 3 (.t 2) (.t 11)⟩
 (tm 3 (.c (.int .i64 1)) .done))))
 .ret)
 .skip))
 (.seq (.reg (tq 13 (.load 5 true (.t 1)) (tq 14 (.call 137 [(.t 13)]) (tm 12 (.t 14) (tq 15 (.extract 0 (.t 12)) (tq 16 (.extract 1 (.t 12)) (tq 4 (.box 3 (.c (.agg [(.int .i64 0), (.str []), .nil]))) (.q ⟨none, none, .store 3 (.t 4) (.t 15)⟩
 (tm 5 (.t 16) .done)))))))))
 (.seq (.seq (.reg (tm 17 (.t 5) (tq 18 (.not (.t 17)) .done)))
 (.cond (.t 18) (.seq (.reg (tq 19 (.build [(.int .i64 0), (.str []), .nil] []) (.q ⟨none, none, .store 3 (.t 2) (.t 19)⟩
 (tm 3 (.c (.int .i64 3)) .done))))
 .ret)
 .skip))
 (.seq (.reg (tq 20 (.bslice 5 []) (tm 6 (.t 20) .done)))
 (.seq (.seq (.reg (tm 7 (.c (.int .i64 0)) .done))
 (.block 0 (.loop (.seq (.seq (.reg (tm 21 (.t 7) (tq 22 (.faddr 2 (.t 4)) (tq 23 (.load 1 false (.t 22)) (tq 24 (.len (.t 23)) (tq 25 (.bin .lss (.t 21) (.t 24)) .done))))))
 (.cond (.t 25) .skip
 (.exit 0)))
 (.seq (.block 1 (.reg (tm 28 (.t 6) (tq 29 (.faddr 2 (.t 4)) (tq 30 (.load 1 false (.t 29)) (tm 31 (.t 7) (tq 32 (.iaddr 5 (.t 30) (.t 31)) (tq 33 (.load 5 true (.t 32)) (tq 34 (.call 107 [(.t 33)]) (tq 35 (.bslice 5 [(.t 34)]) (tq 36 (.append 5 80 (.t 28) (.t 35)) (tm 6 (.t 36) .done))))))))))))
 (.reg (tm 26 (.t 7) (tq 27 (.bin .add (.t 26) (.c (.int .i64 1))) (tm 7 (.t 27) .done)))))))))
 (.cut (.seq (.reg (tm 37 (.t 6) (tq 38 (.faddr 2 (.t 4)) (.q ⟨none, none, .store 1 (.t 38) (.t 37)⟩
 .done))))
 (.seq (.reg (tq 39 (.load 3 true (.t 4)) (.q ⟨none, none, .store 3 (.t 2) (.t 39)⟩
 (tm 3 (.c (.int .i64 0)) .done))))
 .ret)))))))))
theorem fc61 : fcomp Try.prog Try.f61 = some (c61.erase, [.load 3 true (.t 2), .mov (.t 3)], 40) := by kernel_rfl
def spec_JsonRequest_L1  : List GJson → (List GJson) → Option (List GJson)
  | [], list_25 =>
    some list_25
  | x_42 :: xs, list_25 =>
    (spec_l01Own FUEL x_42).bind fun r_45 =>
    if (list_25 ++ [r_45]).length ≤ 2 ^ 30 then
    spec_JsonRequest_L1 xs  (list_25 ++ [r_45])
    else none

def spec_JsonRequest (j_1 : GJson) : Option (GRequest × Int) :=
    (spec_JsonOK j_1).bind fun r_2 =>
    if (!r_2) then
    some ((⟨0, [], []⟩ : GRequest), 1)
    else
    (spec_l13Request j_1).bind fun r_5 =>
    if (!r_5.2) then
    some ((⟨0, [], []⟩ : GRequest), 3)
    else
    (spec_JsonRequest_L1 r_5.1.Params []).bind fun list_34 =>
    some ((⟨r_5.1.Id, r_5.1.Method, list_34⟩ : GRequest), 0)
theorem w_spec_JsonRequest (j_1 : GJson) (r : (GRequest × Int)) (hf : spec_JsonRequest j_1 = some r) : CallOK Try.prog 61 .fresh [(encGJson j_1)] (.tup [(encGRequest r.1), (.int .i64 r.2)]) := by
 refine CallOK.of_awp mixed Try.func61 fc61 nle ?_; rw [argT_eq]; rw [encGJson_eq j_1]; unfold spec_JsonRequest at hf; unfold c61; refine (show awp Try.prog true 0 _ (ofL [(0, (.agg [(.int .i64 j_1.Kind), (.int .i64 j_1.N), (.str j_1.T), (.lst 1 (j_1.Keys.map AV.str)), (.lst 5 (j_1.Items.map encGJson))]))]) [] _ from ?_); refine awp_seq <| w_reg <| s_do (o_box (j := 0) (c := (.agg [(.int .i64 j_1.Kind), (.int .i64 j_1.N), (.str j_1.T), (.lst 1 (j_1.Keys.map AV.str)), (.lst 5 (j_1.Items.map encGJson))])) rfl trivial rfl rfl) <| s_do (o_box (j := 1) (c := (.agg [(.int .i64 0), (.str []), .nil])) rfl trivial rfl rfl) <| s_mov (.int .i64 0) rfl <| w_done <| k_seq <| awp_seq <| awp_seq <| w_reg <| ?_
 obtain ⟨r_2, er3, hf⟩ := ob hf
 refine s_q (.agg [(.int .i64 j_1.Kind), (.int .i64 j_1.N), (.str j_1.T), (.lst 1 (j_1.Keys.map AV.str)), (.lst 5 (j_1.Items.map encGJson))]) rfl nle rfl <| s_do (o_call (w_spec_JsonOK _ _ er3) rfl (.cons (.of_eq (encGJson_eq j_1).symm) .nil) rfl) <| s_q (.bool (!r_2)) rfl trivial rfl <| w_done <| k_seq <| ?_
 rcases oi hf with ⟨c4, hf⟩ | ⟨c4, hf⟩
 ·refine w_condt rfl c4 <| awp_seq <| w_reg <| s_q (.agg [(.int .i64 0), (.str []), .nil]) rfl trivial rfl <| s_do0 (o_storebox (v := (.agg [(.int .i64 0), (.str []), .nil])) (y' := (.agg [(.int .i64 0), (.str []), .nil])) rfl rfl rfl trivial ⟨rfl, nle⟩ ⟨⟨rfl, trivial⟩, ⟨⟨rfl, trivial⟩, ⟨⟨rfl, trivial⟩, trivial⟩⟩⟩ rfl) <| s_mov (.int .i64 1) rfl <| w_done <| k_seq <| w_ret <| ?_; obtain rfl := os hf; exact r_fresh ⟨nle, ⟨trivial, trivial⟩⟩ rfl (by decide) (.tup (.cons (.agg (.cons (.refl _) (.cons (.refl _) (.cons (.nil _) .nil)))) (.cons (.refl _) .nil)))
 ·refine w_condf rfl (bf c4) <| w_skip <| k_seq <| awp_seq <| w_reg <| ?_
  obtain ⟨r_5, er6, hf⟩ := ob hf
  refine s_q (.agg [(.int .i64 j_1.Kind), (.int .i64 j_1.N), (.str j_1.T), (.lst 1 (j_1.Keys.map AV.str)), (.lst 5 (j_1.Items.map encGJson))]) rfl nle rfl <| s_do (o_callw rfl (w_spec_l13Request _ _ er6) rfl (.cons (.of_eq (encGJson_eq j_1).symm) .nil) rfl rfl) <| s_mov (.tup [(encGRequest r_5.1), (.bool r_5.2)]) rfl <| s_q (encGRequest r_5.1) rfl nle rfl <| s_q (.bool r_5.2) rfl nle rfl <| s_do (o_box (j := 2) (c := (.agg [(.int .i64 0), (.str []), .nil])) rfl trivial rfl rfl) <| s_do0 (o_storebox (v := (.agg [(.int .i64 r_5.1.Id), (.str r_5.1.Method), (.lst 5 (r_5.1.Params.map encGJson))])) (y' := (.agg [(.int .i64 r_5.1.Id), (.str r_5.1.Method), (.lst 5 (r_5.1.Params.map encGJson))])) rfl rfl rfl trivial ⟨rfl, nle⟩ ⟨⟨rfl, trivial⟩, ⟨⟨rfl, trivial⟩, ⟨⟨rfl, trivial⟩, trivial⟩⟩⟩ rfl) <| ?_
  refine s_mov (.bool r_5.2) rfl <| w_done <| k_seq <| awp_seq <| awp_seq <| w_reg <| s_mov (.bool r_5.2) rfl <| s_q (.bool (!r_5.2)) rfl trivial rfl <| w_done <| k_seq <| ?_
  rcases oi hf with ⟨c7, hf⟩ | ⟨c7, hf⟩
  ·refine w_condt rfl c7 <| awp_seq <| w_reg <| s_q (.agg [(.int .i64 0), (.str []), .nil]) rfl trivial rfl <| s_do0 (o_storebox (v := (.agg [(.int .i64 0), (.str []), .nil])) (y' := (.agg [(.int .i64 0), (.str []), .nil])) rfl rfl rfl trivial ⟨rfl, nle⟩ ⟨⟨rfl, trivial⟩, ⟨⟨rfl, trivial⟩, ⟨⟨rfl, trivial⟩, trivial⟩⟩⟩ rfl) <| s_mov (.int .i64 3) rfl <| w_done <| k_seq <| w_ret <| ?_; obtain rfl := os hf; exact r_fresh ⟨nle, ⟨trivial, trivial⟩⟩ rfl (by decide) (.tup (.cons (.agg (.cons (.refl _) (.cons (.refl _) (.cons (.nil _) .nil)))) (.cons (.refl _) .nil)))
  ·refine w_condf rfl (bf c7) <| w_skip <| k_seq <| awp_seq <| w_reg <| ?_; refine s_do (o_bslice (j := 3) (as' := []) rfl (fun _ => by decide) trivial (.refl _) rfl rfl rfl) ?_; refine s_mov (.own 3 0 0) rfl <| w_done <| k_seq <| awp_seq <| awp_seq <| w_reg <| s_mov (.int .i64 0) rfl <| w_done <| k_seq <| ?_
   obtain ⟨list_34, hb1, hf⟩ := ob hf
   refine awp_cut ([(2, (.ptr 0 0 0)), (4, (.ptr 1 0 0)), (6, (.own 2 0 list_34.length))], [.box 3 (.agg [(.int .i64 0), (.str []), .nil]), .box 3 (.agg [(.int .i64 r_5.1.Id), (.str r_5.1.Method), (.lst 5 (r_5.1.Params.map encGJson))]), .row 5 (list_34.map encGJson)]) ?_ ?_
   ·refine awp_loop (X := {q : (Nat × (List GJson)) // spec_JsonRequest_L1 (r_5.1.Params.drop q.1) q.2 = some list_34}) (fun q => ([(2, (.ptr 0 0 0)), (4, (.ptr 1 0 0)), (6, (.own 2 0 q.1.2.length)), (7, (.int .i64 (q.1.1 : Int)))], [.box 3 (.agg [(.int .i64 0), (.str []), .nil]), .box 3 (.agg [(.int .i64 r_5.1.Id), (.str r_5.1.Method), (.lst 5 (r_5.1.Params.map encGJson))]), .row 5 (q.1.2.map encGJson)])) (fun q => r_5.1.Params.length - q.1.1) ⟨(0, []), hb1⟩ ⟨[], [1, 2, 3], _, _, rfl, rfl, ⟨.refl _, ⟨.refl _, ⟨.of_eq (congrArg (AV.own _ 0) (by simp)), ⟨.refl _, trivial⟩⟩⟩⟩, (.refl _)⟩ ?_
    rintro ⟨⟨i_24, list_25⟩, hc1⟩
    have hc1 : spec_JsonRequest_L1 (r_5.1.Params.drop i_24) list_25 = some list_34 := hc1
    refine (show awp Try.prog true 0 _ (ofL [(2, (.ptr 0 0 0)), (4, (.ptr 1 0 0)), (6, (.own 2 0 list_25.length)), (7, (.int .i64 (i_24 : Int)))]) [.box 3 (.agg [(.int .i64 0), (.str []), .nil]), .box 3 (.agg [(.int .i64 r_5.1.Id), (.str r_5.1.Method), (.lst 5 (r_5.1.Params.map encGJson))]), .row 5 (list_25.map encGJson)] _ from ?_)
    rcases dropc r_5.1.Params i_24 with ⟨hie38, hd41⟩ | ⟨hlt36, x_42, hx37, hd41⟩
    ·rw [hd41, spec_JsonRequest_L1.eq_1] at hc1
     have hq40 := dlf hie38
     refine awp_seq <| awp_seq <| w_reg <| s_mov (.int .i64 (i_24 : Int)) rfl <| s_q (.ptr 1 0 2) rfl trivial rfl <| s_q (.lst 5 (r_5.1.Params.map encGJson)) rfl nle rfl <| s_dof (o_len (enc := encGJson) rfl) fun hl43 => s_q (.bool (decide ((i_24 : Int) < (r_5.1.Params.length : Int)))) rfl rfl rfl <| w_done <| k_seq <| w_condf rfl hq40 <| w_exit <| k_seqx <| k_loopx <| k_blkx <| ?_; obtain rfl := os hc1; exact ⟨[], [0, 1, 2], _, _, rfl, rfl, ⟨.refl _, ⟨.refl _, ⟨.refl _, trivial⟩⟩⟩, (.refl _)⟩
    ·rw [hd41, spec_JsonRequest_L1.eq_2] at hc1
     have hq40 := dlt hlt36
     refine awp_seq <| awp_seq <| w_reg <| s_mov (.int .i64 (i_24 : Int)) rfl <| s_q (.ptr 1 0 2) rfl trivial rfl <| s_q (.lst 5 (r_5.1.Params.map encGJson)) rfl nle rfl <| s_dof (o_len (enc := encGJson) rfl) fun hl44 => s_q (.bool (decide ((i_24 : Int) < (r_5.1.Params.length : Int)))) rfl rfl rfl <| w_done <| k_seq <| w_condt rfl hq40 <| w_skip <| k_seq <| awp_seq <| w_blk <| w_reg <| ?_
     obtain ⟨r_45, er46, hc1⟩ := ob hc1
     obtain ⟨g47, hc1⟩ := og hc1
     refine s_mov (.own 2 0 list_25.length) rfl <| s_q (.ptr 1 0 2) rfl trivial rfl <| s_q (.lst 5 (r_5.1.Params.map encGJson)) rfl nle rfl <| s_mov (.int .i64 (i_24 : Int)) rfl <| s_do (o_iaddrn (enc := encGJson) rfl rfl hx37) <| s_do (o_loadeq (v := (.agg [(.int .i64 x_42.Kind), (.int .i64 x_42.N), (.str x_42.T), (.lst 1 (x_42.Keys.map AV.str)), (.lst 5 (x_42.Items.map encGJson))])) rfl (encGJson_eq _) nle rfl) <| s_do (o_callf (v := (.agg [(.int .i64 r_45.Kind), (.int .i64 r_45.N), (.str r_45.T), (.own 3 0 r_45.Keys.length), (.own 4 0 r_45.Items.length)])) (h' := [.row 1 (r_45.Keys.map AV.str), .row 5 (r_45.Items.map encGJson)]) (w_spec_l01Own FUEL _ _ er46) rfl (.cons (.of_eq (encGJson_eq x_42).symm) .nil) (by simp only [openV, openVs, List.length_map, encGJson_eq, List.nil_append, List.append_nil, List.cons_append]; rfl)) <| ?_
     refine s_do (o_bslice (j := 5) (as' := [(encGJson r_45)]) rfl (fun _ => by decide) ⟨rfl, trivial⟩ (.cons (leJ (x := r_45) (.agg (.cons (.refl _) (.cons (.refl _) (.cons (.refl _) (.cons (.of_eq (congrArg (AV.lst _) (tk (enc := AV.str) r_45.Keys))) (.cons (.of_eq (congrArg (AV.lst _) (tk (enc := encGJson) r_45.Items))) .nil))))))) .nil) rfl rfl rfl) ?_
     refine s_do (o_appendd (j := 6) (L := ((list_25 ++ [r_45]).map encGJson)) (len := (list_25 ++ [r_45]).length) rfl true rfl rfl (fun h => Bool.noConfusion h) (fun _ _ h => (ownl (show AV.own _ _ _ = AV.lst _ _ from h)).elim) (by decide) (apo (enc := encGJson) list_25 [r_45]) (by simp <;> omega) g47 rfl rfl) ?_
     refine s_mov (.own 6 0 ((list_25 ++ [r_45]).length)) rfl <| w_done <| k_blk <| k_seq <| w_reg <| s_mov (.int .i64 (i_24 : Int)) rfl <| s_q (.int .i64 (w64 ((i_24 : Int) + 1))) rfl rfl rfl <| s_mov (.int .i64 (w64 ((i_24 : Int) + 1))) rfl <| w_done <| ?_; exact k_loopn ⟨((i_24 + 1), list_25 ++ [r_45]), hc1⟩ (mul hlt36) ⟨[], [0, 1, 6], _, _, rfl, rfl, ⟨.refl _, ⟨.refl _, ⟨.refl _, ⟨.of_eq (congrArg (AV.int _) (w64_incr hlt36 hl44)), trivial⟩⟩⟩⟩, (.refl _)⟩
   ·refine awp_seq <| w_reg <| s_mov (.own 2 0 list_34.length) rfl <| s_q (.ptr 1 0 2) rfl trivial rfl <| s_do0 (o_storebox (v := (.own 2 0 list_34.length)) (y' := (.agg [(.int .i64 r_5.1.Id), (.str r_5.1.Method), (.own 2 0 list_34.length)])) rfl rfl rfl trivial ⟨rfl, nle⟩ ⟨⟨rfl, trivial⟩, trivial⟩ rfl) <| w_done <| k_seq <| awp_seq <| w_reg <| s_q (.agg [(.int .i64 r_5.1.Id), (.str r_5.1.Method), (.own 2 0 list_34.length)]) rfl nle rfl <| s_do0 (o_storebox (v := (.agg [(.int .i64 r_5.1.Id), (.str r_5.1.Method), (.own 2 0 list_34.length)])) (y' := (.agg [(.int .i64 r_5.1.Id), (.str r_5.1.Method), (.own 2 0 list_34.length)])) rfl rfl rfl trivial ⟨rfl, nle⟩ ⟨⟨rfl, trivial⟩, ⟨⟨rfl, trivial⟩, ⟨⟨rfl, trivial⟩, trivial⟩⟩⟩ rfl) <| ?_
    refine s_mov (.int .i64 0) rfl <| w_done <| k_seq <| w_ret <| ?_; obtain rfl := os hf; exact r_fresh ⟨nle, ⟨trivial, trivial⟩⟩ rfl (by decide) (.tup (.cons (.agg (.cons (.refl _) (.cons (.refl _) (.cons (.of_eq (congrArg (AV.lst _) (tk (enc := encGJson) list_34))) .nil)))) (.cons (.refl _) .nil)))

/- impl.within -/
def c86 : ACode :=
 (.seq (.reg (tm 6 (.c (.bool false)) .done))
 (.seq (.reg (tm 7 (.t 0) (tm 8 (.t 1) (tq 9 (.bin .geq (.t 7) (.t 8)) (tm 10 (.t 9) (tg 11 10 true (.mov (.t 0)) (tg 12 10 true (.mov (.t 2)) (tg 13 10 true (.bin .leq (.t 11) (.t 12)) (tq 14 (.pick (.t 10) (.t 13) (.c (.bool false))) (tm 6 (.t 14) .done))))))))))
 .ret))
theorem fc86 : fcomp Try.prog Try.f86 = some (c86.erase, [.mov (.t 6)], 15) := by kernel_rfl
def impl_within (n_1 : Int) (low_2 : Int) (high_3 : Int) : Option Bool :=
    if (decide (n_1 ≥ low_2)) then
    some (decide (n_1 ≤ high_3))
    else
    some false
theorem w_impl_within (n_1 : Int) (low_2 : Int) (high_3 : Int) (r : Bool) (hf : impl_within n_1 low_2 high_3 = some r) : CallOK Try.prog 86 .flat [(.int .i64 n_1), (.int .i64 low_2), (.int .i64 high_3)] (.bool r) := by
 refine CallOK.of_awp mixed Try.func86 fc86 nle ?_; rw [argT_eq]; unfold impl_within at hf; unfold c86; refine (show awp Try.prog false 0 _ (ofL [(0, (.int .i64 n_1)), (1, (.int .i64 low_2)), (2, (.int .i64 high_3))]) [] _ from ?_); refine awp_seq <| w_reg <| s_mov (.bool false) rfl <| w_done <| k_seq <| awp_seq <| w_reg <| ?_
 rcases oi hf with ⟨c4, hf⟩ | ⟨c4, hf⟩
 ·refine s_mov (.int .i64 n_1) rfl <| s_mov (.int .i64 low_2) rfl <| s_q (.bool (decide (n_1 ≥ low_2))) rfl rfl rfl <| s_mov (.bool (decide (n_1 ≥ low_2))) rfl <| s_lit (s := 10) (b := true) rfl c4 <| s_on rfl <| s_mov (.int .i64 n_1) rfl <| s_on rfl <| s_mov (.int .i64 high_3) rfl <| s_on rfl <| s_q (.bool (decide (n_1 ≤ high_3))) rfl rfl rfl <| s_q (.bool (decide (n_1 ≤ high_3))) rfl trivial rfl <| s_mov (.bool (decide (n_1 ≤ high_3))) rfl <| w_done <| k_seq <| w_ret <| ?_; obtain rfl := os hf; exact r_flat ⟨trivial, trivial⟩ rfl (.refl _)
 ·refine s_mov (.int .i64 n_1) rfl <| s_mov (.int .i64 low_2) rfl <| s_q (.bool (decide (n_1 ≥ low_2))) rfl rfl rfl <| s_mov (.bool (decide (n_1 ≥ low_2))) rfl <| s_lit (s := 10) (b := false) rfl (bf c4) <| s_off rfl rfl <| s_off rfl rfl <| s_off rfl rfl <| s_q (.bool false) rfl trivial rfl <| s_mov (.bool false) rfl <| w_done <| k_seq <| w_ret <| ?_; obtain rfl := os hf; exact r_flat ⟨trivial, trivial⟩ rfl (.refl _)

/- impl.isNumber -/
def c136 : ACode :=
 (.seq (.reg (tm 2 (.c (.bool false)) .done))
 (.seq (.reg (tm 3 (.t 0) (tq 4 (.call 86 [(.t 3), (.c (.int .i64 (-1000000000))), (.c (.int .i64 1000000000))]) (tm 2 (.t 4) .done))))
 .ret))
theorem fc136 : fcomp Try.prog Try.f136 = some (c136.erase, [.mov (.t 2)], 5) := by kernel_rfl
def impl_isNumber (n_1 : Int) : Option Bool :=
    (impl_within n_1 (-1000000000) 1000000000).bind fun r_2 =>
    some r_2
theorem w_impl_isNumber (n_1 : Int) (r : Bool) (hf : impl_isNumber n_1 = some r) : CallOK Try.prog 136 .flat [(.int .i64 n_1)] (.bool r) := by
  refine CallOK.of_awp mixed Try.func136 fc136 nle ?_
  rw [argT_eq]
  unfold impl_isNumber at hf
  unfold c136
  refine (show awp Try.prog false 0 _ (ofL [(0, (.int .i64 n_1))]) [] _ from ?_)
  refine awp_seq ?_
  refine w_reg ?_
  refine s_do (o_mov (.bool false) rfl) ?_
  refine w_done ?_
  refine k_seq ?_
  refine awp_seq ?_
  refine w_reg ?_
  obtain ⟨r_2, er3, hf⟩ := ob hf
  refine s_do (o_mov (.int .i64 n_1) rfl) ?_
  refine s_do (o_call (w_impl_within _ _ _ _ er3) rfl (.refl _) rfl) ?_
  refine s_do (o_mov (.bool r_2) rfl) ?_
  refine w_done ?_
  refine k_seq ?_
  refine w_ret ?_
  obtain rfl := os hf
  exact r_flat ⟨trivial, trivial⟩ rfl (.refl _)

/- impl.isPlain -/
def c174 : ACode :=
 (.seq (.reg (tm 2 (.c (.bool false)) .done))
 (.seq (.seq (.reg (tm 4 (.t 0) (tq 5 (.lenS (.t 4)) (tm 6 (.c (.int .i64 0)) .done))))
 (.block 0 (.loop (.seq (.reg (tq 7 (.bin .lss (.t 6) (.t 5)) .done))
 (.seq (.cond (.t 7) .skip
 (.exit 0))
 (.seq (.block 1 (.seq (.reg (tm 8 (.t 6) (tm 3 (.t 8) .done)))
 (.seq (.reg (tm 9 (.t 0) (tm 10 (.t 3) (tq 11 (.idxs (.t 9) (.t 10)) (tq 12 (.bin .lss (.t 11) (.c (.int .u8 32))) (tm 13 (.t 12) (tg 14 13 false (.mov (.t 0)) (tg 15 13 false (.mov (.t 3)) (tg 16 13 false (.idxs (.t 14) (.t 15)) (tg 17 13 false (.bin .gtr (.t 16) (.c (.int .u8 126))) (tq 18 (.pick (.t 13) (.c (.bool true)) (.t 17)) .done)))))))))))
 (.cut (.cond (.t 18) (.seq (.reg (tm 2 (.c (.bool false)) .done))
 .ret)
 .skip)))))
 (.reg (tq 19 (.bin .add (.t 6) (.c (.int .i64 1))) (tm 6 (.t 19) .done)))))))))
 (.cut (.seq (.reg (tm 20 (.t 0) (tq 21 (.lenS (.t 20)) (tq 22 (.bin .leq (.t 21) (.c (.int .i64 200))) (tm 2 (.t 22) .done)))))
 .ret))))
theorem fc174 : fcomp Try.prog Try.f174 = some (c174.erase, [.mov (.t 2)], 23) := by kernel_rfl
def impl_isPlain_L1  : List UInt8 → Option (Fl Bool Unit)
  | [] =>
    some (.go ())
  | x_54 :: xs =>
    ((if (decide ((x_54.toNat : Int) < 32)) then
    some true
    else
    some (decide ((x_54.toNat : Int) > 126)) : Option Bool)).bind fun s18_56 =>
    if s18_56 then
    some (.ret false)
    else
    impl_isPlain_L1 xs 

def impl_isPlain (t_1 : Str) : Option Bool :=
    (impl_isPlain_L1 t_1 ).bind fun q => (match q with
    | .ret r => some r
    | .go _ =>
    some (decide ((t_1.length : Int) ≤ 200)))
theorem w_impl_isPlain (t_1 : Str) (r : Bool) (hf : impl_isPlain t_1 = some r) : CallOK Try.prog 174 .flat [(.str t_1)] (.bool r) := by
 refine CallOK.of_awp mixed Try.func174 fc174 nle ?_; rw [argT_eq]; unfold impl_isPlain at hf; unfold c174; refine (show awp Try.prog false 0 _ (ofL [(0, (.str t_1))]) [] _ from ?_); refine awp_seq <| w_reg <| s_mov (.bool false) rfl <| w_done <| k_seq <| awp_seq <| awp_seq <| w_reg <| s_mov (.str t_1) rfl <| s_dof (o_lenS rfl) fun hl2 => s_mov (.int .i64 0) rfl <| w_done <| k_seq <| ?_
 obtain ⟨p47, hb1, hf⟩ := ob hf
 refine awp_cutx (X := {q : Unit // p47 = .go q}) (fun q => ([(0, (.str t_1))], [])) ?_ ?_
 ·refine awp_loop (X := {q : Nat // impl_isPlain_L1 (t_1.drop q)  = some p47}) (fun q => ([(0, (.str t_1)), (5, (.int .i64 (t_1.length : Int))), (6, (.int .i64 (q.1 : Int)))], [])) (fun q => t_1.length - q.1) ⟨0, hb1⟩ ⟨[], [], _, _, rfl, rfl, ⟨.refl _, ⟨.refl _, ⟨.refl _, trivial⟩⟩⟩, (.refl _)⟩ ?_
  rintro ⟨s6_32, hc1⟩
  have hc1 : impl_isPlain_L1 (t_1.drop s6_32)  = some p47 := hc1
  refine (show awp Try.prog false 0 _ (ofL [(0, (.str t_1)), (5, (.int .i64 (t_1.length : Int))), (6, (.int .i64 (s6_32 : Int)))]) [] _ from ?_)
  rcases dropc t_1 s6_32 with ⟨hie50, hd53⟩ | ⟨hlt48, x_54, hx49, hd53⟩
  ·rw [hd53, impl_isPlain_L1.eq_1] at hc1
   have hq52 := dlf hie50
   refine awp_seq <| w_reg <| s_q (.bool (decide ((s6_32 : Int) < (t_1.length : Int)))) rfl rfl rfl <| w_done <| k_seq <| awp_seq <| w_condf rfl hq52 <| w_exit <| k_seqx <| k_loopx <| k_blkx <| ?_; obtain rfl := os hc1; exact k_cutn ⟨_, rfl⟩ ⟨[], [], _, _, rfl, rfl, ⟨.refl _, trivial⟩, (.refl _)⟩
  ·rw [hd53, impl_isPlain_L1.eq_2] at hc1
   have hq52 := dlt hlt48
   refine awp_seq <| w_reg <| s_q (.bool (decide ((s6_32 : Int) < (t_1.length : Int)))) rfl rfl rfl <| w_done <| k_seq <| awp_seq <| w_condt rfl hq52 <| w_skip <| k_seq <| awp_seq <| w_blk <| awp_seq <| w_reg <| s_mov (.int .i64 (s6_32 : Int)) rfl <| s_mov (.int .i64 (s6_32 : Int)) rfl <| w_done <| k_seq <| awp_seq <| ?_
   obtain ⟨s18_56, hb2, hc1⟩ := ob hc1
   refine awp_cut ([(0, (.str t_1)), (5, (.int .i64 (t_1.length : Int))), (6, (.int .i64 (s6_32 : Int))), (18, (.bool s18_56))], []) ?_ ?_
   ·refine w_reg ?_
    rcases oi hb2 with ⟨c58, hb2⟩ | ⟨c58, hb2⟩
    ·refine s_mov (.str t_1) rfl <| s_mov (.int .i64 (s6_32 : Int)) rfl <| s_do (o_idxsn rfl rfl hx49) <| s_q (.bool (decide ((x_54.toNat : Int) < 32))) rfl rfl rfl <| s_mov (.bool (decide ((x_54.toNat : Int) < 32))) rfl <| s_lit (s := 13) (b := true) rfl c58 <| s_off rfl rfl <| s_off rfl rfl <| s_off rfl rfl <| s_off rfl rfl <| s_q (.bool true) rfl trivial rfl <| w_done <| ?_; obtain rfl := os hb2; exact ⟨[], [], _, _, rfl, rfl, ⟨.refl _, ⟨.refl _, ⟨.refl _, ⟨.refl _, trivial⟩⟩⟩⟩, (.refl _)⟩
    ·refine s_mov (.str t_1) rfl <| s_mov (.int .i64 (s6_32 : Int)) rfl <| s_do (o_idxsn rfl rfl hx49) <| s_q (.bool (decide ((x_54.toNat : Int) < 32))) rfl rfl rfl <| s_mov (.bool (decide ((x_54.toNat : Int) < 32))) rfl <| s_lit (s := 13) (b := false) rfl (bf c58) <| s_on rfl <| s_mov (.str t_1) rfl <| s_on rfl <| s_mov (.int .i64 (s6_32 : Int)) rfl <| s_on rfl <| s_do (o_idxsn rfl rfl hx49) <| s_on rfl <| s_q (.bool (decide ((x_54.toNat : Int) > 126))) rfl rfl rfl <| s_q (.bool (decide ((x_54.toNat : Int) > 126))) rfl trivial rfl <| w_done <| ?_; obtain rfl := os hb2; exact ⟨[], [], _, _, rfl, rfl, ⟨.refl _, ⟨.refl _, ⟨.refl _, ⟨.refl _, trivial⟩⟩⟩⟩, (.refl _)⟩
   ·rcases oi hc1 with ⟨c59, hc1⟩ | ⟨c59, hc1⟩
    ·refine w_condt rfl c59 <| awp_seq <| w_reg <| s_mov (.bool false) rfl <| w_done <| k_seq <| w_ret <| ?_; obtain rfl := os hc1; obtain rfl := os hf; exact r_flat ⟨trivial, trivial⟩ rfl (.refl _)
    ·refine w_condf rfl (bf c59) <| w_skip <| k_blk <| k_seq <| w_reg <| s_q (.int .i64 (w64 ((s6_32 : Int) + 1))) rfl rfl rfl <| s_mov (.int .i64 (w64 ((s6_32 : Int) + 1))) rfl <| w_done <| ?_; exact k_loopn ⟨(s6_32 + 1), hc1⟩ (mul hlt48) ⟨[], [], _, _, rfl, rfl, ⟨.refl _, ⟨.refl _, ⟨.of_eq (congrArg (AV.int _) (w64_incr hlt48 hl2)), trivial⟩⟩⟩, (.refl _)⟩
 ·rintro ⟨_, rfl⟩
  refine awp_seq <| w_reg <| s_mov (.str t_1) rfl <| s_dof (o_lenS rfl) fun hl60 => s_q (.bool (decide ((t_1.length : Int) ≤ 200))) rfl rfl rfl <| s_mov (.bool (decide ((t_1.length : Int) ≤ 200))) rfl <| w_done <| k_seq <| w_ret <| ?_; obtain rfl := os hf; exact r_flat ⟨trivial, trivial⟩ rfl (.refl _)

/- impl.areKeys -/
def c226 : ACode :=
 (.seq (.reg (tm 2 (.c (.bool false)) .done))
 (.seq (.seq (.reg (tm 5 (.t 0) (tq 6 (.len (.t 5)) (tm 7 (.c (.int .i64 0)) .done))))
 (.block 0 (.loop (.seq (.reg (tq 8 (.bin .lss (.t 7) (.t 6)) .done))
 (.seq (.cond (.t 8) .skip
 (.exit 0))
 (.seq (.block 1 (.seq (.reg (tm 9 (.t 7) (tq 10 (.iaddr 1 (.t 5) (.t 7)) (tq 11 (.load 1 false (.t 10)) (tm 3 (.t 9) (tm 4 (.t 11) .done))))))
 (.seq (.reg (tm 12 (.t 4) (tq 13 (.call 174 [(.t 12)]) (tq 14 (.not (.t 13)) (tm 15 (.t 14) (tg 16 15 false (.mov (.t 3)) (tg 17 15 false (.bin .gtr (.t 16) (.c (.int .i64 0))) (tg 18 15 false (.mov (.t 17)) (tg 19 18 true (.mov (.t 0)) (tg 20 18 true (.mov (.t 3)) (tg 21 18 true (.bin .sub (.t 20) (.c (.int .i64 1))) (tg 22 18 true (.iaddr 1 (.t 19) (.t 21)) (tg 23 18 true (.load 1 false (.t 22)) (tg 24 18 true (.mov (.t 4)) (tg 25 18 true (.bin .geq (.t 23) (.t 24)) (tg 26 15 false (.pick (.t 18) (.t 25) (.c (.bool false))) (tq 27 (.pick (.t 15) (.c (.bool true)) (.t 26)) .done)))))))))))))))))
 (.cut (.cond (.t 27) (.seq (.reg (tm 2 (.c (.bool false)) .done))
 .ret)
 .skip)))))
 (.reg (tq 28 (.bin .add (.t 7) (.c (.int .i64 1))) (tm 7 (.t 28) .done)))))))))
 (.cut (.seq (.reg (tm 2 (.c (.bool true)) .done))
 .ret))))
theorem fc226 : fcomp Try.prog Try.f226 = some (c226.erase, [.mov (.t 2)], 29) := by kernel_rfl
def impl_areKeys_L1 (keys_1 : (List Str)) : List Str → Nat → Option (Fl Bool Unit)
  | [], s7_40 =>
    some (.go ())
  | x_66 :: xs, s7_40 =>
    (((impl_isPlain x_66).bind fun r_75 =>
    if (!r_75) then
    some true
    else
    if (decide ((s7_40 : Int) > 0)) then
    (idx keys_1 (w64 ((s7_40 : Int) - 1))).bind fun x_79 =>
    some (!Op.bytesLess x_79 x_66)
    else
    some false : Option Bool)).bind fun s27_73 =>
    if s27_73 then
    some (.ret false)
    else
    impl_areKeys_L1 keys_1 xs (s7_40 + 1)

def impl_areKeys (keys_1 : (List Str)) : Option Bool :=
    (impl_areKeys_L1 keys_1 keys_1 0).bind fun q => (match q with
    | .ret r => some r
    | .go _ =>
    some true)
theorem w_impl_areKeys (keys_1 : (List Str)) (r : Bool) (hf : impl_areKeys keys_1 = some r) : CallOK Try.prog 226 .flat [(.lst 1 (keys_1.map AV.str))] (.bool r) := by
 refine CallOK.of_awp mixed Try.func226 fc226 nle ?_; rw [argT_eq]; unfold impl_areKeys at hf; unfold c226; refine (show awp Try.prog false 0 _ (ofL [(0, (.lst 1 (keys_1.map AV.str)))]) [] _ from ?_); refine awp_seq <| w_reg <| s_mov (.bool false) rfl <| w_done <| k_seq <| awp_seq <| awp_seq <| w_reg <| s_mov (.lst 1 (keys_1.map AV.str)) rfl <| s_dof (o_len (enc := AV.str) rfl) fun hl2 => s_mov (.int .i64 0) rfl <| w_done <| k_seq <| ?_
 obtain ⟨p59, hb1, hf⟩ := ob hf
 refine awp_cutx (X := {q : Unit // p59 = .go q}) (fun q => ([], [])) ?_ ?_
 ·refine awp_loop (X := {q : Nat // impl_areKeys_L1 keys_1 (keys_1.drop q) q = some p59}) (fun q => ([(0, (.lst 1 (keys_1.map AV.str))), (5, (.lst 1 (keys_1.map AV.str))), (6, (.int .i64 (keys_1.length : Int))), (7, (.int .i64 (q.1 : Int)))], [])) (fun q => keys_1.length - q.1) ⟨0, hb1⟩ ⟨[], [], _, _, rfl, rfl, ⟨.refl _, ⟨.refl _, ⟨.refl _, ⟨.refl _, trivial⟩⟩⟩⟩, (.refl _)⟩ ?_
  rintro ⟨s7_40, hc1⟩
  have hc1 : impl_areKeys_L1 keys_1 (keys_1.drop s7_40) s7_40 = some p59 := hc1
  refine (show awp Try.prog false 0 _ (ofL [(0, (.lst 1 (keys_1.map AV.str))), (5, (.lst 1 (keys_1.map AV.str))), (6, (.int .i64 (keys_1.length : Int))), (7, (.int .i64 (s7_40 : Int)))]) [] _ from ?_)
  rcases dropc keys_1 s7_40 with ⟨hie62, hd65⟩ | ⟨hlt60, x_66, hx61, hd65⟩
  ·rw [hd65, impl_areKeys_L1.eq_1] at hc1
   have hq64 := dlf hie62
   refine awp_seq <| w_reg <| s_q (.bool (decide ((s7_40 : Int) < (keys_1.length : Int)))) rfl rfl rfl <| w_done <| k_seq <| awp_seq <| w_condf rfl hq64 <| w_exit <| k_seqx <| k_loopx <| k_blkx <| ?_; obtain rfl := os hc1; exact k_cutn ⟨_, rfl⟩ ⟨[], [], _, _, rfl, rfl, trivial, (.refl _)⟩
  ·rw [hd65, impl_areKeys_L1.eq_2] at hc1
   have hq64 := dlt hlt60
   refine awp_seq <| w_reg <| s_q (.bool (decide ((s7_40 : Int) < (keys_1.length : Int)))) rfl rfl rfl <| w_done <| k_seq <| awp_seq <| w_condt rfl hq64 <| w_skip <| k_seq <| awp_seq <| w_blk <| awp_seq <| w_reg <| s_mov (.int .i64 (s7_40 : Int)) rfl <| s_do (o_iaddrn (enc := AV.str) rfl rfl hx61) <| s_q (.str x_66) rfl ⟨rfl, rfl⟩ rfl <| s_mov (.int .i64 (s7_40 : Int)) rfl <| s_mov (.str x_66) rfl <| w_done <| k_seq <| awp_seq <| ?_
   obtain ⟨s27_73, hb2, hc1⟩ := ob hc1
   refine awp_cut ([(0, (.lst 1 (keys_1.map AV.str))), (5, (.lst 1 (keys_1.map AV.str))), (6, (.int .i64 (keys_1.length : Int))), (7, (.int .i64 (s7_40 : Int))), (27, (.bool s27_73))], []) ?_ ?_
   ·refine w_reg <| s_mov (.str x_66) rfl <| ?_
    obtain ⟨r_75, er76, hb2⟩ := ob hb2
    refine s_do (o_call (w_impl_isPlain _ _ er76) rfl (.refl _) rfl) <| s_q (.bool (!r_75)) rfl trivial rfl <| s_mov (.bool (!r_75)) rfl <| ?_
    rcases oi hb2 with ⟨c77, hb2⟩ | ⟨c77, hb2⟩
    ·refine s_lit (s := 15) (b := true) rfl c77 <| s_off rfl rfl <| s_off rfl rfl <| s_off rfl rfl <| s_offs rfl <| s_offs rfl <| s_offs rfl <| s_offs rfl <| s_offs rfl <| s_offs rfl <| s_offs rfl <| s_off rfl rfl <| s_q (.bool true) rfl trivial rfl <| w_done <| ?_; obtain rfl := os hb2; exact ⟨[], [], _, _, rfl, rfl, ⟨.refl _, ⟨.refl _, ⟨.refl _, ⟨.refl _, ⟨.refl _, trivial⟩⟩⟩⟩⟩, (.refl _)⟩
    ·refine s_lit (s := 15) (b := false) rfl (bf c77) <| s_on rfl <| s_mov (.int .i64 (s7_40 : Int)) rfl <| s_on rfl <| s_q (.bool (decide ((s7_40 : Int) > 0))) rfl rfl rfl <| s_on rfl <| s_mov (.bool (decide ((s7_40 : Int) > 0))) rfl <| ?_
     rcases oi hb2 with ⟨c78, hb2⟩ | ⟨c78, hb2⟩
     ·refine s_lit (s := 18) (b := true) rfl c78 <| s_on rfl <| s_mov (.lst 1 (keys_1.map AV.str)) rfl <| s_on rfl <| s_mov (.int .i64 (s7_40 : Int)) rfl <| s_on rfl <| s_q (.int .i64 (w64 ((s7_40 : Int) - 1))) rfl rfl rfl <| s_on rfl <| ?_
      obtain ⟨x_79, ex80, hb2⟩ := ob hb2
      refine s_do (o_iaddr (enc := AV.str) rfl rfl (idx0 ex80) (idx1 ex80)) <| s_on rfl <| s_q (.str x_79) rfl ⟨rfl, rfl⟩ rfl <| s_on rfl <| s_mov (.str x_66) rfl <| s_on rfl <| s_q (.bool (!Op.bytesLess x_79 x_66)) rfl trivial rfl <| s_on rfl <| s_q (.bool (!Op.bytesLess x_79 x_66)) rfl trivial rfl <| s_q (.bool (!Op.bytesLess x_79 x_66)) rfl trivial rfl <| w_done <| ?_; obtain rfl := os hb2; exact ⟨[], [], _, _, rfl, rfl, ⟨.refl _, ⟨.refl _, ⟨.refl _, ⟨.refl _, ⟨.refl _, trivial⟩⟩⟩⟩⟩, (.refl _)⟩
     ·refine s_lit (s := 18) (b := false) rfl (bf c78) <| s_off rfl rfl <| s_off rfl rfl <| s_off rfl rfl <| s_off rfl rfl <| s_off rfl rfl <| s_off rfl rfl <| s_off rfl rfl <| s_on rfl <| s_q (.bool false) rfl trivial rfl <| s_q (.bool false) rfl trivial rfl <| w_done <| ?_; obtain rfl := os hb2; exact ⟨[], [], _, _, rfl, rfl, ⟨.refl _, ⟨.refl _, ⟨.refl _, ⟨.refl _, ⟨.refl _, trivial⟩⟩⟩⟩⟩, (.refl _)⟩
   ·rcases oi hc1 with ⟨c81, hc1⟩ | ⟨c81, hc1⟩
    ·refine w_condt rfl c81 <| awp_seq <| w_reg <| s_mov (.bool false) rfl <| w_done <| k_seq <| w_ret <| ?_; obtain rfl := os hc1; obtain rfl := os hf; exact r_flat ⟨trivial, trivial⟩ rfl (.refl _)
    ·refine w_condf rfl (bf c81) <| w_skip <| k_blk <| k_seq <| w_reg <| s_q (.int .i64 (w64 ((s7_40 : Int) + 1))) rfl rfl rfl <| s_mov (.int .i64 (w64 ((s7_40 : Int) + 1))) rfl <| w_done <| ?_; exact k_loopn ⟨(s7_40 + 1), hc1⟩ (mul hlt60) ⟨[], [], _, _, rfl, rfl, ⟨.refl _, ⟨.refl _, ⟨.refl _, ⟨.of_eq (congrArg (AV.int _) (w64_incr hlt60 hl2)), trivial⟩⟩⟩⟩, (.refl _)⟩
 ·rintro ⟨_, rfl⟩
  refine awp_seq <| w_reg <| s_mov (.bool true) rfl <| w_done <| k_seq <| w_ret <| ?_; obtain rfl := os hf; exact r_flat ⟨trivial, trivial⟩ rfl (.refl _)

end Go.R
