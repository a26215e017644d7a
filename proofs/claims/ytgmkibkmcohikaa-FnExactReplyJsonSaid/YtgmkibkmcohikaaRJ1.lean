/- Walks. -/
import Derived.Test.YtgmkibkmcohikaaRJT
set_option linter.all false
namespace Go.R
open Go Go.Proofs
set_option linter.unusedVariables false
set_option linter.unusedSimpArgs false
set_option maxHeartbeats 8000000
/- laws.szStringS -/
def c119 : ACode :=
 (.seq (.reg (tm 4 (.c (.int .i64 0)) .done))
 (.seq (.reg (tm 6 (.t 1) (tm 7 (.t 0) (tq 8 (.len (.t 7)) (tq 9 (.bin .sub (.t 6) (.t 8)) (tm 1 (.t 9) .done))))))
 (.seq (.seq (.reg (tm 10 (.t 1) (tq 11 (.bin .lss (.t 10) (.c (.int .i64 0))) .done)))
 (.cond (.t 11) (.seq (.reg (tq 4 (.mov (.c (.int .i64 (-1)))) .done))
 .ret)
 .skip))
 (.seq (.seq (.reg (tm 5 (.c (.int .i64 0)) .done))
 (.block 0 (.loop (.seq (.seq (.reg (tm 12 (.t 5) (tm 13 (.t 0) (tq 14 (.len (.t 13)) (tq 15 (.bin .lss (.t 12) (.t 14)) .done)))))
 (.cond (.t 15) .skip
 (.exit 0)))
 (.seq (.block 1 (.seq (.reg (tm 18 (.t 1) (tm 19 (.t 0) (tm 20 (.t 5) (tq 21 (.iaddr 1 (.t 19) (.t 20)) (tq 22 (.load 1 false (.t 21)) (tq 23 (.lenS (.t 22)) (tq 24 (.bin .sub (.t 18) (.t 23)) (tm 1 (.t 24) .done)))))))))
 (.seq (.reg (tm 25 (.t 1) (tq 26 (.bin .lss (.t 25) (.c (.int .i64 0))) .done)))
 (.cond (.t 26) (.seq (.reg (tq 4 (.mov (.c (.int .i64 (-1)))) .done))
 .ret)
 .skip))))
 (.reg (tm 16 (.t 5) (tq 17 (.bin .add (.t 16) (.c (.int .i64 1))) (tm 5 (.t 17) .done)))))))))
 (.cut (.seq (.reg (tm 27 (.t 1) (tm 4 (.t 27) .done)))
 .ret))))))
theorem fc119 : fcomp Try.prog Try.f119 = some (c119.erase, [.mov (.t 4)], 28) := by kernel_rfl
def laws_szStringS_L1  : List Str → Int → Option (Fl Int Int)
  | [], left_19 =>
    some (.go left_19)
  | x_36 :: xs, left_19 =>
    if (decide (w64 (left_19 - (x_36.length : Int)) < 0)) then
    some (.ret (-1))
    else
    laws_szStringS_L1 xs (w64 (left_19 - (x_36.length : Int))) 

def laws_szStringS (a_1 : (List Str)) (left_2 : Int) : Option Int :=
    if (decide (w64 (left_2 - (a_1.length : Int)) < 0)) then
    some (-1)
    else
    (laws_szStringS_L1 a_1 (w64 (left_2 - (a_1.length : Int)))).bind fun q => (match q with
    | .ret r => some r
    | .go left_28 =>
    some left_28)
theorem w_laws_szStringS (a_1 : (List Str)) (left_2 : Int) (r : Int) (hf : laws_szStringS a_1 left_2 = some r) : CallOK Try.prog 119 .flat [(.lst 1 (a_1.map AV.str)), (.int .i64 left_2)] (.int .i64 r) := by
 refine CallOK.of_awp mixed Try.func119 fc119 nle ?_; rw [argT_eq]; unfold laws_szStringS at hf; unfold c119; refine (show awp Try.prog false 0 _ (ofL [(0, (.lst 1 (a_1.map AV.str))), (1, (.int .i64 left_2))]) [] _ from ?_); refine awp_seq <| w_reg <| s_mov (.int .i64 0) rfl <| w_done <| k_seq <| awp_seq <| w_reg <| s_mov (.int .i64 left_2) rfl <| s_mov (.lst 1 (a_1.map AV.str)) rfl <| s_dof (o_len (enc := AV.str) rfl) fun hl3 => s_q (.int .i64 (w64 (left_2 - (a_1.length : Int)))) rfl rfl rfl <| s_mov (.int .i64 (w64 (left_2 - (a_1.length : Int)))) rfl <| w_done <| k_seq <| awp_seq <| awp_seq <| w_reg <| s_mov (.int .i64 (w64 (left_2 - (a_1.length : Int)))) rfl <| s_q (.bool (decide (w64 (left_2 - (a_1.length : Int)) < 0))) rfl rfl rfl <| ?_
 refine w_done <| k_seq <| ?_
 rcases oi hf with ⟨c4, hf⟩ | ⟨c4, hf⟩
 ·refine w_condt rfl c4 <| awp_seq <| w_reg <| s_mov (.int .i64 (-1)) rfl <| w_done <| k_seq <| w_ret <| ?_; obtain rfl := os hf; exact r_flat ⟨trivial, trivial⟩ rfl (.refl _)
 ·refine w_condf rfl (bf c4) <| w_skip <| k_seq <| awp_seq <| awp_seq <| w_reg <| s_mov (.int .i64 0) rfl <| w_done <| k_seq <| ?_
  obtain ⟨p29, hb1, hf⟩ := ob hf
  refine awp_cutx (X := {q : Int // p29 = .go q}) (fun q => ([(1, (.int .i64 q.1))], [])) ?_ ?_
  ·refine awp_loop (X := {q : (Int × Nat) // laws_szStringS_L1 (a_1.drop q.2) q.1 = some p29}) (fun q => ([(0, (.lst 1 (a_1.map AV.str))), (1, (.int .i64 q.1.1)), (5, (.int .i64 (q.1.2 : Int)))], [])) (fun q => a_1.length - q.1.2) ⟨(w64 (left_2 - (a_1.length : Int)), 0), hb1⟩ ⟨[], [], _, _, rfl, rfl, ⟨.refl _, ⟨.refl _, ⟨.refl _, trivial⟩⟩⟩, (.refl _)⟩ ?_
   rintro ⟨⟨left_19, i_20⟩, hc1⟩
   have hc1 : laws_szStringS_L1 (a_1.drop i_20) left_19 = some p29 := hc1
   refine (show awp Try.prog false 0 _ (ofL [(0, (.lst 1 (a_1.map AV.str))), (1, (.int .i64 left_19)), (5, (.int .i64 (i_20 : Int)))]) [] _ from ?_)
   rcases dropc a_1 i_20 with ⟨hie32, hd35⟩ | ⟨hlt30, x_36, hx31, hd35⟩
   ·rw [hd35, laws_szStringS_L1.eq_1] at hc1
    have hq34 := dlf hie32
    refine awp_seq <| awp_seq <| w_reg <| s_mov (.int .i64 (i_20 : Int)) rfl <| s_mov (.lst 1 (a_1.map AV.str)) rfl <| s_dof (o_len (enc := AV.str) rfl) fun hl37 => s_q (.bool (decide ((i_20 : Int) < (a_1.length : Int)))) rfl rfl rfl <| w_done <| k_seq <| w_condf rfl hq34 <| w_exit <| k_seqx <| k_loopx <| k_blkx <| ?_; obtain rfl := os hc1; exact k_cutn ⟨_, rfl⟩ ⟨[], [], _, _, rfl, rfl, ⟨.refl _, trivial⟩, (.refl _)⟩
   ·rw [hd35, laws_szStringS_L1.eq_2] at hc1
    have hq34 := dlt hlt30
    refine awp_seq <| awp_seq <| w_reg <| s_mov (.int .i64 (i_20 : Int)) rfl <| s_mov (.lst 1 (a_1.map AV.str)) rfl <| s_dof (o_len (enc := AV.str) rfl) fun hl38 => s_q (.bool (decide ((i_20 : Int) < (a_1.length : Int)))) rfl rfl rfl <| w_done <| k_seq <| w_condt rfl hq34 <| w_skip <| k_seq <| awp_seq <| w_blk <| awp_seq <| w_reg <| s_mov (.int .i64 left_19) rfl <| s_mov (.lst 1 (a_1.map AV.str)) rfl <| s_mov (.int .i64 (i_20 : Int)) rfl <| s_do (o_iaddrn (enc := AV.str) rfl rfl hx31) <| s_q (.str x_36) rfl ⟨rfl, rfl⟩ rfl <| s_dof (o_lenS rfl) fun hl39 => s_q (.int .i64 (w64 (left_19 - (x_36.length : Int)))) rfl rfl rfl <| s_mov (.int .i64 (w64 (left_19 - (x_36.length : Int)))) rfl <| w_done <| k_seq <| ?_
    refine awp_seq <| w_reg <| s_mov (.int .i64 (w64 (left_19 - (x_36.length : Int)))) rfl <| s_q (.bool (decide (w64 (left_19 - (x_36.length : Int)) < 0))) rfl rfl rfl <| w_done <| k_seq <| ?_
    rcases oi hc1 with ⟨c40, hc1⟩ | ⟨c40, hc1⟩
    ·refine w_condt rfl c40 <| awp_seq <| w_reg <| s_mov (.int .i64 (-1)) rfl <| w_done <| k_seq <| w_ret <| ?_; obtain rfl := os hc1; obtain rfl := os hf; exact r_flat ⟨trivial, trivial⟩ rfl (.refl _)
    ·refine w_condf rfl (bf c40) <| w_skip <| k_blk <| k_seq <| w_reg <| s_mov (.int .i64 (i_20 : Int)) rfl <| s_q (.int .i64 (w64 ((i_20 : Int) + 1))) rfl rfl rfl <| s_mov (.int .i64 (w64 ((i_20 : Int) + 1))) rfl <| w_done <| ?_; exact k_loopn ⟨(w64 (left_19 - (x_36.length : Int)), (i_20 + 1)), hc1⟩ (mul hlt30) ⟨[], [], _, _, rfl, rfl, ⟨.refl _, ⟨.refl _, ⟨.of_eq (congrArg (AV.int _) (w64_incr hlt30 hl38)), trivial⟩⟩⟩, (.refl _)⟩
  ·rintro ⟨left_28, rfl⟩
   refine awp_seq <| w_reg <| s_mov (.int .i64 left_28) rfl <| s_mov (.int .i64 left_28) rfl <| w_done <| k_seq <| w_ret <| ?_; obtain rfl := os hf; exact r_flat ⟨trivial, trivial⟩ rfl (.refl _)

/- laws.szJsonS -/
def c120 : ACode :=
 (.seq (.reg (tm 4 (.c (.int .i64 0)) .done))
 (.seq (.reg (tm 6 (.t 1) (tm 7 (.t 0) (tq 8 (.len (.t 7)) (tq 9 (.bin .sub (.t 6) (.t 8)) (tm 1 (.t 9) .done))))))
 (.seq (.seq (.reg (tm 10 (.t 1) (tq 11 (.bin .lss (.t 10) (.c (.int .i64 0))) .done)))
 (.cond (.t 11) (.seq (.reg (tq 4 (.mov (.c (.int .i64 (-1)))) .done))
 .ret)
 .skip))
 (.seq (.seq (.reg (tm 5 (.c (.int .i64 0)) .done))
 (.block 0 (.loop (.seq (.seq (.reg (tm 12 (.t 5) (tm 13 (.t 0) (tq 14 (.len (.t 13)) (tq 15 (.bin .lss (.t 12) (.t 14)) .done)))))
 (.cond (.t 15) .skip
 (.exit 0)))
 (.seq (.block 1 (.seq (.reg (tm 18 (.t 0) (tm 19 (.t 5) (tq 20 (.iaddr 5 (.t 18) (.t 19)) (tq 21 (.load 5 true (.t 20)) (tm 22 (.t 1) (tq 23 (.call 47 [(.t 21), (.t 22)]) (tm 1 (.t 23) .done))))))))
 (.seq (.reg (tm 24 (.t 1) (tq 25 (.bin .lss (.t 24) (.c (.int .i64 0))) .done)))
 (.cond (.t 25) (.seq (.reg (tq 4 (.mov (.c (.int .i64 (-1)))) .done))
 .ret)
 .skip))))
 (.reg (tm 16 (.t 5) (tq 17 (.bin .add (.t 16) (.c (.int .i64 1))) (tm 5 (.t 17) .done)))))))))
 (.cut (.seq (.reg (tm 26 (.t 1) (tm 4 (.t 26) .done)))
 .ret))))))
theorem fc120 : fcomp Try.prog Try.f120 = some (c120.erase, [.mov (.t 4)], 27) := by kernel_rfl
def laws_szJsonS_L1 (rec : (GJson → Int → Option Int)) : List GJson → Int → Option (Fl Int Int)
  | [], left_21 =>
    some (.go left_21)
  | x_39 :: xs, left_21 =>
    (rec x_39 left_21).bind fun r_42 =>
    if (decide (r_42 < 0)) then
    some (.ret (-1))
    else
    laws_szJsonS_L1 rec xs r_42 

def laws_szJsonS (rec : (GJson → Int → Option Int)) (a_1 : (List GJson)) (left_2 : Int) : Option Int :=
    if (decide (w64 (left_2 - (a_1.length : Int)) < 0)) then
    some (-1)
    else
    (laws_szJsonS_L1 rec a_1 (w64 (left_2 - (a_1.length : Int)))).bind fun q => (match q with
    | .ret r => some r
    | .go left_31 =>
    some left_31)
theorem w_laws_szJsonS (rec : (GJson → Int → Option Int)) (hrec : ∀ a0 a1 r, rec a0 a1 = some r → CallOK Try.prog 47 .flat [(encGJson a0), (.int .i64 a1)] (.int .i64 r)) (a_1 : (List GJson)) (left_2 : Int) (r : Int) (hf : laws_szJsonS rec a_1 left_2 = some r) : CallOK Try.prog 120 .flat [(.lst 5 (a_1.map encGJson)), (.int .i64 left_2)] (.int .i64 r) := by
 refine CallOK.of_awp mixed Try.func120 fc120 nle ?_; rw [argT_eq]; unfold laws_szJsonS at hf; unfold c120; refine (show awp Try.prog false 0 _ (ofL [(0, (.lst 5 (a_1.map encGJson))), (1, (.int .i64 left_2))]) [] _ from ?_); refine awp_seq <| w_reg <| s_mov (.int .i64 0) rfl <| w_done <| k_seq <| awp_seq <| w_reg <| s_mov (.int .i64 left_2) rfl <| s_mov (.lst 5 (a_1.map encGJson)) rfl <| s_dof (o_len (enc := encGJson) rfl) fun hl3 => s_q (.int .i64 (w64 (left_2 - (a_1.length : Int)))) rfl rfl rfl <| s_mov (.int .i64 (w64 (left_2 - (a_1.length : Int)))) rfl <| w_done <| k_seq <| awp_seq <| awp_seq <| w_reg <| s_mov (.int .i64 (w64 (left_2 - (a_1.length : Int)))) rfl <| s_q (.bool (decide (w64 (left_2 - (a_1.length : Int)) < 0))) rfl rfl rfl <| ?_
 refine w_done <| k_seq <| ?_
 rcases oi hf with ⟨c4, hf⟩ | ⟨c4, hf⟩
 ·refine w_condt rfl c4 <| awp_seq <| w_reg <| s_mov (.int .i64 (-1)) rfl <| w_done <| k_seq <| w_ret <| ?_; obtain rfl := os hf; exact r_flat ⟨trivial, trivial⟩ rfl (.refl _)
 ·refine w_condf rfl (bf c4) <| w_skip <| k_seq <| awp_seq <| awp_seq <| w_reg <| s_mov (.int .i64 0) rfl <| w_done <| k_seq <| ?_
  obtain ⟨p32, hb1, hf⟩ := ob hf
  refine awp_cutx (X := {q : Int // p32 = .go q}) (fun q => ([(1, (.int .i64 q.1))], [])) ?_ ?_
  ·refine awp_loop (X := {q : (Int × Nat) // laws_szJsonS_L1 rec (a_1.drop q.2) q.1 = some p32}) (fun q => ([(0, (.lst 5 (a_1.map encGJson))), (1, (.int .i64 q.1.1)), (5, (.int .i64 (q.1.2 : Int)))], [])) (fun q => a_1.length - q.1.2) ⟨(w64 (left_2 - (a_1.length : Int)), 0), hb1⟩ ⟨[], [], _, _, rfl, rfl, ⟨.refl _, ⟨.refl _, ⟨.refl _, trivial⟩⟩⟩, (.refl _)⟩ ?_
   rintro ⟨⟨left_21, i_22⟩, hc1⟩
   have hc1 : laws_szJsonS_L1 rec (a_1.drop i_22) left_21 = some p32 := hc1
   refine (show awp Try.prog false 0 _ (ofL [(0, (.lst 5 (a_1.map encGJson))), (1, (.int .i64 left_21)), (5, (.int .i64 (i_22 : Int)))]) [] _ from ?_)
   rcases dropc a_1 i_22 with ⟨hie35, hd38⟩ | ⟨hlt33, x_39, hx34, hd38⟩
   ·rw [hd38, laws_szJsonS_L1.eq_1] at hc1
    have hq37 := dlf hie35
    refine awp_seq <| awp_seq <| w_reg <| s_mov (.int .i64 (i_22 : Int)) rfl <| s_mov (.lst 5 (a_1.map encGJson)) rfl <| s_dof (o_len (enc := encGJson) rfl) fun hl40 => s_q (.bool (decide ((i_22 : Int) < (a_1.length : Int)))) rfl rfl rfl <| w_done <| k_seq <| w_condf rfl hq37 <| w_exit <| k_seqx <| k_loopx <| k_blkx <| ?_; obtain rfl := os hc1; exact k_cutn ⟨_, rfl⟩ ⟨[], [], _, _, rfl, rfl, ⟨.refl _, trivial⟩, (.refl _)⟩
   ·rw [hd38, laws_szJsonS_L1.eq_2] at hc1
    have hq37 := dlt hlt33
    refine awp_seq <| awp_seq <| w_reg <| s_mov (.int .i64 (i_22 : Int)) rfl <| s_mov (.lst 5 (a_1.map encGJson)) rfl <| s_dof (o_len (enc := encGJson) rfl) fun hl41 => s_q (.bool (decide ((i_22 : Int) < (a_1.length : Int)))) rfl rfl rfl <| w_done <| k_seq <| w_condt rfl hq37 <| w_skip <| k_seq <| awp_seq <| w_blk <| awp_seq <| w_reg <| ?_
    obtain ⟨r_42, er43, hc1⟩ := ob hc1
    refine s_mov (.lst 5 (a_1.map encGJson)) rfl <| s_mov (.int .i64 (i_22 : Int)) rfl <| s_do (o_iaddrn (enc := encGJson) rfl rfl hx34) <| s_do (o_loadeq (v := (.agg [(.int .i64 x_39.Kind), (.int .i64 x_39.N), (.str x_39.T), (.lst 1 (x_39.Keys.map AV.str)), (.lst 5 (x_39.Items.map encGJson))])) rfl (encGJson_eq _) nle rfl) <| s_mov (.int .i64 left_21) rfl <| s_do (o_call (hrec _ _ _ er43) rfl (.cons (.of_eq (encGJson_eq x_39).symm) (.cons (.refl _) .nil)) rfl) <| s_mov (.int .i64 r_42) rfl <| w_done <| k_seq <| awp_seq <| w_reg <| s_mov (.int .i64 r_42) rfl <| s_q (.bool (decide (r_42 < 0))) rfl rfl rfl <| w_done <| k_seq <| ?_
    rcases oi hc1 with ⟨c44, hc1⟩ | ⟨c44, hc1⟩
    ·refine w_condt rfl c44 <| awp_seq <| w_reg <| s_mov (.int .i64 (-1)) rfl <| w_done <| k_seq <| w_ret <| ?_; obtain rfl := os hc1; obtain rfl := os hf; exact r_flat ⟨trivial, trivial⟩ rfl (.refl _)
    ·refine w_condf rfl (bf c44) <| w_skip <| k_blk <| k_seq <| w_reg <| s_mov (.int .i64 (i_22 : Int)) rfl <| s_q (.int .i64 (w64 ((i_22 : Int) + 1))) rfl rfl rfl <| s_mov (.int .i64 (w64 ((i_22 : Int) + 1))) rfl <| w_done <| ?_; exact k_loopn ⟨(r_42, (i_22 + 1)), hc1⟩ (mul hlt33) ⟨[], [], _, _, rfl, rfl, ⟨.refl _, ⟨.refl _, ⟨.of_eq (congrArg (AV.int _) (w64_incr hlt33 hl41)), trivial⟩⟩⟩, (.refl _)⟩
  ·rintro ⟨left_31, rfl⟩
   refine awp_seq <| w_reg <| s_mov (.int .i64 left_31) rfl <| s_mov (.int .i64 left_31) rfl <| w_done <| k_seq <| w_ret <| ?_; obtain rfl := os hf; exact r_flat ⟨trivial, trivial⟩ rfl (.refl _)

/- laws.szJson -/
def c47 : ACode :=
 (.seq (.reg (tq 2 (.box 5 (.t 0)) (tm 4 (.c (.int .i64 0)) .done)))
 (.seq (.reg (tm 5 (.t 1) (tq 6 (.faddr 2 (.t 2)) (tq 7 (.load 1 false (.t 6)) (tq 8 (.lenS (.t 7)) (tq 9 (.bin .sub (.t 5) (.t 8)) (tm 1 (.t 9) .done)))))))
 (.seq (.seq (.reg (tm 10 (.t 1) (tq 11 (.bin .lss (.t 10) (.c (.int .i64 0))) .done)))
 (.cond (.t 11) (.seq (.reg (tq 4 (.mov (.c (.int .i64 (-1)))) .done))
 .ret)
 .skip))
 (.seq (.reg (tq 12 (.faddr 3 (.t 2)) (tq 13 (.load 1 false (.t 12)) (tm 14 (.t 1) (tq 15 (.call 119 [(.t 13), (.t 14)]) (tm 1 (.t 15) .done))))))
 (.seq (.seq (.reg (tm 16 (.t 1) (tq 17 (.bin .lss (.t 16) (.c (.int .i64 0))) .done)))
 (.cond (.t 17) (.seq (.reg (tq 4 (.mov (.c (.int .i64 (-1)))) .done))
 .ret)
 .skip))
 (.seq (.reg (tq 18 (.faddr 4 (.t 2)) (tq 19 (.load 1 false (.t 18)) (tm 20 (.t 1) (tq 21 (.call 120 [(.t 19), (.t 20)]) (tm 1 (.t 21) .done))))))
 (.seq (.seq (.reg (tm 22 (.t 1) (tq 23 (.bin .lss (.t 22) (.c (.int .i64 0))) .done)))
 (.cond (.t 23) (.seq (.reg (tq 4 (.mov (.c (.int .i64 (-1)))) .done))
 .ret)
 .skip))
 (.seq (.reg (tm 24 (.t 1) (tm 4 (.t 24) .done)))
 .ret))))))))
theorem fc47 : fcomp Try.prog Try.f47 = some (c47.erase, [.mov (.t 4)], 25) := by kernel_rfl
def laws_szJson_B (rec : (GJson → Int → Option Int)) (a_1 : GJson) (left_2 : Int) : Option Int :=
    if (decide (w64 (left_2 - (a_1.T.length : Int)) < 0)) then
    some (-1)
    else
    (laws_szStringS a_1.Keys (w64 (left_2 - (a_1.T.length : Int)))).bind fun r_5 =>
    if (decide (r_5 < 0)) then
    some (-1)
    else
    (laws_szJsonS rec a_1.Items r_5).bind fun r_8 =>
    if (decide (r_8 < 0)) then
    some (-1)
    else
    some r_8
theorem w_laws_szJson_B (rec : (GJson → Int → Option Int)) (hrec : ∀ a0 a1 r, rec a0 a1 = some r → CallOK Try.prog 47 .flat [(encGJson a0), (.int .i64 a1)] (.int .i64 r)) (a_1 : GJson) (left_2 : Int) (r : Int) (hf : laws_szJson_B rec a_1 left_2 = some r) : CallOK Try.prog 47 .flat [(encGJson a_1), (.int .i64 left_2)] (.int .i64 r) := by
 refine CallOK.of_awp mixed Try.func47 fc47 nle ?_; rw [argT_eq]; rw [encGJson_eq a_1]; unfold laws_szJson_B at hf; unfold c47; refine (show awp Try.prog false 0 _ (ofL [(0, (.agg [(.int .i64 a_1.Kind), (.int .i64 a_1.N), (.str a_1.T), (.lst 1 (a_1.Keys.map AV.str)), (.lst 5 (a_1.Items.map encGJson))])), (1, (.int .i64 left_2))]) [] _ from ?_); refine awp_seq <| w_reg <| s_do (o_box (j := 0) (c := (.agg [(.int .i64 a_1.Kind), (.int .i64 a_1.N), (.str a_1.T), (.lst 1 (a_1.Keys.map AV.str)), (.lst 5 (a_1.Items.map encGJson))])) rfl trivial rfl rfl) <| s_mov (.int .i64 0) rfl <| w_done <| k_seq <| awp_seq <| w_reg <| s_mov (.int .i64 left_2) rfl <| s_q (.ptr 0 0 2) rfl trivial rfl <| s_q (.str a_1.T) rfl nle rfl <| s_dof (o_lenS rfl) fun hl3 => ?_
 refine s_q (.int .i64 (w64 (left_2 - (a_1.T.length : Int)))) rfl rfl rfl <| s_mov (.int .i64 (w64 (left_2 - (a_1.T.length : Int)))) rfl <| w_done <| k_seq <| awp_seq <| awp_seq <| w_reg <| s_mov (.int .i64 (w64 (left_2 - (a_1.T.length : Int)))) rfl <| s_q (.bool (decide (w64 (left_2 - (a_1.T.length : Int)) < 0))) rfl rfl rfl <| w_done <| k_seq <| ?_
 rcases oi hf with ⟨c4, hf⟩ | ⟨c4, hf⟩
 ·refine w_condt rfl c4 <| awp_seq <| w_reg <| s_mov (.int .i64 (-1)) rfl <| w_done <| k_seq <| w_ret <| ?_; obtain rfl := os hf; exact r_flat ⟨trivial, trivial⟩ rfl (.refl _)
 ·refine w_condf rfl (bf c4) <| w_skip <| k_seq <| awp_seq <| w_reg <| ?_
  obtain ⟨r_5, er6, hf⟩ := ob hf
  refine s_q (.ptr 0 0 3) rfl trivial rfl <| s_q (.lst 1 (a_1.Keys.map AV.str)) rfl nle rfl <| s_mov (.int .i64 (w64 (left_2 - (a_1.T.length : Int)))) rfl <| s_do (o_call (w_laws_szStringS _ _ _ er6) rfl (.refl _) rfl) <| s_mov (.int .i64 r_5) rfl <| w_done <| k_seq <| awp_seq <| awp_seq <| w_reg <| s_mov (.int .i64 r_5) rfl <| s_q (.bool (decide (r_5 < 0))) rfl rfl rfl <| w_done <| k_seq <| ?_
  rcases oi hf with ⟨c7, hf⟩ | ⟨c7, hf⟩
  ·refine w_condt rfl c7 <| awp_seq <| w_reg <| s_mov (.int .i64 (-1)) rfl <| w_done <| k_seq <| w_ret <| ?_; obtain rfl := os hf; exact r_flat ⟨trivial, trivial⟩ rfl (.refl _)
  ·refine w_condf rfl (bf c7) <| w_skip <| k_seq <| awp_seq <| w_reg <| ?_
   obtain ⟨r_8, er9, hf⟩ := ob hf
   refine s_q (.ptr 0 0 4) rfl trivial rfl <| s_q (.lst 5 (a_1.Items.map encGJson)) rfl nle rfl <| s_mov (.int .i64 r_5) rfl <| s_do (o_call (w_laws_szJsonS rec hrec _ _ _ er9) rfl (.refl _) rfl) <| s_mov (.int .i64 r_8) rfl <| w_done <| k_seq <| awp_seq <| awp_seq <| w_reg <| s_mov (.int .i64 r_8) rfl <| s_q (.bool (decide (r_8 < 0))) rfl rfl rfl <| w_done <| k_seq <| ?_
   rcases oi hf with ⟨c10, hf⟩ | ⟨c10, hf⟩
   ·refine w_condt rfl c10 <| awp_seq <| w_reg <| s_mov (.int .i64 (-1)) rfl <| w_done <| k_seq <| w_ret <| ?_; obtain rfl := os hf; exact r_flat ⟨trivial, trivial⟩ rfl (.refl _)
   ·refine w_condf rfl (bf c10) <| w_skip <| k_seq <| awp_seq <| w_reg <| s_mov (.int .i64 r_8) rfl <| s_mov (.int .i64 r_8) rfl <| w_done <| k_seq <| w_ret <| ?_; obtain rfl := os hf; exact r_flat ⟨trivial, trivial⟩ rfl (.refl _)
def laws_szJson : Nat → GJson → Int → Option Int
 | 0, _, _ => none
 | k + 1, a_1, left_2 => laws_szJson_B (laws_szJson k) a_1 left_2
theorem w_laws_szJson : ∀ (k : Nat) (a_1 : GJson) (left_2 : Int) (r : Int), laws_szJson k a_1 left_2 = some r → CallOK Try.prog 47 .flat [(encGJson a_1), (.int .i64 left_2)] (.int .i64 r)
 | 0, a_1, left_2, r, h => by rw [laws_szJson.eq_1] at h; cases h
 | k + 1, a_1, left_2, r, h => by
  rw [laws_szJson.eq_2] at h; exact w_laws_szJson_B _ (w_laws_szJson k) a_1 left_2 r h

/- laws.toStringS -/
def c123 : ACode :=
 (.seq (.reg (tm 2 (.c .nil) .done))
 (.seq (.reg (tm 5 (.t 0) (tq 6 (.len (.t 5)) (tq 7 (.mkslice 1 16 (.str []) (.t 6) (.t 6)) (tm 3 (.t 7) .done)))))
 (.seq (.seq (.reg (tm 4 (.c (.int .i64 0)) .done))
 (.block 0 (.loop (.seq (.seq (.reg (tm 8 (.t 4) (tm 9 (.t 0) (tq 10 (.len (.t 9)) (tq 11 (.bin .lss (.t 8) (.t 10)) .done)))))
 (.cond (.t 11) .skip
 (.exit 0)))
 (.seq (.block 1 (.reg (tm 14 (.t 3) (tm 15 (.t 4) (tm 16 (.t 0) (tm 17 (.t 4) (tq 18 (.iaddr 1 (.t 16) (.t 17)) (tq 19 (.load 1 false (.t 18)) (tq 20 (.iaddr 1 (.t 14) (.t 15)) (.q ⟨none, none, .store 1 (.t 20) (.t 19)⟩
 .done))))))))))
 (.reg (tm 12 (.t 4) (tq 13 (.bin .add (.t 12) (.c (.int .i64 1))) (tm 4 (.t 13) .done)))))))))
 (.cut (.seq (.reg (tm 21 (.t 3) (tm 2 (.t 21) .done)))
 .ret)))))
theorem fc123 : fcomp Try.prog Try.f123 = some (c123.erase, [.mov (.t 2)], 22) := by kernel_rfl
def laws_toStringS_L1  : List Str → Nat → (List Str) → Option (List Str)
  | [], i_20, out_21 =>
    some out_21
  | x_38 :: xs, i_20, out_21 =>
    if i_20 < out_21.length then
    (out_21[i_20]?).bind fun x_42 =>
    laws_toStringS_L1 xs (i_20 + 1) (out_21.set i_20 x_38)
    else none

def laws_toStringS (a_1 : (List Str)) : Option (List Str) :=
    if (a_1.length : Int) ≤ 2 ^ 30 then
    (laws_toStringS_L1 a_1 0 (List.replicate a_1.length [])).bind fun out_30 =>
    some out_30
    else none
theorem w_laws_toStringS (a_1 : (List Str)) (r : (List Str)) (hf : laws_toStringS a_1 = some r) : CallOK Try.prog 123 .fresh [(.lst 1 (a_1.map AV.str))] (.lst 1 (r.map AV.str)) := by
 refine CallOK.of_awp mixed Try.func123 fc123 nle ?_; rw [argT_eq]; unfold laws_toStringS at hf; unfold c123; refine (show awp Try.prog true 0 _ (ofL [(0, (.lst 1 (a_1.map AV.str)))]) [] _ from ?_); refine awp_seq <| w_reg <| s_mov .nil rfl <| w_done <| k_seq <| awp_seq <| w_reg <| ?_
 obtain ⟨g3, hf⟩ := og hf
 refine s_mov (.lst 1 (a_1.map AV.str)) rfl <| s_dof (o_len (enc := AV.str) rfl) fun hl2 => s_do (o_mkslice (j := 0) (enc := AV.str) (m := a_1.length) [] (.refl _) rfl rfl (Int.le_refl _) g3 rfl) <| s_mov (.own 0 0 a_1.length) rfl <| w_done <| k_seq <| awp_seq <| awp_seq <| w_reg <| s_mov (.int .i64 0) rfl <| w_done <| k_seq <| ?_
 obtain ⟨out_30, hb1, hf⟩ := ob hf
 refine awp_cut ([(3, (.own 0 0 out_30.length))], [.row 1 (out_30.map AV.str)]) ?_ ?_
 ·refine awp_loop (X := {q : (Nat × (List Str)) // laws_toStringS_L1 (a_1.drop q.1) q.1 q.2 = some out_30}) (fun q => ([(0, (.lst 1 (a_1.map AV.str))), (3, (.own 0 0 q.1.2.length)), (4, (.int .i64 (q.1.1 : Int)))], [.row 1 (q.1.2.map AV.str)])) (fun q => a_1.length - q.1.1) ⟨(0, List.replicate a_1.length []), hb1⟩ ⟨[], [0], _, _, rfl, rfl, ⟨.refl _, ⟨.of_eq (congrArg (AV.own _ 0) (by simp)), ⟨.refl _, trivial⟩⟩⟩, (.refl _)⟩ ?_
  rintro ⟨⟨i_20, out_21⟩, hc1⟩
  have hc1 : laws_toStringS_L1 (a_1.drop i_20) i_20 out_21 = some out_30 := hc1
  refine (show awp Try.prog true 0 _ (ofL [(0, (.lst 1 (a_1.map AV.str))), (3, (.own 0 0 out_21.length)), (4, (.int .i64 (i_20 : Int)))]) [.row 1 (out_21.map AV.str)] _ from ?_)
  rcases dropc a_1 i_20 with ⟨hie34, hd37⟩ | ⟨hlt32, x_38, hx33, hd37⟩
  ·rw [hd37, laws_toStringS_L1.eq_1] at hc1
   have hq36 := dlf hie34
   refine awp_seq <| awp_seq <| w_reg <| s_mov (.int .i64 (i_20 : Int)) rfl <| s_mov (.lst 1 (a_1.map AV.str)) rfl <| s_dof (o_len (enc := AV.str) rfl) fun hl39 => s_q (.bool (decide ((i_20 : Int) < (a_1.length : Int)))) rfl rfl rfl <| w_done <| k_seq <| w_condf rfl hq36 <| w_exit <| k_seqx <| k_loopx <| k_blkx <| ?_; obtain rfl := os hc1; exact ⟨[], [0], _, _, rfl, rfl, ⟨.refl _, trivial⟩, (.refl _)⟩
  ·rw [hd37, laws_toStringS_L1.eq_2] at hc1
   have hq36 := dlt hlt32
   refine awp_seq <| awp_seq <| w_reg <| s_mov (.int .i64 (i_20 : Int)) rfl <| s_mov (.lst 1 (a_1.map AV.str)) rfl <| s_dof (o_len (enc := AV.str) rfl) fun hl40 => s_q (.bool (decide ((i_20 : Int) < (a_1.length : Int)))) rfl rfl rfl <| w_done <| k_seq <| w_condt rfl hq36 <| w_skip <| k_seq <| awp_seq <| w_blk <| w_reg <| ?_
   obtain ⟨g41, hc1⟩ := og hc1
   obtain ⟨x_42, ex43, hc1⟩ := ob hc1
   refine s_mov (.own 0 0 out_21.length) rfl <| s_mov (.int .i64 (i_20 : Int)) rfl <| s_mov (.lst 1 (a_1.map AV.str)) rfl <| s_mov (.int .i64 (i_20 : Int)) rfl <| s_do (o_iaddrn (enc := AV.str) rfl rfl hx33) <| s_q (.str x_38) rfl ⟨rfl, rfl⟩ rfl <| s_do (o_iaddrownn rfl rfl g41 rfl rfl) <| ?_; refine s_do0 (o_storerow (v' := (.str x_38)) (e' := x_38) rfl rfl ex43 rfl rfl rfl (by decide) (fun _ => by decide) ⟨rfl, rfl, rfl⟩ (.refl _) rfl) ?_; refine w_done <| k_blk <| k_seq <| w_reg <| s_mov (.int .i64 (i_20 : Int)) rfl <| s_q (.int .i64 (w64 ((i_20 : Int) + 1))) rfl rfl rfl <| s_mov (.int .i64 (w64 ((i_20 : Int) + 1))) rfl <| w_done <| ?_; exact k_loopn ⟨((i_20 + 1), out_21.set i_20 x_38), hc1⟩ (mul hlt32) ⟨[], [0], _, _, rfl, rfl, ⟨.refl _, ⟨.of_eq (congrArg (AV.own _ 0) (by simp)), ⟨.of_eq (congrArg (AV.int _) (w64_incr hlt32 hl40)), trivial⟩⟩⟩, (.refl _)⟩
 ·refine awp_seq <| w_reg <| s_mov (.own 0 0 out_30.length) rfl <| s_mov (.own 0 0 out_30.length) rfl <| w_done <| k_seq <| w_ret <| ?_; obtain rfl := os hf; exact r_fresh ⟨trivial, trivial⟩ rfl (by decide) (.of_eq (congrArg (AV.lst _) (tk (enc := AV.str) out_30)))

/- laws.toJsonS -/
def c124 : ACode :=
 (.seq (.reg (tm 2 (.c .nil) .done))
 (.seq (.reg (tm 5 (.t 0) (tq 6 (.len (.t 5)) (tq 7 (.mkslice 5 80 (.agg [(.int .i64 0), (.int .i64 0), (.str []), .nil, .nil]) (.t 6) (.t 6)) (tm 3 (.t 7) .done)))))
 (.seq (.seq (.reg (tm 4 (.c (.int .i64 0)) .done))
 (.block 0 (.loop (.seq (.seq (.reg (tm 8 (.t 4) (tm 9 (.t 0) (tq 10 (.len (.t 9)) (tq 11 (.bin .lss (.t 8) (.t 10)) .done)))))
 (.cond (.t 11) .skip
 (.exit 0)))
 (.seq (.block 1 (.reg (tm 14 (.t 3) (tm 15 (.t 4) (tm 16 (.t 0) (tm 17 (.t 4) (tq 18 (.iaddr 5 (.t 16) (.t 17)) (tq 19 (.load 5 true (.t 18)) (tq 20 (.call 49 [(.t 19)]) (tq 21 (.iaddr 5 (.t 14) (.t 15)) (.q ⟨none, none, .store 5 (.t 21) (.t 20)⟩
 .done)))))))))))
 (.reg (tm 12 (.t 4) (tq 13 (.bin .add (.t 12) (.c (.int .i64 1))) (tm 4 (.t 13) .done)))))))))
 (.cut (.seq (.reg (tm 22 (.t 3) (tm 2 (.t 22) .done)))
 .ret)))))
theorem fc124 : fcomp Try.prog Try.f124 = some (c124.erase, [.mov (.t 2)], 23) := by kernel_rfl
def laws_toJsonS_L1 (rec : (GJson → Option GJson)) : List GJson → Nat → (List GJson) → Option (List GJson)
  | [], i_24, out_25 =>
    some out_25
  | x_44 :: xs, i_24, out_25 =>
    (rec x_44).bind fun r_47 =>
    if i_24 < out_25.length then
    (out_25[i_24]?).bind fun x_50 =>
    laws_toJsonS_L1 rec xs (i_24 + 1) (out_25.set i_24 r_47)
    else none

def laws_toJsonS (rec : (GJson → Option GJson)) (a_1 : (List GJson)) : Option (List GJson) :=
    if (a_1.length : Int) ≤ 2 ^ 30 then
    (laws_toJsonS_L1 rec a_1 0 (List.replicate a_1.length (⟨0, 0, [], [], []⟩ : GJson))).bind fun out_36 =>
    some out_36
    else none
theorem w_laws_toJsonS (rec : (GJson → Option GJson)) (hrec : ∀ a0 r, rec a0 = some r → CallOK Try.prog 49 .fresh [(encGJson a0)] (encGJson r)) (a_1 : (List GJson)) (r : (List GJson)) (hf : laws_toJsonS rec a_1 = some r) : CallOK Try.prog 124 .fresh [(.lst 5 (a_1.map encGJson))] (.lst 5 (r.map encGJson)) := by
 refine CallOK.of_awp mixed Try.func124 fc124 nle ?_; rw [argT_eq]; unfold laws_toJsonS at hf; unfold c124; refine (show awp Try.prog true 0 _ (ofL [(0, (.lst 5 (a_1.map encGJson)))]) [] _ from ?_); refine awp_seq <| w_reg <| s_mov .nil rfl <| w_done <| k_seq <| awp_seq <| w_reg <| ?_
 obtain ⟨g3, hf⟩ := og hf
 refine s_mov (.lst 5 (a_1.map encGJson)) rfl <| s_dof (o_len (enc := encGJson) rfl) fun hl2 => s_do (o_mkslice (j := 0) (enc := encGJson) (m := a_1.length) (⟨0, 0, [], [], []⟩ : GJson) (leJ (x := (⟨0, 0, [], [], []⟩ : GJson)) (.agg (.cons (.refl _) (.cons (.refl _) (.cons (.refl _) (.cons (.nil _) (.cons (.nil _) .nil))))))) rfl rfl (Int.le_refl _) g3 rfl) <| s_mov (.own 0 0 a_1.length) rfl <| w_done <| k_seq <| awp_seq <| awp_seq <| w_reg <| s_mov (.int .i64 0) rfl <| w_done <| k_seq <| ?_
 obtain ⟨out_36, hb1, hf⟩ := ob hf
 refine awp_cut ([(3, (.own 0 0 out_36.length))], [.row 5 (out_36.map encGJson)]) ?_ ?_
 ·refine awp_loop (X := {q : (Nat × (List GJson)) // laws_toJsonS_L1 rec (a_1.drop q.1) q.1 q.2 = some out_36}) (fun q => ([(0, (.lst 5 (a_1.map encGJson))), (3, (.own 0 0 q.1.2.length)), (4, (.int .i64 (q.1.1 : Int)))], [.row 5 (q.1.2.map encGJson)])) (fun q => a_1.length - q.1.1) ⟨(0, List.replicate a_1.length (⟨0, 0, [], [], []⟩ : GJson)), hb1⟩ ⟨[], [0], _, _, rfl, rfl, ⟨.refl _, ⟨.of_eq (congrArg (AV.own _ 0) (by simp)), ⟨.refl _, trivial⟩⟩⟩, (.refl _)⟩ ?_
  rintro ⟨⟨i_24, out_25⟩, hc1⟩
  have hc1 : laws_toJsonS_L1 rec (a_1.drop i_24) i_24 out_25 = some out_36 := hc1
  refine (show awp Try.prog true 0 _ (ofL [(0, (.lst 5 (a_1.map encGJson))), (3, (.own 0 0 out_25.length)), (4, (.int .i64 (i_24 : Int)))]) [.row 5 (out_25.map encGJson)] _ from ?_)
  rcases dropc a_1 i_24 with ⟨hie40, hd43⟩ | ⟨hlt38, x_44, hx39, hd43⟩
  ·rw [hd43, laws_toJsonS_L1.eq_1] at hc1
   have hq42 := dlf hie40
   refine awp_seq <| awp_seq <| w_reg <| s_mov (.int .i64 (i_24 : Int)) rfl <| s_mov (.lst 5 (a_1.map encGJson)) rfl <| s_dof (o_len (enc := encGJson) rfl) fun hl45 => s_q (.bool (decide ((i_24 : Int) < (a_1.length : Int)))) rfl rfl rfl <| w_done <| k_seq <| w_condf rfl hq42 <| w_exit <| k_seqx <| k_loopx <| k_blkx <| ?_; obtain rfl := os hc1; exact ⟨[], [0], _, _, rfl, rfl, ⟨.refl _, trivial⟩, (.refl _)⟩
  ·rw [hd43, laws_toJsonS_L1.eq_2] at hc1
   have hq42 := dlt hlt38
   refine awp_seq <| awp_seq <| w_reg <| s_mov (.int .i64 (i_24 : Int)) rfl <| s_mov (.lst 5 (a_1.map encGJson)) rfl <| s_dof (o_len (enc := encGJson) rfl) fun hl46 => s_q (.bool (decide ((i_24 : Int) < (a_1.length : Int)))) rfl rfl rfl <| w_done <| k_seq <| w_condt rfl hq42 <| w_skip <| k_seq <| awp_seq <| w_blk <| w_reg <| ?_
   obtain ⟨r_47, er48, hc1⟩ := ob hc1
   obtain ⟨g49, hc1⟩ := og hc1
   obtain ⟨x_50, ex51, hc1⟩ := ob hc1
   refine s_mov (.own 0 0 out_25.length) rfl <| s_mov (.int .i64 (i_24 : Int)) rfl <| s_mov (.lst 5 (a_1.map encGJson)) rfl <| s_mov (.int .i64 (i_24 : Int)) rfl <| s_do (o_iaddrn (enc := encGJson) rfl rfl hx39) <| s_do (o_loadeq (v := (.agg [(.int .i64 x_44.Kind), (.int .i64 x_44.N), (.str x_44.T), (.lst 1 (x_44.Keys.map AV.str)), (.lst 5 (x_44.Items.map encGJson))])) rfl (encGJson_eq _) nle rfl) <| s_do (o_callf (v := (.agg [(.int .i64 r_47.Kind), (.int .i64 r_47.N), (.str r_47.T), (.own 1 0 r_47.Keys.length), (.own 2 0 r_47.Items.length)])) (h' := [.row 1 (r_47.Keys.map AV.str), .row 5 (r_47.Items.map encGJson)]) (hrec _ _ er48) rfl (.cons (.of_eq (encGJson_eq x_44).symm) .nil) (by simp only [openV, openVs, List.length_map, encGJson_eq, List.nil_append, List.append_nil, List.cons_append]; rfl)) <| ?_
   refine s_do (o_iaddrownn rfl rfl g49 rfl rfl) ?_; refine s_do0 (o_storeroweq (v' := (.agg [(.int .i64 r_47.Kind), (.int .i64 r_47.N), (.str r_47.T), (.lst 1 (r_47.Keys.map AV.str)), (.lst 5 (r_47.Items.map encGJson))])) (e' := r_47) rfl rfl ex51 (encGJson_eq _) rfl rfl (by simp only [tk, tko, List.take_length]) (by decide) (fun _ => by decide) ⟨rfl, nle⟩ (.of_eq (encGJson_eq r_47).symm) rfl) ?_; refine w_done <| k_blk <| k_seq <| w_reg <| s_mov (.int .i64 (i_24 : Int)) rfl <| s_q (.int .i64 (w64 ((i_24 : Int) + 1))) rfl rfl rfl <| s_mov (.int .i64 (w64 ((i_24 : Int) + 1))) rfl <| w_done <| ?_; exact k_loopn ⟨((i_24 + 1), out_25.set i_24 r_47), hc1⟩ (mul hlt38) ⟨[], [0], _, _, rfl, rfl, ⟨.refl _, ⟨.of_eq (congrArg (AV.own _ 0) (by simp)), ⟨.of_eq (congrArg (AV.int _) (w64_incr hlt38 hl46)), trivial⟩⟩⟩, (.refl _)⟩
 ·refine awp_seq <| w_reg <| s_mov (.own 0 0 out_36.length) rfl <| s_mov (.own 0 0 out_36.length) rfl <| w_done <| k_seq <| w_ret <| ?_; obtain rfl := os hf; exact r_fresh ⟨trivial, trivial⟩ rfl (by decide) (.of_eq (congrArg (AV.lst _) (tk (enc := encGJson) out_36)))

/- laws.toJson -/
def c49 : ACode :=
 (.seq (.reg (tq 1 (.box 5 (.t 0)) (tq 2 (.box 5 (.c (.agg [(.int .i64 0), (.int .i64 0), (.str []), .nil, .nil]))) .done)))
 (.seq (.reg (tq 3 (.box 5 (.c (.agg [(.int .i64 0), (.int .i64 0), (.str []), .nil, .nil]))) .done))
 (.seq (.reg (tq 4 (.faddr 0 (.t 1)) (tq 5 (.load 1 false (.t 4)) (tq 6 (.faddr 0 (.t 3)) (.q ⟨none, none, .store 1 (.t 6) (.t 5)⟩
 .done)))))
 (.seq (.reg (tq 7 (.faddr 1 (.t 1)) (tq 8 (.load 1 false (.t 7)) (tq 9 (.faddr 1 (.t 3)) (.q ⟨none, none, .store 1 (.t 9) (.t 8)⟩
 .done)))))
 (.seq (.reg (tq 10 (.faddr 2 (.t 1)) (tq 11 (.load 1 false (.t 10)) (tq 12 (.faddr 2 (.t 3)) (.q ⟨none, none, .store 1 (.t 12) (.t 11)⟩
 .done)))))
 (.seq (.reg (tq 13 (.faddr 3 (.t 1)) (tq 14 (.load 1 false (.t 13)) (tq 15 (.call 123 [(.t 14)]) (tq 16 (.faddr 3 (.t 3)) (.q ⟨none, none, .store 1 (.t 16) (.t 15)⟩
 .done))))))
 (.seq (.reg (tq 17 (.faddr 4 (.t 1)) (tq 18 (.load 1 false (.t 17)) (tq 19 (.call 124 [(.t 18)]) (tq 20 (.faddr 4 (.t 3)) (.q ⟨none, none, .store 1 (.t 20) (.t 19)⟩
 .done))))))
 (.seq (.reg (tq 21 (.load 5 true (.t 3)) (.q ⟨none, none, .store 5 (.t 2) (.t 21)⟩
 .done)))
 .ret))))))))
theorem fc49 : fcomp Try.prog Try.f49 = some (c49.erase, [.load 5 true (.t 2)], 22) := by kernel_rfl
def laws_toJson_B (rec : (GJson → Option GJson)) (a_1 : GJson) : Option GJson :=
    (laws_toStringS a_1.Keys).bind fun r_2 =>
    (laws_toJsonS rec a_1.Items).bind fun r_4 =>
    some (⟨a_1.Kind, a_1.N, a_1.T, r_2, r_4⟩ : GJson)
theorem w_laws_toJson_B (rec : (GJson → Option GJson)) (hrec : ∀ a0 r, rec a0 = some r → CallOK Try.prog 49 .fresh [(encGJson a0)] (encGJson r)) (a_1 : GJson) (r : GJson) (hf : laws_toJson_B rec a_1 = some r) : CallOK Try.prog 49 .fresh [(encGJson a_1)] (encGJson r) := by
 refine CallOK.of_awp mixed Try.func49 fc49 nle ?_; rw [argT_eq]; rw [encGJson_eq a_1]; unfold laws_toJson_B at hf; unfold c49; refine (show awp Try.prog true 0 _ (ofL [(0, (.agg [(.int .i64 a_1.Kind), (.int .i64 a_1.N), (.str a_1.T), (.lst 1 (a_1.Keys.map AV.str)), (.lst 5 (a_1.Items.map encGJson))]))]) [] _ from ?_); refine awp_seq <| w_reg <| s_do (o_box (j := 0) (c := (.agg [(.int .i64 a_1.Kind), (.int .i64 a_1.N), (.str a_1.T), (.lst 1 (a_1.Keys.map AV.str)), (.lst 5 (a_1.Items.map encGJson))])) rfl trivial rfl rfl) <| s_do (o_box (j := 1) (c := (.agg [(.int .i64 0), (.int .i64 0), (.str []), .nil, .nil])) rfl trivial rfl rfl) <| w_done <| k_seq <| awp_seq <| w_reg <| s_do (o_box (j := 2) (c := (.agg [(.int .i64 0), (.int .i64 0), (.str []), .nil, .nil])) rfl trivial rfl rfl) <| ?_
 refine w_done <| k_seq <| awp_seq <| w_reg <| s_q (.ptr 0 0 0) rfl trivial rfl <| s_q (.int .i64 a_1.Kind) rfl nle rfl <| s_q (.ptr 2 0 0) rfl trivial rfl <| s_do0 (o_storebox (v := (.int .i64 a_1.Kind)) (y' := (.agg [(.int .i64 a_1.Kind), (.int .i64 0), (.str []), .nil, .nil])) rfl rfl rfl trivial ⟨rfl, nle⟩ ⟨⟨rfl, trivial⟩, trivial⟩ rfl) <| w_done <| k_seq <| awp_seq <| w_reg <| s_q (.ptr 0 0 1) rfl trivial rfl <| s_q (.int .i64 a_1.N) rfl nle rfl <| s_q (.ptr 2 0 1) rfl trivial rfl <| s_do0 (o_storebox (v := (.int .i64 a_1.N)) (y' := (.agg [(.int .i64 a_1.Kind), (.int .i64 a_1.N), (.str []), .nil, .nil])) rfl rfl rfl trivial ⟨rfl, nle⟩ ⟨⟨rfl, trivial⟩, trivial⟩ rfl) <| w_done <| k_seq <| awp_seq <| ?_
 refine w_reg <| s_q (.ptr 0 0 2) rfl trivial rfl <| s_q (.str a_1.T) rfl nle rfl <| s_q (.ptr 2 0 2) rfl trivial rfl <| s_do0 (o_storebox (v := (.str a_1.T)) (y' := (.agg [(.int .i64 a_1.Kind), (.int .i64 a_1.N), (.str a_1.T), .nil, .nil])) rfl rfl rfl trivial ⟨rfl, nle⟩ ⟨⟨rfl, trivial⟩, trivial⟩ rfl) <| w_done <| k_seq <| awp_seq <| w_reg <| ?_
 obtain ⟨r_2, er3, hf⟩ := ob hf
 refine s_q (.ptr 0 0 3) rfl trivial rfl <| s_q (.lst 1 (a_1.Keys.map AV.str)) rfl nle rfl <| s_do (o_callf (v := (.own 3 0 r_2.length)) (h' := [.row 1 (r_2.map AV.str)]) (w_laws_toStringS _ _ er3) rfl (.refl _) (by simp only [openV, openVs, List.length_map, List.nil_append, List.append_nil, List.cons_append]; rfl)) <| s_q (.ptr 2 0 3) rfl trivial rfl <| s_do0 (o_storebox (v := (.own 3 0 r_2.length)) (y' := (.agg [(.int .i64 a_1.Kind), (.int .i64 a_1.N), (.str a_1.T), (.own 3 0 r_2.length), .nil])) rfl rfl rfl trivial ⟨rfl, nle⟩ ⟨⟨rfl, trivial⟩, trivial⟩ rfl) <| w_done <| k_seq <| awp_seq <| w_reg <| ?_
 obtain ⟨r_4, er5, hf⟩ := ob hf
 refine s_q (.ptr 0 0 4) rfl trivial rfl <| s_q (.lst 5 (a_1.Items.map encGJson)) rfl nle rfl <| s_do (o_callf (v := (.own 4 0 r_4.length)) (h' := [.row 5 (r_4.map encGJson)]) (w_laws_toJsonS rec hrec _ _ er5) rfl (.refl _) (by simp only [openV, openVs, List.length_map, List.nil_append, List.append_nil, List.cons_append]; rfl)) <| s_q (.ptr 2 0 4) rfl trivial rfl <| s_do0 (o_storebox (v := (.own 4 0 r_4.length)) (y' := (.agg [(.int .i64 a_1.Kind), (.int .i64 a_1.N), (.str a_1.T), (.own 3 0 r_2.length), (.own 4 0 r_4.length)])) rfl rfl rfl trivial ⟨rfl, nle⟩ ⟨⟨rfl, trivial⟩, trivial⟩ rfl) <| w_done <| k_seq <| awp_seq <| w_reg <| s_q (.agg [(.int .i64 a_1.Kind), (.int .i64 a_1.N), (.str a_1.T), (.own 3 0 r_2.length), (.own 4 0 r_4.length)]) rfl nle rfl <| ?_
 refine s_do0 (o_storebox (v := (.agg [(.int .i64 a_1.Kind), (.int .i64 a_1.N), (.str a_1.T), (.own 3 0 r_2.length), (.own 4 0 r_4.length)])) (y' := (.agg [(.int .i64 a_1.Kind), (.int .i64 a_1.N), (.str a_1.T), (.own 3 0 r_2.length), (.own 4 0 r_4.length)])) rfl rfl rfl trivial ⟨rfl, nle⟩ ⟨⟨rfl, trivial⟩, ⟨⟨rfl, trivial⟩, ⟨⟨rfl, trivial⟩, ⟨⟨rfl, trivial⟩, ⟨⟨rfl, trivial⟩, trivial⟩⟩⟩⟩⟩ rfl) <| w_done <| k_seq <| w_ret <| ?_; obtain rfl := os hf; exact r_fresh ⟨nle, trivial⟩ rfl (by decide) (leJ (x := (⟨a_1.Kind, a_1.N, a_1.T, r_2, r_4⟩ : GJson)) (.agg (.cons (.refl _) (.cons (.refl _) (.cons (.refl _) (.cons (.of_eq (congrArg (AV.lst _) (tk (enc := AV.str) r_2))) (.cons (.of_eq (congrArg (AV.lst _) (tk (enc := encGJson) r_4))) .nil)))))))
def laws_toJson : Nat → GJson → Option GJson
 | 0, _ => none
 | k + 1, a_1 => laws_toJson_B (laws_toJson k) a_1
theorem w_laws_toJson : ∀ (k : Nat) (a_1 : GJson) (r : GJson), laws_toJson k a_1 = some r → CallOK Try.prog 49 .fresh [(encGJson a_1)] (encGJson r)
 | 0, a_1, r, h => by rw [laws_toJson.eq_1] at h; cases h
 | k + 1, a_1, r, h => by
  rw [laws_toJson.eq_2] at h; exact w_laws_toJson_B _ (w_laws_toJson k) a_1 r h

/- spec.l01In -/
def c81 : ACode :=
 (.seq (.reg (tm 6 (.c (.bool false)) .done))
 (.seq (.reg (tm 7 (.t 1) (tm 8 (.t 0) (tq 9 (.bin .leq (.t 7) (.t 8)) (tm 10 (.t 9) (tg 11 10 true (.mov (.t 0)) (tg 12 10 true (.mov (.t 2)) (tg 13 10 true (.bin .leq (.t 11) (.t 12)) (tq 14 (.pick (.t 10) (.t 13) (.c (.bool false))) (tm 6 (.t 14) .done))))))))))
 .ret))
theorem fc81 : fcomp Try.prog Try.f81 = some (c81.erase, [.mov (.t 6)], 15) := by kernel_rfl
def spec_l01In (n_1 : Int) (low_2 : Int) (high_3 : Int) : Option Bool :=
    if (decide (low_2 ≤ n_1)) then
    some (decide (n_1 ≤ high_3))
    else
    some false
theorem w_spec_l01In (n_1 : Int) (low_2 : Int) (high_3 : Int) (r : Bool) (hf : spec_l01In n_1 low_2 high_3 = some r) : CallOK Try.prog 81 .flat [(.int .i64 n_1), (.int .i64 low_2), (.int .i64 high_3)] (.bool r) := by
 refine CallOK.of_awp mixed Try.func81 fc81 nle ?_; rw [argT_eq]; unfold spec_l01In at hf; unfold c81; refine (show awp Try.prog false 0 _ (ofL [(0, (.int .i64 n_1)), (1, (.int .i64 low_2)), (2, (.int .i64 high_3))]) [] _ from ?_); refine awp_seq <| w_reg <| s_mov (.bool false) rfl <| w_done <| k_seq <| awp_seq <| w_reg <| ?_
 rcases oi hf with ⟨c4, hf⟩ | ⟨c4, hf⟩
 ·refine s_mov (.int .i64 low_2) rfl <| s_mov (.int .i64 n_1) rfl <| s_q (.bool (decide (low_2 ≤ n_1))) rfl rfl rfl <| s_mov (.bool (decide (low_2 ≤ n_1))) rfl <| s_lit (s := 10) (b := true) rfl c4 <| s_on rfl <| s_mov (.int .i64 n_1) rfl <| s_on rfl <| s_mov (.int .i64 high_3) rfl <| s_on rfl <| s_q (.bool (decide (n_1 ≤ high_3))) rfl rfl rfl <| s_q (.bool (decide (n_1 ≤ high_3))) rfl trivial rfl <| s_mov (.bool (decide (n_1 ≤ high_3))) rfl <| w_done <| k_seq <| w_ret <| ?_; obtain rfl := os hf; exact r_flat ⟨trivial, trivial⟩ rfl (.refl _)
 ·refine s_mov (.int .i64 low_2) rfl <| s_mov (.int .i64 n_1) rfl <| s_q (.bool (decide (low_2 ≤ n_1))) rfl rfl rfl <| s_mov (.bool (decide (low_2 ≤ n_1))) rfl <| s_lit (s := 10) (b := false) rfl (bf c4) <| s_off rfl rfl <| s_off rfl rfl <| s_off rfl rfl <| s_q (.bool false) rfl trivial rfl <| s_mov (.bool false) rfl <| w_done <| k_seq <| w_ret <| ?_; obtain rfl := os hf; exact r_flat ⟨trivial, trivial⟩ rfl (.refl _)

/- spec.l01Text -/
def c169 : ACode :=
 (.seq (.reg (tm 2 (.c (.bool false)) .done))
 (.seq (.seq (.reg (tm 3 (.c (.int .i64 0)) .done))
 (.block 0 (.loop (.seq (.seq (.reg (tm 4 (.t 3) (tm 5 (.t 0) (tq 6 (.lenS (.t 5)) (tq 7 (.bin .lss (.t 4) (.t 6)) .done)))))
 (.cond (.t 7) .skip
 (.exit 0)))
 (.seq (.block 1 (.seq (.reg (tm 10 (.t 0) (tm 11 (.t 3) (tq 12 (.idxs (.t 10) (.t 11)) (tq 13 (.bin .lss (.t 12) (.c (.int .u8 32))) (tm 14 (.t 13) (tg 15 14 false (.mov (.t 0)) (tg 16 14 false (.mov (.t 3)) (tg 17 14 false (.idxs (.t 15) (.t 16)) (tg 18 14 false (.bin .gtr (.t 17) (.c (.int .u8 126))) (tq 19 (.pick (.t 14) (.c (.bool true)) (.t 18)) .done)))))))))))
 (.cut (.cond (.t 19) (.seq (.reg (tm 2 (.c (.bool false)) .done))
 .ret)
 .skip))))
 (.reg (tm 8 (.t 3) (tq 9 (.bin .add (.t 8) (.c (.int .i64 1))) (tm 3 (.t 9) .done)))))))))
 (.cut (.seq (.reg (tm 20 (.t 0) (tq 21 (.lenS (.t 20)) (tq 22 (.bin .leq (.t 21) (.c (.int .i64 200))) (tm 2 (.t 22) .done)))))
 .ret))))
theorem fc169 : fcomp Try.prog Try.f169 = some (c169.erase, [.mov (.t 2)], 23) := by kernel_rfl
def spec_l01Text_L1  : List UInt8 → Option (Fl Bool Unit)
  | [] =>
    some (.go ())
  | x_57 :: xs =>
    ((if (decide ((x_57.toNat : Int) < 32)) then
    some true
    else
    some (decide ((x_57.toNat : Int) > 126)) : Option Bool)).bind fun s19_61 =>
    if s19_61 then
    some (.ret false)
    else
    spec_l01Text_L1 xs 

def spec_l01Text (t_1 : Str) : Option Bool :=
    (spec_l01Text_L1 t_1 ).bind fun q => (match q with
    | .ret r => some r
    | .go _ =>
    some (decide ((t_1.length : Int) ≤ 200)))
theorem w_spec_l01Text (t_1 : Str) (r : Bool) (hf : spec_l01Text t_1 = some r) : CallOK Try.prog 169 .flat [(.str t_1)] (.bool r) := by
 refine CallOK.of_awp mixed Try.func169 fc169 nle ?_; rw [argT_eq]; unfold spec_l01Text at hf; unfold c169; refine (show awp Try.prog false 0 _ (ofL [(0, (.str t_1))]) [] _ from ?_); refine awp_seq <| w_reg <| s_mov (.bool false) rfl <| w_done <| k_seq <| awp_seq <| awp_seq <| w_reg <| s_mov (.int .i64 0) rfl <| w_done <| k_seq <| ?_
 obtain ⟨p50, hb1, hf⟩ := ob hf
 refine awp_cutx (X := {q : Unit // p50 = .go q}) (fun q => ([(0, (.str t_1))], [])) ?_ ?_
 ·refine awp_loop (X := {q : Nat // spec_l01Text_L1 (t_1.drop q)  = some p50}) (fun q => ([(0, (.str t_1)), (3, (.int .i64 (q.1 : Int)))], [])) (fun q => t_1.length - q.1) ⟨0, hb1⟩ ⟨[], [], _, _, rfl, rfl, ⟨.refl _, ⟨.refl _, trivial⟩⟩, (.refl _)⟩ ?_
  rintro ⟨i_33, hc1⟩
  have hc1 : spec_l01Text_L1 (t_1.drop i_33)  = some p50 := hc1
  refine (show awp Try.prog false 0 _ (ofL [(0, (.str t_1)), (3, (.int .i64 (i_33 : Int)))]) [] _ from ?_)
  rcases dropc t_1 i_33 with ⟨hie53, hd56⟩ | ⟨hlt51, x_57, hx52, hd56⟩
  ·rw [hd56, spec_l01Text_L1.eq_1] at hc1
   have hq55 := dlf hie53
   refine awp_seq <| awp_seq <| w_reg <| s_mov (.int .i64 (i_33 : Int)) rfl <| s_mov (.str t_1) rfl <| s_dof (o_lenS rfl) fun hl58 => s_q (.bool (decide ((i_33 : Int) < (t_1.length : Int)))) rfl rfl rfl <| w_done <| k_seq <| w_condf rfl hq55 <| w_exit <| k_seqx <| k_loopx <| k_blkx <| ?_; obtain rfl := os hc1; exact k_cutn ⟨_, rfl⟩ ⟨[], [], _, _, rfl, rfl, ⟨.refl _, trivial⟩, (.refl _)⟩
  ·rw [hd56, spec_l01Text_L1.eq_2] at hc1
   have hq55 := dlt hlt51
   refine awp_seq <| awp_seq <| w_reg <| s_mov (.int .i64 (i_33 : Int)) rfl <| s_mov (.str t_1) rfl <| s_dof (o_lenS rfl) fun hl59 => s_q (.bool (decide ((i_33 : Int) < (t_1.length : Int)))) rfl rfl rfl <| w_done <| k_seq <| w_condt rfl hq55 <| w_skip <| k_seq <| awp_seq <| w_blk <| awp_seq <| ?_
   obtain ⟨s19_61, hb2, hc1⟩ := ob hc1
   refine awp_cut ([(0, (.str t_1)), (3, (.int .i64 (i_33 : Int))), (19, (.bool s19_61))], []) ?_ ?_
   ·refine w_reg ?_
    rcases oi hb2 with ⟨c63, hb2⟩ | ⟨c63, hb2⟩
    ·refine s_mov (.str t_1) rfl <| s_mov (.int .i64 (i_33 : Int)) rfl <| s_do (o_idxsn rfl rfl hx52) <| s_q (.bool (decide ((x_57.toNat : Int) < 32))) rfl rfl rfl <| s_mov (.bool (decide ((x_57.toNat : Int) < 32))) rfl <| s_lit (s := 14) (b := true) rfl c63 <| s_off rfl rfl <| s_off rfl rfl <| s_off rfl rfl <| s_off rfl rfl <| s_q (.bool true) rfl trivial rfl <| w_done <| ?_; obtain rfl := os hb2; exact ⟨[], [], _, _, rfl, rfl, ⟨.refl _, ⟨.refl _, ⟨.refl _, trivial⟩⟩⟩, (.refl _)⟩
    ·refine s_mov (.str t_1) rfl <| s_mov (.int .i64 (i_33 : Int)) rfl <| s_do (o_idxsn rfl rfl hx52) <| s_q (.bool (decide ((x_57.toNat : Int) < 32))) rfl rfl rfl <| s_mov (.bool (decide ((x_57.toNat : Int) < 32))) rfl <| s_lit (s := 14) (b := false) rfl (bf c63) <| s_on rfl <| s_mov (.str t_1) rfl <| s_on rfl <| s_mov (.int .i64 (i_33 : Int)) rfl <| s_on rfl <| s_do (o_idxsn rfl rfl hx52) <| s_on rfl <| s_q (.bool (decide ((x_57.toNat : Int) > 126))) rfl rfl rfl <| s_q (.bool (decide ((x_57.toNat : Int) > 126))) rfl trivial rfl <| w_done <| ?_; obtain rfl := os hb2; exact ⟨[], [], _, _, rfl, rfl, ⟨.refl _, ⟨.refl _, ⟨.refl _, trivial⟩⟩⟩, (.refl _)⟩
   ·rcases oi hc1 with ⟨c64, hc1⟩ | ⟨c64, hc1⟩
    ·refine w_condt rfl c64 <| awp_seq <| w_reg <| s_mov (.bool false) rfl <| w_done <| k_seq <| w_ret <| ?_; obtain rfl := os hc1; obtain rfl := os hf; exact r_flat ⟨trivial, trivial⟩ rfl (.refl _)
    ·refine w_condf rfl (bf c64) <| w_skip <| k_blk <| k_seq <| w_reg <| s_mov (.int .i64 (i_33 : Int)) rfl <| s_q (.int .i64 (w64 ((i_33 : Int) + 1))) rfl rfl rfl <| s_mov (.int .i64 (w64 ((i_33 : Int) + 1))) rfl <| w_done <| ?_; exact k_loopn ⟨(i_33 + 1), hc1⟩ (mul hlt51) ⟨[], [], _, _, rfl, rfl, ⟨.refl _, ⟨.of_eq (congrArg (AV.int _) (w64_incr hlt51 hl59)), trivial⟩⟩, (.refl _)⟩
 ·rintro ⟨_, rfl⟩
  refine awp_seq <| w_reg <| s_mov (.str t_1) rfl <| s_dof (o_lenS rfl) fun hl65 => s_q (.bool (decide ((t_1.length : Int) ≤ 200))) rfl rfl rfl <| s_mov (.bool (decide ((t_1.length : Int) ≤ 200))) rfl <| w_done <| k_seq <| w_ret <| ?_; obtain rfl := os hf; exact r_flat ⟨trivial, trivial⟩ rfl (.refl _)

/- spec.l01OK -/
def c181 : ACode :=
 (.seq (.reg (tq 2 (.box 5 (.t 0)) (tm 4 (.c (.int .i64 0)) (tm 5 (.c (.bool false)) .done))))
 (.seq (.seq (.reg (tm 11 (.t 1) (tq 12 (.bin .eql (.t 11) (.c (.int .i64 0))) .done)))
 (.cond (.t 12) (.seq (.reg (tm 4 (.c (.int .i64 0)) (tm 5 (.c (.bool false)) .done)))
 .ret)
 .skip))
 (.seq (.reg (tq 13 (.faddr 3 (.t 2)) (tq 14 (.load 1 false (.t 13)) (tq 15 (.len (.t 14)) (tq 16 (.bin .eql (.t 15) (.c (.int .i64 0))) (tm 17 (.t 16) (tg 18 17 true (.faddr 4 (.t 2)) (tg 19 17 true (.load 1 false (.t 18)) (tg 20 17 true (.len (.t 19)) (tg 21 17 true (.bin .eql (.t 20) (.c (.int .i64 0))) (tq 22 (.pick (.t 17) (.t 21) (.c (.bool false))) (tm 6 (.t 22) .done))))))))))))
 (.cut (.seq (.seq (.reg (tq 23 (.faddr 0 (.t 2)) (tq 24 (.load 1 false (.t 23)) .done)))
 (.block 0 (.seq (.reg (tq 26 (.bin .eql (.t 24) (.c (.int .i64 0))) (tm 25 (.t 26) .done)))
 (.cond (.t 25) (.seq (.reg (tm 27 (.t 6) (tm 28 (.t 27) (tg 29 28 true (.faddr 1 (.t 2)) (tg 30 28 true (.load 1 false (.t 29)) (tg 31 28 true (.bin .eql (.t 30) (.c (.int .i64 0))) (tq 32 (.pick (.t 28) (.t 31) (.c (.bool false))) (tm 33 (.t 32) (tg 34 33 true (.faddr 2 (.t 2)) (tg 35 33 true (.load 1 false (.t 34)) (tg 36 33 true (.bin .eql (.t 35) (.c (.str []))) (tq 37 (.pick (.t 33) (.t 36) (.c (.bool false))) (tm 4 (.c (.int .i64 1)) (tm 5 (.t 37) .done))))))))))))))
 .ret)
 (.seq (.reg (tq 39 (.bin .eql (.t 24) (.c (.int .i64 1))) (tm 38 (.t 39) .done)))
 (.cond (.t 38) (.seq (.reg (tm 40 (.t 6) (tm 41 (.t 40) (tg 42 41 true (.faddr 1 (.t 2)) (tg 43 41 true (.load 1 false (.t 42)) (.l ⟨(some 44), (some (41, true)), .call 81 [(.t 43), (.c (.int .i64 0)), (.c (.int .i64 1))]⟩ []
 (tq 45 (.pick (.t 41) (.t 44) (.c (.bool false))) (tm 46 (.t 45) (tg 47 46 true (.faddr 2 (.t 2)) (tg 48 46 true (.load 1 false (.t 47)) (tg 49 46 true (.bin .eql (.t 48) (.c (.str []))) (tq 50 (.pick (.t 46) (.t 49) (.c (.bool false))) (tm 4 (.c (.int .i64 1)) (tm 5 (.t 50) .done)))))))) .non))))))
 .ret)
 (.seq (.reg (tq 52 (.bin .eql (.t 24) (.c (.int .i64 2))) (tm 51 (.t 52) .done)))
 (.cond (.t 51) (.seq (.reg (tm 53 (.t 6) (tm 54 (.t 53) (tg 55 54 true (.faddr 1 (.t 2)) (tg 56 54 true (.load 1 false (.t 55)) (.l ⟨(some 57), (some (54, true)), .call 81 [(.t 56), (.c (.int .i64 (-1000000000))), (.c (.int .i64 1000000000))]⟩ []
 (tq 58 (.pick (.t 54) (.t 57) (.c (.bool false))) (tm 59 (.t 58) (tg 60 59 true (.faddr 2 (.t 2)) (tg 61 59 true (.load 1 false (.t 60)) (tg 62 59 true (.bin .eql (.t 61) (.c (.str []))) (tq 63 (.pick (.t 59) (.t 62) (.c (.bool false))) (tm 4 (.c (.int .i64 1)) (tm 5 (.t 63) .done)))))))) .non))))))
 .ret)
 (.seq (.reg (tq 65 (.bin .eql (.t 24) (.c (.int .i64 3))) (tm 64 (.t 65) .done)))
 (.cond (.t 64) (.seq (.reg (tm 66 (.t 6) (tm 67 (.t 66) (tg 68 67 true (.faddr 1 (.t 2)) (tg 69 67 true (.load 1 false (.t 68)) (tg 70 67 true (.bin .eql (.t 69) (.c (.int .i64 0))) (tq 71 (.pick (.t 67) (.t 70) (.c (.bool false))) (tm 72 (.t 71) (tg 73 72 true (.faddr 2 (.t 2)) (tg 74 72 true (.load 1 false (.t 73)) (tg 75 72 true (.call 169 [(.t 74)]) (tq 76 (.pick (.t 72) (.t 75) (.c (.bool false))) (tm 4 (.c (.int .i64 1)) (tm 5 (.t 76) .done))))))))))))))
 .ret)
 .skip))))))))))
 (.seq (.seq (.reg (tq 77 (.faddr 0 (.t 2)) (tq 78 (.load 1 false (.t 77)) (tq 79 (.bin .neq (.t 78) (.c (.int .i64 4))) (tm 80 (.t 79) (tg 81 80 true (.faddr 0 (.t 2)) (tg 82 80 true (.load 1 false (.t 81)) (tg 83 80 true (.bin .neq (.t 82) (.c (.int .i64 5))) (tq 84 (.pick (.t 80) (.t 83) (.c (.bool false))) (tm 85 (.t 84) (tg 86 85 false (.faddr 1 (.t 2)) (tg 87 85 false (.load 1 false (.t 86)) (tg 88 85 false (.bin .neq (.t 87) (.c (.int .i64 0))) (tq 89 (.pick (.t 85) (.c (.bool true)) (.t 88)) (tm 90 (.t 89) (tg 91 90 false (.faddr 2 (.t 2)) (tg 92 90 false (.load 1 false (.t 91)) (tg 93 90 false (.bin .neq (.t 92) (.c (.str []))) (tq 94 (.pick (.t 90) (.c (.bool true)) (.t 93)) (tm 95 (.t 94) (tg 96 95 false (.faddr 0 (.t 2)) (tg 97 95 false (.load 1 false (.t 96)) (tg 98 95 false (.bin .eql (.t 97) (.c (.int .i64 4))) (tg 99 95 false (.mov (.t 98)) (tg 100 99 true (.faddr 3 (.t 2)) (tg 101 99 true (.load 1 false (.t 100)) (tg 102 99 true (.len (.t 101)) (tg 103 99 true (.bin .gtr (.t 102) (.c (.int .i64 0))) (tg 104 95 false (.pick (.t 99) (.t 103) (.c (.bool false))) (tq 105 (.pick (.t 95) (.c (.bool true)) (.t 104)) (tm 106 (.t 105) (tg 107 106 false (.faddr 0 (.t 2)) (tg 108 106 false (.load 1 false (.t 107)) (tg 109 106 false (.bin .eql (.t 108) (.c (.int .i64 5))) (tg 110 106 false (.mov (.t 109)) (tg 111 110 true (.faddr 3 (.t 2)) (tg 112 110 true (.load 1 false (.t 111)) (tg 113 110 true (.len (.t 112)) (tg 114 110 true (.faddr 4 (.t 2)) (tg 115 110 true (.load 1 false (.t 114)) (tg 116 110 true (.len (.t 115)) (tg 117 110 true (.bin .neq (.t 113) (.t 116)) (tg 118 106 false (.pick (.t 110) (.t 117) (.c (.bool false))) (tq 119 (.pick (.t 106) (.c (.bool true)) (.t 118)) .done))))))))))))))))))))))))))))))))))))))))))))
 (.cut (.cond (.t 119) (.seq (.reg (tm 4 (.c (.int .i64 0)) (tm 5 (.c (.bool false)) .done)))
 .ret)
 .skip)))
 (.seq (.reg (tm 7 (.c (.int .i64 1)) .done))
 (.seq (.seq (.reg (tm 8 (.c (.int .i64 0)) .done))
 (.block 1 (.loop (.seq (.seq (.reg (tm 120 (.t 8) (tq 121 (.faddr 4 (.t 2)) (tq 122 (.load 1 false (.t 121)) (tq 123 (.len (.t 122)) (tq 124 (.bin .lss (.t 120) (.t 123)) .done))))))
 (.cond (.t 124) .skip
 (.exit 1)))
 (.seq (.block 2 (.seq (.seq (.reg (tq 127 (.faddr 0 (.t 2)) (tq 128 (.load 1 false (.t 127)) (tq 129 (.bin .eql (.t 128) (.c (.int .i64 5))) (tm 130 (.t 129) (tg 131 130 true (.faddr 3 (.t 2)) (tg 132 130 true (.load 1 false (.t 131)) (tg 133 130 true (.mov (.t 8)) (tg 134 130 true (.iaddr 1 (.t 132) (.t 133)) (tg 135 130 true (.load 1 false (.t 134)) (.l ⟨(some 136), (some (130, true)), .call 169 [(.t 135)]⟩ []
 (tg 137 130 true (.not (.t 136)) (tg 138 130 true (.mov (.t 137)) (tg 139 138 false (.mov (.t 8)) (tg 140 138 false (.bin .gtr (.t 139) (.c (.int .i64 0))) (tg 141 138 false (.mov (.t 140)) (tg 142 141 true (.faddr 3 (.t 2)) (tg 143 141 true (.load 1 false (.t 142)) (tg 144 141 true (.mov (.t 8)) (tg 145 141 true (.bin .sub (.t 144) (.c (.int .i64 1))) (tg 146 141 true (.iaddr 1 (.t 143) (.t 145)) (tg 147 141 true (.load 1 false (.t 146)) (tg 148 141 true (.faddr 3 (.t 2)) (tg 149 141 true (.load 1 false (.t 148)) (tg 150 141 true (.mov (.t 8)) (tg 151 141 true (.iaddr 1 (.t 149) (.t 150)) (tg 152 141 true (.load 1 false (.t 151)) (tg 153 141 true (.bin .geq (.t 147) (.t 152)) (tg 154 138 false (.pick (.t 141) (.t 153) (.c (.bool false))) (tg 155 130 true (.pick (.t 138) (.c (.bool true)) (.t 154)) (tq 156 (.pick (.t 130) (.t 155) (.c (.bool false))) .done)))))))))))))))))))) .non)))))))))))
 (.cut (.cond (.t 156) (.seq (.reg (tm 4 (.c (.int .i64 0)) (tm 5 (.c (.bool false)) .done)))
 .ret)
 .skip)))
 (.seq (.reg (tq 158 (.faddr 4 (.t 2)) (tq 159 (.load 1 false (.t 158)) (tm 160 (.t 8) (tq 161 (.iaddr 5 (.t 159) (.t 160)) (tq 162 (.load 5 true (.t 161)) (tm 163 (.t 1) (tq 164 (.bin .sub (.t 163) (.c (.int .i64 1))) (tq 165 (.call 181 [(.t 162), (.t 164)]) (tm 157 (.t 165) (tq 166 (.extract 0 (.t 157)) (tq 167 (.extract 1 (.t 157)) (tm 9 (.t 166) (tm 10 (.t 167) .done))))))))))))))
 (.seq (.reg (tm 168 (.t 7) (tm 169 (.t 9) (tq 170 (.bin .add (.t 168) (.t 169)) (tm 7 (.t 170) .done)))))
 (.seq (.reg (tm 171 (.t 10) (tq 172 (.not (.t 171)) (tm 173 (.t 172) (tg 174 173 false (.mov (.t 7)) (tg 175 173 false (.bin .gtr (.t 174) (.c (.int .i64 400))) (tq 176 (.pick (.t 173) (.c (.bool true)) (.t 175)) .done)))))))
 (.cut (.cond (.t 176) (.seq (.reg (tm 4 (.c (.int .i64 0)) (tm 5 (.c (.bool false)) .done)))
 .ret)
 .skip)))))))
 (.reg (tm 125 (.t 8) (tq 126 (.bin .add (.t 125) (.c (.int .i64 1))) (tm 8 (.t 126) .done)))))))))
 (.cut (.seq (.reg (tm 177 (.t 7) (tm 4 (.t 177) (tm 5 (.c (.bool true)) .done))))
 .ret))))))))))
theorem fc181 : fcomp Try.prog Try.f181 = some (c181.erase, [.mov (.t 4), .mov (.t 5)], 178) := by kernel_rfl
def spec_l01OK_B_L1 (j_1 : GJson) (rec : (GJson → Int → Option (Int × Bool))) (deep_2 : Int) : List GJson → Int → Nat → Option (Fl (Int × Bool) Int)
  | [], n_107, i_108 =>
    some (.go n_107)
  | x_154 :: xs, n_107, i_108 =>
    ((if (j_1.Kind == 5) then
    (idx j_1.Keys (i_108 : Int)).bind fun x_171 =>
    (spec_l01Text x_171).bind fun r_173 =>
    if (!r_173) then
    some true
    else
    if (decide ((i_108 : Int) > 0)) then
    (idx j_1.Keys (w64 ((i_108 : Int) - 1))).bind fun x_177 =>
    (idx j_1.Keys (i_108 : Int)).bind fun x_179 =>
    some (!Op.bytesLess x_177 x_179)
    else
    some false
    else
    some false : Option Bool)).bind fun s156_168 =>
    if s156_168 then
    some (.ret (0, false))
    else
    (rec x_154 (w64 (deep_2 - 1))).bind fun r_182 =>
    ((if (!r_182.2) then
    some true
    else
    some (decide (w64 (n_107 + r_182.1) > 400)) : Option Bool)).bind fun s176_185 =>
    if s176_185 then
    some (.ret (0, false))
    else
    spec_l01OK_B_L1 j_1 rec deep_2 xs (w64 (n_107 + r_182.1)) (i_108 + 1)

def spec_l01OK_B (rec : (GJson → Int → Option (Int × Bool))) (j_1 : GJson) (deep_2 : Int) : Option (Int × Bool) :=
    if (deep_2 == 0) then
    some (0, false)
    else
    ((if ((j_1.Keys.length : Int) == 0) then
    some ((j_1.Items.length : Int) == 0)
    else
    some false : Option Bool)).bind fun plain_7 =>
    if (j_1.Kind == 0) then
    some (1, (bif (bif plain_7 then (j_1.N == 0) else false) then (j_1.T == []) else false))
    else
    if (j_1.Kind == 1) then
    if plain_7 then
    (spec_l01In j_1.N 0 1).bind fun r_15 =>
    some (1, (bif r_15 then (j_1.T == []) else false))
    else
    some (1, false)
    else
    if (j_1.Kind == 2) then
    if plain_7 then
    (spec_l01In j_1.N (-1000000000) 1000000000).bind fun r_19 =>
    some (1, (bif r_19 then (j_1.T == []) else false))
    else
    some (1, false)
    else
    if (j_1.Kind == 3) then
    if (bif plain_7 then (j_1.N == 0) else false) then
    (spec_l01Text j_1.T).bind fun r_23 =>
    some (1, r_23)
    else
    some (1, false)
    else
    ((some () : Option Unit)).bind fun _ =>
    if (bif (bif (bif (bif (bif (j_1.Kind != 4) then (j_1.Kind != 5) else false) then true else (j_1.N != 0)) then true else (!(j_1.T == []))) then true else (bif (j_1.Kind == 4) then (decide ((j_1.Keys.length : Int) > 0)) else false)) then true else (bif (j_1.Kind == 5) then ((j_1.Keys.length : Int) != (j_1.Items.length : Int)) else false)) then
    some (0, false)
    else
    (spec_l01OK_B_L1 j_1 rec deep_2 j_1.Items 1 0).bind fun q => (match q with
    | .ret r => some r
    | .go n_146 =>
    some (n_146, true))
theorem w_spec_l01OK_B (rec : (GJson → Int → Option (Int × Bool))) (hrec : ∀ a0 a1 r, rec a0 a1 = some r → CallOK Try.prog 181 .flat [(encGJson a0), (.int .i64 a1)] (.tup [(.int .i64 r.1), (.bool r.2)])) (j_1 : GJson) (deep_2 : Int) (r : (Int × Bool)) (hf : spec_l01OK_B rec j_1 deep_2 = some r) : CallOK Try.prog 181 .flat [(encGJson j_1), (.int .i64 deep_2)] (.tup [(.int .i64 r.1), (.bool r.2)]) := by
 refine CallOK.of_awp mixed Try.func181 fc181 nle ?_; rw [argT_eq]; rw [encGJson_eq j_1]; unfold spec_l01OK_B at hf; unfold c181; refine (show awp Try.prog false 0 _ (ofL [(0, (.agg [(.int .i64 j_1.Kind), (.int .i64 j_1.N), (.str j_1.T), (.lst 1 (j_1.Keys.map AV.str)), (.lst 5 (j_1.Items.map encGJson))])), (1, (.int .i64 deep_2))]) [] _ from ?_); refine awp_seq <| w_reg <| s_do (o_box (j := 0) (c := (.agg [(.int .i64 j_1.Kind), (.int .i64 j_1.N), (.str j_1.T), (.lst 1 (j_1.Keys.map AV.str)), (.lst 5 (j_1.Items.map encGJson))])) rfl trivial rfl rfl) <| s_mov (.int .i64 0) rfl <| s_mov (.bool false) rfl <| w_done <| k_seq <| awp_seq <| awp_seq <| w_reg <| s_mov (.int .i64 deep_2) rfl <| s_q (.bool (deep_2 == 0)) rfl rfl rfl <| ?_
 refine w_done <| k_seq <| ?_
 rcases oi hf with ⟨c3, hf⟩ | ⟨c3, hf⟩
 ·refine w_condt rfl c3 <| awp_seq <| w_reg <| s_mov (.int .i64 0) rfl <| s_mov (.bool false) rfl <| w_done <| k_seq <| w_ret <| ?_; obtain rfl := os hf; exact r_flat ⟨trivial, ⟨trivial, trivial⟩⟩ rfl (.refl _)
 ·refine w_condf rfl (bf c3) <| w_skip <| k_seq <| awp_seq <| ?_
  obtain ⟨plain_7, hb1, hf⟩ := ob hf
  refine awp_cut ([(1, (.int .i64 deep_2)), (2, (.ptr 0 0 0)), (6, (.bool plain_7))], [.box 5 (.agg [(.int .i64 j_1.Kind), (.int .i64 j_1.N), (.str j_1.T), (.lst 1 (j_1.Keys.map AV.str)), (.lst 5 (j_1.Items.map encGJson))])]) ?_ ?_
  ·refine w_reg ?_
   rcases oi hb1 with ⟨c10, hb1⟩ | ⟨c10, hb1⟩
   ·refine s_q (.ptr 0 0 3) rfl trivial rfl <| s_q (.lst 1 (j_1.Keys.map AV.str)) rfl nle rfl <| s_dof (o_len (enc := AV.str) rfl) fun hl9 => s_q (.bool ((j_1.Keys.length : Int) == 0)) rfl rfl rfl <| s_mov (.bool ((j_1.Keys.length : Int) == 0)) rfl <| s_lit (s := 17) (b := true) rfl c10 <| s_on rfl <| s_q (.ptr 0 0 4) rfl trivial rfl <| s_on rfl <| s_q (.lst 5 (j_1.Items.map encGJson)) rfl nle rfl <| s_on rfl <| s_dof (o_len (enc := encGJson) rfl) fun hl11 => s_on rfl <| s_q (.bool ((j_1.Items.length : Int) == 0)) rfl rfl rfl <| s_q (.bool ((j_1.Items.length : Int) == 0)) rfl trivial rfl <| s_mov (.bool ((j_1.Items.length : Int) == 0)) rfl <| w_done <| ?_; obtain rfl := os hb1; exact ⟨[], [0], _, _, rfl, rfl, ⟨.refl _, ⟨.refl _, ⟨.refl _, trivial⟩⟩⟩, (.refl _)⟩
   ·refine s_q (.ptr 0 0 3) rfl trivial rfl <| s_q (.lst 1 (j_1.Keys.map AV.str)) rfl nle rfl <| s_dof (o_len (enc := AV.str) rfl) fun hl9 => s_q (.bool ((j_1.Keys.length : Int) == 0)) rfl rfl rfl <| s_mov (.bool ((j_1.Keys.length : Int) == 0)) rfl <| s_lit (s := 17) (b := false) rfl (bf c10) <| s_off rfl rfl <| s_off rfl rfl <| s_off rfl rfl <| s_off rfl rfl <| s_q (.bool false) rfl trivial rfl <| s_mov (.bool false) rfl <| w_done <| ?_; obtain rfl := os hb1; exact ⟨[], [0], _, _, rfl, rfl, ⟨.refl _, ⟨.refl _, ⟨.refl _, trivial⟩⟩⟩, (.refl _)⟩
  ·refine awp_seq <| awp_seq <| w_reg <| s_q (.ptr 0 0 0) rfl trivial rfl <| s_q (.int .i64 j_1.Kind) rfl nle rfl <| w_done <| k_seq <| w_blk <| awp_seq <| w_reg <| s_q (.bool (j_1.Kind == 0)) rfl rfl rfl <| s_mov (.bool (j_1.Kind == 0)) rfl <| w_done <| k_seq <| ?_
   rcases oi hf with ⟨c12, hf⟩ | ⟨c12, hf⟩
   ·refine w_condt rfl c12 <| awp_seq <| w_reg <| s_mov (.bool plain_7) rfl <| s_mov (.bool plain_7) rfl <| ?_; refine s_g (v := plain_7) (.ptr 0 0 1) rfl (fun hv => by (try simp only [gs_on hv]); exact ⟨rfl, trivial, rfl⟩) ?_; refine s_g (v := plain_7) (.int .i64 j_1.N) rfl (fun hv => by (try simp only [gs_on hv]); exact ⟨rfl, nle, rfl⟩) ?_; refine s_g (v := plain_7) (.bool (j_1.N == 0)) rfl (fun hv => by (try simp only [gs_on hv]); exact ⟨rfl, rfl, rfl⟩) ?_; refine s_pick (x := (j_1.N == 0)) (y := false) rfl (fun hv => by (try simp only [gs_on hv]); rfl) (fun hv => by (try simp only [gs_on hv]); rfl) ?_; refine s_mov (.bool (bif plain_7 then (j_1.N == 0) else false)) rfl ?_; refine s_g (v := (bif plain_7 then (j_1.N == 0) else false)) (.ptr 0 0 2) rfl (fun hv => by (try simp only [gs_on hv]); exact ⟨rfl, trivial, rfl⟩) ?_
    refine s_g (v := (bif plain_7 then (j_1.N == 0) else false)) (.str j_1.T) rfl (fun hv => by (try simp only [gs_on hv]); exact ⟨rfl, nle, rfl⟩) ?_; refine s_g (v := (bif plain_7 then (j_1.N == 0) else false)) (.bool (j_1.T == [])) rfl (fun hv => by (try simp only [gs_on hv]); exact ⟨rfl, trivial, rfl⟩) ?_; refine s_pick (x := (j_1.T == [])) (y := false) rfl (fun hv => by (try simp only [gs_on hv]); rfl) (fun hv => by (try simp only [gs_on hv]); rfl) ?_; refine s_mov (.int .i64 1) rfl <| s_mov (.bool (bif (bif plain_7 then (j_1.N == 0) else false) then (j_1.T == []) else false)) rfl <| w_done <| k_seq <| w_ret <| ?_; obtain rfl := os hf; exact r_flat ⟨trivial, ⟨trivial, trivial⟩⟩ rfl (.refl _)
   ·refine w_condf rfl (bf c12) <| awp_seq <| w_reg <| s_q (.bool (j_1.Kind == 1)) rfl rfl rfl <| s_mov (.bool (j_1.Kind == 1)) rfl <| w_done <| k_seq <| ?_
    rcases oi hf with ⟨c13, hf⟩ | ⟨c13, hf⟩
    ·refine w_condt rfl c13 <| awp_seq <| w_reg <| s_mov (.bool plain_7) rfl <| s_mov (.bool plain_7) rfl <| ?_
     rcases oi hf with ⟨c14, hf⟩ | ⟨c14, hf⟩
     ·refine s_lit (s := 41) (b := true) rfl c14 <| s_on rfl <| s_q (.ptr 0 0 1) rfl trivial rfl <| s_on rfl <| s_q (.int .i64 j_1.N) rfl nle rfl <| s_onl rfl <| ?_
      obtain ⟨r_15, er16, hf⟩ := ob hf
      refine s_dol (o_call (w_spec_l01In _ _ _ _ er16) rfl (.refl _) rfl) a_same trivial <| s_q (.bool r_15) rfl trivial rfl <| s_mov (.bool r_15) rfl <| ?_; refine s_g (v := r_15) (.ptr 0 0 2) rfl (fun hv => by (try simp only [gs_on hv]); exact ⟨rfl, trivial, rfl⟩) ?_; refine s_g (v := r_15) (.str j_1.T) rfl (fun hv => by (try simp only [gs_on hv]); exact ⟨rfl, nle, rfl⟩) ?_; refine s_g (v := r_15) (.bool (j_1.T == [])) rfl (fun hv => by (try simp only [gs_on hv]); exact ⟨rfl, trivial, rfl⟩) ?_; refine s_pick (x := (j_1.T == [])) (y := false) rfl (fun hv => by (try simp only [gs_on hv]); rfl) (fun hv => by (try simp only [gs_on hv]); rfl) ?_; refine s_mov (.int .i64 1) rfl <| s_mov (.bool (bif r_15 then (j_1.T == []) else false)) rfl <| ?_
      refine w_done <| k_seq <| w_ret <| ?_; obtain rfl := os hf; exact r_flat ⟨trivial, ⟨trivial, trivial⟩⟩ rfl (.refl _)
     ·refine s_lit (s := 41) (b := false) rfl (bf c14) <| s_off rfl rfl <| s_off rfl rfl <| s_offl rfl rfl trivial <| s_q (.bool false) rfl trivial rfl <| s_mov (.bool false) rfl <| s_off rfl rfl <| s_off rfl rfl <| s_off rfl rfl <| s_q (.bool false) rfl trivial rfl <| s_mov (.int .i64 1) rfl <| s_mov (.bool false) rfl <| w_done <| k_seq <| w_ret <| ?_; obtain rfl := os hf; exact r_flat ⟨trivial, ⟨trivial, trivial⟩⟩ rfl (.refl _)
    ·refine w_condf rfl (bf c13) <| awp_seq <| w_reg <| s_q (.bool (j_1.Kind == 2)) rfl rfl rfl <| s_mov (.bool (j_1.Kind == 2)) rfl <| w_done <| k_seq <| ?_
     rcases oi hf with ⟨c17, hf⟩ | ⟨c17, hf⟩
     ·refine w_condt rfl c17 <| awp_seq <| w_reg <| s_mov (.bool plain_7) rfl <| s_mov (.bool plain_7) rfl <| ?_
      rcases oi hf with ⟨c18, hf⟩ | ⟨c18, hf⟩
      ·refine s_lit (s := 54) (b := true) rfl c18 <| s_on rfl <| s_q (.ptr 0 0 1) rfl trivial rfl <| s_on rfl <| s_q (.int .i64 j_1.N) rfl nle rfl <| s_onl rfl <| ?_
       obtain ⟨r_19, er20, hf⟩ := ob hf
       refine s_dol (o_call (w_spec_l01In _ _ _ _ er20) rfl (.refl _) rfl) a_same trivial <| s_q (.bool r_19) rfl trivial rfl <| s_mov (.bool r_19) rfl <| ?_; refine s_g (v := r_19) (.ptr 0 0 2) rfl (fun hv => by (try simp only [gs_on hv]); exact ⟨rfl, trivial, rfl⟩) ?_; refine s_g (v := r_19) (.str j_1.T) rfl (fun hv => by (try simp only [gs_on hv]); exact ⟨rfl, nle, rfl⟩) ?_; refine s_g (v := r_19) (.bool (j_1.T == [])) rfl (fun hv => by (try simp only [gs_on hv]); exact ⟨rfl, trivial, rfl⟩) ?_; refine s_pick (x := (j_1.T == [])) (y := false) rfl (fun hv => by (try simp only [gs_on hv]); rfl) (fun hv => by (try simp only [gs_on hv]); rfl) ?_; refine s_mov (.int .i64 1) rfl <| s_mov (.bool (bif r_19 then (j_1.T == []) else false)) rfl <| ?_
       refine w_done <| k_seq <| w_ret <| ?_; obtain rfl := os hf; exact r_flat ⟨trivial, ⟨trivial, trivial⟩⟩ rfl (.refl _)
      ·refine s_lit (s := 54) (b := false) rfl (bf c18) <| s_off rfl rfl <| s_off rfl rfl <| s_offl rfl rfl trivial <| s_q (.bool false) rfl trivial rfl <| s_mov (.bool false) rfl <| s_off rfl rfl <| s_off rfl rfl <| s_off rfl rfl <| s_q (.bool false) rfl trivial rfl <| s_mov (.int .i64 1) rfl <| s_mov (.bool false) rfl <| w_done <| k_seq <| w_ret <| ?_; obtain rfl := os hf; exact r_flat ⟨trivial, ⟨trivial, trivial⟩⟩ rfl (.refl _)
     ·refine w_condf rfl (bf c17) <| awp_seq <| w_reg <| s_q (.bool (j_1.Kind == 3)) rfl rfl rfl <| s_mov (.bool (j_1.Kind == 3)) rfl <| w_done <| k_seq <| ?_
      rcases oi hf with ⟨c21, hf⟩ | ⟨c21, hf⟩
      ·refine w_condt rfl c21 <| awp_seq <| w_reg <| s_mov (.bool plain_7) rfl <| s_mov (.bool plain_7) rfl <| ?_; refine s_g (v := plain_7) (.ptr 0 0 1) rfl (fun hv => by (try simp only [gs_on hv]); exact ⟨rfl, trivial, rfl⟩) ?_; refine s_g (v := plain_7) (.int .i64 j_1.N) rfl (fun hv => by (try simp only [gs_on hv]); exact ⟨rfl, nle, rfl⟩) ?_; refine s_g (v := plain_7) (.bool (j_1.N == 0)) rfl (fun hv => by (try simp only [gs_on hv]); exact ⟨rfl, rfl, rfl⟩) ?_; refine s_pick (x := (j_1.N == 0)) (y := false) rfl (fun hv => by (try simp only [gs_on hv]); rfl) (fun hv => by (try simp only [gs_on hv]); rfl) ?_; refine s_mov (.bool (bif plain_7 then (j_1.N == 0) else false)) rfl ?_
       rcases oi hf with ⟨c22, hf⟩ | ⟨c22, hf⟩
       ·refine s_lit (s := 72) (b := true) rfl c22 <| s_on rfl <| s_q (.ptr 0 0 2) rfl trivial rfl <| s_on rfl <| s_q (.str j_1.T) rfl nle rfl <| s_on rfl <| ?_
        obtain ⟨r_23, er24, hf⟩ := ob hf
        refine s_do (o_call (w_spec_l01Text _ _ er24) rfl (.refl _) rfl) <| s_q (.bool r_23) rfl trivial rfl <| s_mov (.int .i64 1) rfl <| s_mov (.bool r_23) rfl <| w_done <| k_seq <| w_ret <| ?_; obtain rfl := os hf; exact r_flat ⟨trivial, ⟨trivial, trivial⟩⟩ rfl (.refl _)
       ·refine s_lit (s := 72) (b := false) rfl (bf c22) <| s_off rfl rfl <| s_off rfl rfl <| s_off rfl rfl <| s_q (.bool false) rfl trivial rfl <| s_mov (.int .i64 1) rfl <| s_mov (.bool false) rfl <| w_done <| k_seq <| w_ret <| ?_; obtain rfl := os hf; exact r_flat ⟨trivial, ⟨trivial, trivial⟩⟩ rfl (.refl _)
      ·refine w_condf rfl (bf c21) <| w_skip <| k_blk <| k_seq <| awp_seq <| awp_seq <| ?_
       obtain ⟨p28, hb1, hf⟩ := ob hf
       refine awp_cut ([(1, (.int .i64 deep_2)), (2, (.ptr 0 0 0)), (119, (.bool (bif (bif (bif (bif (bif (j_1.Kind != 4) then (j_1.Kind != 5) else false) then true else (j_1.N != 0)) then true else (!(j_1.T == []))) then true else (bif (j_1.Kind == 4) then (decide ((j_1.Keys.length : Int) > 0)) else false)) then true else (bif (j_1.Kind == 5) then ((j_1.Keys.length : Int) != (j_1.Items.length : Int)) else false))))], [.box 5 (.agg [(.int .i64 j_1.Kind), (.int .i64 j_1.N), (.str j_1.T), (.lst 1 (j_1.Keys.map AV.str)), (.lst 5 (j_1.Items.map encGJson))])]) ?_ ?_
       ·refine w_reg <| s_q (.ptr 0 0 0) rfl trivial rfl <| s_q (.int .i64 j_1.Kind) rfl nle rfl <| s_q (.bool (j_1.Kind != 4)) rfl rfl rfl <| s_mov (.bool (j_1.Kind != 4)) rfl <| ?_; refine s_g (v := (j_1.Kind != 4)) (.ptr 0 0 0) rfl (fun hv => by (try simp only [gs_on hv]); exact ⟨rfl, trivial, rfl⟩) ?_; refine s_g (v := (j_1.Kind != 4)) (.int .i64 j_1.Kind) rfl (fun hv => by (try simp only [gs_on hv]); exact ⟨rfl, nle, rfl⟩) ?_; refine s_g (v := (j_1.Kind != 4)) (.bool (j_1.Kind != 5)) rfl (fun hv => by (try simp only [gs_on hv]); exact ⟨rfl, rfl, rfl⟩) ?_; refine s_pick (x := (j_1.Kind != 5)) (y := false) rfl (fun hv => by (try simp only [gs_on hv]); rfl) (fun hv => by (try simp only [gs_on hv]); rfl) ?_; refine s_mov (.bool (bif (j_1.Kind != 4) then (j_1.Kind != 5) else false)) rfl ?_
        refine s_g (v := (bif (j_1.Kind != 4) then (j_1.Kind != 5) else false)) (.ptr 0 0 1) rfl (fun hv => by (try simp only [gs_on hv]); exact ⟨rfl, trivial, rfl⟩) ?_; refine s_g (v := (bif (j_1.Kind != 4) then (j_1.Kind != 5) else false)) (.int .i64 j_1.N) rfl (fun hv => by (try simp only [gs_on hv]); exact ⟨rfl, nle, rfl⟩) ?_; refine s_g (v := (bif (j_1.Kind != 4) then (j_1.Kind != 5) else false)) (.bool (j_1.N != 0)) rfl (fun hv => by (try simp only [gs_on hv]); exact ⟨rfl, rfl, rfl⟩) ?_; refine s_pick (x := true) (y := (j_1.N != 0)) rfl (fun hv => by (try simp only [gs_on hv]); rfl) (fun hv => by (try simp only [gs_on hv]); rfl) ?_; refine s_mov (.bool (bif (bif (j_1.Kind != 4) then (j_1.Kind != 5) else false) then true else (j_1.N != 0))) rfl ?_
        refine s_g (v := (bif (bif (j_1.Kind != 4) then (j_1.Kind != 5) else false) then true else (j_1.N != 0))) (.ptr 0 0 2) rfl (fun hv => by (try simp only [gs_on hv]); exact ⟨rfl, trivial, rfl⟩) ?_; refine s_g (v := (bif (bif (j_1.Kind != 4) then (j_1.Kind != 5) else false) then true else (j_1.N != 0))) (.str j_1.T) rfl (fun hv => by (try simp only [gs_on hv]); exact ⟨rfl, nle, rfl⟩) ?_; refine s_g (v := (bif (bif (j_1.Kind != 4) then (j_1.Kind != 5) else false) then true else (j_1.N != 0))) (.bool (!(j_1.T == []))) rfl (fun hv => by (try simp only [gs_on hv]); exact ⟨rfl, trivial, rfl⟩) ?_; refine s_pick (x := true) (y := (!(j_1.T == []))) rfl (fun hv => by (try simp only [gs_on hv]); rfl) (fun hv => by (try simp only [gs_on hv]); rfl) ?_
        refine s_mov (.bool (bif (bif (bif (j_1.Kind != 4) then (j_1.Kind != 5) else false) then true else (j_1.N != 0)) then true else (!(j_1.T == [])))) rfl ?_; refine s_g (v := (bif (bif (bif (j_1.Kind != 4) then (j_1.Kind != 5) else false) then true else (j_1.N != 0)) then true else (!(j_1.T == [])))) (.ptr 0 0 0) rfl (fun hv => by (try simp only [gs_on hv]); exact ⟨rfl, trivial, rfl⟩) ?_; refine s_g (v := (bif (bif (bif (j_1.Kind != 4) then (j_1.Kind != 5) else false) then true else (j_1.N != 0)) then true else (!(j_1.T == [])))) (.int .i64 j_1.Kind) rfl (fun hv => by (try simp only [gs_on hv]); exact ⟨rfl, nle, rfl⟩) ?_; refine s_g (v := (bif (bif (bif (j_1.Kind != 4) then (j_1.Kind != 5) else false) then true else (j_1.N != 0)) then true else (!(j_1.T == [])))) (.bool (j_1.Kind == 4)) rfl (fun hv => by (try simp only [gs_on hv]); exact ⟨rfl, rfl, rfl⟩) ?_
        refine s_g (v := (bif (bif (bif (j_1.Kind != 4) then (j_1.Kind != 5) else false) then true else (j_1.N != 0)) then true else (!(j_1.T == [])))) (.bool (j_1.Kind == 4)) rfl (fun hv => by (try simp only [gs_on hv]); exact ⟨rfl, trivial, rfl⟩) ?_; refine s_gg (v1 := (bif (bif (bif (j_1.Kind != 4) then (j_1.Kind != 5) else false) then true else (j_1.N != 0)) then true else (!(j_1.T == [])))) (b1 := false) (v2 := (j_1.Kind == 4)) (.ptr 0 0 3) rfl (fun hv hw => by (try simp only [gs_on hv, gs_on hw]); exact ⟨rfl, trivial, rfl⟩) ?_; refine s_gg (v1 := (bif (bif (bif (j_1.Kind != 4) then (j_1.Kind != 5) else false) then true else (j_1.N != 0)) then true else (!(j_1.T == [])))) (b1 := false) (v2 := (j_1.Kind == 4)) (.lst 1 (j_1.Keys.map AV.str)) rfl (fun hv hw => by (try simp only [gs_on hv, gs_on hw]); exact ⟨rfl, nle, rfl⟩) ?_
        refine s_gg (v1 := (bif (bif (bif (j_1.Kind != 4) then (j_1.Kind != 5) else false) then true else (j_1.N != 0)) then true else (!(j_1.T == [])))) (b1 := false) (v2 := (j_1.Kind == 4)) (.int .i64 (j_1.Keys.length : Int)) rfl (fun hv hw => by (try simp only [gs_on hv, gs_on hw]); exact ⟨rfl, trivial, lenV _ _⟩) ?_; refine s_gg (v1 := (bif (bif (bif (j_1.Kind != 4) then (j_1.Kind != 5) else false) then true else (j_1.N != 0)) then true else (!(j_1.T == [])))) (b1 := false) (v2 := (j_1.Kind == 4)) (.bool (decide ((j_1.Keys.length : Int) > 0))) rfl (fun hv hw => by (try simp only [gs_on hv, gs_on hw]); exact ⟨rfl, rfl, rfl⟩) ?_; refine s_gp (v1 := (bif (bif (bif (j_1.Kind != 4) then (j_1.Kind != 5) else false) then true else (j_1.N != 0)) then true else (!(j_1.T == [])))) (b1 := false) (v2 := (j_1.Kind == 4)) (x := (decide ((j_1.Keys.length : Int) > 0))) (y := false) rfl (fun hv => by (try simp only [gs_on hv]); rfl) (fun hv hw => by (try simp only [gs_on hv, gs_on hw]); rfl) (fun hv hw => by (try simp only [gs_on hv, gs_on hw]); rfl) ?_
        refine s_pick (x := true) (y := (bif (j_1.Kind == 4) then (decide ((j_1.Keys.length : Int) > 0)) else false)) rfl (fun hv => by (try simp only [gs_on hv]); rfl) (fun hv => by (try simp only [gs_on hv]); rfl) ?_; refine s_mov (.bool (bif (bif (bif (bif (j_1.Kind != 4) then (j_1.Kind != 5) else false) then true else (j_1.N != 0)) then true else (!(j_1.T == []))) then true else (bif (j_1.Kind == 4) then (decide ((j_1.Keys.length : Int) > 0)) else false))) rfl ?_; refine s_g (v := (bif (bif (bif (bif (j_1.Kind != 4) then (j_1.Kind != 5) else false) then true else (j_1.N != 0)) then true else (!(j_1.T == []))) then true else (bif (j_1.Kind == 4) then (decide ((j_1.Keys.length : Int) > 0)) else false))) (.ptr 0 0 0) rfl (fun hv => by (try simp only [gs_on hv]); exact ⟨rfl, trivial, rfl⟩) ?_
        refine s_g (v := (bif (bif (bif (bif (j_1.Kind != 4) then (j_1.Kind != 5) else false) then true else (j_1.N != 0)) then true else (!(j_1.T == []))) then true else (bif (j_1.Kind == 4) then (decide ((j_1.Keys.length : Int) > 0)) else false))) (.int .i64 j_1.Kind) rfl (fun hv => by (try simp only [gs_on hv]); exact ⟨rfl, nle, rfl⟩) ?_; refine s_g (v := (bif (bif (bif (bif (j_1.Kind != 4) then (j_1.Kind != 5) else false) then true else (j_1.N != 0)) then true else (!(j_1.T == []))) then true else (bif (j_1.Kind == 4) then (decide ((j_1.Keys.length : Int) > 0)) else false))) (.bool (j_1.Kind == 5)) rfl (fun hv => by (try simp only [gs_on hv]); exact ⟨rfl, rfl, rfl⟩) ?_; refine s_g (v := (bif (bif (bif (bif (j_1.Kind != 4) then (j_1.Kind != 5) else false) then true else (j_1.N != 0)) then true else (!(j_1.T == []))) then true else (bif (j_1.Kind == 4) then (decide ((j_1.Keys.length : Int) > 0)) else false))) (.bool (j_1.Kind == 5)) rfl (fun hv => by (try simp only [gs_on hv]); exact ⟨rfl, trivial, rfl⟩) ?_
        refine s_gg (v1 := (bif (bif (bif (bif (j_1.Kind != 4) then (j_1.Kind != 5) else false) then true else (j_1.N != 0)) then true else (!(j_1.T == []))) then true else (bif (j_1.Kind == 4) then (decide ((j_1.Keys.length : Int) > 0)) else false))) (b1 := false) (v2 := (j_1.Kind == 5)) (.ptr 0 0 3) rfl (fun hv hw => by (try simp only [gs_on hv, gs_on hw]); exact ⟨rfl, trivial, rfl⟩) ?_; refine s_gg (v1 := (bif (bif (bif (bif (j_1.Kind != 4) then (j_1.Kind != 5) else false) then true else (j_1.N != 0)) then true else (!(j_1.T == []))) then true else (bif (j_1.Kind == 4) then (decide ((j_1.Keys.length : Int) > 0)) else false))) (b1 := false) (v2 := (j_1.Kind == 5)) (.lst 1 (j_1.Keys.map AV.str)) rfl (fun hv hw => by (try simp only [gs_on hv, gs_on hw]); exact ⟨rfl, nle, rfl⟩) ?_
        refine s_gg (v1 := (bif (bif (bif (bif (j_1.Kind != 4) then (j_1.Kind != 5) else false) then true else (j_1.N != 0)) then true else (!(j_1.T == []))) then true else (bif (j_1.Kind == 4) then (decide ((j_1.Keys.length : Int) > 0)) else false))) (b1 := false) (v2 := (j_1.Kind == 5)) (.int .i64 (j_1.Keys.length : Int)) rfl (fun hv hw => by (try simp only [gs_on hv, gs_on hw]); exact ⟨rfl, trivial, lenV _ _⟩) ?_; refine s_gg (v1 := (bif (bif (bif (bif (j_1.Kind != 4) then (j_1.Kind != 5) else false) then true else (j_1.N != 0)) then true else (!(j_1.T == []))) then true else (bif (j_1.Kind == 4) then (decide ((j_1.Keys.length : Int) > 0)) else false))) (b1 := false) (v2 := (j_1.Kind == 5)) (.ptr 0 0 4) rfl (fun hv hw => by (try simp only [gs_on hv, gs_on hw]); exact ⟨rfl, trivial, rfl⟩) ?_
        refine s_gg (v1 := (bif (bif (bif (bif (j_1.Kind != 4) then (j_1.Kind != 5) else false) then true else (j_1.N != 0)) then true else (!(j_1.T == []))) then true else (bif (j_1.Kind == 4) then (decide ((j_1.Keys.length : Int) > 0)) else false))) (b1 := false) (v2 := (j_1.Kind == 5)) (.lst 5 (j_1.Items.map encGJson)) rfl (fun hv hw => by (try simp only [gs_on hv, gs_on hw]); exact ⟨rfl, nle, rfl⟩) ?_; refine s_gg (v1 := (bif (bif (bif (bif (j_1.Kind != 4) then (j_1.Kind != 5) else false) then true else (j_1.N != 0)) then true else (!(j_1.T == []))) then true else (bif (j_1.Kind == 4) then (decide ((j_1.Keys.length : Int) > 0)) else false))) (b1 := false) (v2 := (j_1.Kind == 5)) (.int .i64 (j_1.Items.length : Int)) rfl (fun hv hw => by (try simp only [gs_on hv, gs_on hw]); exact ⟨rfl, trivial, lenV _ _⟩) ?_
        refine s_gg (v1 := (bif (bif (bif (bif (j_1.Kind != 4) then (j_1.Kind != 5) else false) then true else (j_1.N != 0)) then true else (!(j_1.T == []))) then true else (bif (j_1.Kind == 4) then (decide ((j_1.Keys.length : Int) > 0)) else false))) (b1 := false) (v2 := (j_1.Kind == 5)) (.bool ((j_1.Keys.length : Int) != (j_1.Items.length : Int))) rfl (fun hv hw => by (try simp only [gs_on hv, gs_on hw]); exact ⟨rfl, rfl, rfl⟩) ?_; refine s_gp (v1 := (bif (bif (bif (bif (j_1.Kind != 4) then (j_1.Kind != 5) else false) then true else (j_1.N != 0)) then true else (!(j_1.T == []))) then true else (bif (j_1.Kind == 4) then (decide ((j_1.Keys.length : Int) > 0)) else false))) (b1 := false) (v2 := (j_1.Kind == 5)) (x := ((j_1.Keys.length : Int) != (j_1.Items.length : Int))) (y := false) rfl (fun hv => by (try simp only [gs_on hv]); rfl) (fun hv hw => by (try simp only [gs_on hv, gs_on hw]); rfl) (fun hv hw => by (try simp only [gs_on hv, gs_on hw]); rfl) ?_
        refine s_pick (x := true) (y := (bif (j_1.Kind == 5) then ((j_1.Keys.length : Int) != (j_1.Items.length : Int)) else false)) rfl (fun hv => by (try simp only [gs_on hv]); rfl) (fun hv => by (try simp only [gs_on hv]); rfl) ?_; refine w_done ?_; obtain rfl := os hb1; exact ⟨[], [0], _, _, rfl, rfl, ⟨.refl _, ⟨.refl _, ⟨.refl _, trivial⟩⟩⟩, (.refl _)⟩
       ·rcases oi hf with ⟨c32, hf⟩ | ⟨c32, hf⟩
        ·refine w_condt rfl c32 <| awp_seq <| w_reg <| s_mov (.int .i64 0) rfl <| s_mov (.bool false) rfl <| w_done <| k_seq <| w_ret <| ?_; obtain rfl := os hf; exact r_flat ⟨trivial, ⟨trivial, trivial⟩⟩ rfl (.refl _)
        ·refine w_condf rfl (bf c32) <| w_skip <| k_seq <| awp_seq <| w_reg <| s_mov (.int .i64 1) rfl <| w_done <| k_seq <| awp_seq <| awp_seq <| w_reg <| s_mov (.int .i64 0) rfl <| w_done <| k_seq <| ?_
         obtain ⟨p147, hb1, hf⟩ := ob hf
         refine awp_cutx (X := {q : Int // p147 = .go q}) (fun q => ([(7, (.int .i64 q.1))], [])) ?_ ?_
         ·refine awp_loop (X := {q : (Int × Nat) // spec_l01OK_B_L1 j_1 rec deep_2 (j_1.Items.drop q.2) q.1 q.2 = some p147}) (fun q => ([(1, (.int .i64 deep_2)), (2, (.ptr 0 0 0)), (7, (.int .i64 q.1.1)), (8, (.int .i64 (q.1.2 : Int)))], [.box 5 (.agg [(.int .i64 j_1.Kind), (.int .i64 j_1.N), (.str j_1.T), (.lst 1 (j_1.Keys.map AV.str)), (.lst 5 (j_1.Items.map encGJson))])])) (fun q => j_1.Items.length - q.1.2) ⟨(1, 0), hb1⟩ ⟨[], [0], _, _, rfl, rfl, ⟨.refl _, ⟨.refl _, ⟨.refl _, ⟨.refl _, trivial⟩⟩⟩⟩, (.refl _)⟩ ?_
          rintro ⟨⟨n_107, i_108⟩, hc1⟩
          have hc1 : spec_l01OK_B_L1 j_1 rec deep_2 (j_1.Items.drop i_108) n_107 i_108 = some p147 := hc1
          refine (show awp Try.prog false 0 _ (ofL [(1, (.int .i64 deep_2)), (2, (.ptr 0 0 0)), (7, (.int .i64 n_107)), (8, (.int .i64 (i_108 : Int)))]) [.box 5 (.agg [(.int .i64 j_1.Kind), (.int .i64 j_1.N), (.str j_1.T), (.lst 1 (j_1.Keys.map AV.str)), (.lst 5 (j_1.Items.map encGJson))])] _ from ?_)
          rcases dropc j_1.Items i_108 with ⟨hie150, hd153⟩ | ⟨hlt148, x_154, hx149, hd153⟩
          ·rw [hd153, spec_l01OK_B_L1.eq_1] at hc1
           have hq152 := dlf hie150
           refine awp_seq <| awp_seq <| w_reg <| s_mov (.int .i64 (i_108 : Int)) rfl <| s_q (.ptr 0 0 4) rfl trivial rfl <| s_q (.lst 5 (j_1.Items.map encGJson)) rfl nle rfl <| s_dof (o_len (enc := encGJson) rfl) fun hl155 => s_q (.bool (decide ((i_108 : Int) < (j_1.Items.length : Int)))) rfl rfl rfl <| w_done <| k_seq <| w_condf rfl hq152 <| w_exit <| k_seqx <| k_loopx <| k_blkx <| ?_; obtain rfl := os hc1; exact k_cutn ⟨_, rfl⟩ ⟨[], [], _, _, rfl, rfl, ⟨.refl _, trivial⟩, (.refl _)⟩
          ·rw [hd153, spec_l01OK_B_L1.eq_2] at hc1
           have hq152 := dlt hlt148
           refine awp_seq <| awp_seq <| w_reg <| s_mov (.int .i64 (i_108 : Int)) rfl <| s_q (.ptr 0 0 4) rfl trivial rfl <| s_q (.lst 5 (j_1.Items.map encGJson)) rfl nle rfl <| s_dof (o_len (enc := encGJson) rfl) fun hl156 => s_q (.bool (decide ((i_108 : Int) < (j_1.Items.length : Int)))) rfl rfl rfl <| w_done <| k_seq <| w_condt rfl hq152 <| w_skip <| k_seq <| awp_seq <| w_blk <| awp_seq <| awp_seq <| ?_
           obtain ⟨s156_168, hb2, hc1⟩ := ob hc1
           refine awp_cut ([(1, (.int .i64 deep_2)), (2, (.ptr 0 0 0)), (7, (.int .i64 n_107)), (8, (.int .i64 (i_108 : Int))), (156, (.bool s156_168))], [.box 5 (.agg [(.int .i64 j_1.Kind), (.int .i64 j_1.N), (.str j_1.T), (.lst 1 (j_1.Keys.map AV.str)), (.lst 5 (j_1.Items.map encGJson))])]) ?_ ?_
           ·refine w_reg <| s_q (.ptr 0 0 0) rfl trivial rfl <| s_q (.int .i64 j_1.Kind) rfl nle rfl <| s_q (.bool (j_1.Kind == 5)) rfl rfl rfl <| s_mov (.bool (j_1.Kind == 5)) rfl <| ?_
            rcases oi hb2 with ⟨c170, hb2⟩ | ⟨c170, hb2⟩
            ·refine s_lit (s := 130) (b := true) rfl c170 <| s_on rfl <| s_q (.ptr 0 0 3) rfl trivial rfl <| s_on rfl <| s_q (.lst 1 (j_1.Keys.map AV.str)) rfl nle rfl <| s_on rfl <| s_mov (.int .i64 (i_108 : Int)) rfl <| s_on rfl <| ?_
             obtain ⟨x_171, ex172, hb2⟩ := ob hb2
             refine s_do (o_iaddr (enc := AV.str) rfl rfl (idx0 ex172) (idx1 ex172)) <| s_on rfl <| s_q (.str x_171) rfl ⟨rfl, rfl⟩ rfl <| s_onl rfl <| ?_
             obtain ⟨r_173, er174, hb2⟩ := ob hb2
             refine s_dol (o_call (w_spec_l01Text _ _ er174) rfl (.refl _) rfl) a_same trivial <| s_on rfl <| s_q (.bool (!r_173)) rfl trivial rfl <| s_on rfl <| s_mov (.bool (!r_173)) rfl <| ?_
             rcases oi hb2 with ⟨c175, hb2⟩ | ⟨c175, hb2⟩
             ·refine s_lit (s := 138) (b := true) rfl c175 <| s_off rfl rfl <| s_off rfl rfl <| s_off rfl rfl <| s_offs rfl <| s_offs rfl <| s_offs rfl <| s_offs rfl <| s_offs rfl <| s_offs rfl <| s_offs rfl <| s_offs rfl <| s_offs rfl <| s_offs rfl <| s_offs rfl <| s_offs rfl <| s_off rfl rfl <| s_on rfl <| s_q (.bool true) rfl trivial rfl <| s_q (.bool true) rfl trivial rfl <| w_done <| ?_; obtain rfl := os hb2; exact ⟨[], [0], _, _, rfl, rfl, ⟨.refl _, ⟨.refl _, ⟨.refl _, ⟨.refl _, ⟨.refl _, trivial⟩⟩⟩⟩⟩, (.refl _)⟩
             ·refine s_lit (s := 138) (b := false) rfl (bf c175) <| s_on rfl <| s_mov (.int .i64 (i_108 : Int)) rfl <| s_on rfl <| s_q (.bool (decide ((i_108 : Int) > 0))) rfl rfl rfl <| s_on rfl <| s_mov (.bool (decide ((i_108 : Int) > 0))) rfl <| ?_
              rcases oi hb2 with ⟨c176, hb2⟩ | ⟨c176, hb2⟩
              ·refine s_lit (s := 141) (b := true) rfl c176 <| s_on rfl <| s_q (.ptr 0 0 3) rfl trivial rfl <| s_on rfl <| s_q (.lst 1 (j_1.Keys.map AV.str)) rfl nle rfl <| s_on rfl <| s_mov (.int .i64 (i_108 : Int)) rfl <| s_on rfl <| s_q (.int .i64 (w64 ((i_108 : Int) - 1))) rfl rfl rfl <| s_on rfl <| ?_
               obtain ⟨x_177, ex178, hb2⟩ := ob hb2
               refine s_do (o_iaddr (enc := AV.str) rfl rfl (idx0 ex178) (idx1 ex178)) <| s_on rfl <| s_q (.str x_177) rfl ⟨rfl, rfl⟩ rfl <| s_on rfl <| s_q (.ptr 0 0 3) rfl trivial rfl <| s_on rfl <| s_q (.lst 1 (j_1.Keys.map AV.str)) rfl nle rfl <| s_on rfl <| s_mov (.int .i64 (i_108 : Int)) rfl <| s_on rfl <| ?_
               obtain ⟨x_179, ex180, hb2⟩ := ob hb2
               refine s_do (o_iaddr (enc := AV.str) rfl rfl (idx0 ex180) (idx1 ex180)) <| s_on rfl <| s_q (.str x_179) rfl ⟨rfl, rfl⟩ rfl <| s_on rfl <| s_q (.bool (!Op.bytesLess x_177 x_179)) rfl trivial rfl <| s_on rfl <| s_q (.bool (!Op.bytesLess x_177 x_179)) rfl trivial rfl <| s_on rfl <| s_q (.bool (!Op.bytesLess x_177 x_179)) rfl trivial rfl <| s_q (.bool (!Op.bytesLess x_177 x_179)) rfl trivial rfl <| w_done <| ?_; obtain rfl := os hb2; exact ⟨[], [0], _, _, rfl, rfl, ⟨.refl _, ⟨.refl _, ⟨.refl _, ⟨.refl _, ⟨.refl _, trivial⟩⟩⟩⟩⟩, (.refl _)⟩
              ·refine s_lit (s := 141) (b := false) rfl (bf c176) <| s_off rfl rfl <| s_off rfl rfl <| s_off rfl rfl <| s_off rfl rfl <| s_off rfl rfl <| s_off rfl rfl <| s_off rfl rfl <| s_off rfl rfl <| s_off rfl rfl <| s_off rfl rfl <| s_off rfl rfl <| s_off rfl rfl <| s_on rfl <| s_q (.bool false) rfl trivial rfl <| s_on rfl <| s_q (.bool false) rfl trivial rfl <| s_q (.bool false) rfl trivial rfl <| w_done <| ?_; obtain rfl := os hb2; exact ⟨[], [0], _, _, rfl, rfl, ⟨.refl _, ⟨.refl _, ⟨.refl _, ⟨.refl _, ⟨.refl _, trivial⟩⟩⟩⟩⟩, (.refl _)⟩
            ·refine s_lit (s := 130) (b := false) rfl (bf c170) <| s_off rfl rfl <| s_off rfl rfl <| s_off rfl rfl <| s_off rfl rfl <| s_off rfl rfl <| s_offl rfl rfl trivial <| s_off rfl rfl <| s_off rfl rfl <| s_offs rfl <| s_offs rfl <| s_offs rfl <| s_offs rfl <| s_offs rfl <| s_offs rfl <| s_offs rfl <| s_offs rfl <| s_offs rfl <| s_offs rfl <| s_offs rfl <| s_offs rfl <| s_offs rfl <| s_offs rfl <| s_offs rfl <| s_offs rfl <| s_off rfl rfl <| s_q (.bool false) rfl trivial rfl <| w_done <| ?_; obtain rfl := os hb2; exact ⟨[], [0], _, _, rfl, rfl, ⟨.refl _, ⟨.refl _, ⟨.refl _, ⟨.refl _, ⟨.refl _, trivial⟩⟩⟩⟩⟩, (.refl _)⟩
           ·rcases oi hc1 with ⟨c181, hc1⟩ | ⟨c181, hc1⟩
            ·refine w_condt rfl c181 <| awp_seq <| w_reg <| s_mov (.int .i64 0) rfl <| s_mov (.bool false) rfl <| w_done <| k_seq <| w_ret <| ?_; obtain rfl := os hc1; obtain rfl := os hf; exact r_flat ⟨trivial, ⟨trivial, trivial⟩⟩ rfl (.refl _)
            ·refine w_condf rfl (bf c181) <| w_skip <| k_seq <| awp_seq <| w_reg <| s_q (.ptr 0 0 4) rfl trivial rfl <| s_q (.lst 5 (j_1.Items.map encGJson)) rfl nle rfl <| s_mov (.int .i64 (i_108 : Int)) rfl <| s_do (o_iaddrn (enc := encGJson) rfl rfl hx149) <| s_do (o_loadeq (v := (.agg [(.int .i64 x_154.Kind), (.int .i64 x_154.N), (.str x_154.T), (.lst 1 (x_154.Keys.map AV.str)), (.lst 5 (x_154.Items.map encGJson))])) rfl (encGJson_eq _) nle rfl) <| s_mov (.int .i64 deep_2) rfl <| s_q (.int .i64 (w64 (deep_2 - 1))) rfl rfl rfl <| ?_
             obtain ⟨r_182, er183, hc1⟩ := ob hc1
             refine s_do (o_call (hrec _ _ _ er183) rfl (.cons (.of_eq (encGJson_eq x_154).symm) (.cons (.refl _) .nil)) rfl) <| s_mov (.tup [(.int .i64 r_182.1), (.bool r_182.2)]) rfl <| s_q (.int .i64 r_182.1) rfl nle rfl <| s_q (.bool r_182.2) rfl nle rfl <| s_mov (.int .i64 r_182.1) rfl <| s_mov (.bool r_182.2) rfl <| w_done <| k_seq <| awp_seq <| w_reg <| s_mov (.int .i64 n_107) rfl <| s_mov (.int .i64 r_182.1) rfl <| s_q (.int .i64 (w64 (n_107 + r_182.1))) rfl rfl rfl <| s_mov (.int .i64 (w64 (n_107 + r_182.1))) rfl <| w_done <| k_seq <| awp_seq <| ?_
             obtain ⟨s176_185, hb2, hc1⟩ := ob hc1
             refine awp_cut ([(1, (.int .i64 deep_2)), (2, (.ptr 0 0 0)), (7, (.int .i64 (w64 (n_107 + r_182.1)))), (8, (.int .i64 (i_108 : Int))), (176, (.bool s176_185))], [.box 5 (.agg [(.int .i64 j_1.Kind), (.int .i64 j_1.N), (.str j_1.T), (.lst 1 (j_1.Keys.map AV.str)), (.lst 5 (j_1.Items.map encGJson))])]) ?_ ?_
             ·refine w_reg ?_
              rcases oi hb2 with ⟨c187, hb2⟩ | ⟨c187, hb2⟩
              ·refine s_mov (.bool r_182.2) rfl <| s_q (.bool (!r_182.2)) rfl trivial rfl <| s_mov (.bool (!r_182.2)) rfl <| s_lit (s := 173) (b := true) rfl c187 <| s_off rfl rfl <| s_off rfl rfl <| s_q (.bool true) rfl trivial rfl <| w_done <| ?_; obtain rfl := os hb2; exact ⟨[], [0], _, _, rfl, rfl, ⟨.refl _, ⟨.refl _, ⟨.refl _, ⟨.refl _, ⟨.refl _, trivial⟩⟩⟩⟩⟩, (.refl _)⟩
              ·refine s_mov (.bool r_182.2) rfl <| s_q (.bool (!r_182.2)) rfl trivial rfl <| s_mov (.bool (!r_182.2)) rfl <| s_lit (s := 173) (b := false) rfl (bf c187) <| s_on rfl <| s_mov (.int .i64 (w64 (n_107 + r_182.1))) rfl <| s_on rfl <| s_q (.bool (decide (w64 (n_107 + r_182.1) > 400))) rfl rfl rfl <| s_q (.bool (decide (w64 (n_107 + r_182.1) > 400))) rfl trivial rfl <| w_done <| ?_; obtain rfl := os hb2; exact ⟨[], [0], _, _, rfl, rfl, ⟨.refl _, ⟨.refl _, ⟨.refl _, ⟨.refl _, ⟨.refl _, trivial⟩⟩⟩⟩⟩, (.refl _)⟩
             ·rcases oi hc1 with ⟨c188, hc1⟩ | ⟨c188, hc1⟩
              ·refine w_condt rfl c188 <| awp_seq <| w_reg <| s_mov (.int .i64 0) rfl <| s_mov (.bool false) rfl <| w_done <| k_seq <| w_ret <| ?_; obtain rfl := os hc1; obtain rfl := os hf; exact r_flat ⟨trivial, ⟨trivial, trivial⟩⟩ rfl (.refl _)
              ·refine w_condf rfl (bf c188) <| w_skip <| k_blk <| k_seq <| w_reg <| s_mov (.int .i64 (i_108 : Int)) rfl <| s_q (.int .i64 (w64 ((i_108 : Int) + 1))) rfl rfl rfl <| s_mov (.int .i64 (w64 ((i_108 : Int) + 1))) rfl <| w_done <| ?_; exact k_loopn ⟨(w64 (n_107 + r_182.1), (i_108 + 1)), hc1⟩ (mul hlt148) ⟨[], [0], _, _, rfl, rfl, ⟨.refl _, ⟨.refl _, ⟨.refl _, ⟨.of_eq (congrArg (AV.int _) (w64_incr hlt148 hl156)), trivial⟩⟩⟩⟩, (.refl _)⟩
         ·rintro ⟨n_146, rfl⟩
          refine awp_seq <| w_reg <| s_mov (.int .i64 n_146) rfl <| s_mov (.int .i64 n_146) rfl <| s_mov (.bool true) rfl <| w_done <| k_seq <| w_ret <| ?_; obtain rfl := os hf; exact r_flat ⟨trivial, ⟨trivial, trivial⟩⟩ rfl (.refl _)
def spec_l01OK : Nat → GJson → Int → Option (Int × Bool)
 | 0, _, _ => none
 | k + 1, j_1, deep_2 => spec_l01OK_B (spec_l01OK k) j_1 deep_2
theorem w_spec_l01OK : ∀ (k : Nat) (j_1 : GJson) (deep_2 : Int) (r : (Int × Bool)), spec_l01OK k j_1 deep_2 = some r → CallOK Try.prog 181 .flat [(encGJson j_1), (.int .i64 deep_2)] (.tup [(.int .i64 r.1), (.bool r.2)])
 | 0, j_1, deep_2, r, h => by rw [spec_l01OK.eq_1] at h; cases h
 | k + 1, j_1, deep_2, r, h => by
  rw [spec_l01OK.eq_2] at h; exact w_spec_l01OK_B _ (w_spec_l01OK k) j_1 deep_2 r h

/- spec.JsonOK -/
def c121 : ACode :=
 (.seq (.reg (tq 1 (.box 5 (.t 0)) (tm 2 (.c (.bool false)) .done)))
 (.seq (.reg (tq 6 (.load 5 true (.t 1)) (tq 7 (.call 181 [(.t 6), (.c (.int .i64 12))]) (tm 5 (.t 7) (tq 8 (.extract 0 (.t 5)) (tq 9 (.extract 1 (.t 5)) (tm 3 (.t 8) (tm 4 (.t 9) .done))))))))
 (.seq (.reg (tm 10 (.t 4) (tm 2 (.t 10) .done)))
 .ret)))
theorem fc121 : fcomp Try.prog Try.f121 = some (c121.erase, [.mov (.t 2)], 11) := by kernel_rfl
def spec_JsonOK (j_1 : GJson) : Option Bool :=
    (spec_l01OK FUEL j_1 12).bind fun r_2 =>
    some r_2.2
theorem w_spec_JsonOK (j_1 : GJson) (r : Bool) (hf : spec_JsonOK j_1 = some r) : CallOK Try.prog 121 .flat [(encGJson j_1)] (.bool r) := by
 refine CallOK.of_awp mixed Try.func121 fc121 nle ?_; rw [argT_eq]; rw [encGJson_eq j_1]; unfold spec_JsonOK at hf; unfold c121; refine (show awp Try.prog false 0 _ (ofL [(0, (.agg [(.int .i64 j_1.Kind), (.int .i64 j_1.N), (.str j_1.T), (.lst 1 (j_1.Keys.map AV.str)), (.lst 5 (j_1.Items.map encGJson))]))]) [] _ from ?_); refine awp_seq <| w_reg <| s_do (o_box (j := 0) (c := (.agg [(.int .i64 j_1.Kind), (.int .i64 j_1.N), (.str j_1.T), (.lst 1 (j_1.Keys.map AV.str)), (.lst 5 (j_1.Items.map encGJson))])) rfl trivial rfl rfl) <| s_mov (.bool false) rfl <| w_done <| k_seq <| awp_seq <| w_reg <| ?_
 obtain ⟨r_2, er3, hf⟩ := ob hf
 refine s_q (.agg [(.int .i64 j_1.Kind), (.int .i64 j_1.N), (.str j_1.T), (.lst 1 (j_1.Keys.map AV.str)), (.lst 5 (j_1.Items.map encGJson))]) rfl nle rfl <| s_do (o_call (w_spec_l01OK FUEL _ _ _ er3) rfl (.cons (.of_eq (encGJson_eq j_1).symm) (.cons (.refl _) .nil)) rfl) <| s_mov (.tup [(.int .i64 r_2.1), (.bool r_2.2)]) rfl <| s_q (.int .i64 r_2.1) rfl nle rfl <| s_q (.bool r_2.2) rfl nle rfl <| s_mov (.int .i64 r_2.1) rfl <| s_mov (.bool r_2.2) rfl <| w_done <| k_seq <| awp_seq <| w_reg <| s_mov (.bool r_2.2) rfl <| s_mov (.bool r_2.2) rfl <| w_done <| k_seq <| w_ret <| ?_; obtain rfl := os hf; exact r_flat ⟨trivial, trivial⟩ rfl (.refl _)

/- spec.CodeWord -/
def c191 : ACode :=
 (.seq (.reg (tm 2 (.c (.str [])) .done))
 (.seq (.reg (tq 4 (.bslice 1 [(.c (.str [111, 107])), (.c (.str [98, 97, 100])), (.c (.str [108, 111, 110, 103])), (.c (.str [102, 111, 114, 109])), (.c (.str [114, 97, 110, 103, 101])), (.c (.str [110, 111, 110, 101])), (.c (.str [109, 97, 110, 121])), (.c (.str [102, 117, 108, 108])), (.c (.str [116, 119, 105, 99, 101])), (.c (.str [116, 121, 112, 101])), (.c (.str [116, 97, 98, 108, 101])), (.c (.str [99, 111, 108, 117, 109, 110])), (.c (.str [117, 110, 105, 113, 117, 101])), (.c (.str [114, 101, 102])), (.c (.str [111, 119, 110, 101, 114])), (.c (.str [119, 97, 105, 116])), (.c (.str [97, 98, 111, 114, 116])), (.c (.str [99, 108, 111, 115, 101, 100])), (.c (.str [100, 101, 101, 112])), (.c (.str [109, 101, 116, 104, 111, 100]))]) (tm 3 (.t 4) .done)))
 (.seq (.seq (.reg (tm 5 (.t 0) (tq 6 (.bin .lss (.t 5) (.c (.int .i64 0))) (tm 7 (.t 6) (tg 8 7 false (.mov (.t 0)) (tg 9 7 false (.mov (.t 3)) (tg 10 7 false (.len (.t 9)) (tg 11 7 false (.bin .geq (.t 8) (.t 10)) (tq 12 (.pick (.t 7) (.c (.bool true)) (.t 11)) .done)))))))))
 (.cut (.cond (.t 12) (.seq (.reg (tm 2 (.c (.str [])) .done))
 .ret)
 .skip)))
 (.seq (.reg (tm 13 (.t 3) (tm 14 (.t 0) (tq 15 (.iaddr 1 (.t 13) (.t 14)) (tq 16 (.load 1 false (.t 15)) (tm 2 (.t 16) .done))))))
 .ret))))
theorem fc191 : fcomp Try.prog Try.f191 = some (c191.erase, [.mov (.t 2)], 17) := by kernel_rfl
def spec_CodeWord (code_1 : Int) : Option Str :=
    ((if (decide (code_1 < 0)) then
    some true
    else
    some (decide (code_1 ≥ (20 : Int))) : Option Bool)).bind fun s12_4 =>
    if s12_4 then
    some []
    else
    if 0 ≤ code_1 ∧ code_1 < ([[111, 107], [98, 97, 100], [108, 111, 110, 103], [102, 111, 114, 109], [114, 97, 110, 103, 101], [110, 111, 110, 101], [109, 97, 110, 121], [102, 117, 108, 108], [116, 119, 105, 99, 101], [116, 121, 112, 101], [116, 97, 98, 108, 101], [99, 111, 108, 117, 109, 110], [117, 110, 105, 113, 117, 101], [114, 101, 102], [111, 119, 110, 101, 114], [119, 97, 105, 116], [97, 98, 111, 114, 116], [99, 108, 111, 115, 101, 100], [100, 101, 101, 112], [109, 101, 116, 104, 111, 100]].length : Int) then
    ([[111, 107], [98, 97, 100], [108, 111, 110, 103], [102, 111, 114, 109], [114, 97, 110, 103, 101], [110, 111, 110, 101], [109, 97, 110, 121], [102, 117, 108, 108], [116, 119, 105, 99, 101], [116, 121, 112, 101], [116, 97, 98, 108, 101], [99, 111, 108, 117, 109, 110], [117, 110, 105, 113, 117, 101], [114, 101, 102], [111, 119, 110, 101, 114], [119, 97, 105, 116], [97, 98, 111, 114, 116], [99, 108, 111, 115, 101, 100], [100, 101, 101, 112], [109, 101, 116, 104, 111, 100]][(0 + code_1.toNat)]?).bind fun x_10 =>
    some x_10
    else none
theorem w_spec_CodeWord (code_1 : Int) (r : Str) (hf : spec_CodeWord code_1 = some r) : CallOK Try.prog 191 .flat [(.int .i64 code_1)] (.str r) := by
 refine CallOK.of_awp mixed Try.func191 fc191 nle ?_; rw [argT_eq]; unfold spec_CodeWord at hf; unfold c191; refine (show awp Try.prog false 0 _ (ofL [(0, (.int .i64 code_1))]) [] _ from ?_); refine awp_seq <| w_reg <| s_mov (.str []) rfl <| w_done <| k_seq <| awp_seq <| w_reg <| ?_; refine s_do (o_bslice (j := 0) (as' := [(.str [111, 107]), (.str [98, 97, 100]), (.str [108, 111, 110, 103]), (.str [102, 111, 114, 109]), (.str [114, 97, 110, 103, 101]), (.str [110, 111, 110, 101]), (.str [109, 97, 110, 121]), (.str [102, 117, 108, 108]), (.str [116, 119, 105, 99, 101]), (.str [116, 121, 112, 101]), (.str [116, 97, 98, 108, 101]), (.str [99, 111, 108, 117, 109, 110]), (.str [117, 110, 105, 113, 117, 101]), (.str [114, 101, 102]), (.str [111, 119, 110, 101, 114]), (.str [119, 97, 105, 116]), (.str [97, 98, 111, 114, 116]), (.str [99, 108, 111, 115, 101, 100]), (.str [100, 101, 101, 112]), (.str [109, 101, 116, 104, 111, 100])]) rfl (fun _ => by decide) ⟨rfl, ⟨rfl, ⟨rfl, ⟨rfl, ⟨rfl, ⟨rfl, ⟨rfl, ⟨rfl, ⟨rfl, ⟨rfl, ⟨rfl, ⟨rfl, ⟨rfl, ⟨rfl, ⟨rfl, ⟨rfl, ⟨rfl, ⟨rfl, ⟨rfl, ⟨rfl, trivial⟩⟩⟩⟩⟩⟩⟩⟩⟩⟩⟩⟩⟩⟩⟩⟩⟩⟩⟩⟩ (.refl _) rfl rfl rfl) ?_
 refine s_mov (.own 0 0 20) rfl <| w_done <| k_seq <| awp_seq <| awp_seq <| ?_
 obtain ⟨s12_4, hb1, hf⟩ := ob hf
 refine awp_cut ([(0, (.int .i64 code_1)), (3, (.own 0 0 ([[111, 107], [98, 97, 100], [108, 111, 110, 103], [102, 111, 114, 109], [114, 97, 110, 103, 101], [110, 111, 110, 101], [109, 97, 110, 121], [102, 117, 108, 108], [116, 119, 105, 99, 101], [116, 121, 112, 101], [116, 97, 98, 108, 101], [99, 111, 108, 117, 109, 110], [117, 110, 105, 113, 117, 101], [114, 101, 102], [111, 119, 110, 101, 114], [119, 97, 105, 116], [97, 98, 111, 114, 116], [99, 108, 111, 115, 101, 100], [100, 101, 101, 112], [109, 101, 116, 104, 111, 100]].length))), (12, (.bool s12_4))], [.row 1 ([[111, 107], [98, 97, 100], [108, 111, 110, 103], [102, 111, 114, 109], [114, 97, 110, 103, 101], [110, 111, 110, 101], [109, 97, 110, 121], [102, 117, 108, 108], [116, 119, 105, 99, 101], [116, 121, 112, 101], [116, 97, 98, 108, 101], [99, 111, 108, 117, 109, 110], [117, 110, 105, 113, 117, 101], [114, 101, 102], [111, 119, 110, 101, 114], [119, 97, 105, 116], [97, 98, 111, 114, 116], [99, 108, 111, 115, 101, 100], [100, 101, 101, 112], [109, 101, 116, 104, 111, 100]].map AV.str)]) ?_ ?_
 ·refine w_reg ?_
  rcases oi hb1 with ⟨c6, hb1⟩ | ⟨c6, hb1⟩
  ·refine s_mov (.int .i64 code_1) rfl <| s_q (.bool (decide (code_1 < 0))) rfl rfl rfl <| s_mov (.bool (decide (code_1 < 0))) rfl <| s_lit (s := 7) (b := true) rfl c6 <| s_off rfl rfl <| s_off rfl rfl <| s_off rfl rfl <| s_off rfl rfl <| s_q (.bool true) rfl trivial rfl <| w_done <| ?_; obtain rfl := os hb1; exact ⟨[], [0], _, _, rfl, rfl, ⟨.refl _, ⟨.of_eq (congrArg (AV.own _ 0) (by simp)), ⟨.refl _, trivial⟩⟩⟩, (.refl _)⟩
  ·refine s_mov (.int .i64 code_1) rfl <| s_q (.bool (decide (code_1 < 0))) rfl rfl rfl <| s_mov (.bool (decide (code_1 < 0))) rfl <| s_lit (s := 7) (b := false) rfl (bf c6) <| s_on rfl <| s_mov (.int .i64 code_1) rfl <| s_on rfl <| s_mov (.own 0 0 20) rfl <| s_on rfl <| s_dof (o_lenown rfl rfl) fun hl7 => s_on rfl <| s_q (.bool (decide (code_1 ≥ (20 : Int)))) rfl rfl rfl <| s_q (.bool (decide (code_1 ≥ (20 : Int)))) rfl trivial rfl <| w_done <| ?_; obtain rfl := os hb1; exact ⟨[], [0], _, _, rfl, rfl, ⟨.refl _, ⟨.of_eq (congrArg (AV.own _ 0) (by simp)), ⟨.refl _, trivial⟩⟩⟩, (.refl _)⟩
 ·rcases oi hf with ⟨c8, hf⟩ | ⟨c8, hf⟩
  ·refine w_condt rfl c8 <| awp_seq <| w_reg <| s_mov (.str []) rfl <| w_done <| k_seq <| w_ret <| ?_; obtain rfl := os hf; exact r_flat ⟨trivial, trivial⟩ rfl (.refl _)
  ·refine w_condf rfl (bf c8) <| w_skip <| k_seq <| awp_seq <| w_reg <| ?_
   obtain ⟨g9, hf⟩ := og hf
   obtain ⟨x_10, ex11, hf⟩ := ob hf
   refine s_mov (.own 0 0 ([[111, 107], [98, 97, 100], [108, 111, 110, 103], [102, 111, 114, 109], [114, 97, 110, 103, 101], [110, 111, 110, 101], [109, 97, 110, 121], [102, 117, 108, 108], [116, 119, 105, 99, 101], [116, 121, 112, 101], [116, 97, 98, 108, 101], [99, 111, 108, 117, 109, 110], [117, 110, 105, 113, 117, 101], [114, 101, 102], [111, 119, 110, 101, 114], [119, 97, 105, 116], [97, 98, 111, 114, 116], [99, 108, 111, 115, 101, 100], [100, 101, 101, 112], [109, 101, 116, 104, 111, 100]].length)) rfl <| s_mov (.int .i64 code_1) rfl <| s_do (o_iaddrown rfl rfl g9.1 g9.2 rfl rfl) <| s_do (o_loadrow (enc := AV.str) (v := (.str x_10)) rfl rfl ex11 ⟨rfl, rfl⟩ rfl) <| s_mov (.str x_10) rfl <| w_done <| ?_
   refine k_seq <| w_ret <| ?_; obtain rfl := os hf; exact r_flat ⟨trivial, trivial⟩ rfl (.refl _)

/- spec.l13T -/
def c171 : ACode :=
 (.seq (.reg (tq 2 (.box 5 (.c (.agg [(.int .i64 0), (.int .i64 0), (.str []), .nil, .nil]))) .done))
 (.seq (.reg (tm 3 (.t 0) (tq 4 (.build [(.int .i64 0), (.int .i64 0), (.str []), .nil, .nil] [(0, 1, (.c (.int .i64 3))), (2, 1, (.t 3))]) (.q ⟨none, none, .store 5 (.t 2) (.t 4)⟩
 .done))))
 .ret))
theorem fc171 : fcomp Try.prog Try.f171 = some (c171.erase, [.load 5 true (.t 2)], 5) := by kernel_rfl
def spec_l13T (t_1 : Str) : Option GJson :=
    some (⟨3, 0, t_1, [], []⟩ : GJson)
theorem w_spec_l13T (t_1 : Str) (r : GJson) (hf : spec_l13T t_1 = some r) : CallOK Try.prog 171 .fresh [(.str t_1)] (encGJson r) := by
  refine CallOK.of_awp mixed Try.func171 fc171 nle ?_
  rw [argT_eq]
  unfold spec_l13T at hf
  unfold c171
  refine (show awp Try.prog true 0 _ (ofL [(0, (.str t_1))]) [] _ from ?_)
  refine awp_seq ?_
  refine w_reg ?_
  refine s_do (o_box (j := 0) (c := (.agg [(.int .i64 0), (.int .i64 0), (.str []), .nil, .nil])) rfl trivial rfl rfl) ?_
  refine w_done ?_
  refine k_seq ?_
  refine awp_seq ?_
  refine w_reg ?_
  refine s_do (o_mov (.str t_1) rfl) ?_
  refine s_do (o_q (.agg [(.int .i64 3), (.int .i64 0), (.str t_1), .nil, .nil]) rfl ⟨⟨rfl, nle, trivial⟩, ⟨⟨rfl, nle, trivial⟩, trivial⟩⟩ rfl) ?_
  refine s_do0 (o_storebox (v := (.agg [(.int .i64 3), (.int .i64 0), (.str t_1), .nil, .nil])) (y' := (.agg [(.int .i64 3), (.int .i64 0), (.str t_1), .nil, .nil])) rfl rfl rfl trivial ⟨rfl, nle⟩ ⟨⟨rfl, trivial⟩, ⟨⟨rfl, trivial⟩, ⟨⟨rfl, trivial⟩, ⟨⟨rfl, trivial⟩, ⟨⟨rfl, trivial⟩, trivial⟩⟩⟩⟩⟩ rfl) ?_
  refine w_done ?_
  refine k_seq ?_
  refine w_ret ?_
  obtain rfl := os hf
  exact r_fresh ⟨nle, trivial⟩ rfl (by decide) (leJ (x := (⟨3, 0, t_1, [], []⟩ : GJson)) (.agg (.cons (.refl _) (.cons (.refl _) (.cons (.refl _) (.cons (.nil _) (.cons (.nil _) .nil)))))))

/- spec.l13N -/
def c170 : ACode :=
 (.seq (.reg (tq 2 (.box 5 (.c (.agg [(.int .i64 0), (.int .i64 0), (.str []), .nil, .nil]))) .done))
 (.seq (.reg (tm 3 (.t 0) (tq 4 (.build [(.int .i64 0), (.int .i64 0), (.str []), .nil, .nil] [(0, 1, (.c (.int .i64 2))), (1, 1, (.t 3))]) (.q ⟨none, none, .store 5 (.t 2) (.t 4)⟩
 .done))))
 .ret))
theorem fc170 : fcomp Try.prog Try.f170 = some (c170.erase, [.load 5 true (.t 2)], 5) := by kernel_rfl
def spec_l13N (n_1 : Int) : Option GJson :=
    some (⟨2, n_1, [], [], []⟩ : GJson)
theorem w_spec_l13N (n_1 : Int) (r : GJson) (hf : spec_l13N n_1 = some r) : CallOK Try.prog 170 .fresh [(.int .i64 n_1)] (encGJson r) := by
  refine CallOK.of_awp mixed Try.func170 fc170 nle ?_
  rw [argT_eq]
  unfold spec_l13N at hf
  unfold c170
  refine (show awp Try.prog true 0 _ (ofL [(0, (.int .i64 n_1))]) [] _ from ?_)
  refine awp_seq ?_
  refine w_reg ?_
  refine s_do (o_box (j := 0) (c := (.agg [(.int .i64 0), (.int .i64 0), (.str []), .nil, .nil])) rfl trivial rfl rfl) ?_
  refine w_done ?_
  refine k_seq ?_
  refine awp_seq ?_
  refine w_reg ?_
  refine s_do (o_mov (.int .i64 n_1) rfl) ?_
  refine s_do (o_q (.agg [(.int .i64 2), (.int .i64 n_1), (.str []), .nil, .nil]) rfl ⟨⟨rfl, nle, trivial⟩, ⟨⟨rfl, nle, trivial⟩, trivial⟩⟩ rfl) ?_
  refine s_do0 (o_storebox (v := (.agg [(.int .i64 2), (.int .i64 n_1), (.str []), .nil, .nil])) (y' := (.agg [(.int .i64 2), (.int .i64 n_1), (.str []), .nil, .nil])) rfl rfl rfl trivial ⟨rfl, nle⟩ ⟨⟨rfl, trivial⟩, ⟨⟨rfl, trivial⟩, ⟨⟨rfl, trivial⟩, ⟨⟨rfl, trivial⟩, ⟨⟨rfl, trivial⟩, trivial⟩⟩⟩⟩⟩ rfl) ?_
  refine w_done ?_
  refine k_seq ?_
  refine w_ret ?_
  obtain rfl := os hf
  exact r_fresh ⟨nle, trivial⟩ rfl (by decide) (leJ (x := (⟨2, n_1, [], [], []⟩ : GJson)) (.agg (.cons (.refl _) (.cons (.refl _) (.cons (.refl _) (.cons (.nil _) (.cons (.nil _) .nil)))))))

/- spec.l13O -/
def c192 : ACode :=
 (.seq (.reg (tq 4 (.box 5 (.c (.agg [(.int .i64 0), (.int .i64 0), (.str []), .nil, .nil]))) .done))
 (.seq (.reg (tq 8 (.build [(.int .i64 0), (.int .i64 0), (.str []), .nil, .nil] [(0, 1, (.c (.int .i64 5)))]) (tq 5 (.box 5 (.c (.agg [(.int .i64 0), (.int .i64 0), (.str []), .nil, .nil]))) (.q ⟨none, none, .store 5 (.t 5) (.t 8)⟩
 .done))))
 (.seq (.seq (.reg (tm 6 (.c (.int .i64 0)) .done))
 (.block 0 (.loop (.seq (.seq (.reg (tm 9 (.t 6) (tm 10 (.t 0) (tq 11 (.len (.t 10)) (tq 12 (.bin .lss (.t 9) (.t 11)) .done)))))
 (.cond (.t 12) .skip
 (.exit 0)))
 (.seq (.block 1 (.seq (.reg (tm 7 (.c (.int .i64 0)) .done))
 (.seq (.block 2 (.loop (.seq (.seq (.reg (tm 15 (.t 7) (tq 16 (.faddr 3 (.t 5)) (tq 17 (.load 1 false (.t 16)) (tq 18 (.len (.t 17)) (tq 19 (.bin .lss (.t 15) (.t 18)) (tm 20 (.t 19) (tg 21 20 true (.faddr 3 (.t 5)) (tg 22 20 true (.load 1 false (.t 21)) (tg 23 20 true (.mov (.t 7)) (tg 24 20 true (.iaddr 1 (.t 22) (.t 23)) (tg 25 20 true (.load 1 false (.t 24)) (tg 26 20 true (.mov (.t 0)) (tg 27 20 true (.mov (.t 6)) (tg 28 20 true (.iaddr 1 (.t 26) (.t 27)) (tg 29 20 true (.load 1 false (.t 28)) (tg 30 20 true (.bin .lss (.t 25) (.t 29)) (tq 31 (.pick (.t 20) (.t 30) (.c (.bool false))) .done))))))))))))))))))
 (.cut (.cond (.t 31) .skip
 (.exit 2))))
 (.block 3 (.reg (tm 32 (.t 7) (tq 33 (.bin .add (.t 32) (.c (.int .i64 1))) (tm 7 (.t 33) .done))))))))
 (.cut (.seq (.seq (.reg (tm 34 (.t 7) (tq 35 (.faddr 3 (.t 5)) (tq 36 (.load 1 false (.t 35)) (tq 37 (.len (.t 36)) (tq 38 (.bin .lss (.t 34) (.t 37)) (tm 39 (.t 38) (tg 40 39 true (.faddr 3 (.t 5)) (tg 41 39 true (.load 1 false (.t 40)) (tg 42 39 true (.mov (.t 7)) (tg 43 39 true (.iaddr 1 (.t 41) (.t 42)) (tg 44 39 true (.load 1 false (.t 43)) (tg 45 39 true (.mov (.t 0)) (tg 46 39 true (.mov (.t 6)) (tg 47 39 true (.iaddr 1 (.t 45) (.t 46)) (tg 48 39 true (.load 1 false (.t 47)) (tg 49 39 true (.bin .eql (.t 44) (.t 48)) (tq 50 (.pick (.t 39) (.t 49) (.c (.bool false))) .done))))))))))))))))))
 (.cut (.cond (.t 50) (.seq (.reg (tq 51 (.faddr 4 (.t 5)) (tq 52 (.load 1 false (.t 51)) (tm 53 (.t 7) (tm 54 (.t 1) (tm 55 (.t 6) (tq 56 (.iaddr 5 (.t 54) (.t 55)) (tq 57 (.load 5 true (.t 56)) (tq 58 (.iaddr 5 (.t 52) (.t 53)) (.l ⟨none, none, .store 5 (.t 58) (.t 57)⟩ []
 .done .non))))))))))
 (.exit 1))
 .skip)))
 (.seq (.reg (tq 60 (.faddr 3 (.t 5)) (tq 61 (.load 1 false (.t 60)) (tm 62 (.t 7) (tq 63 (.slice 1 (.t 61) none (some (.t 62))) (tm 65 (.t 0) (tm 66 (.t 6) (tq 67 (.iaddr 1 (.t 65) (.t 66)) (tq 68 (.load 1 false (.t 67)) (tq 71 (.faddr 3 (.t 5)) (tq 72 (.load 1 false (.t 71)) (tm 73 (.t 7) (tq 74 (.slice 1 (.t 72) (some (.t 73)) none) (.l ⟨(some 59), none, .bslice 1 []⟩ [⟨(some 74), none, .slice 1 (.t 72) (some (.t 73)) none⟩, ⟨(some 72), none, .load 1 false (.t 71)⟩, ⟨(some 71), none, .faddr 3 (.t 5)⟩, ⟨(some 68), none, .load 1 false (.t 67)⟩, ⟨(some 67), none, .iaddr 1 (.t 65) (.t 66)⟩, ⟨(some 63), none, .slice 1 (.t 61) none (some (.t 62))⟩, ⟨(some 61), none, .load 1 false (.t 60)⟩, ⟨(some 60), none, .faddr 3 (.t 5)⟩]
 (.l ⟨(some 64), none, .append 1 16 (.t 59) (.t 63)⟩ [⟨(some 74), none, .slice 1 (.t 72) (some (.t 73)) none⟩, ⟨(some 72), none, .load 1 false (.t 71)⟩, ⟨(some 71), none, .faddr 3 (.t 5)⟩, ⟨(some 68), none, .load 1 false (.t 67)⟩, ⟨(some 67), none, .iaddr 1 (.t 65) (.t 66)⟩]
 (.l ⟨(some 69), none, .bslice 1 [(.t 68)]⟩ [⟨(some 74), none, .slice 1 (.t 72) (some (.t 73)) none⟩, ⟨(some 72), none, .load 1 false (.t 71)⟩, ⟨(some 71), none, .faddr 3 (.t 5)⟩, ⟨(some 63), none, .slice 1 (.t 61) none (some (.t 62))⟩, ⟨(some 61), none, .load 1 false (.t 60)⟩, ⟨(some 60), none, .faddr 3 (.t 5)⟩]
 (.l ⟨(some 70), none, .append 1 16 (.t 64) (.t 69)⟩ [⟨(some 74), none, .slice 1 (.t 72) (some (.t 73)) none⟩, ⟨(some 72), none, .load 1 false (.t 71)⟩, ⟨(some 71), none, .faddr 3 (.t 5)⟩]
 (.l ⟨(some 75), none, .append 1 16 (.t 70) (.t 74)⟩ []
 (tq 76 (.faddr 3 (.t 5)) (.l ⟨none, none, .store 1 (.t 76) (.t 75)⟩ []
 .done .non)) .non) .non) .non) (.l ⟨(some 69), none, .bslice 1 [(.t 68)]⟩ [⟨(some 74), none, .slice 1 (.t 72) (some (.t 73)) none⟩, ⟨(some 72), none, .load 1 false (.t 71)⟩, ⟨(some 71), none, .faddr 3 (.t 5)⟩, ⟨(some 63), none, .slice 1 (.t 61) none (some (.t 62))⟩, ⟨(some 61), none, .load 1 false (.t 60)⟩, ⟨(some 60), none, .faddr 3 (.t 5)⟩]
 (.l ⟨(some 64), none, .append 1 16 (.t 59) (.t 63)⟩ [⟨(some 74), none, .slice 1 (.t 72) (some (.t 73)) none⟩, ⟨(some 72), none, .load 1 false (.t 71)⟩, ⟨(some 71), none, .faddr 3 (.t 5)⟩, ⟨(some 68), none, .load 1 false (.t 67)⟩, ⟨(some 67), none, .iaddr 1 (.t 65) (.t 66)⟩]
 (.l ⟨(some 70), none, .append 1 16 (.t 64) (.t 69)⟩ [⟨(some 74), none, .slice 1 (.t 72) (some (.t 73)) none⟩, ⟨(some 72), none, .load 1 false (.t 71)⟩, ⟨(some 71), none, .faddr 3 (.t 5)⟩]
 (.l ⟨(some 75), none, .append 1 16 (.t 70) (.t 74)⟩ []
 (tq 76 (.faddr 3 (.t 5)) (.l ⟨none, none, .store 1 (.t 76) (.t 75)⟩ []
 .done .non)) .non) .non) .non) .non)) (.l ⟨(some 69), none, .bslice 1 [(.t 68)]⟩ [⟨(some 74), none, .slice 1 (.t 72) (some (.t 73)) none⟩, ⟨(some 72), none, .load 1 false (.t 71)⟩, ⟨(some 71), none, .faddr 3 (.t 5)⟩, ⟨(some 63), none, .slice 1 (.t 61) none (some (.t 62))⟩, ⟨(some 61), none, .load 1 false (.t 60)⟩, ⟨(some 60), none, .faddr 3 (.t 5)⟩]
 (.l ⟨(some 59), none, .bslice 1 []⟩ [⟨(some 74), none, .slice 1 (.t 72) (some (.t 73)) none⟩, ⟨(some 72), none, .load 1 false (.t 71)⟩, ⟨(some 71), none, .faddr 3 (.t 5)⟩, ⟨(some 68), none, .load 1 false (.t 67)⟩, ⟨(some 67), none, .iaddr 1 (.t 65) (.t 66)⟩, ⟨(some 63), none, .slice 1 (.t 61) none (some (.t 62))⟩, ⟨(some 61), none, .load 1 false (.t 60)⟩, ⟨(some 60), none, .faddr 3 (.t 5)⟩]
 (.l ⟨(some 64), none, .append 1 16 (.t 59) (.t 63)⟩ [⟨(some 74), none, .slice 1 (.t 72) (some (.t 73)) none⟩, ⟨(some 72), none, .load 1 false (.t 71)⟩, ⟨(some 71), none, .faddr 3 (.t 5)⟩, ⟨(some 68), none, .load 1 false (.t 67)⟩, ⟨(some 67), none, .iaddr 1 (.t 65) (.t 66)⟩]
 (.l ⟨(some 70), none, .append 1 16 (.t 64) (.t 69)⟩ [⟨(some 74), none, .slice 1 (.t 72) (some (.t 73)) none⟩, ⟨(some 72), none, .load 1 false (.t 71)⟩, ⟨(some 71), none, .faddr 3 (.t 5)⟩]
 (.l ⟨(some 75), none, .append 1 16 (.t 70) (.t 74)⟩ []
 (tq 76 (.faddr 3 (.t 5)) (.l ⟨none, none, .store 1 (.t 76) (.t 75)⟩ []
 .done .non)) .non) .non) .non) .non) .non)))))))))))))))
 (.cut (.reg (tq 78 (.faddr 4 (.t 5)) (tq 79 (.load 1 false (.t 78)) (tm 80 (.t 7) (tq 81 (.slice 5 (.t 79) none (some (.t 80))) (tm 83 (.t 1) (tm 84 (.t 6) (tq 85 (.iaddr 5 (.t 83) (.t 84)) (tq 86 (.load 5 true (.t 85)) (tq 89 (.faddr 4 (.t 5)) (tq 90 (.load 1 false (.t 89)) (tm 91 (.t 7) (tq 92 (.slice 5 (.t 90) (some (.t 91)) none) (.l ⟨(some 77), none, .bslice 5 []⟩ [⟨(some 92), none, .slice 5 (.t 90) (some (.t 91)) none⟩, ⟨(some 90), none, .load 1 false (.t 89)⟩, ⟨(some 89), none, .faddr 4 (.t 5)⟩, ⟨(some 86), none, .load 5 true (.t 85)⟩, ⟨(some 85), none, .iaddr 5 (.t 83) (.t 84)⟩, ⟨(some 81), none, .slice 5 (.t 79) none (some (.t 80))⟩, ⟨(some 79), none, .load 1 false (.t 78)⟩, ⟨(some 78), none, .faddr 4 (.t 5)⟩]
 (.l ⟨(some 82), none, .append 5 80 (.t 77) (.t 81)⟩ [⟨(some 92), none, .slice 5 (.t 90) (some (.t 91)) none⟩, ⟨(some 90), none, .load 1 false (.t 89)⟩, ⟨(some 89), none, .faddr 4 (.t 5)⟩, ⟨(some 86), none, .load 5 true (.t 85)⟩, ⟨(some 85), none, .iaddr 5 (.t 83) (.t 84)⟩]
 (.l ⟨(some 87), none, .bslice 5 [(.t 86)]⟩ [⟨(some 92), none, .slice 5 (.t 90) (some (.t 91)) none⟩, ⟨(some 90), none, .load 1 false (.t 89)⟩, ⟨(some 89), none, .faddr 4 (.t 5)⟩, ⟨(some 81), none, .slice 5 (.t 79) none (some (.t 80))⟩, ⟨(some 79), none, .load 1 false (.t 78)⟩, ⟨(some 78), none, .faddr 4 (.t 5)⟩]
 (.l ⟨(some 88), none, .append 5 80 (.t 82) (.t 87)⟩ [⟨(some 92), none, .slice 5 (.t 90) (some (.t 91)) none⟩, ⟨(some 90), none, .load 1 false (.t 89)⟩, ⟨(some 89), none, .faddr 4 (.t 5)⟩]
 (.l ⟨(some 93), none, .append 5 80 (.t 88) (.t 92)⟩ []
 (tq 94 (.faddr 4 (.t 5)) (.l ⟨none, none, .store 1 (.t 94) (.t 93)⟩ []
 .done .non)) .non) .non) .non) (.l ⟨(some 87), none, .bslice 5 [(.t 86)]⟩ [⟨(some 92), none, .slice 5 (.t 90) (some (.t 91)) none⟩, ⟨(some 90), none, .load 1 false (.t 89)⟩, ⟨(some 89), none, .faddr 4 (.t 5)⟩, ⟨(some 81), none, .slice 5 (.t 79) none (some (.t 80))⟩, ⟨(some 79), none, .load 1 false (.t 78)⟩, ⟨(some 78), none, .faddr 4 (.t 5)⟩]
 (.l ⟨(some 82), none, .append 5 80 (.t 77) (.t 81)⟩ [⟨(some 92), none, .slice 5 (.t 90) (some (.t 91)) none⟩, ⟨(some 90), none, .load 1 false (.t 89)⟩, ⟨(some 89), none, .faddr 4 (.t 5)⟩, ⟨(some 86), none, .load 5 true (.t 85)⟩, ⟨(some 85), none, .iaddr 5 (.t 83) (.t 84)⟩]
 (.l ⟨(some 88), none, .append 5 80 (.t 82) (.t 87)⟩ [⟨(some 92), none, .slice 5 (.t 90) (some (.t 91)) none⟩, ⟨(some 90), none, .load 1 false (.t 89)⟩, ⟨(some 89), none, .faddr 4 (.t 5)⟩]
 (.l ⟨(some 93), none, .append 5 80 (.t 88) (.t 92)⟩ []
 (tq 94 (.faddr 4 (.t 5)) (.l ⟨none, none, .store 1 (.t 94) (.t 93)⟩ []
 .done .non)) .non) .non) .non) .non)) (.l ⟨(some 87), none, .bslice 5 [(.t 86)]⟩ [⟨(some 92), none, .slice 5 (.t 90) (some (.t 91)) none⟩, ⟨(some 90), none, .load 1 false (.t 89)⟩, ⟨(some 89), none, .faddr 4 (.t 5)⟩, ⟨(some 81), none, .slice 5 (.t 79) none (some (.t 80))⟩, ⟨(some 79), none, .load 1 false (.t 78)⟩, ⟨(some 78), none, .faddr 4 (.t 5)⟩]
 (.l ⟨(some 77), none, .bslice 5 []⟩ [⟨(some 92), none, .slice 5 (.t 90) (some (.t 91)) none⟩, ⟨(some 90), none, .load 1 false (.t 89)⟩, ⟨(some 89), none, .faddr 4 (.t 5)⟩, ⟨(some 86), none, .load 5 true (.t 85)⟩, ⟨(some 85), none, .iaddr 5 (.t 83) (.t 84)⟩, ⟨(some 81), none, .slice 5 (.t 79) none (some (.t 80))⟩, ⟨(some 79), none, .load 1 false (.t 78)⟩, ⟨(some 78), none, .faddr 4 (.t 5)⟩]
 (.l ⟨(some 82), none, .append 5 80 (.t 77) (.t 81)⟩ [⟨(some 92), none, .slice 5 (.t 90) (some (.t 91)) none⟩, ⟨(some 90), none, .load 1 false (.t 89)⟩, ⟨(some 89), none, .faddr 4 (.t 5)⟩, ⟨(some 86), none, .load 5 true (.t 85)⟩, ⟨(some 85), none, .iaddr 5 (.t 83) (.t 84)⟩]
 (.l ⟨(some 88), none, .append 5 80 (.t 82) (.t 87)⟩ [⟨(some 92), none, .slice 5 (.t 90) (some (.t 91)) none⟩, ⟨(some 90), none, .load 1 false (.t 89)⟩, ⟨(some 89), none, .faddr 4 (.t 5)⟩]
 (.l ⟨(some 93), none, .append 5 80 (.t 88) (.t 92)⟩ []
 (tq 94 (.faddr 4 (.t 5)) (.l ⟨none, none, .store 1 (.t 94) (.t 93)⟩ []
 .done .non)) .non) .non) .non) .non) .non))))))))))))))))))))))
 (.reg (tm 13 (.t 6) (tq 14 (.bin .add (.t 13) (.c (.int .i64 1))) (tm 6 (.t 14) .done)))))))))
 (.cut (.seq (.reg (tq 95 (.load 5 true (.t 5)) (.q ⟨none, none, .store 5 (.t 4) (.t 95)⟩
 .done)))
 .ret)))))
theorem fc192 : fcomp Try.prog Try.f192 = some (c192.erase, [.load 5 true (.t 4)], 96) := by kernel_rfl
def spec_l13O_L2 (x_266 : (List Str)) (x_399 : Str) : Nat → Int → Option Int
  | 0, _ => none
  | k + 1, k_429 =>
    ((if (decide (k_429 < (x_266.length : Int))) then
    if 0 ≤ k_429 ∧ k_429 < (x_266.length : Int) then
    (x_266[(0 + k_429.toNat)]?).bind fun x_455 =>
    some (Op.bytesLess x_455 x_399)
    else none
    else
    some false : Option Bool)).bind fun s31_450 =>
    if s31_450 then
    spec_l13O_L2 x_266 x_399 k (w64 (k_429 + 1))
    else
    some k_429

def spec_l13O_L1 (items_2 : (List GJson)) : List Str → Nat → (List Str) → (List GJson) → (List Str) → (List GJson) → Option ((List Str) × (List GJson) × (List Str) × (List GJson))
  | [], i_263, x_264, x_265, x_266, x_267 =>
    some (x_264, x_265, x_266, x_267)
  | x_399 :: xs, i_263, x_264, x_265, x_266, x_267 =>
    (spec_l13O_L2 x_266 x_399 FUEL 0).bind fun k_443 =>
    ((if (decide (k_443 < (x_266.length : Int))) then
    if 0 ≤ k_443 ∧ k_443 < (x_266.length : Int) then
    (x_266[(0 + k_443.toNat)]?).bind fun x_468 =>
    some (x_468 == x_399)
    else none
    else
    some false : Option Bool)).bind fun s50_463 =>
    if s50_463 then
    (idx items_2 (i_263 : Int)).bind fun x_471 =>
    if 0 ≤ k_443 ∧ k_443 < (x_267.length : Int) then
    (x_267[(0 + k_443.toNat)]?).bind fun x_474 =>
    spec_l13O_L1 items_2 xs (i_263 + 1) x_264 x_265 x_266 (x_267.set (0 + k_443.toNat) x_471)
    else none
    else
    ((if 0 ≤ k_443 ∧ k_443 ≤ (x_266.length : Int) then
    if 0 ≤ k_443 ∧ k_443 ≤ (x_266.length : Int) then
    if ([] ++ (x_266.take k_443.toNat)).length ≤ 2 ^ 30 then
    if (([] ++ (x_266.take k_443.toNat)) ++ [x_399]).length ≤ 2 ^ 30 then
    if ((([] ++ (x_266.take k_443.toNat)) ++ [x_399]) ++ ((x_266.drop k_443.toNat).take (x_266.length - k_443.toNat))).length ≤ 2 ^ 30 then
    some ()
    else none
    else none
    else none
    else none
    else none : Option Unit)).bind fun _ =>
    if 0 ≤ k_443 ∧ k_443 ≤ (x_267.length : Int) then
    (idx items_2 (i_263 : Int)).bind fun x_488 =>
    if 0 ≤ k_443 ∧ k_443 ≤ (x_267.length : Int) then
    if ([] ++ (x_267.take k_443.toNat)).length ≤ 2 ^ 30 then
    if (([] ++ (x_267.take k_443.toNat)) ++ [x_488]).length ≤ 2 ^ 30 then
    if ((([] ++ (x_267.take k_443.toNat)) ++ [x_488]) ++ ((x_267.drop k_443.toNat).take (x_267.length - k_443.toNat))).length ≤ 2 ^ 30 then
    spec_l13O_L1 items_2 xs (i_263 + 1) x_264 x_265 ((([] ++ (x_266.take k_443.toNat)) ++ [x_399]) ++ ((x_266.drop k_443.toNat).take (x_266.length - k_443.toNat))) ((([] ++ (x_267.take k_443.toNat)) ++ [x_488]) ++ ((x_267.drop k_443.toNat).take (x_267.length - k_443.toNat)))
    else none
    else none
    else none
    else none
    else none

def spec_l13O (keys_1 : (List Str)) (items_2 : (List GJson)) : Option GJson :=
    (spec_l13O_L1 items_2 keys_1 0 [] [] [] []).bind fun p392 =>
    (match p392 with
    | (x_388, x_389, x_390, x_391) =>
    some (⟨5, 0, [], x_390, x_391⟩ : GJson))
theorem w_spec_l13O (keys_1 : (List Str)) (items_2 : (List GJson)) (r : GJson) (hf : spec_l13O keys_1 items_2 = some r) : CallOK Try.prog 192 .weak [(.lst 1 (keys_1.map AV.str)), (.lst 5 (items_2.map encGJson))] (encGJson r) := by
 refine CallOK.of_awp mixed Try.func192 fc192 nle ?_; rw [argT_eq]; unfold spec_l13O at hf; unfold c192; refine (show awp Try.prog false 0 _ (ofL [(0, (.lst 1 (keys_1.map AV.str))), (1, (.lst 5 (items_2.map encGJson)))]) [] _ from ?_); refine awp_seq <| w_reg <| s_do (o_box (j := 0) (c := (.agg [(.int .i64 0), (.int .i64 0), (.str []), .nil, .nil])) rfl trivial rfl rfl) <| w_done <| k_seq <| awp_seq <| w_reg <| s_q (.agg [(.int .i64 5), (.int .i64 0), (.str []), .nil, .nil]) rfl ⟨⟨rfl, nle, trivial⟩, trivial⟩ rfl <| s_do (o_box (j := 1) (c := (.agg [(.int .i64 0), (.int .i64 0), (.str []), .nil, .nil])) rfl trivial rfl rfl) <| s_do0 (o_storebox (v := (.agg [(.int .i64 5), (.int .i64 0), (.str []), .nil, .nil])) (y' := (.agg [(.int .i64 5), (.int .i64 0), (.str []), .nil, .nil])) rfl rfl rfl trivial ⟨rfl, nle⟩ ⟨⟨rfl, trivial⟩, ⟨⟨rfl, trivial⟩, ⟨⟨rfl, trivial⟩, ⟨⟨rfl, trivial⟩, ⟨⟨rfl, trivial⟩, trivial⟩⟩⟩⟩⟩ rfl) <| ?_
 refine w_done <| k_seq <| awp_seq <| awp_seq <| w_reg <| s_mov (.int .i64 0) rfl <| w_done <| k_seq <| ?_
 obtain ⟨p392, hb1, hf⟩ := ob hf
 refine awp_cut ([(4, (.ptr 0 0 0)), (5, (.ptr 1 0 0))], [.box 5 (.agg [(.int .i64 0), (.int .i64 0), (.str []), (.own 2 0 p392.1.length), (.own 3 0 p392.2.1.length)]), .box 5 (.agg [(.int .i64 5), (.int .i64 0), (.str []), (.own 4 0 p392.2.2.1.length), (.own 5 0 p392.2.2.2.length)]), .row 1 (p392.1.map AV.str), .row 5 (p392.2.1.map encGJson), .row 1 (p392.2.2.1.map AV.str), .row 5 (p392.2.2.2.map encGJson)]) ?_ ?_
 ·refine awp_loop (X := {q : (Nat × (List Str) × (List GJson) × (List Str) × (List GJson)) // spec_l13O_L1 items_2 (keys_1.drop q.1) q.1 q.2.1 q.2.2.1 q.2.2.2.1 q.2.2.2.2 = some p392}) (fun q => ([(0, (.lst 1 (keys_1.map AV.str))), (1, (.lst 5 (items_2.map encGJson))), (4, (.ptr 0 0 0)), (5, (.ptr 1 0 0)), (6, (.int .i64 (q.1.1 : Int)))], [.box 5 (.agg [(.int .i64 0), (.int .i64 0), (.str []), (.own 2 0 q.1.2.1.length), (.own 3 0 q.1.2.2.1.length)]), .box 5 (.agg [(.int .i64 5), (.int .i64 0), (.str []), (.own 4 0 q.1.2.2.2.1.length), (.own 5 0 q.1.2.2.2.2.length)]), .row 1 (q.1.2.1.map AV.str), .row 5 (q.1.2.2.1.map encGJson), .row 1 (q.1.2.2.2.1.map AV.str), .row 5 (q.1.2.2.2.2.map encGJson)])) (fun q => keys_1.length - q.1.1) ⟨(0, [], [], [], []), hb1⟩ ⟨[.nilC 0 3 1, .nilC 0 4 5, .nilC 1 3 1, .nilC 1 4 5], [0, 1, 2, 3, 4, 5], _, _, rfl, rfl, ⟨.refl _, ⟨.refl _, ⟨.refl _, ⟨.refl _, ⟨.refl _, trivial⟩⟩⟩⟩⟩, (.refl _)⟩ ?_
  rintro ⟨⟨i_263, x_264, x_265, x_266, x_267⟩, hc1⟩
  have hc1 : spec_l13O_L1 items_2 (keys_1.drop i_263) i_263 x_264 x_265 x_266 x_267 = some p392 := hc1
  refine (show awp Try.prog false 0 _ (ofL [(0, (.lst 1 (keys_1.map AV.str))), (1, (.lst 5 (items_2.map encGJson))), (4, (.ptr 0 0 0)), (5, (.ptr 1 0 0)), (6, (.int .i64 (i_263 : Int)))]) [.box 5 (.agg [(.int .i64 0), (.int .i64 0), (.str []), (.own 2 0 x_264.length), (.own 3 0 x_265.length)]), .box 5 (.agg [(.int .i64 5), (.int .i64 0), (.str []), (.own 4 0 x_266.length), (.own 5 0 x_267.length)]), .row 1 (x_264.map AV.str), .row 5 (x_265.map encGJson), .row 1 (x_266.map AV.str), .row 5 (x_267.map encGJson)] _ from ?_)
  rcases dropc keys_1 i_263 with ⟨hie395, hd398⟩ | ⟨hlt393, x_399, hx394, hd398⟩
  ·rw [hd398, spec_l13O_L1.eq_1] at hc1
   have hq397 := dlf hie395
   refine awp_seq <| awp_seq <| w_reg <| s_mov (.int .i64 (i_263 : Int)) rfl <| s_mov (.lst 1 (keys_1.map AV.str)) rfl <| s_dof (o_len (enc := AV.str) rfl) fun hl400 => s_q (.bool (decide ((i_263 : Int) < (keys_1.length : Int)))) rfl rfl rfl <| w_done <| k_seq <| w_condf rfl hq397 <| w_exit <| k_seqx <| k_loopx <| k_blkx <| ?_; obtain rfl := os hc1; exact ⟨[], [0, 1, 2, 3, 4, 5], _, _, rfl, rfl, ⟨.refl _, ⟨.refl _, trivial⟩⟩, (.refl _)⟩
  ·rw [hd398, spec_l13O_L1.eq_2] at hc1
   have hq397 := dlt hlt393
   refine awp_seq <| awp_seq <| w_reg <| s_mov (.int .i64 (i_263 : Int)) rfl <| s_mov (.lst 1 (keys_1.map AV.str)) rfl <| s_dof (o_len (enc := AV.str) rfl) fun hl401 => s_q (.bool (decide ((i_263 : Int) < (keys_1.length : Int)))) rfl rfl rfl <| w_done <| k_seq <| w_condt rfl hq397 <| w_skip <| k_seq <| awp_seq <| w_blk <| awp_seq <| w_reg <| s_mov (.int .i64 0) rfl <| w_done <| k_seq <| awp_seq <| ?_
   obtain ⟨k_443, hb2, hc1⟩ := ob hc1
   refine awp_cut ([(0, (.lst 1 (keys_1.map AV.str))), (1, (.lst 5 (items_2.map encGJson))), (4, (.ptr 0 0 0)), (5, (.ptr 1 0 0)), (6, (.int .i64 (i_263 : Int))), (7, (.int .i64 k_443))], [.box 5 (.agg [(.int .i64 0), (.int .i64 0), (.str []), (.own 2 0 x_264.length), (.own 3 0 x_265.length)]), .box 5 (.agg [(.int .i64 5), (.int .i64 0), (.str []), (.own 4 0 x_266.length), (.own 5 0 x_267.length)]), .row 1 (x_264.map AV.str), .row 5 (x_265.map encGJson), .row 1 (x_266.map AV.str), .row 5 (x_267.map encGJson)]) ?_ ?_
   ·refine awp_loop (X := {q : (Nat × Int) // spec_l13O_L2 x_266 x_399 q.1 q.2 = some k_443}) (fun q => ([(0, (.lst 1 (keys_1.map AV.str))), (1, (.lst 5 (items_2.map encGJson))), (4, (.ptr 0 0 0)), (5, (.ptr 1 0 0)), (6, (.int .i64 (i_263 : Int))), (7, (.int .i64 q.1.2))], [.box 5 (.agg [(.int .i64 0), (.int .i64 0), (.str []), (.own 2 0 x_264.length), (.own 3 0 x_265.length)]), .box 5 (.agg [(.int .i64 5), (.int .i64 0), (.str []), (.own 4 0 x_266.length), (.own 5 0 x_267.length)]), .row 1 (x_264.map AV.str), .row 5 (x_265.map encGJson), .row 1 (x_266.map AV.str), .row 5 (x_267.map encGJson)])) (fun q => q.1.1) ⟨(FUEL, 0), hb2⟩ ⟨[], [0, 1, 2, 3, 4, 5], _, _, rfl, rfl, ⟨.refl _, ⟨.refl _, ⟨.refl _, ⟨.refl _, ⟨.refl _, ⟨.refl _, trivial⟩⟩⟩⟩⟩⟩, (.refl _)⟩ ?_
    rintro ⟨⟨k, k_429⟩, hc2⟩
    have hc2 : spec_l13O_L2 x_266 x_399 k k_429 = some k_443 := hc2
    refine (show awp Try.prog false 0 _ (ofL [(0, (.lst 1 (keys_1.map AV.str))), (1, (.lst 5 (items_2.map encGJson))), (4, (.ptr 0 0 0)), (5, (.ptr 1 0 0)), (6, (.int .i64 (i_263 : Int))), (7, (.int .i64 k_429))]) [.box 5 (.agg [(.int .i64 0), (.int .i64 0), (.str []), (.own 2 0 x_264.length), (.own 3 0 x_265.length)]), .box 5 (.agg [(.int .i64 5), (.int .i64 0), (.str []), (.own 4 0 x_266.length), (.own 5 0 x_267.length)]), .row 1 (x_264.map AV.str), .row 5 (x_265.map encGJson), .row 1 (x_266.map AV.str), .row 5 (x_267.map encGJson)] _ from ?_)
    rcases k with _ | k
    ·rw [spec_l13O_L2.eq_1] at hc2
     cases hc2
    ·rw [spec_l13O_L2.eq_2] at hc2; refine awp_seq <| awp_seq <| ?_
     obtain ⟨s31_450, hb3, hc2⟩ := ob hc2
     refine awp_cut ([(0, (.lst 1 (keys_1.map AV.str))), (1, (.lst 5 (items_2.map encGJson))), (4, (.ptr 0 0 0)), (5, (.ptr 1 0 0)), (6, (.int .i64 (i_263 : Int))), (7, (.int .i64 k_429)), (31, (.bool s31_450))], [.box 5 (.agg [(.int .i64 0), (.int .i64 0), (.str []), (.own 2 0 x_264.length), (.own 3 0 x_265.length)]), .box 5 (.agg [(.int .i64 5), (.int .i64 0), (.str []), (.own 4 0 x_266.length), (.own 5 0 x_267.length)]), .row 1 (x_264.map AV.str), .row 5 (x_265.map encGJson), .row 1 (x_266.map AV.str), .row 5 (x_267.map encGJson)]) ?_ ?_
     ·refine w_reg <| s_mov (.int .i64 k_429) rfl <| s_q (.ptr 1 0 3) rfl trivial rfl <| s_q (.own 4 0 x_266.length) rfl nle rfl <| s_dof (o_lenown rfl rfl) fun hl452 => s_q (.bool (decide (k_429 < (x_266.length : Int)))) rfl rfl rfl <| s_mov (.bool (decide (k_429 < (x_266.length : Int)))) rfl <| ?_
      rcases oi hb3 with ⟨c453, hb3⟩ | ⟨c453, hb3⟩
      ·refine s_lit (s := 20) (b := true) rfl c453 <| s_on rfl <| s_q (.ptr 1 0 3) rfl trivial rfl <| s_on rfl <| s_q (.own 4 0 x_266.length) rfl nle rfl <| s_on rfl <| s_mov (.int .i64 k_429) rfl <| s_on rfl <| ?_
       obtain ⟨g454, hb3⟩ := og hb3
       refine s_do (o_iaddrown rfl rfl g454.1 g454.2 rfl rfl) <| s_on rfl <| ?_
       obtain ⟨x_455, ex456, hb3⟩ := ob hb3
       refine s_do (o_loadrow (enc := AV.str) (v := (.str x_455)) rfl rfl ex456 ⟨rfl, rfl⟩ rfl) <| s_on rfl <| s_mov (.lst 1 (keys_1.map AV.str)) rfl <| s_on rfl <| s_mov (.int .i64 (i_263 : Int)) rfl <| s_on rfl <| s_do (o_iaddrn (enc := AV.str) rfl rfl hx394) <| s_on rfl <| s_q (.str x_399) rfl ⟨rfl, rfl⟩ rfl <| s_on rfl <| s_q (.bool (Op.bytesLess x_455 x_399)) rfl trivial rfl <| s_q (.bool (Op.bytesLess x_455 x_399)) rfl trivial rfl <| w_done <| ?_; obtain rfl := os hb3; exact ⟨[], [0, 1, 2, 3, 4, 5], _, _, rfl, rfl, ⟨.refl _, ⟨.refl _, ⟨.refl _, ⟨.refl _, ⟨.refl _, ⟨.refl _, ⟨.refl _, trivial⟩⟩⟩⟩⟩⟩⟩, (.refl _)⟩
      ·refine s_lit (s := 20) (b := false) rfl (bf c453) <| s_off rfl rfl <| s_off rfl rfl <| s_off rfl rfl <| s_off rfl rfl <| s_off rfl rfl <| s_off rfl rfl <| s_off rfl rfl <| s_off rfl rfl <| s_off rfl rfl <| s_off rfl rfl <| s_q (.bool false) rfl trivial rfl <| w_done <| ?_; obtain rfl := os hb3; exact ⟨[], [0, 1, 2, 3, 4, 5], _, _, rfl, rfl, ⟨.refl _, ⟨.refl _, ⟨.refl _, ⟨.refl _, ⟨.refl _, ⟨.refl _, ⟨.refl _, trivial⟩⟩⟩⟩⟩⟩⟩, (.refl _)⟩
     ·rcases oi hc2 with ⟨c457, hc2⟩ | ⟨c457, hc2⟩
      ·refine w_condt rfl c457 <| w_skip <| k_seq <| w_blk <| w_reg <| s_mov (.int .i64 k_429) rfl <| s_q (.int .i64 (w64 (k_429 + 1))) rfl rfl rfl <| s_mov (.int .i64 (w64 (k_429 + 1))) rfl <| w_done <| k_blk <| ?_; exact k_loopn ⟨(k, w64 (k_429 + 1)), hc2⟩ (Nat.lt_succ_self _) ⟨[], [0, 1, 2, 3, 4, 5], _, _, rfl, rfl, ⟨.refl _, ⟨.refl _, ⟨.refl _, ⟨.refl _, ⟨.refl _, ⟨.refl _, trivial⟩⟩⟩⟩⟩⟩, (.refl _)⟩
      ·refine w_condf rfl (bf c457) <| w_exit <| k_seqx <| k_loopx <| k_blkx <| ?_; obtain rfl := os hc2; exact ⟨[], [0, 1, 2, 3, 4, 5], _, _, rfl, rfl, ⟨.refl _, ⟨.refl _, ⟨.refl _, ⟨.refl _, ⟨.refl _, ⟨.refl _, trivial⟩⟩⟩⟩⟩⟩, (.refl _)⟩
   ·refine awp_seq <| awp_seq <| ?_
    obtain ⟨s50_463, hb2, hc1⟩ := ob hc1
    refine awp_cut ([(0, (.lst 1 (keys_1.map AV.str))), (1, (.lst 5 (items_2.map encGJson))), (4, (.ptr 0 0 0)), (5, (.ptr 1 0 0)), (6, (.int .i64 (i_263 : Int))), (7, (.int .i64 k_443)), (50, (.bool s50_463))], [.box 5 (.agg [(.int .i64 0), (.int .i64 0), (.str []), (.own 2 0 x_264.length), (.own 3 0 x_265.length)]), .box 5 (.agg [(.int .i64 5), (.int .i64 0), (.str []), (.own 4 0 x_266.length), (.own 5 0 x_267.length)]), .row 1 (x_264.map AV.str), .row 5 (x_265.map encGJson), .row 1 (x_266.map AV.str), .row 5 (x_267.map encGJson)]) ?_ ?_
    ·refine w_reg <| s_mov (.int .i64 k_443) rfl <| s_q (.ptr 1 0 3) rfl trivial rfl <| s_q (.own 4 0 x_266.length) rfl nle rfl <| s_dof (o_lenown rfl rfl) fun hl465 => s_q (.bool (decide (k_443 < (x_266.length : Int)))) rfl rfl rfl <| s_mov (.bool (decide (k_443 < (x_266.length : Int)))) rfl <| ?_
     rcases oi hb2 with ⟨c466, hb2⟩ | ⟨c466, hb2⟩
     ·refine s_lit (s := 39) (b := true) rfl c466 <| s_on rfl <| s_q (.ptr 1 0 3) rfl trivial rfl <| s_on rfl <| s_q (.own 4 0 x_266.length) rfl nle rfl <| s_on rfl <| s_mov (.int .i64 k_443) rfl <| s_on rfl <| ?_
      obtain ⟨g467, hb2⟩ := og hb2
      refine s_do (o_iaddrown rfl rfl g467.1 g467.2 rfl rfl) <| s_on rfl <| ?_
      obtain ⟨x_468, ex469, hb2⟩ := ob hb2
      refine s_do (o_loadrow (enc := AV.str) (v := (.str x_468)) rfl rfl ex469 ⟨rfl, rfl⟩ rfl) <| s_on rfl <| s_mov (.lst 1 (keys_1.map AV.str)) rfl <| s_on rfl <| s_mov (.int .i64 (i_263 : Int)) rfl <| s_on rfl <| s_do (o_iaddrn (enc := AV.str) rfl rfl hx394) <| s_on rfl <| s_q (.str x_399) rfl ⟨rfl, rfl⟩ rfl <| s_on rfl <| s_q (.bool (x_468 == x_399)) rfl trivial rfl <| s_q (.bool (x_468 == x_399)) rfl trivial rfl <| w_done <| ?_; obtain rfl := os hb2; exact ⟨[], [0, 1, 2, 3, 4, 5], _, _, rfl, rfl, ⟨.refl _, ⟨.refl _, ⟨.refl _, ⟨.refl _, ⟨.refl _, ⟨.refl _, ⟨.refl _, trivial⟩⟩⟩⟩⟩⟩⟩, (.refl _)⟩
     ·refine s_lit (s := 39) (b := false) rfl (bf c466) <| s_off rfl rfl <| s_off rfl rfl <| s_off rfl rfl <| s_off rfl rfl <| s_off rfl rfl <| s_off rfl rfl <| s_off rfl rfl <| s_off rfl rfl <| s_off rfl rfl <| s_off rfl rfl <| s_q (.bool false) rfl trivial rfl <| w_done <| ?_; obtain rfl := os hb2; exact ⟨[], [0, 1, 2, 3, 4, 5], _, _, rfl, rfl, ⟨.refl _, ⟨.refl _, ⟨.refl _, ⟨.refl _, ⟨.refl _, ⟨.refl _, ⟨.refl _, trivial⟩⟩⟩⟩⟩⟩⟩, (.refl _)⟩
    ·rcases oi hc1 with ⟨c470, hc1⟩ | ⟨c470, hc1⟩
     ·refine w_condt rfl c470 <| awp_seq <| w_reg <| ?_
      obtain ⟨x_471, ex472, hc1⟩ := ob hc1
      obtain ⟨g473, hc1⟩ := og hc1
      obtain ⟨x_474, ex475, hc1⟩ := ob hc1
      refine s_q (.ptr 1 0 4) rfl trivial rfl <| s_q (.own 5 0 x_267.length) rfl nle rfl <| s_mov (.int .i64 k_443) rfl <| s_mov (.lst 5 (items_2.map encGJson)) rfl <| s_mov (.int .i64 (i_263 : Int)) rfl <| s_do (o_iaddr (enc := encGJson) rfl rfl (idx0 ex472) (idx1 ex472)) <| s_do (o_loadeq (v := (.agg [(.int .i64 x_471.Kind), (.int .i64 x_471.N), (.str x_471.T), (.lst 1 (x_471.Keys.map AV.str)), (.lst 5 (x_471.Items.map encGJson))])) rfl (encGJson_eq _) nle rfl) <| s_do (o_iaddrown rfl rfl g473.1 g473.2 rfl rfl) <| ?_; refine s_dol0 (o_storeroweq (v' := (.agg [(.int .i64 x_471.Kind), (.int .i64 x_471.N), (.str x_471.T), (.lst 1 (x_471.Keys.map AV.str)), (.lst 5 (x_471.Items.map encGJson))])) (e' := x_471) rfl rfl ex475 (encGJson_eq _) rfl rfl rfl (by decide) (fun _ => by decide) ⟨rfl, nle⟩ (.of_eq (encGJson_eq x_471).symm) rfl) trivial trivial ?_
      refine w_done <| k_seq <| w_exit <| k_seqx <| k_blkx <| k_seq <| w_reg <| s_mov (.int .i64 (i_263 : Int)) rfl <| s_q (.int .i64 (w64 ((i_263 : Int) + 1))) rfl rfl rfl <| s_mov (.int .i64 (w64 ((i_263 : Int) + 1))) rfl <| w_done <| ?_; exact k_loopn ⟨((i_263 + 1), x_264, x_265, x_266, x_267.set (0 + k_443.toNat) x_471), hc1⟩ (mul hlt393) ⟨[], [0, 1, 2, 3, 4, 5], _, _, rfl, rfl, ⟨.refl _, ⟨.refl _, ⟨.refl _, ⟨.refl _, ⟨.of_eq (congrArg (AV.int _) (w64_incr hlt393 hl401)), trivial⟩⟩⟩⟩⟩, (.cons (.refl _) (.cons (.box (.agg (.cons (.refl _) (.cons (.refl _) (.cons (.refl _) (.cons (.refl _) (.cons (.of_eq (congrArg (AV.own _ 0) (by simp))) .nil))))))) (.cons (.refl _) (.cons (.refl _) (.cons (.refl _) (.cons (.refl _) .nil))))))⟩
     ·refine w_condf rfl (bf c470) <| w_skip <| k_seq <| awp_seq <| ?_
      obtain ⟨p481, hb2, hc1⟩ := ob hc1
      refine awp_cut ([(0, (.lst 1 (keys_1.map AV.str))), (1, (.lst 5 (items_2.map encGJson))), (4, (.ptr 0 0 0)), (5, (.ptr 1 0 0)), (6, (.int .i64 (i_263 : Int))), (7, (.int .i64 k_443))], [.box 5 (.agg [(.int .i64 0), (.int .i64 0), (.str []), (.own 2 0 x_264.length), (.own 3 0 x_265.length)]), .box 5 (.agg [(.int .i64 5), (.int .i64 0), (.str []), (.own 4 0 (((([] ++ (x_266.take k_443.toNat)) ++ [x_399]) ++ ((x_266.drop k_443.toNat).take (x_266.length - k_443.toNat))).length)), (.own 5 0 x_267.length)]), .row 1 (x_264.map AV.str), .row 5 (x_265.map encGJson), .row 1 (((([] ++ (x_266.take k_443.toNat)) ++ [x_399]) ++ ((x_266.drop k_443.toNat).take (x_266.length - k_443.toNat))).map AV.str), .row 5 (x_267.map encGJson)]) ?_ ?_
      ·refine w_reg ?_
       obtain ⟨g482, hb2⟩ := og hb2
       obtain ⟨g483, hb2⟩ := og hb2
       obtain ⟨g484, hb2⟩ := og hb2
       obtain ⟨g485, hb2⟩ := og hb2
       obtain ⟨g486, hb2⟩ := og hb2
       refine s_q (.ptr 1 0 3) rfl trivial rfl <| s_q (.own 4 0 x_266.length) rfl nle rfl <| s_mov (.int .i64 k_443) rfl <| s_do (o_slto rfl rfl rfl g482.1 g482.2) <| s_mov (.lst 1 (keys_1.map AV.str)) rfl <| s_mov (.int .i64 (i_263 : Int)) rfl <| s_do (o_iaddrn (enc := AV.str) rfl rfl hx394) <| s_q (.str x_399) rfl ⟨rfl, rfl⟩ rfl <| s_q (.ptr 1 0 3) rfl trivial rfl <| s_q (.own 4 0 x_266.length) rfl nle rfl <| s_mov (.int .i64 k_443) rfl <| s_do (o_sldo rfl rfl rfl g483.1 g483.2) <| ?_; refine s_dol (o_bslice (j := 6) (as' := []) rfl (fun _ => by decide) trivial (.refl _) rfl rfl rfl) (.inr ⟨(ag_sldo rfl rfl rfl g483.1 g483.2), ⟨⟨nle, rfl⟩, ⟨⟨trivial, rfl⟩, ⟨⟨⟨rfl, rfl⟩, rfl⟩, ⟨(ag_iaddrn (enc := AV.str) rfl rfl hx394), ⟨(ag_slto rfl rfl rfl g482.1 g482.2), ⟨⟨nle, rfl⟩, ⟨⟨trivial, rfl⟩, trivial⟩⟩⟩⟩⟩⟩⟩⟩) ?_ ?_
       ·refine s_dol (o_bslice (j := 6) (as' := [(.str x_399)]) rfl (fun _ => by decide) ⟨rfl, trivial⟩ (.refl _) rfl rfl rfl) (.inr ⟨(ag_sldo rfl rfl rfl g483.1 g483.2), ⟨⟨nle, rfl⟩, ⟨⟨trivial, rfl⟩, ⟨(ag_slto rfl rfl rfl g482.1 g482.2), ⟨⟨nle, rfl⟩, ⟨⟨trivial, rfl⟩, trivial⟩⟩⟩⟩⟩⟩) trivial ?_; refine s_dol (o_bslice (j := 7) (as' := []) rfl (fun _ => by decide) trivial (.refl _) rfl rfl rfl) (.inr ⟨(ag_sldo rfl rfl rfl g483.1 g483.2), ⟨⟨nle, rfl⟩, ⟨⟨trivial, rfl⟩, ⟨⟨⟨rfl, rfl⟩, rfl⟩, ⟨(ag_iaddrn (enc := AV.str) rfl rfl hx394), ⟨(ag_slto rfl rfl rfl g482.1 g482.2), ⟨⟨nle, rfl⟩, ⟨⟨trivial, rfl⟩, trivial⟩⟩⟩⟩⟩⟩⟩⟩) trivial ?_
        refine s_dol (o_appendw (j := 8) (L := (([] ++ (x_266.take k_443.toNat)).map AV.str)) (len := ([] ++ (x_266.take k_443.toNat)).length) rfl rfl ((by simp)) (by simp <;> omega) g484 rfl rfl) (.inr ⟨(ag_sldo rfl rfl rfl g483.1 g483.2), ⟨⟨nle, rfl⟩, ⟨⟨trivial, rfl⟩, ⟨⟨⟨rfl, rfl⟩, rfl⟩, ⟨(ag_iaddrn (enc := AV.str) rfl rfl hx394), trivial⟩⟩⟩⟩⟩) trivial ?_
        refine s_dol (o_appendw (j := 9) (L := ((([] ++ (x_266.take k_443.toNat)) ++ [x_399]).map AV.str)) (len := (([] ++ (x_266.take k_443.toNat)) ++ [x_399]).length) rfl rfl (apo (enc := AV.str) ([] ++ (x_266.take k_443.toNat)) [x_399]) (by simp <;> omega) g485 rfl rfl) (.inr ⟨(ag_sldo rfl rfl rfl g483.1 g483.2), ⟨⟨nle, rfl⟩, ⟨⟨trivial, rfl⟩, trivial⟩⟩⟩) trivial ?_
        refine s_dol (o_appendw (j := 10) (L := (((([] ++ (x_266.take k_443.toNat)) ++ [x_399]) ++ ((x_266.drop k_443.toNat).take (x_266.length - k_443.toNat))).map AV.str)) (len := ((([] ++ (x_266.take k_443.toNat)) ++ [x_399]) ++ ((x_266.drop k_443.toNat).take (x_266.length - k_443.toNat))).length) rfl rfl ((apg (enc := AV.str) (([] ++ (x_266.take k_443.toNat)) ++ [x_399]) ((x_266.drop k_443.toNat).take (x_266.length - k_443.toNat)) (tkw _ _ _))) (by simp <;> omega) g486 rfl rfl) trivial trivial ?_
        refine s_q (.ptr 1 0 3) rfl trivial rfl <| s_dol0 (o_storebox (v := (.own 10 0 (((([] ++ (x_266.take k_443.toNat)) ++ [x_399]) ++ ((x_266.drop k_443.toNat).take (x_266.length - k_443.toNat))).length))) (y' := (.agg [(.int .i64 5), (.int .i64 0), (.str []), (.own 10 0 (((([] ++ (x_266.take k_443.toNat)) ++ [x_399]) ++ ((x_266.drop k_443.toNat).take (x_266.length - k_443.toNat))).length)), (.own 5 0 x_267.length)])) rfl rfl rfl trivial ⟨rfl, nle⟩ ⟨⟨rfl, trivial⟩, trivial⟩ rfl) trivial trivial <| w_done <| ?_; obtain rfl := os hb2; exact ⟨[], [0, 1, 2, 3, 10, 5], _, _, rfl, rfl, ⟨.refl _, ⟨.refl _, ⟨.refl _, ⟨.refl _, ⟨.refl _, ⟨.refl _, trivial⟩⟩⟩⟩⟩⟩, (.refl _)⟩
       ·refine s_dol (o_appendw (j := 7) (L := (([] ++ (x_266.take k_443.toNat)).map AV.str)) (len := ([] ++ (x_266.take k_443.toNat)).length) rfl rfl ((by simp)) (by simp <;> omega) g484 rfl rfl) (.inr ⟨(ag_sldo rfl rfl rfl g483.1 g483.2), ⟨⟨nle, rfl⟩, ⟨⟨trivial, rfl⟩, ⟨⟨⟨rfl, rfl⟩, rfl⟩, ⟨(ag_iaddrn (enc := AV.str) rfl rfl hx394), trivial⟩⟩⟩⟩⟩) ?_ ?_
        ·refine s_dol (o_bslice (j := 7) (as' := [(.str x_399)]) rfl (fun _ => by decide) ⟨rfl, trivial⟩ (.refl _) rfl rfl rfl) (.inr ⟨(ag_sldo rfl rfl rfl g483.1 g483.2), ⟨⟨nle, rfl⟩, ⟨⟨trivial, rfl⟩, ⟨(ag_slto rfl rfl rfl g482.1 g482.2), ⟨⟨nle, rfl⟩, ⟨⟨trivial, rfl⟩, trivial⟩⟩⟩⟩⟩⟩) trivial ?_
         refine s_dol (o_appendw (j := 8) (L := (([] ++ (x_266.take k_443.toNat)).map AV.str)) (len := ([] ++ (x_266.take k_443.toNat)).length) rfl rfl ((by simp)) (by simp <;> omega) g484 rfl rfl) (.inr ⟨(ag_sldo rfl rfl rfl g483.1 g483.2), ⟨⟨nle, rfl⟩, ⟨⟨trivial, rfl⟩, ⟨⟨⟨rfl, rfl⟩, rfl⟩, ⟨(ag_iaddrn (enc := AV.str) rfl rfl hx394), trivial⟩⟩⟩⟩⟩) trivial ?_
         refine s_dol (o_appendw (j := 9) (L := ((([] ++ (x_266.take k_443.toNat)) ++ [x_399]).map AV.str)) (len := (([] ++ (x_266.take k_443.toNat)) ++ [x_399]).length) rfl rfl (apo (enc := AV.str) ([] ++ (x_266.take k_443.toNat)) [x_399]) (by simp <;> omega) g485 rfl rfl) (.inr ⟨(ag_sldo rfl rfl rfl g483.1 g483.2), ⟨⟨nle, rfl⟩, ⟨⟨trivial, rfl⟩, trivial⟩⟩⟩) trivial ?_
         refine s_dol (o_appendw (j := 10) (L := (((([] ++ (x_266.take k_443.toNat)) ++ [x_399]) ++ ((x_266.drop k_443.toNat).take (x_266.length - k_443.toNat))).map AV.str)) (len := ((([] ++ (x_266.take k_443.toNat)) ++ [x_399]) ++ ((x_266.drop k_443.toNat).take (x_266.length - k_443.toNat))).length) rfl rfl ((apg (enc := AV.str) (([] ++ (x_266.take k_443.toNat)) ++ [x_399]) ((x_266.drop k_443.toNat).take (x_266.length - k_443.toNat)) (tkw _ _ _))) (by simp <;> omega) g486 rfl rfl) trivial trivial ?_
         refine s_q (.ptr 1 0 3) rfl trivial rfl <| s_dol0 (o_storebox (v := (.own 10 0 (((([] ++ (x_266.take k_443.toNat)) ++ [x_399]) ++ ((x_266.drop k_443.toNat).take (x_266.length - k_443.toNat))).length))) (y' := (.agg [(.int .i64 5), (.int .i64 0), (.str []), (.own 10 0 (((([] ++ (x_266.take k_443.toNat)) ++ [x_399]) ++ ((x_266.drop k_443.toNat).take (x_266.length - k_443.toNat))).length)), (.own 5 0 x_267.length)])) rfl rfl rfl trivial ⟨rfl, nle⟩ ⟨⟨rfl, trivial⟩, trivial⟩ rfl) trivial trivial <| w_done <| ?_; obtain rfl := os hb2; exact ⟨[], [0, 1, 2, 3, 10, 5], _, _, rfl, rfl, ⟨.refl _, ⟨.refl _, ⟨.refl _, ⟨.refl _, ⟨.refl _, ⟨.refl _, trivial⟩⟩⟩⟩⟩⟩, (.refl _)⟩
        ·refine s_dol (o_bslice (j := 8) (as' := [(.str x_399)]) rfl (fun _ => by decide) ⟨rfl, trivial⟩ (.refl _) rfl rfl rfl) (.inr ⟨(ag_sldo rfl rfl rfl g483.1 g483.2), ⟨⟨nle, rfl⟩, ⟨⟨trivial, rfl⟩, ⟨(ag_slto rfl rfl rfl g482.1 g482.2), ⟨⟨nle, rfl⟩, ⟨⟨trivial, rfl⟩, trivial⟩⟩⟩⟩⟩⟩) trivial ?_
         refine s_dol (o_appendw (j := 9) (L := ((([] ++ (x_266.take k_443.toNat)) ++ [x_399]).map AV.str)) (len := (([] ++ (x_266.take k_443.toNat)) ++ [x_399]).length) rfl rfl (apo (enc := AV.str) ([] ++ (x_266.take k_443.toNat)) [x_399]) (by simp <;> omega) g485 rfl rfl) (.inr ⟨(ag_sldo rfl rfl rfl g483.1 g483.2), ⟨⟨nle, rfl⟩, ⟨⟨trivial, rfl⟩, trivial⟩⟩⟩) trivial ?_
         refine s_dol (o_appendw (j := 10) (L := (((([] ++ (x_266.take k_443.toNat)) ++ [x_399]) ++ ((x_266.drop k_443.toNat).take (x_266.length - k_443.toNat))).map AV.str)) (len := ((([] ++ (x_266.take k_443.toNat)) ++ [x_399]) ++ ((x_266.drop k_443.toNat).take (x_266.length - k_443.toNat))).length) rfl rfl ((apg (enc := AV.str) (([] ++ (x_266.take k_443.toNat)) ++ [x_399]) ((x_266.drop k_443.toNat).take (x_266.length - k_443.toNat)) (tkw _ _ _))) (by simp <;> omega) g486 rfl rfl) trivial trivial ?_
         refine s_q (.ptr 1 0 3) rfl trivial rfl <| s_dol0 (o_storebox (v := (.own 10 0 (((([] ++ (x_266.take k_443.toNat)) ++ [x_399]) ++ ((x_266.drop k_443.toNat).take (x_266.length - k_443.toNat))).length))) (y' := (.agg [(.int .i64 5), (.int .i64 0), (.str []), (.own 10 0 (((([] ++ (x_266.take k_443.toNat)) ++ [x_399]) ++ ((x_266.drop k_443.toNat).take (x_266.length - k_443.toNat))).length)), (.own 5 0 x_267.length)])) rfl rfl rfl trivial ⟨rfl, nle⟩ ⟨⟨rfl, trivial⟩, trivial⟩ rfl) trivial trivial <| w_done <| ?_; obtain rfl := os hb2; exact ⟨[], [0, 1, 2, 3, 10, 5], _, _, rfl, rfl, ⟨.refl _, ⟨.refl _, ⟨.refl _, ⟨.refl _, ⟨.refl _, ⟨.refl _, trivial⟩⟩⟩⟩⟩⟩, (.refl _)⟩
      ·refine w_reg ?_
       obtain ⟨g487, hc1⟩ := og hc1
       obtain ⟨x_488, ex489, hc1⟩ := ob hc1
       obtain ⟨g490, hc1⟩ := og hc1
       obtain ⟨g491, hc1⟩ := og hc1
       obtain ⟨g492, hc1⟩ := og hc1
       obtain ⟨g493, hc1⟩ := og hc1
       refine s_q (.ptr 1 0 4) rfl trivial rfl <| s_q (.own 5 0 x_267.length) rfl nle rfl <| s_mov (.int .i64 k_443) rfl <| s_do (o_slto rfl rfl rfl g487.1 g487.2) <| s_mov (.lst 5 (items_2.map encGJson)) rfl <| s_mov (.int .i64 (i_263 : Int)) rfl <| s_do (o_iaddr (enc := encGJson) rfl rfl (idx0 ex489) (idx1 ex489)) <| s_do (o_loadeq (v := (.agg [(.int .i64 x_488.Kind), (.int .i64 x_488.N), (.str x_488.T), (.lst 1 (x_488.Keys.map AV.str)), (.lst 5 (x_488.Items.map encGJson))])) rfl (encGJson_eq _) nle rfl) <| s_q (.ptr 1 0 4) rfl trivial rfl <| s_q (.own 5 0 x_267.length) rfl nle rfl <| s_mov (.int .i64 k_443) rfl <| s_do (o_sldo rfl rfl rfl g490.1 g490.2) <| ?_; refine s_dol (o_bslice (j := 6) (as' := []) rfl (fun _ => by decide) trivial (.refl _) rfl rfl rfl) (.inr ⟨(ag_sldo rfl rfl rfl g490.1 g490.2), ⟨⟨nle, rfl⟩, ⟨⟨trivial, rfl⟩, ⟨(ag_loadeq (v := (.agg [(.int .i64 x_488.Kind), (.int .i64 x_488.N), (.str x_488.T), (.lst 1 (x_488.Keys.map AV.str)), (.lst 5 (x_488.Items.map encGJson))])) rfl (encGJson_eq _) nle rfl), ⟨(ag_iaddr (enc := encGJson) rfl rfl (idx0 ex489) (idx1 ex489)), ⟨(ag_slto rfl rfl rfl g487.1 g487.2), ⟨⟨nle, rfl⟩, ⟨⟨trivial, rfl⟩, trivial⟩⟩⟩⟩⟩⟩⟩⟩) ?_ ?_
       ·refine s_dol (o_bslice (j := 6) (as' := [(encGJson x_488)]) rfl (fun _ => by decide) ⟨rfl, trivial⟩ (.cons (.of_eq (encGJson_eq x_488).symm) .nil) rfl rfl rfl) (.inr ⟨(ag_sldo rfl rfl rfl g490.1 g490.2), ⟨⟨nle, rfl⟩, ⟨⟨trivial, rfl⟩, ⟨(ag_slto rfl rfl rfl g487.1 g487.2), ⟨⟨nle, rfl⟩, ⟨⟨trivial, rfl⟩, trivial⟩⟩⟩⟩⟩⟩) trivial ?_; refine s_dol (o_bslice (j := 7) (as' := []) rfl (fun _ => by decide) trivial (.refl _) rfl rfl rfl) (.inr ⟨(ag_sldo rfl rfl rfl g490.1 g490.2), ⟨⟨nle, rfl⟩, ⟨⟨trivial, rfl⟩, ⟨(ag_loadeq (v := (.agg [(.int .i64 x_488.Kind), (.int .i64 x_488.N), (.str x_488.T), (.lst 1 (x_488.Keys.map AV.str)), (.lst 5 (x_488.Items.map encGJson))])) rfl (encGJson_eq _) nle rfl), ⟨(ag_iaddr (enc := encGJson) rfl rfl (idx0 ex489) (idx1 ex489)), ⟨(ag_slto rfl rfl rfl g487.1 g487.2), ⟨⟨nle, rfl⟩, ⟨⟨trivial, rfl⟩, trivial⟩⟩⟩⟩⟩⟩⟩⟩) trivial ?_
        refine s_dol (o_appendw (j := 8) (L := (([] ++ (x_267.take k_443.toNat)).map encGJson)) (len := ([] ++ (x_267.take k_443.toNat)).length) rfl rfl ((by simp)) (by simp <;> omega) g491 rfl rfl) (.inr ⟨(ag_sldo rfl rfl rfl g490.1 g490.2), ⟨⟨nle, rfl⟩, ⟨⟨trivial, rfl⟩, ⟨(ag_loadeq (v := (.agg [(.int .i64 x_488.Kind), (.int .i64 x_488.N), (.str x_488.T), (.lst 1 (x_488.Keys.map AV.str)), (.lst 5 (x_488.Items.map encGJson))])) rfl (encGJson_eq _) nle rfl), ⟨(ag_iaddr (enc := encGJson) rfl rfl (idx0 ex489) (idx1 ex489)), trivial⟩⟩⟩⟩⟩) trivial ?_
        refine s_dol (o_appendw (j := 9) (L := ((([] ++ (x_267.take k_443.toNat)) ++ [x_488]).map encGJson)) (len := (([] ++ (x_267.take k_443.toNat)) ++ [x_488]).length) rfl rfl (apo (enc := encGJson) ([] ++ (x_267.take k_443.toNat)) [x_488]) (by simp <;> omega) g492 rfl rfl) (.inr ⟨(ag_sldo rfl rfl rfl g490.1 g490.2), ⟨⟨nle, rfl⟩, ⟨⟨trivial, rfl⟩, trivial⟩⟩⟩) trivial ?_
        refine s_dol (o_appendw (j := 10) (L := (((([] ++ (x_267.take k_443.toNat)) ++ [x_488]) ++ ((x_267.drop k_443.toNat).take (x_267.length - k_443.toNat))).map encGJson)) (len := ((([] ++ (x_267.take k_443.toNat)) ++ [x_488]) ++ ((x_267.drop k_443.toNat).take (x_267.length - k_443.toNat))).length) rfl rfl ((apg (enc := encGJson) (([] ++ (x_267.take k_443.toNat)) ++ [x_488]) ((x_267.drop k_443.toNat).take (x_267.length - k_443.toNat)) (tkw _ _ _))) (by simp <;> omega) g493 rfl rfl) trivial trivial ?_
        refine s_q (.ptr 1 0 4) rfl trivial rfl <| s_dol0 (o_storebox (v := (.own 10 0 (((([] ++ (x_267.take k_443.toNat)) ++ [x_488]) ++ ((x_267.drop k_443.toNat).take (x_267.length - k_443.toNat))).length))) (y' := (.agg [(.int .i64 5), (.int .i64 0), (.str []), (.own 4 0 (((([] ++ (x_266.take k_443.toNat)) ++ [x_399]) ++ ((x_266.drop k_443.toNat).take (x_266.length - k_443.toNat))).length)), (.own 10 0 (((([] ++ (x_267.take k_443.toNat)) ++ [x_488]) ++ ((x_267.drop k_443.toNat).take (x_267.length - k_443.toNat))).length))])) rfl rfl rfl trivial ⟨rfl, nle⟩ ⟨⟨rfl, trivial⟩, trivial⟩ rfl) trivial trivial <| w_done <| k_blk <| k_seq <| w_reg <| s_mov (.int .i64 (i_263 : Int)) rfl <| s_q (.int .i64 (w64 ((i_263 : Int) + 1))) rfl rfl rfl <| ?_
        refine s_mov (.int .i64 (w64 ((i_263 : Int) + 1))) rfl <| w_done <| ?_; exact k_loopn ⟨((i_263 + 1), x_264, x_265, (([] ++ (x_266.take k_443.toNat)) ++ [x_399]) ++ ((x_266.drop k_443.toNat).take (x_266.length - k_443.toNat)), (([] ++ (x_267.take k_443.toNat)) ++ [x_488]) ++ ((x_267.drop k_443.toNat).take (x_267.length - k_443.toNat))), hc1⟩ (mul hlt393) ⟨[], [0, 1, 2, 3, 4, 10], _, _, rfl, rfl, ⟨.refl _, ⟨.refl _, ⟨.refl _, ⟨.refl _, ⟨.of_eq (congrArg (AV.int _) (w64_incr hlt393 hl401)), trivial⟩⟩⟩⟩⟩, (.refl _)⟩
       ·refine s_dol (o_appendw (j := 7) (L := (([] ++ (x_267.take k_443.toNat)).map encGJson)) (len := ([] ++ (x_267.take k_443.toNat)).length) rfl rfl ((by simp)) (by simp <;> omega) g491 rfl rfl) (.inr ⟨(ag_sldo rfl rfl rfl g490.1 g490.2), ⟨⟨nle, rfl⟩, ⟨⟨trivial, rfl⟩, ⟨(ag_loadeq (v := (.agg [(.int .i64 x_488.Kind), (.int .i64 x_488.N), (.str x_488.T), (.lst 1 (x_488.Keys.map AV.str)), (.lst 5 (x_488.Items.map encGJson))])) rfl (encGJson_eq _) nle rfl), ⟨(ag_iaddr (enc := encGJson) rfl rfl (idx0 ex489) (idx1 ex489)), trivial⟩⟩⟩⟩⟩) ?_ ?_
        ·refine s_dol (o_bslice (j := 7) (as' := [(encGJson x_488)]) rfl (fun _ => by decide) ⟨rfl, trivial⟩ (.cons (.of_eq (encGJson_eq x_488).symm) .nil) rfl rfl rfl) (.inr ⟨(ag_sldo rfl rfl rfl g490.1 g490.2), ⟨⟨nle, rfl⟩, ⟨⟨trivial, rfl⟩, ⟨(ag_slto rfl rfl rfl g487.1 g487.2), ⟨⟨nle, rfl⟩, ⟨⟨trivial, rfl⟩, trivial⟩⟩⟩⟩⟩⟩) trivial ?_
         refine s_dol (o_appendw (j := 8) (L := (([] ++ (x_267.take k_443.toNat)).map encGJson)) (len := ([] ++ (x_267.take k_443.toNat)).length) rfl rfl ((by simp)) (by simp <;> omega) g491 rfl rfl) (.inr ⟨(ag_sldo rfl rfl rfl g490.1 g490.2), ⟨⟨nle, rfl⟩, ⟨⟨trivial, rfl⟩, ⟨(ag_loadeq (v := (.agg [(.int .i64 x_488.Kind), (.int .i64 x_488.N), (.str x_488.T), (.lst 1 (x_488.Keys.map AV.str)), (.lst 5 (x_488.Items.map encGJson))])) rfl (encGJson_eq _) nle rfl), ⟨(ag_iaddr (enc := encGJson) rfl rfl (idx0 ex489) (idx1 ex489)), trivial⟩⟩⟩⟩⟩) trivial ?_
         refine s_dol (o_appendw (j := 9) (L := ((([] ++ (x_267.take k_443.toNat)) ++ [x_488]).map encGJson)) (len := (([] ++ (x_267.take k_443.toNat)) ++ [x_488]).length) rfl rfl (apo (enc := encGJson) ([] ++ (x_267.take k_443.toNat)) [x_488]) (by simp <;> omega) g492 rfl rfl) (.inr ⟨(ag_sldo rfl rfl rfl g490.1 g490.2), ⟨⟨nle, rfl⟩, ⟨⟨trivial, rfl⟩, trivial⟩⟩⟩) trivial ?_
         refine s_dol (o_appendw (j := 10) (L := (((([] ++ (x_267.take k_443.toNat)) ++ [x_488]) ++ ((x_267.drop k_443.toNat).take (x_267.length - k_443.toNat))).map encGJson)) (len := ((([] ++ (x_267.take k_443.toNat)) ++ [x_488]) ++ ((x_267.drop k_443.toNat).take (x_267.length - k_443.toNat))).length) rfl rfl ((apg (enc := encGJson) (([] ++ (x_267.take k_443.toNat)) ++ [x_488]) ((x_267.drop k_443.toNat).take (x_267.length - k_443.toNat)) (tkw _ _ _))) (by simp <;> omega) g493 rfl rfl) trivial trivial ?_
         refine s_q (.ptr 1 0 4) rfl trivial rfl <| s_dol0 (o_storebox (v := (.own 10 0 (((([] ++ (x_267.take k_443.toNat)) ++ [x_488]) ++ ((x_267.drop k_443.toNat).take (x_267.length - k_443.toNat))).length))) (y' := (.agg [(.int .i64 5), (.int .i64 0), (.str []), (.own 4 0 (((([] ++ (x_266.take k_443.toNat)) ++ [x_399]) ++ ((x_266.drop k_443.toNat).take (x_266.length - k_443.toNat))).length)), (.own 10 0 (((([] ++ (x_267.take k_443.toNat)) ++ [x_488]) ++ ((x_267.drop k_443.toNat).take (x_267.length - k_443.toNat))).length))])) rfl rfl rfl trivial ⟨rfl, nle⟩ ⟨⟨rfl, trivial⟩, trivial⟩ rfl) trivial trivial <| w_done <| k_blk <| k_seq <| w_reg <| s_mov (.int .i64 (i_263 : Int)) rfl <| s_q (.int .i64 (w64 ((i_263 : Int) + 1))) rfl rfl rfl <| ?_
         refine s_mov (.int .i64 (w64 ((i_263 : Int) + 1))) rfl <| w_done <| ?_; exact k_loopn ⟨((i_263 + 1), x_264, x_265, (([] ++ (x_266.take k_443.toNat)) ++ [x_399]) ++ ((x_266.drop k_443.toNat).take (x_266.length - k_443.toNat)), (([] ++ (x_267.take k_443.toNat)) ++ [x_488]) ++ ((x_267.drop k_443.toNat).take (x_267.length - k_443.toNat))), hc1⟩ (mul hlt393) ⟨[], [0, 1, 2, 3, 4, 10], _, _, rfl, rfl, ⟨.refl _, ⟨.refl _, ⟨.refl _, ⟨.refl _, ⟨.of_eq (congrArg (AV.int _) (w64_incr hlt393 hl401)), trivial⟩⟩⟩⟩⟩, (.refl _)⟩
        ·refine s_dol (o_bslice (j := 8) (as' := [(encGJson x_488)]) rfl (fun _ => by decide) ⟨rfl, trivial⟩ (.cons (.of_eq (encGJson_eq x_488).symm) .nil) rfl rfl rfl) (.inr ⟨(ag_sldo rfl rfl rfl g490.1 g490.2), ⟨⟨nle, rfl⟩, ⟨⟨trivial, rfl⟩, ⟨(ag_slto rfl rfl rfl g487.1 g487.2), ⟨⟨nle, rfl⟩, ⟨⟨trivial, rfl⟩, trivial⟩⟩⟩⟩⟩⟩) trivial ?_
         refine s_dol (o_appendw (j := 9) (L := ((([] ++ (x_267.take k_443.toNat)) ++ [x_488]).map encGJson)) (len := (([] ++ (x_267.take k_443.toNat)) ++ [x_488]).length) rfl rfl (apo (enc := encGJson) ([] ++ (x_267.take k_443.toNat)) [x_488]) (by simp <;> omega) g492 rfl rfl) (.inr ⟨(ag_sldo rfl rfl rfl g490.1 g490.2), ⟨⟨nle, rfl⟩, ⟨⟨trivial, rfl⟩, trivial⟩⟩⟩) trivial ?_
         refine s_dol (o_appendw (j := 10) (L := (((([] ++ (x_267.take k_443.toNat)) ++ [x_488]) ++ ((x_267.drop k_443.toNat).take (x_267.length - k_443.toNat))).map encGJson)) (len := ((([] ++ (x_267.take k_443.toNat)) ++ [x_488]) ++ ((x_267.drop k_443.toNat).take (x_267.length - k_443.toNat))).length) rfl rfl ((apg (enc := encGJson) (([] ++ (x_267.take k_443.toNat)) ++ [x_488]) ((x_267.drop k_443.toNat).take (x_267.length - k_443.toNat)) (tkw _ _ _))) (by simp <;> omega) g493 rfl rfl) trivial trivial ?_
         refine s_q (.ptr 1 0 4) rfl trivial rfl <| s_dol0 (o_storebox (v := (.own 10 0 (((([] ++ (x_267.take k_443.toNat)) ++ [x_488]) ++ ((x_267.drop k_443.toNat).take (x_267.length - k_443.toNat))).length))) (y' := (.agg [(.int .i64 5), (.int .i64 0), (.str []), (.own 4 0 (((([] ++ (x_266.take k_443.toNat)) ++ [x_399]) ++ ((x_266.drop k_443.toNat).take (x_266.length - k_443.toNat))).length)), (.own 10 0 (((([] ++ (x_267.take k_443.toNat)) ++ [x_488]) ++ ((x_267.drop k_443.toNat).take (x_267.length - k_443.toNat))).length))])) rfl rfl rfl trivial ⟨rfl, nle⟩ ⟨⟨rfl, trivial⟩, trivial⟩ rfl) trivial trivial <| w_done <| k_blk <| k_seq <| w_reg <| s_mov (.int .i64 (i_263 : Int)) rfl <| s_q (.int .i64 (w64 ((i_263 : Int) + 1))) rfl rfl rfl <| ?_
         refine s_mov (.int .i64 (w64 ((i_263 : Int) + 1))) rfl <| w_done <| ?_; exact k_loopn ⟨((i_263 + 1), x_264, x_265, (([] ++ (x_266.take k_443.toNat)) ++ [x_399]) ++ ((x_266.drop k_443.toNat).take (x_266.length - k_443.toNat)), (([] ++ (x_267.take k_443.toNat)) ++ [x_488]) ++ ((x_267.drop k_443.toNat).take (x_267.length - k_443.toNat))), hc1⟩ (mul hlt393) ⟨[], [0, 1, 2, 3, 4, 10], _, _, rfl, rfl, ⟨.refl _, ⟨.refl _, ⟨.refl _, ⟨.refl _, ⟨.of_eq (congrArg (AV.int _) (w64_incr hlt393 hl401)), trivial⟩⟩⟩⟩⟩, (.refl _)⟩
 ·obtain ⟨x_388, x_389, x_390, x_391⟩ := p392
  refine awp_seq <| w_reg <| s_q (.agg [(.int .i64 5), (.int .i64 0), (.str []), (.own 4 0 x_390.length), (.own 5 0 x_391.length)]) rfl nle rfl <| s_do0 (o_storebox (v := (.agg [(.int .i64 5), (.int .i64 0), (.str []), (.own 4 0 x_390.length), (.own 5 0 x_391.length)])) (y' := (.agg [(.int .i64 5), (.int .i64 0), (.str []), (.own 4 0 x_390.length), (.own 5 0 x_391.length)])) rfl rfl rfl trivial ⟨rfl, nle⟩ ⟨⟨rfl, trivial⟩, ⟨⟨rfl, trivial⟩, ⟨⟨rfl, trivial⟩, ⟨⟨rfl, trivial⟩, ⟨⟨rfl, trivial⟩, trivial⟩⟩⟩⟩⟩ rfl) <| w_done <| k_seq <| w_ret <| ?_; obtain rfl := os hf; exact r_weak ⟨nle, trivial⟩ rfl (leJ (x := (⟨5, 0, [], x_390, x_391⟩ : GJson)) (.agg (.cons (.refl _) (.cons (.refl _) (.cons (.refl _) (.cons (.of_eq (congrArg (AV.lst _) (tko (enc := AV.str) x_390))) (.cons (.of_eq (congrArg (AV.lst _) (tko (enc := encGJson) x_391))) .nil)))))))

/- spec.l13Reply -/
def c139 : ACode :=
 (.seq (.reg (tq 5 (.box 5 (.t 2)) (tq 6 (.box 5 (.c (.agg [(.int .i64 0), (.int .i64 0), (.str []), .nil, .nil]))) .done)))
 (.seq (.reg (tq 8 (.build [(.int .i64 0), (.int .i64 0), (.str []), .nil, .nil] []) (tq 7 (.box 5 (.c (.agg [(.int .i64 0), (.int .i64 0), (.str []), .nil, .nil]))) (.q ⟨none, none, .store 5 (.t 7) (.t 8)⟩
 .done))))
 (.seq (.seq (.reg (tm 9 (.t 1) (tq 10 (.bin .neq (.t 9) (.c (.int .i64 0))) .done)))
 (.cond (.t 10) (.seq (.reg (tm 11 (.t 1) (tq 12 (.call 191 [(.t 11)]) (tq 13 (.call 171 [(.t 12)]) (.q ⟨none, none, .store 5 (.t 7) (.t 13)⟩
 .done)))))
 (.reg (tq 14 (.build [(.int .i64 0), (.int .i64 0), (.str []), .nil, .nil] []) (.q ⟨none, none, .store 5 (.t 5) (.t 14)⟩
 .done))))
 .skip))
 (.cut (.seq (.reg (tm 16 (.t 0) (tq 18 (.load 5 true (.t 7)) (tq 19 (.load 5 true (.t 5)) (.l ⟨(some 15), none, .bslice 1 [(.c (.str [105, 100])), (.c (.str [101, 114, 114, 111, 114])), (.c (.str [114, 101, 115, 117, 108, 116]))]⟩ [⟨(some 19), none, .load 5 true (.t 5)⟩, ⟨(some 18), none, .load 5 true (.t 7)⟩]
 (.l ⟨(some 17), none, .call 170 [(.t 16)]⟩ [⟨(some 19), none, .load 5 true (.t 5)⟩, ⟨(some 18), none, .load 5 true (.t 7)⟩]
 (.l ⟨(some 20), none, .bslice 5 [(.t 17), (.t 18), (.t 19)]⟩ []
 (.l ⟨(some 21), none, .call 192 [(.t 15), (.t 20)]⟩ []
 (.l ⟨none, none, .store 5 (.t 6) (.t 21)⟩ []
 .done .non) .non) .non) .non) (.l ⟨(some 17), none, .call 170 [(.t 16)]⟩ [⟨(some 19), none, .load 5 true (.t 5)⟩, ⟨(some 18), none, .load 5 true (.t 7)⟩]
 (.l ⟨(some 15), none, .bslice 1 [(.c (.str [105, 100])), (.c (.str [101, 114, 114, 111, 114])), (.c (.str [114, 101, 115, 117, 108, 116]))]⟩ [⟨(some 19), none, .load 5 true (.t 5)⟩, ⟨(some 18), none, .load 5 true (.t 7)⟩]
 (.l ⟨(some 20), none, .bslice 5 [(.t 17), (.t 18), (.t 19)]⟩ []
 (.l ⟨(some 21), none, .call 192 [(.t 15), (.t 20)]⟩ []
 (.l ⟨none, none, .store 5 (.t 6) (.t 21)⟩ []
 .done .non) .non) .non) (.l ⟨(some 20), none, .bslice 5 [(.t 17), (.t 18), (.t 19)]⟩ []
 (.l ⟨(some 15), none, .bslice 1 [(.c (.str [105, 100])), (.c (.str [101, 114, 114, 111, 114])), (.c (.str [114, 101, 115, 117, 108, 116]))]⟩ [⟨(some 19), none, .load 5 true (.t 5)⟩, ⟨(some 18), none, .load 5 true (.t 7)⟩]
 (.l ⟨(some 21), none, .call 192 [(.t 15), (.t 20)]⟩ []
 (.l ⟨none, none, .store 5 (.t 6) (.t 21)⟩ []
 .done .non) .non) .non) .non)) .non))))))
 .ret)))))
theorem fc139 : fcomp Try.prog Try.f139 = some (c139.erase, [.load 5 true (.t 6)], 22) := by kernel_rfl
def spec_l13Reply (id_1 : Int) (code_2 : Int) (result_3 : GJson) : Option GJson :=
    ((if (code_2 != 0) then
    (spec_CodeWord code_2).bind fun r_21 =>
    (spec_l13T r_21).bind fun r_23 =>
    some (0, 0, [], [], [], r_23.Kind, r_23.N, r_23.T, r_23.Keys, r_23.Items)
    else
    some (result_3.Kind, result_3.N, result_3.T, result_3.Keys, result_3.Items, 0, 0, [], [], []) : Option (Int × Int × Str × (List Str) × (List GJson) × Int × Int × Str × (List Str) × (List GJson)))).bind fun p19 =>
    (match p19 with
    | (x_9, x_10, x_11, x_12, x_13, x_14, x_15, x_16, x_17, x_18) =>
    (spec_l13N id_1).bind fun r_25 =>
    (spec_l13O [[105, 100], [101, 114, 114, 111, 114], [114, 101, 115, 117, 108, 116]] [r_25, (⟨x_14, x_15, x_16, x_17, x_18⟩ : GJson), (⟨x_9, x_10, x_11, x_12, x_13⟩ : GJson)]).bind fun r_27 =>
    some r_27)
theorem w_spec_l13Reply (id_1 : Int) (code_2 : Int) (result_3 : GJson) (r : GJson) (hf : spec_l13Reply id_1 code_2 result_3 = some r) : CallOK Try.prog 139 .weak [(.int .i64 id_1), (.int .i64 code_2), (encGJson result_3)] (encGJson r) := by
 refine CallOK.of_awp mixed Try.func139 fc139 nle ?_; rw [argT_eq]; rw [encGJson_eq result_3]; unfold spec_l13Reply at hf; unfold c139; refine (show awp Try.prog false 0 _ (ofL [(0, (.int .i64 id_1)), (1, (.int .i64 code_2)), (2, (.agg [(.int .i64 result_3.Kind), (.int .i64 result_3.N), (.str result_3.T), (.lst 1 (result_3.Keys.map AV.str)), (.lst 5 (result_3.Items.map encGJson))]))]) [] _ from ?_); refine awp_seq <| w_reg <| s_do (o_box (j := 0) (c := (.agg [(.int .i64 result_3.Kind), (.int .i64 result_3.N), (.str result_3.T), (.lst 1 (result_3.Keys.map AV.str)), (.lst 5 (result_3.Items.map encGJson))])) rfl trivial rfl rfl) <| s_do (o_box (j := 1) (c := (.agg [(.int .i64 0), (.int .i64 0), (.str []), .nil, .nil])) rfl trivial rfl rfl) <| ?_
 refine w_done <| k_seq <| awp_seq <| w_reg <| s_q (.agg [(.int .i64 0), (.int .i64 0), (.str []), .nil, .nil]) rfl trivial rfl <| s_do (o_box (j := 2) (c := (.agg [(.int .i64 0), (.int .i64 0), (.str []), .nil, .nil])) rfl trivial rfl rfl) <| s_do0 (o_storebox (v := (.agg [(.int .i64 0), (.int .i64 0), (.str []), .nil, .nil])) (y' := (.agg [(.int .i64 0), (.int .i64 0), (.str []), .nil, .nil])) rfl rfl rfl trivial ⟨rfl, nle⟩ ⟨⟨rfl, trivial⟩, ⟨⟨rfl, trivial⟩, ⟨⟨rfl, trivial⟩, ⟨⟨rfl, trivial⟩, ⟨⟨rfl, trivial⟩, trivial⟩⟩⟩⟩⟩ rfl) <| w_done <| k_seq <| awp_seq <| ?_
 obtain ⟨p19, hb1, hf⟩ := ob hf
 refine awp_cut ([(0, (.int .i64 id_1)), (5, (.ptr 0 0 0)), (6, (.ptr 1 0 0)), (7, (.ptr 2 0 0))], [.box 5 (.agg [(.int .i64 p19.1), (.int .i64 p19.2.1), (.str p19.2.2.1), (.lst 1 (p19.2.2.2.1.map AV.str)), (.lst 5 (p19.2.2.2.2.1.map encGJson))]), .box 5 (.agg [(.int .i64 0), (.int .i64 0), (.str []), .nil, .nil]), .box 5 (.agg [(.int .i64 p19.2.2.2.2.2.1), (.int .i64 p19.2.2.2.2.2.2.1), (.str p19.2.2.2.2.2.2.2.1), (.lst 1 (p19.2.2.2.2.2.2.2.2.1.map AV.str)), (.lst 5 (p19.2.2.2.2.2.2.2.2.2.map encGJson))])]) ?_ ?_
 ·refine awp_seq <| w_reg <| s_mov (.int .i64 code_2) rfl <| s_q (.bool (code_2 != 0)) rfl rfl rfl <| w_done <| k_seq <| ?_
  rcases oi hb1 with ⟨c20, hb1⟩ | ⟨c20, hb1⟩
  ·refine w_condt rfl c20 <| awp_seq <| w_reg <| ?_
   obtain ⟨r_21, er22, hb1⟩ := ob hb1
   obtain ⟨r_23, er24, hb1⟩ := ob hb1
   refine s_mov (.int .i64 code_2) rfl <| s_do (o_call (w_spec_CodeWord _ _ er22) rfl (.refl _) rfl) <| s_do (o_callc (v := (.agg [(.int .i64 r_23.Kind), (.int .i64 r_23.N), (.str r_23.T), (.lst 1 (r_23.Keys.map AV.str)), (.lst 5 (r_23.Items.map encGJson))])) rfl (w_spec_l13T _ _ er24) rfl (.refl _) (by simp only [encGJson_eq])) <| s_do0 (o_storebox (v := (.agg [(.int .i64 r_23.Kind), (.int .i64 r_23.N), (.str r_23.T), (.lst 1 (r_23.Keys.map AV.str)), (.lst 5 (r_23.Items.map encGJson))])) (y' := (.agg [(.int .i64 r_23.Kind), (.int .i64 r_23.N), (.str r_23.T), (.lst 1 (r_23.Keys.map AV.str)), (.lst 5 (r_23.Items.map encGJson))])) rfl rfl rfl trivial ⟨rfl, nle⟩ ⟨⟨rfl, trivial⟩, ⟨⟨rfl, trivial⟩, ⟨⟨rfl, trivial⟩, ⟨⟨rfl, trivial⟩, ⟨⟨rfl, trivial⟩, trivial⟩⟩⟩⟩⟩ rfl) <| ?_
   refine w_done <| k_seq <| w_reg <| s_q (.agg [(.int .i64 0), (.int .i64 0), (.str []), .nil, .nil]) rfl trivial rfl <| s_do0 (o_storebox (v := (.agg [(.int .i64 0), (.int .i64 0), (.str []), .nil, .nil])) (y' := (.agg [(.int .i64 0), (.int .i64 0), (.str []), .nil, .nil])) rfl rfl rfl trivial ⟨rfl, nle⟩ ⟨⟨rfl, trivial⟩, ⟨⟨rfl, trivial⟩, ⟨⟨rfl, trivial⟩, ⟨⟨rfl, trivial⟩, ⟨⟨rfl, trivial⟩, trivial⟩⟩⟩⟩⟩ rfl) <| w_done <| ?_; obtain rfl := os hb1; exact ⟨[], [0, 1, 2], _, _, rfl, rfl, ⟨.refl _, ⟨.refl _, ⟨.refl _, ⟨.refl _, trivial⟩⟩⟩⟩, (.cons (.box (.agg (.cons (.refl _) (.cons (.refl _) (.cons (.refl _) (.cons (.nil _) (.cons (.nil _) .nil))))))) (.cons (.refl _) (.cons (.refl _) .nil)))⟩
  ·refine w_condf rfl (bf c20) <| w_skip <| ?_; obtain rfl := os hb1; exact ⟨[], [0, 1, 2], _, _, rfl, rfl, ⟨.refl _, ⟨.refl _, ⟨.refl _, ⟨.refl _, trivial⟩⟩⟩⟩, (.cons (.refl _) (.cons (.refl _) (.cons (.box (.agg (.cons (.refl _) (.cons (.refl _) (.cons (.refl _) (.cons (.nil _) (.cons (.nil _) .nil))))))) .nil)))⟩
 ·obtain ⟨x_9, x_10, x_11, x_12, x_13, x_14, x_15, x_16, x_17, x_18⟩ := p19
  refine awp_seq <| w_reg <| ?_
  obtain ⟨r_25, er26, hf⟩ := ob hf
  obtain ⟨r_27, er28, hf⟩ := ob hf
  refine s_mov (.int .i64 id_1) rfl <| s_q (.agg [(.int .i64 x_14), (.int .i64 x_15), (.str x_16), (.lst 1 (x_17.map AV.str)), (.lst 5 (x_18.map encGJson))]) rfl nle rfl <| s_q (.agg [(.int .i64 x_9), (.int .i64 x_10), (.str x_11), (.lst 1 (x_12.map AV.str)), (.lst 5 (x_13.map encGJson))]) rfl nle rfl <| ?_; refine s_dol (o_bslice (j := 3) (as' := [(.str [105, 100]), (.str [101, 114, 114, 111, 114]), (.str [114, 101, 115, 117, 108, 116])]) rfl (fun _ => by decide) ⟨rfl, ⟨rfl, ⟨rfl, trivial⟩⟩⟩ (.refl _) rfl rfl rfl) (.inr ⟨⟨nle, rfl⟩, ⟨⟨nle, rfl⟩, trivial⟩⟩) ?_ ?_
  ·refine s_dol (o_callc (v := (.agg [(.int .i64 r_25.Kind), (.int .i64 r_25.N), (.str r_25.T), (.lst 1 (r_25.Keys.map AV.str)), (.lst 5 (r_25.Items.map encGJson))])) rfl (w_spec_l13N _ _ er26) rfl (.refl _) (by simp only [encGJson_eq])) a_same trivial ?_; refine s_dol (o_bslice (j := 3) (as' := [(.str [105, 100]), (.str [101, 114, 114, 111, 114]), (.str [114, 101, 115, 117, 108, 116])]) rfl (fun _ => by decide) ⟨rfl, ⟨rfl, ⟨rfl, trivial⟩⟩⟩ (.refl _) rfl rfl rfl) (.inr ⟨⟨nle, rfl⟩, ⟨⟨nle, rfl⟩, trivial⟩⟩) ?_ ?_
   ·refine s_dol (o_bslice (j := 3) (as' := [(encGJson r_25), (encGJson (⟨x_14, x_15, x_16, x_17, x_18⟩ : GJson)), (encGJson (⟨x_9, x_10, x_11, x_12, x_13⟩ : GJson))]) rfl (fun _ => by decide) ⟨rfl, ⟨rfl, ⟨rfl, trivial⟩⟩⟩ (.cons (.of_eq (encGJson_eq r_25).symm) (.cons (.of_eq (encGJson_eq (⟨x_14, x_15, x_16, x_17, x_18⟩ : GJson)).symm) (.cons (.of_eq (encGJson_eq (⟨x_9, x_10, x_11, x_12, x_13⟩ : GJson)).symm) .nil))) rfl rfl rfl) trivial trivial ?_; refine s_dol (o_bslice (j := 4) (as' := [(.str [105, 100]), (.str [101, 114, 114, 111, 114]), (.str [114, 101, 115, 117, 108, 116])]) rfl (fun _ => by decide) ⟨rfl, ⟨rfl, ⟨rfl, trivial⟩⟩⟩ (.refl _) rfl rfl rfl) (.inr ⟨⟨nle, rfl⟩, ⟨⟨nle, rfl⟩, trivial⟩⟩) trivial ?_
    refine s_dol (o_callw (v := (.agg [(.int .i64 r_27.Kind), (.int .i64 r_27.N), (.str r_27.T), (.lst 1 (r_27.Keys.map AV.str)), (.lst 5 (r_27.Items.map encGJson))])) rfl (w_spec_l13O _ _ _ er28) rfl (.cons (.of_eq (congrArg (AV.lst _) (tko [[105, 100], [101, 114, 114, 111, 114], [114, 101, 115, 117, 108, 116]]))) (.cons (.of_eq (congrArg (AV.lst _) (tko [r_25, (⟨x_14, x_15, x_16, x_17, x_18⟩ : GJson), (⟨x_9, x_10, x_11, x_12, x_13⟩ : GJson)]))) .nil)) (by simp only [encGJson_eq]) rfl) trivial trivial <| s_dol0 (o_storebox (v := (.agg [(.int .i64 r_27.Kind), (.int .i64 r_27.N), (.str r_27.T), (.lst 1 (r_27.Keys.map AV.str)), (.lst 5 (r_27.Items.map encGJson))])) (y' := (.agg [(.int .i64 r_27.Kind), (.int .i64 r_27.N), (.str r_27.T), (.lst 1 (r_27.Keys.map AV.str)), (.lst 5 (r_27.Items.map encGJson))])) rfl rfl rfl trivial ⟨rfl, nle⟩ ⟨⟨rfl, trivial⟩, ⟨⟨rfl, trivial⟩, ⟨⟨rfl, trivial⟩, ⟨⟨rfl, trivial⟩, ⟨⟨rfl, trivial⟩, trivial⟩⟩⟩⟩⟩ rfl) trivial trivial <| ?_
    refine w_done <| k_seq <| w_ret <| ?_; obtain rfl := os hf; exact r_weak ⟨nle, trivial⟩ rfl (.of_eq (encGJson_eq r_27).symm)
   ·refine s_dol (o_bslice (j := 4) (as' := [(encGJson r_25), (encGJson (⟨x_14, x_15, x_16, x_17, x_18⟩ : GJson)), (encGJson (⟨x_9, x_10, x_11, x_12, x_13⟩ : GJson))]) rfl (fun _ => by decide) ⟨rfl, ⟨rfl, ⟨rfl, trivial⟩⟩⟩ (.cons (.of_eq (encGJson_eq r_25).symm) (.cons (.of_eq (encGJson_eq (⟨x_14, x_15, x_16, x_17, x_18⟩ : GJson)).symm) (.cons (.of_eq (encGJson_eq (⟨x_9, x_10, x_11, x_12, x_13⟩ : GJson)).symm) .nil))) rfl rfl rfl) trivial trivial ?_; refine s_dol (o_callw (v := (.agg [(.int .i64 r_27.Kind), (.int .i64 r_27.N), (.str r_27.T), (.lst 1 (r_27.Keys.map AV.str)), (.lst 5 (r_27.Items.map encGJson))])) rfl (w_spec_l13O _ _ _ er28) rfl (.cons (.of_eq (congrArg (AV.lst _) (tko [[105, 100], [101, 114, 114, 111, 114], [114, 101, 115, 117, 108, 116]]))) (.cons (.of_eq (congrArg (AV.lst _) (tko [r_25, (⟨x_14, x_15, x_16, x_17, x_18⟩ : GJson), (⟨x_9, x_10, x_11, x_12, x_13⟩ : GJson)]))) .nil)) (by simp only [encGJson_eq]) rfl) trivial trivial ?_
    refine s_dol0 (o_storebox (v := (.agg [(.int .i64 r_27.Kind), (.int .i64 r_27.N), (.str r_27.T), (.lst 1 (r_27.Keys.map AV.str)), (.lst 5 (r_27.Items.map encGJson))])) (y' := (.agg [(.int .i64 r_27.Kind), (.int .i64 r_27.N), (.str r_27.T), (.lst 1 (r_27.Keys.map AV.str)), (.lst 5 (r_27.Items.map encGJson))])) rfl rfl rfl trivial ⟨rfl, nle⟩ ⟨⟨rfl, trivial⟩, ⟨⟨rfl, trivial⟩, ⟨⟨rfl, trivial⟩, ⟨⟨rfl, trivial⟩, ⟨⟨rfl, trivial⟩, trivial⟩⟩⟩⟩⟩ rfl) trivial trivial <| w_done <| k_seq <| w_ret <| ?_; obtain rfl := os hf; exact r_weak ⟨nle, trivial⟩ rfl (.of_eq (encGJson_eq r_27).symm)
  ·refine s_dol (o_callc (v := (.agg [(.int .i64 r_25.Kind), (.int .i64 r_25.N), (.str r_25.T), (.lst 1 (r_25.Keys.map AV.str)), (.lst 5 (r_25.Items.map encGJson))])) rfl (w_spec_l13N _ _ er26) rfl (.refl _) (by simp only [encGJson_eq])) a_same trivial ?_; refine s_dol (o_bslice (j := 4) (as' := [(encGJson r_25), (encGJson (⟨x_14, x_15, x_16, x_17, x_18⟩ : GJson)), (encGJson (⟨x_9, x_10, x_11, x_12, x_13⟩ : GJson))]) rfl (fun _ => by decide) ⟨rfl, ⟨rfl, ⟨rfl, trivial⟩⟩⟩ (.cons (.of_eq (encGJson_eq r_25).symm) (.cons (.of_eq (encGJson_eq (⟨x_14, x_15, x_16, x_17, x_18⟩ : GJson)).symm) (.cons (.of_eq (encGJson_eq (⟨x_9, x_10, x_11, x_12, x_13⟩ : GJson)).symm) .nil))) rfl rfl rfl) trivial trivial ?_; refine s_dol (o_callw (v := (.agg [(.int .i64 r_27.Kind), (.int .i64 r_27.N), (.str r_27.T), (.lst 1 (r_27.Keys.map AV.str)), (.lst 5 (r_27.Items.map encGJson))])) rfl (w_spec_l13O _ _ _ er28) rfl (.cons (.of_eq (congrArg (AV.lst _) (tko [[105, 100], [101, 114, 114, 111, 114], [114, 101, 115, 117, 108, 116]]))) (.cons (.of_eq (congrArg (AV.lst _) (tko [r_25, (⟨x_14, x_15, x_16, x_17, x_18⟩ : GJson), (⟨x_9, x_10, x_11, x_12, x_13⟩ : GJson)]))) .nil)) (by simp only [encGJson_eq]) rfl) trivial trivial ?_
   refine s_dol0 (o_storebox (v := (.agg [(.int .i64 r_27.Kind), (.int .i64 r_27.N), (.str r_27.T), (.lst 1 (r_27.Keys.map AV.str)), (.lst 5 (r_27.Items.map encGJson))])) (y' := (.agg [(.int .i64 r_27.Kind), (.int .i64 r_27.N), (.str r_27.T), (.lst 1 (r_27.Keys.map AV.str)), (.lst 5 (r_27.Items.map encGJson))])) rfl rfl rfl trivial ⟨rfl, nle⟩ ⟨⟨rfl, trivial⟩, ⟨⟨rfl, trivial⟩, ⟨⟨rfl, trivial⟩, ⟨⟨rfl, trivial⟩, ⟨⟨rfl, trivial⟩, trivial⟩⟩⟩⟩⟩ rfl) trivial trivial <| w_done <| k_seq <| w_ret <| ?_; obtain rfl := os hf; exact r_weak ⟨nle, trivial⟩ rfl (.of_eq (encGJson_eq r_27).symm)

end Go.R
