/- Walks. -/
import Derived.Test.YtmeckljlaaflkaaFAT
set_option linter.all false
namespace Go.R
open Go Go.Proofs
set_option linter.unusedVariables false
set_option linter.unusedSimpArgs false
set_option maxHeartbeats 8000000
/- laws.szStringS -/
def c38 : ACode :=
 (.seq (.reg (tm 4 (.c (.int .i64 0)) .done))
 (.seq (.reg (tm 6 (.t 1) (tm 7 (.t 0) (tq 8 (.len (.t 7)) (tq 9 (.bin .sub (.t 6) (.t 8)) (tm 1 (.t 9) .done))))))
 (.seq (.seq (.reg (tm 10 (.t 1) (tq 11 (.bin .lss (.t 10) (.c (.int .i64 0))) .done)))
 (.cond (.t 11) (.seq (.reg (tq 4 (.mov (.c (.int .i64 (-1)))) .done))
 .ret)
 .skip))
 (.seq (.seq (.reg (tm 5 (.c (.int .i64 0)) .done))
 (.block 0 (.loop (.seq (.seq (.reg (tm 12 (.t 5) (tm 13 (.t 0) (tq 14 (.len (.t 13)) (tq 15 (.bin .lss (.t 12) (.t 14)) .done)))))
 (.cond (.t 15) .skip
 (.exit 0)))
 (.seq (.block 1 (.seq (.reg (tm 18 (.t 1) (tm 19 (.t 0) (tm 20 (.t 5) (tq 21 (.iaddr 1 (.t 19) (.t 20)) (tq 22 (.load 1 false (.t 21)) (tq 23 (.lenS (.t 22)) (tq 24 (.bin .sub (.t 18) (.t 23)) (tm 1 (.t 24) .done)))))))))
 (.seq (.reg (tm 25 (.t 1) (tq 26 (.bin .lss (.t 25) (.c (.int .i64 0))) .done)))
 (.cond (.t 26) (.seq (.reg (tq 4 (.mov (.c (.int .i64 (-1)))) .done))
 .ret)
 .skip))))
 (.reg (tm 16 (.t 5) (tq 17 (.bin .add (.t 16) (.c (.int .i64 1))) (tm 5 (.t 17) .done)))))))))
 (.cut (.seq (.reg (tm 27 (.t 1) (tm 4 (.t 27) .done)))
 .ret))))))
theorem fc38 : fcomp Try.prog Try.f38 = some (c38.erase, [.mov (.t 4)], 28) := by kernel_rfl
def laws_szStringS_L1  : List Str → Int → Option (Fl Int Int)
  | [], left_19 =>
    some (.go left_19)
  | x_36 :: xs, left_19 =>
    if (decide (w64 (left_19 - (x_36.length : Int)) < 0)) then
    some (.ret (-1))
    else
    laws_szStringS_L1 xs (w64 (left_19 - (x_36.length : Int))) 

def laws_szStringS (a_1 : (List Str)) (left_2 : Int) : Option Int :=
    if (decide (w64 (left_2 - (a_1.length : Int)) < 0)) then
    some (-1)
    else
    (laws_szStringS_L1 a_1 (w64 (left_2 - (a_1.length : Int)))).bind fun q => (match q with
    | .ret r => some r
    | .go left_28 =>
    some left_28)
theorem w_laws_szStringS (a_1 : (List Str)) (left_2 : Int) (r : Int) (hf : laws_szStringS a_1 left_2 = some r) : CallOK Try.prog 38 .flat [(.lst 1 (a_1.map AV.str)), (.int .i64 left_2)] (.int .i64 r) := by
 refine CallOK.of_awp mixed Try.func38 fc38 nle ?_; rw [argT_eq]; unfold laws_szStringS at hf; unfold c38; refine (show awp Try.prog false 0 _ (ofL [(0, (.lst 1 (a_1.map AV.str))), (1, (.int .i64 left_2))]) [] _ from ?_); refine awp_seq <| w_reg <| s_mov (.int .i64 0) rfl <| w_done <| k_seq <| awp_seq <| w_reg <| s_mov (.int .i64 left_2) rfl <| s_mov (.lst 1 (a_1.map AV.str)) rfl <| s_dof (o_len (enc := AV.str) rfl) fun hl3 => s_q (.int .i64 (w64 (left_2 - (a_1.length : Int)))) rfl rfl rfl <| s_mov (.int .i64 (w64 (left_2 - (a_1.length : Int)))) rfl <| w_done <| k_seq <| awp_seq <| awp_seq <| w_reg <| s_mov (.int .i64 (w64 (left_2 - (a_1.length : Int)))) rfl <| s_q (.bool (decide (w64 (left_2 - (a_1.length : Int)) < 0))) rfl rfl rfl <| ?_
 refine w_done <| k_seq <| ?_
 rcases oi hf with ⟨c4, hf⟩ | ⟨c4, hf⟩
 ·refine w_condt rfl c4 <| awp_seq <| w_reg <| s_mov (.int .i64 (-1)) rfl <| w_done <| k_seq <| w_ret <| ?_; obtain rfl := os hf; exact r_flat ⟨trivial, trivial⟩ rfl (.refl _)
 ·refine w_condf rfl (bf c4) <| w_skip <| k_seq <| awp_seq <| awp_seq <| w_reg <| s_mov (.int .i64 0) rfl <| w_done <| k_seq <| ?_
  obtain ⟨p29, hb1, hf⟩ := ob hf
  refine awp_cutx (X := {q : Int // p29 = .go q}) (fun q => ([(1, (.int .i64 q.1))], [])) ?_ ?_
  ·refine awp_loop (X := {q : (Int × Nat) // laws_szStringS_L1 (a_1.drop q.2) q.1 = some p29}) (fun q => ([(0, (.lst 1 (a_1.map AV.str))), (1, (.int .i64 q.1.1)), (5, (.int .i64 (q.1.2 : Int)))], [])) (fun q => a_1.length - q.1.2) ⟨(w64 (left_2 - (a_1.length : Int)), 0), hb1⟩ ⟨[], [], _, _, rfl, rfl, ⟨.refl _, ⟨.refl _, ⟨.refl _, trivial⟩⟩⟩, (.refl _)⟩ ?_
   rintro ⟨⟨left_19, i_20⟩, hc1⟩
   have hc1 : laws_szStringS_L1 (a_1.drop i_20) left_19 = some p29 := hc1
   refine (show awp Try.prog false 0 _ (ofL [(0, (.lst 1 (a_1.map AV.str))), (1, (.int .i64 left_19)), (5, (.int .i64 (i_20 : Int)))]) [] _ from ?_)
   rcases dropc a_1 i_20 with ⟨hie32, hd35⟩ | ⟨hlt30, x_36, hx31, hd35⟩
   ·rw [hd35, laws_szStringS_L1.eq_1] at hc1
    have hq34 := dlf hie32
    refine awp_seq <| awp_seq <| w_reg <| s_mov (.int .i64 (i_20 : Int)) rfl <| s_mov (.lst 1 (a_1.map AV.str)) rfl <| s_dof (o_len (enc := AV.str) rfl) fun hl37 => s_q (.bool (decide ((i_20 : Int) < (a_1.length : Int)))) rfl rfl rfl <| w_done <| k_seq <| w_condf rfl hq34 <| w_exit <| k_seqx <| k_loopx <| k_blkx <| ?_; obtain rfl := os hc1; exact k_cutn ⟨_, rfl⟩ ⟨[], [], _, _, rfl, rfl, ⟨.refl _, trivial⟩, (.refl _)⟩
   ·rw [hd35, laws_szStringS_L1.eq_2] at hc1
    have hq34 := dlt hlt30
    refine awp_seq <| awp_seq <| w_reg <| s_mov (.int .i64 (i_20 : Int)) rfl <| s_mov (.lst 1 (a_1.map AV.str)) rfl <| s_dof (o_len (enc := AV.str) rfl) fun hl38 => s_q (.bool (decide ((i_20 : Int) < (a_1.length : Int)))) rfl rfl rfl <| w_done <| k_seq <| w_condt rfl hq34 <| w_skip <| k_seq <| awp_seq <| w_blk <| awp_seq <| w_reg <| s_mov (.int .i64 left_19) rfl <| s_mov (.lst 1 (a_1.map AV.str)) rfl <| s_mov (.int .i64 (i_20 : Int)) rfl <| s_do (o_iaddrn (enc := AV.str) rfl rfl hx31) <| s_q (.str x_36) rfl ⟨rfl, rfl⟩ rfl <| s_dof (o_lenS rfl) fun hl39 => s_q (.int .i64 (w64 (left_19 - (x_36.length : Int)))) rfl rfl rfl <| s_mov (.int .i64 (w64 (left_19 - (x_36.length : Int)))) rfl <| w_done <| k_seq <| ?_
    refine awp_seq <| w_reg <| s_mov (.int .i64 (w64 (left_19 - (x_36.length : Int)))) rfl <| s_q (.bool (decide (w64 (left_19 - (x_36.length : Int)) < 0))) rfl rfl rfl <| w_done <| k_seq <| ?_
    rcases oi hc1 with ⟨c40, hc1⟩ | ⟨c40, hc1⟩
    ·refine w_condt rfl c40 <| awp_seq <| w_reg <| s_mov (.int .i64 (-1)) rfl <| w_done <| k_seq <| w_ret <| ?_; obtain rfl := os hc1; obtain rfl := os hf; exact r_flat ⟨trivial, trivial⟩ rfl (.refl _)
    ·refine w_condf rfl (bf c40) <| w_skip <| k_blk <| k_seq <| w_reg <| s_mov (.int .i64 (i_20 : Int)) rfl <| s_q (.int .i64 (w64 ((i_20 : Int) + 1))) rfl rfl rfl <| s_mov (.int .i64 (w64 ((i_20 : Int) + 1))) rfl <| w_done <| ?_; exact k_loopn ⟨(w64 (left_19 - (x_36.length : Int)), (i_20 + 1)), hc1⟩ (mul hlt30) ⟨[], [], _, _, rfl, rfl, ⟨.refl _, ⟨.refl _, ⟨.of_eq (congrArg (AV.int _) (w64_incr hlt30 hl38)), trivial⟩⟩⟩, (.refl _)⟩
  ·rintro ⟨left_28, rfl⟩
   refine awp_seq <| w_reg <| s_mov (.int .i64 left_28) rfl <| s_mov (.int .i64 left_28) rfl <| w_done <| k_seq <| w_ret <| ?_; obtain rfl := os hf; exact r_flat ⟨trivial, trivial⟩ rfl (.refl _)

/- laws.szAtom -/
def c240 : ACode :=
 (.seq (.reg (tq 2 (.box 3 (.t 0)) (tm 4 (.c (.int .i64 0)) .done)))
 (.seq (.reg (tm 5 (.t 1) (tq 6 (.faddr 2 (.t 2)) (tq 7 (.load 1 false (.t 6)) (tq 8 (.lenS (.t 7)) (tq 9 (.bin .sub (.t 5) (.t 8)) (tm 1 (.t 9) .done)))))))
 (.seq (.seq (.reg (tm 10 (.t 1) (tq 11 (.bin .lss (.t 10) (.c (.int .i64 0))) .done)))
 (.cond (.t 11) (.seq (.reg (tq 4 (.mov (.c (.int .i64 (-1)))) .done))
 .ret)
 .skip))
 (.seq (.reg (tm 12 (.t 1) (tm 4 (.t 12) .done)))
 .ret))))
theorem fc240 : fcomp Try.prog Try.f240 = some (c240.erase, [.mov (.t 4)], 13) := by kernel_rfl
def laws_szAtom (a_1 : GAtom) (left_2 : Int) : Option Int :=
    if (decide (w64 (left_2 - (a_1.T.length : Int)) < 0)) then
    some (-1)
    else
    some (w64 (left_2 - (a_1.T.length : Int)))
theorem w_laws_szAtom (a_1 : GAtom) (left_2 : Int) (r : Int) (hf : laws_szAtom a_1 left_2 = some r) : CallOK Try.prog 240 .flat [(encGAtom a_1), (.int .i64 left_2)] (.int .i64 r) := by
 refine CallOK.of_awp mixed Try.func240 fc240 nle ?_; rw [argT_eq]; unfold laws_szAtom at hf; unfold c240; refine (show awp Try.prog false 0 _ (ofL [(0, (encGAtom a_1)), (1, (.int .i64 left_2))]) [] _ from ?_); refine awp_seq <| w_reg <| s_do (o_box (j := 0) (c := (.agg [(.int .i64 a_1.Kind), (.int .i64 a_1.N), (.str a_1.T)])) rfl trivial rfl rfl) <| s_mov (.int .i64 0) rfl <| w_done <| k_seq <| awp_seq <| w_reg <| s_mov (.int .i64 left_2) rfl <| s_q (.ptr 0 0 2) rfl trivial rfl <| s_q (.str a_1.T) rfl nle rfl <| s_dof (o_lenS rfl) fun hl3 => s_q (.int .i64 (w64 (left_2 - (a_1.T.length : Int)))) rfl rfl rfl <| s_mov (.int .i64 (w64 (left_2 - (a_1.T.length : Int)))) rfl <| w_done <| k_seq <| awp_seq <| awp_seq <| w_reg <| ?_
 refine s_mov (.int .i64 (w64 (left_2 - (a_1.T.length : Int)))) rfl <| s_q (.bool (decide (w64 (left_2 - (a_1.T.length : Int)) < 0))) rfl rfl rfl <| w_done <| k_seq <| ?_
 rcases oi hf with ⟨c4, hf⟩ | ⟨c4, hf⟩
 ·refine w_condt rfl c4 <| awp_seq <| w_reg <| s_mov (.int .i64 (-1)) rfl <| w_done <| k_seq <| w_ret <| ?_; obtain rfl := os hf; exact r_flat ⟨trivial, trivial⟩ rfl (.refl _)
 ·refine w_condf rfl (bf c4) <| w_skip <| k_seq <| awp_seq <| w_reg <| s_mov (.int .i64 (w64 (left_2 - (a_1.T.length : Int)))) rfl <| s_mov (.int .i64 (w64 (left_2 - (a_1.T.length : Int)))) rfl <| w_done <| k_seq <| w_ret <| ?_; obtain rfl := os hf; exact r_flat ⟨trivial, trivial⟩ rfl (.refl _)

/- laws.szAtomS -/
def c199 : ACode :=
 (.seq (.reg (tm 4 (.c (.int .i64 0)) .done))
 (.seq (.reg (tm 6 (.t 1) (tm 7 (.t 0) (tq 8 (.len (.t 7)) (tq 9 (.bin .sub (.t 6) (.t 8)) (tm 1 (.t 9) .done))))))
 (.seq (.seq (.reg (tm 10 (.t 1) (tq 11 (.bin .lss (.t 10) (.c (.int .i64 0))) .done)))
 (.cond (.t 11) (.seq (.reg (tq 4 (.mov (.c (.int .i64 (-1)))) .done))
 .ret)
 .skip))
 (.seq (.seq (.reg (tm 5 (.c (.int .i64 0)) .done))
 (.block 0 (.loop (.seq (.seq (.reg (tm 12 (.t 5) (tm 13 (.t 0) (tq 14 (.len (.t 13)) (tq 15 (.bin .lss (.t 12) (.t 14)) .done)))))
 (.cond (.t 15) .skip
 (.exit 0)))
 (.seq (.block 1 (.seq (.reg (tm 18 (.t 0) (tm 19 (.t 5) (tq 20 (.iaddr 3 (.t 18) (.t 19)) (tq 21 (.load 3 true (.t 20)) (tm 22 (.t 1) (tq 23 (.call 240 [(.t 21), (.t 22)]) (tm 1 (.t 23) .done))))))))
 (.seq (.reg (tm 24 (.t 1) (tq 25 (.bin .lss (.t 24) (.c (.int .i64 0))) .done)))
 (.cond (.t 25) (.seq (.reg (tq 4 (.mov (.c (.int .i64 (-1)))) .done))
 .ret)
 .skip))))
 (.reg (tm 16 (.t 5) (tq 17 (.bin .add (.t 16) (.c (.int .i64 1))) (tm 5 (.t 17) .done)))))))))
 (.cut (.seq (.reg (tm 26 (.t 1) (tm 4 (.t 26) .done)))
 .ret))))))
theorem fc199 : fcomp Try.prog Try.f199 = some (c199.erase, [.mov (.t 4)], 27) := by kernel_rfl
def laws_szAtomS_L1  : List GAtom → Int → Option (Fl Int Int)
  | [], left_21 =>
    some (.go left_21)
  | x_39 :: xs, left_21 =>
    (laws_szAtom x_39 left_21).bind fun r_42 =>
    if (decide (r_42 < 0)) then
    some (.ret (-1))
    else
    laws_szAtomS_L1 xs r_42 

def laws_szAtomS (a_1 : (List GAtom)) (left_2 : Int) : Option Int :=
    if (decide (w64 (left_2 - (a_1.length : Int)) < 0)) then
    some (-1)
    else
    (laws_szAtomS_L1 a_1 (w64 (left_2 - (a_1.length : Int)))).bind fun q => (match q with
    | .ret r => some r
    | .go left_31 =>
    some left_31)
theorem w_laws_szAtomS (a_1 : (List GAtom)) (left_2 : Int) (r : Int) (hf : laws_szAtomS a_1 left_2 = some r) : CallOK Try.prog 199 .flat [(.lst 3 (a_1.map encGAtom)), (.int .i64 left_2)] (.int .i64 r) := by
 refine CallOK.of_awp mixed Try.func199 fc199 nle ?_; rw [argT_eq]; unfold laws_szAtomS at hf; unfold c199; refine (show awp Try.prog false 0 _ (ofL [(0, (.lst 3 (a_1.map encGAtom))), (1, (.int .i64 left_2))]) [] _ from ?_); refine awp_seq <| w_reg <| s_mov (.int .i64 0) rfl <| w_done <| k_seq <| awp_seq <| w_reg <| s_mov (.int .i64 left_2) rfl <| s_mov (.lst 3 (a_1.map encGAtom)) rfl <| s_dof (o_len (enc := encGAtom) rfl) fun hl3 => s_q (.int .i64 (w64 (left_2 - (a_1.length : Int)))) rfl rfl rfl <| s_mov (.int .i64 (w64 (left_2 - (a_1.length : Int)))) rfl <| w_done <| k_seq <| awp_seq <| awp_seq <| w_reg <| s_mov (.int .i64 (w64 (left_2 - (a_1.length : Int)))) rfl <| s_q (.bool (decide (w64 (left_2 - (a_1.length : Int)) < 0))) rfl rfl rfl <| ?_
 refine w_done <| k_seq <| ?_
 rcases oi hf with ⟨c4, hf⟩ | ⟨c4, hf⟩
 ·refine w_condt rfl c4 <| awp_seq <| w_reg <| s_mov (.int .i64 (-1)) rfl <| w_done <| k_seq <| w_ret <| ?_; obtain rfl := os hf; exact r_flat ⟨trivial, trivial⟩ rfl (.refl _)
 ·refine w_condf rfl (bf c4) <| w_skip <| k_seq <| awp_seq <| awp_seq <| w_reg <| s_mov (.int .i64 0) rfl <| w_done <| k_seq <| ?_
  obtain ⟨p32, hb1, hf⟩ := ob hf
  refine awp_cutx (X := {q : Int // p32 = .go q}) (fun q => ([(1, (.int .i64 q.1))], [])) ?_ ?_
  ·refine awp_loop (X := {q : (Int × Nat) // laws_szAtomS_L1 (a_1.drop q.2) q.1 = some p32}) (fun q => ([(0, (.lst 3 (a_1.map encGAtom))), (1, (.int .i64 q.1.1)), (5, (.int .i64 (q.1.2 : Int)))], [])) (fun q => a_1.length - q.1.2) ⟨(w64 (left_2 - (a_1.length : Int)), 0), hb1⟩ ⟨[], [], _, _, rfl, rfl, ⟨.refl _, ⟨.refl _, ⟨.refl _, trivial⟩⟩⟩, (.refl _)⟩ ?_
   rintro ⟨⟨left_21, i_22⟩, hc1⟩
   have hc1 : laws_szAtomS_L1 (a_1.drop i_22) left_21 = some p32 := hc1
   refine (show awp Try.prog false 0 _ (ofL [(0, (.lst 3 (a_1.map encGAtom))), (1, (.int .i64 left_21)), (5, (.int .i64 (i_22 : Int)))]) [] _ from ?_)
   rcases dropc a_1 i_22 with ⟨hie35, hd38⟩ | ⟨hlt33, x_39, hx34, hd38⟩
   ·rw [hd38, laws_szAtomS_L1.eq_1] at hc1
    have hq37 := dlf hie35
    refine awp_seq <| awp_seq <| w_reg <| s_mov (.int .i64 (i_22 : Int)) rfl <| s_mov (.lst 3 (a_1.map encGAtom)) rfl <| s_dof (o_len (enc := encGAtom) rfl) fun hl40 => s_q (.bool (decide ((i_22 : Int) < (a_1.length : Int)))) rfl rfl rfl <| w_done <| k_seq <| w_condf rfl hq37 <| w_exit <| k_seqx <| k_loopx <| k_blkx <| ?_; obtain rfl := os hc1; exact k_cutn ⟨_, rfl⟩ ⟨[], [], _, _, rfl, rfl, ⟨.refl _, trivial⟩, (.refl _)⟩
   ·rw [hd38, laws_szAtomS_L1.eq_2] at hc1
    have hq37 := dlt hlt33
    refine awp_seq <| awp_seq <| w_reg <| s_mov (.int .i64 (i_22 : Int)) rfl <| s_mov (.lst 3 (a_1.map encGAtom)) rfl <| s_dof (o_len (enc := encGAtom) rfl) fun hl41 => s_q (.bool (decide ((i_22 : Int) < (a_1.length : Int)))) rfl rfl rfl <| w_done <| k_seq <| w_condt rfl hq37 <| w_skip <| k_seq <| awp_seq <| w_blk <| awp_seq <| w_reg <| ?_
    obtain ⟨r_42, er43, hc1⟩ := ob hc1
    refine s_mov (.lst 3 (a_1.map encGAtom)) rfl <| s_mov (.int .i64 (i_22 : Int)) rfl <| s_do (o_iaddrn (enc := encGAtom) rfl rfl hx34) <| s_q (encGAtom x_39) rfl nle rfl <| s_mov (.int .i64 left_21) rfl <| s_do (o_call (w_laws_szAtom _ _ _ er43) rfl (.refl _) rfl) <| s_mov (.int .i64 r_42) rfl <| w_done <| k_seq <| awp_seq <| w_reg <| s_mov (.int .i64 r_42) rfl <| s_q (.bool (decide (r_42 < 0))) rfl rfl rfl <| w_done <| k_seq <| ?_
    rcases oi hc1 with ⟨c44, hc1⟩ | ⟨c44, hc1⟩
    ·refine w_condt rfl c44 <| awp_seq <| w_reg <| s_mov (.int .i64 (-1)) rfl <| w_done <| k_seq <| w_ret <| ?_; obtain rfl := os hc1; obtain rfl := os hf; exact r_flat ⟨trivial, trivial⟩ rfl (.refl _)
    ·refine w_condf rfl (bf c44) <| w_skip <| k_blk <| k_seq <| w_reg <| s_mov (.int .i64 (i_22 : Int)) rfl <| s_q (.int .i64 (w64 ((i_22 : Int) + 1))) rfl rfl rfl <| s_mov (.int .i64 (w64 ((i_22 : Int) + 1))) rfl <| w_done <| ?_; exact k_loopn ⟨(r_42, (i_22 + 1)), hc1⟩ (mul hlt33) ⟨[], [], _, _, rfl, rfl, ⟨.refl _, ⟨.refl _, ⟨.of_eq (congrArg (AV.int _) (w64_incr hlt33 hl41)), trivial⟩⟩⟩, (.refl _)⟩
  ·rintro ⟨left_31, rfl⟩
   refine awp_seq <| w_reg <| s_mov (.int .i64 left_31) rfl <| s_mov (.int .i64 left_31) rfl <| w_done <| k_seq <| w_ret <| ?_; obtain rfl := os hf; exact r_flat ⟨trivial, trivial⟩ rfl (.refl _)

/- laws.szAtomSS -/
def c116 : ACode :=
 (.seq (.reg (tm 4 (.c (.int .i64 0)) .done))
 (.seq (.reg (tm 6 (.t 1) (tm 7 (.t 0) (tq 8 (.len (.t 7)) (tq 9 (.bin .sub (.t 6) (.t 8)) (tm 1 (.t 9) .done))))))
 (.seq (.seq (.reg (tm 10 (.t 1) (tq 11 (.bin .lss (.t 10) (.c (.int .i64 0))) .done)))
 (.cond (.t 11) (.seq (.reg (tq 4 (.mov (.c (.int .i64 (-1)))) .done))
 .ret)
 .skip))
 (.seq (.seq (.reg (tm 5 (.c (.int .i64 0)) .done))
 (.block 0 (.loop (.seq (.seq (.reg (tm 12 (.t 5) (tm 13 (.t 0) (tq 14 (.len (.t 13)) (tq 15 (.bin .lss (.t 12) (.t 14)) .done)))))
 (.cond (.t 15) .skip
 (.exit 0)))
 (.seq (.block 1 (.seq (.reg (tm 18 (.t 0) (tm 19 (.t 5) (tq 20 (.iaddr 1 (.t 18) (.t 19)) (tq 21 (.load 1 false (.t 20)) (tm 22 (.t 1) (tq 23 (.call 199 [(.t 21), (.t 22)]) (tm 1 (.t 23) .done))))))))
 (.seq (.reg (tm 24 (.t 1) (tq 25 (.bin .lss (.t 24) (.c (.int .i64 0))) .done)))
 (.cond (.t 25) (.seq (.reg (tq 4 (.mov (.c (.int .i64 (-1)))) .done))
 .ret)
 .skip))))
 (.reg (tm 16 (.t 5) (tq 17 (.bin .add (.t 16) (.c (.int .i64 1))) (tm 5 (.t 17) .done)))))))))
 (.cut (.seq (.reg (tm 26 (.t 1) (tm 4 (.t 26) .done)))
 .ret))))))
theorem fc116 : fcomp Try.prog Try.f116 = some (c116.erase, [.mov (.t 4)], 27) := by kernel_rfl
def laws_szAtomSS_L1  : List (List GAtom) → Int → Option (Fl Int Int)
  | [], left_21 =>
    some (.go left_21)
  | x_39 :: xs, left_21 =>
    (laws_szAtomS x_39 left_21).bind fun r_42 =>
    if (decide (r_42 < 0)) then
    some (.ret (-1))
    else
    laws_szAtomSS_L1 xs r_42 

def laws_szAtomSS (a_1 : (List (List GAtom))) (left_2 : Int) : Option Int :=
    if (decide (w64 (left_2 - (a_1.length : Int)) < 0)) then
    some (-1)
    else
    (laws_szAtomSS_L1 a_1 (w64 (left_2 - (a_1.length : Int)))).bind fun q => (match q with
    | .ret r => some r
    | .go left_31 =>
    some left_31)
theorem w_laws_szAtomSS (a_1 : (List (List GAtom))) (left_2 : Int) (r : Int) (hf : laws_szAtomSS a_1 left_2 = some r) : CallOK Try.prog 116 .flat [(.lst 1 (a_1.map (encL 3 encGAtom))), (.int .i64 left_2)] (.int .i64 r) := by
 refine CallOK.of_awp mixed Try.func116 fc116 nle ?_; rw [argT_eq]; unfold laws_szAtomSS at hf; unfold c116; refine (show awp Try.prog false 0 _ (ofL [(0, (.lst 1 (a_1.map (encL 3 encGAtom)))), (1, (.int .i64 left_2))]) [] _ from ?_); refine awp_seq <| w_reg <| s_mov (.int .i64 0) rfl <| w_done <| k_seq <| awp_seq <| w_reg <| s_mov (.int .i64 left_2) rfl <| s_mov (.lst 1 (a_1.map (encL 3 encGAtom))) rfl <| s_dof (o_len (enc := (encL 3 encGAtom)) rfl) fun hl3 => s_q (.int .i64 (w64 (left_2 - (a_1.length : Int)))) rfl rfl rfl <| s_mov (.int .i64 (w64 (left_2 - (a_1.length : Int)))) rfl <| w_done <| k_seq <| awp_seq <| awp_seq <| w_reg <| s_mov (.int .i64 (w64 (left_2 - (a_1.length : Int)))) rfl <| s_q (.bool (decide (w64 (left_2 - (a_1.length : Int)) < 0))) rfl rfl rfl <| ?_
 refine w_done <| k_seq <| ?_
 rcases oi hf with ⟨c4, hf⟩ | ⟨c4, hf⟩
 ·refine w_condt rfl c4 <| awp_seq <| w_reg <| s_mov (.int .i64 (-1)) rfl <| w_done <| k_seq <| w_ret <| ?_; obtain rfl := os hf; exact r_flat ⟨trivial, trivial⟩ rfl (.refl _)
 ·refine w_condf rfl (bf c4) <| w_skip <| k_seq <| awp_seq <| awp_seq <| w_reg <| s_mov (.int .i64 0) rfl <| w_done <| k_seq <| ?_
  obtain ⟨p32, hb1, hf⟩ := ob hf
  refine awp_cutx (X := {q : Int // p32 = .go q}) (fun q => ([(1, (.int .i64 q.1))], [])) ?_ ?_
  ·refine awp_loop (X := {q : (Int × Nat) // laws_szAtomSS_L1 (a_1.drop q.2) q.1 = some p32}) (fun q => ([(0, (.lst 1 (a_1.map (encL 3 encGAtom)))), (1, (.int .i64 q.1.1)), (5, (.int .i64 (q.1.2 : Int)))], [])) (fun q => a_1.length - q.1.2) ⟨(w64 (left_2 - (a_1.length : Int)), 0), hb1⟩ ⟨[], [], _, _, rfl, rfl, ⟨.refl _, ⟨.refl _, ⟨.refl _, trivial⟩⟩⟩, (.refl _)⟩ ?_
   rintro ⟨⟨left_21, i_22⟩, hc1⟩
   have hc1 : laws_szAtomSS_L1 (a_1.drop i_22) left_21 = some p32 := hc1
   refine (show awp Try.prog false 0 _ (ofL [(0, (.lst 1 (a_1.map (encL 3 encGAtom)))), (1, (.int .i64 left_21)), (5, (.int .i64 (i_22 : Int)))]) [] _ from ?_)
   rcases dropc a_1 i_22 with ⟨hie35, hd38⟩ | ⟨hlt33, x_39, hx34, hd38⟩
   ·rw [hd38, laws_szAtomSS_L1.eq_1] at hc1
    have hq37 := dlf hie35
    refine awp_seq <| awp_seq <| w_reg <| s_mov (.int .i64 (i_22 : Int)) rfl <| s_mov (.lst 1 (a_1.map (encL 3 encGAtom))) rfl <| s_dof (o_len (enc := (encL 3 encGAtom)) rfl) fun hl40 => s_q (.bool (decide ((i_22 : Int) < (a_1.length : Int)))) rfl rfl rfl <| w_done <| k_seq <| w_condf rfl hq37 <| w_exit <| k_seqx <| k_loopx <| k_blkx <| ?_; obtain rfl := os hc1; exact k_cutn ⟨_, rfl⟩ ⟨[], [], _, _, rfl, rfl, ⟨.refl _, trivial⟩, (.refl _)⟩
   ·rw [hd38, laws_szAtomSS_L1.eq_2] at hc1
    have hq37 := dlt hlt33
    refine awp_seq <| awp_seq <| w_reg <| s_mov (.int .i64 (i_22 : Int)) rfl <| s_mov (.lst 1 (a_1.map (encL 3 encGAtom))) rfl <| s_dof (o_len (enc := (encL 3 encGAtom)) rfl) fun hl41 => s_q (.bool (decide ((i_22 : Int) < (a_1.length : Int)))) rfl rfl rfl <| w_done <| k_seq <| w_condt rfl hq37 <| w_skip <| k_seq <| awp_seq <| w_blk <| awp_seq <| w_reg <| ?_
    obtain ⟨r_42, er43, hc1⟩ := ob hc1
    refine s_mov (.lst 1 (a_1.map (encL 3 encGAtom))) rfl <| s_mov (.int .i64 (i_22 : Int)) rfl <| s_do (o_iaddrn (enc := (encL 3 encGAtom)) rfl rfl hx34) <| s_q (.lst 3 (x_39.map encGAtom)) rfl ⟨rfl, rfl⟩ rfl <| s_mov (.int .i64 left_21) rfl <| s_do (o_call (w_laws_szAtomS _ _ _ er43) rfl (.refl _) rfl) <| s_mov (.int .i64 r_42) rfl <| w_done <| k_seq <| awp_seq <| w_reg <| s_mov (.int .i64 r_42) rfl <| s_q (.bool (decide (r_42 < 0))) rfl rfl rfl <| w_done <| k_seq <| ?_
    rcases oi hc1 with ⟨c44, hc1⟩ | ⟨c44, hc1⟩
    ·refine w_condt rfl c44 <| awp_seq <| w_reg <| s_mov (.int .i64 (-1)) rfl <| w_done <| k_seq <| w_ret <| ?_; obtain rfl := os hc1; obtain rfl := os hf; exact r_flat ⟨trivial, trivial⟩ rfl (.refl _)
    ·refine w_condf rfl (bf c44) <| w_skip <| k_blk <| k_seq <| w_reg <| s_mov (.int .i64 (i_22 : Int)) rfl <| s_q (.int .i64 (w64 ((i_22 : Int) + 1))) rfl rfl rfl <| s_mov (.int .i64 (w64 ((i_22 : Int) + 1))) rfl <| w_done <| ?_; exact k_loopn ⟨(r_42, (i_22 + 1)), hc1⟩ (mul hlt33) ⟨[], [], _, _, rfl, rfl, ⟨.refl _, ⟨.refl _, ⟨.of_eq (congrArg (AV.int _) (w64_incr hlt33 hl41)), trivial⟩⟩⟩, (.refl _)⟩
  ·rintro ⟨left_31, rfl⟩
   refine awp_seq <| w_reg <| s_mov (.int .i64 left_31) rfl <| s_mov (.int .i64 left_31) rfl <| w_done <| k_seq <| w_ret <| ?_; obtain rfl := os hf; exact r_flat ⟨trivial, trivial⟩ rfl (.refl _)

/- laws.szRow -/
def c37 : ACode :=
 (.seq (.reg (tq 2 (.box 2 (.t 0)) (tm 4 (.c (.int .i64 0)) .done)))
 (.seq (.reg (tq 5 (.faddr 1 (.t 2)) (tq 6 (.load 1 false (.t 5)) (tm 7 (.t 1) (tq 8 (.call 116 [(.t 6), (.t 7)]) (tm 1 (.t 8) .done))))))
 (.seq (.seq (.reg (tm 9 (.t 1) (tq 10 (.bin .lss (.t 9) (.c (.int .i64 0))) .done)))
 (.cond (.t 10) (.seq (.reg (tq 4 (.mov (.c (.int .i64 (-1)))) .done))
 .ret)
 .skip))
 (.seq (.reg (tm 11 (.t 1) (tm 4 (.t 11) .done)))
 .ret))))
theorem fc37 : fcomp Try.prog Try.f37 = some (c37.erase, [.mov (.t 4)], 12) := by kernel_rfl
def laws_szRow (a_1 : GRow) (left_2 : Int) : Option Int :=
    (laws_szAtomSS a_1.Cells left_2).bind fun r_3 =>
    if (decide (r_3 < 0)) then
    some (-1)
    else
    some r_3
theorem w_laws_szRow (a_1 : GRow) (left_2 : Int) (r : Int) (hf : laws_szRow a_1 left_2 = some r) : CallOK Try.prog 37 .flat [(encGRow a_1), (.int .i64 left_2)] (.int .i64 r) := by
 refine CallOK.of_awp mixed Try.func37 fc37 nle ?_; rw [argT_eq]; unfold laws_szRow at hf; unfold c37; refine (show awp Try.prog false 0 _ (ofL [(0, (encGRow a_1)), (1, (.int .i64 left_2))]) [] _ from ?_); refine awp_seq <| w_reg <| s_do (o_box (j := 0) (c := (.agg [(.int .i64 a_1.Id), (.lst 1 (a_1.Cells.map (encL 3 encGAtom)))])) rfl trivial rfl rfl) <| s_mov (.int .i64 0) rfl <| w_done <| k_seq <| awp_seq <| w_reg <| ?_
 obtain ⟨r_3, er4, hf⟩ := ob hf
 refine s_q (.ptr 0 0 1) rfl trivial rfl <| s_q (.lst 1 (a_1.Cells.map (encL 3 encGAtom))) rfl nle rfl <| s_mov (.int .i64 left_2) rfl <| s_do (o_call (w_laws_szAtomSS _ _ _ er4) rfl (.refl _) rfl) <| s_mov (.int .i64 r_3) rfl <| w_done <| k_seq <| awp_seq <| awp_seq <| w_reg <| s_mov (.int .i64 r_3) rfl <| s_q (.bool (decide (r_3 < 0))) rfl rfl rfl <| w_done <| k_seq <| ?_
 rcases oi hf with ⟨c5, hf⟩ | ⟨c5, hf⟩
 ·refine w_condt rfl c5 <| awp_seq <| w_reg <| s_mov (.int .i64 (-1)) rfl <| w_done <| k_seq <| w_ret <| ?_; obtain rfl := os hf; exact r_flat ⟨trivial, trivial⟩ rfl (.refl _)
 ·refine w_condf rfl (bf c5) <| w_skip <| k_seq <| awp_seq <| w_reg <| s_mov (.int .i64 r_3) rfl <| s_mov (.int .i64 r_3) rfl <| w_done <| k_seq <| w_ret <| ?_; obtain rfl := os hf; exact r_flat ⟨trivial, trivial⟩ rfl (.refl _)

/- laws.szRowS -/
def c150 : ACode :=
 (.seq (.reg (tm 4 (.c (.int .i64 0)) .done))
 (.seq (.reg (tm 6 (.t 1) (tm 7 (.t 0) (tq 8 (.len (.t 7)) (tq 9 (.bin .sub (.t 6) (.t 8)) (tm 1 (.t 9) .done))))))
 (.seq (.seq (.reg (tm 10 (.t 1) (tq 11 (.bin .lss (.t 10) (.c (.int .i64 0))) .done)))
 (.cond (.t 11) (.seq (.reg (tq 4 (.mov (.c (.int .i64 (-1)))) .done))
 .ret)
 .skip))
 (.seq (.seq (.reg (tm 5 (.c (.int .i64 0)) .done))
 (.block 0 (.loop (.seq (.seq (.reg (tm 12 (.t 5) (tm 13 (.t 0) (tq 14 (.len (.t 13)) (tq 15 (.bin .lss (.t 12) (.t 14)) .done)))))
 (.cond (.t 15) .skip
 (.exit 0)))
 (.seq (.block 1 (.seq (.reg (tm 18 (.t 0) (tm 19 (.t 5) (tq 20 (.iaddr 2 (.t 18) (.t 19)) (tq 21 (.load 2 true (.t 20)) (tm 22 (.t 1) (tq 23 (.call 37 [(.t 21), (.t 22)]) (tm 1 (.t 23) .done))))))))
 (.seq (.reg (tm 24 (.t 1) (tq 25 (.bin .lss (.t 24) (.c (.int .i64 0))) .done)))
 (.cond (.t 25) (.seq (.reg (tq 4 (.mov (.c (.int .i64 (-1)))) .done))
 .ret)
 .skip))))
 (.reg (tm 16 (.t 5) (tq 17 (.bin .add (.t 16) (.c (.int .i64 1))) (tm 5 (.t 17) .done)))))))))
 (.cut (.seq (.reg (tm 26 (.t 1) (tm 4 (.t 26) .done)))
 .ret))))))
theorem fc150 : fcomp Try.prog Try.f150 = some (c150.erase, [.mov (.t 4)], 27) := by kernel_rfl
def laws_szRowS_L1  : List GRow → Int → Option (Fl Int Int)
  | [], left_21 =>
    some (.go left_21)
  | x_39 :: xs, left_21 =>
    (laws_szRow x_39 left_21).bind fun r_42 =>
    if (decide (r_42 < 0)) then
    some (.ret (-1))
    else
    laws_szRowS_L1 xs r_42 

def laws_szRowS (a_1 : (List GRow)) (left_2 : Int) : Option Int :=
    if (decide (w64 (left_2 - (a_1.length : Int)) < 0)) then
    some (-1)
    else
    (laws_szRowS_L1 a_1 (w64 (left_2 - (a_1.length : Int)))).bind fun q => (match q with
    | .ret r => some r
    | .go left_31 =>
    some left_31)
theorem w_laws_szRowS (a_1 : (List GRow)) (left_2 : Int) (r : Int) (hf : laws_szRowS a_1 left_2 = some r) : CallOK Try.prog 150 .flat [(.lst 2 (a_1.map encGRow)), (.int .i64 left_2)] (.int .i64 r) := by
 refine CallOK.of_awp mixed Try.func150 fc150 nle ?_; rw [argT_eq]; unfold laws_szRowS at hf; unfold c150; refine (show awp Try.prog false 0 _ (ofL [(0, (.lst 2 (a_1.map encGRow))), (1, (.int .i64 left_2))]) [] _ from ?_); refine awp_seq <| w_reg <| s_mov (.int .i64 0) rfl <| w_done <| k_seq <| awp_seq <| w_reg <| s_mov (.int .i64 left_2) rfl <| s_mov (.lst 2 (a_1.map encGRow)) rfl <| s_dof (o_len (enc := encGRow) rfl) fun hl3 => s_q (.int .i64 (w64 (left_2 - (a_1.length : Int)))) rfl rfl rfl <| s_mov (.int .i64 (w64 (left_2 - (a_1.length : Int)))) rfl <| w_done <| k_seq <| awp_seq <| awp_seq <| w_reg <| s_mov (.int .i64 (w64 (left_2 - (a_1.length : Int)))) rfl <| s_q (.bool (decide (w64 (left_2 - (a_1.length : Int)) < 0))) rfl rfl rfl <| ?_
 refine w_done <| k_seq <| ?_
 rcases oi hf with ⟨c4, hf⟩ | ⟨c4, hf⟩
 ·refine w_condt rfl c4 <| awp_seq <| w_reg <| s_mov (.int .i64 (-1)) rfl <| w_done <| k_seq <| w_ret <| ?_; obtain rfl := os hf; exact r_flat ⟨trivial, trivial⟩ rfl (.refl _)
 ·refine w_condf rfl (bf c4) <| w_skip <| k_seq <| awp_seq <| awp_seq <| w_reg <| s_mov (.int .i64 0) rfl <| w_done <| k_seq <| ?_
  obtain ⟨p32, hb1, hf⟩ := ob hf
  refine awp_cutx (X := {q : Int // p32 = .go q}) (fun q => ([(1, (.int .i64 q.1))], [])) ?_ ?_
  ·refine awp_loop (X := {q : (Int × Nat) // laws_szRowS_L1 (a_1.drop q.2) q.1 = some p32}) (fun q => ([(0, (.lst 2 (a_1.map encGRow))), (1, (.int .i64 q.1.1)), (5, (.int .i64 (q.1.2 : Int)))], [])) (fun q => a_1.length - q.1.2) ⟨(w64 (left_2 - (a_1.length : Int)), 0), hb1⟩ ⟨[], [], _, _, rfl, rfl, ⟨.refl _, ⟨.refl _, ⟨.refl _, trivial⟩⟩⟩, (.refl _)⟩ ?_
   rintro ⟨⟨left_21, i_22⟩, hc1⟩
   have hc1 : laws_szRowS_L1 (a_1.drop i_22) left_21 = some p32 := hc1
   refine (show awp Try.prog false 0 _ (ofL [(0, (.lst 2 (a_1.map encGRow))), (1, (.int .i64 left_21)), (5, (.int .i64 (i_22 : Int)))]) [] _ from ?_)
   rcases dropc a_1 i_22 with ⟨hie35, hd38⟩ | ⟨hlt33, x_39, hx34, hd38⟩
   ·rw [hd38, laws_szRowS_L1.eq_1] at hc1
    have hq37 := dlf hie35
    refine awp_seq <| awp_seq <| w_reg <| s_mov (.int .i64 (i_22 : Int)) rfl <| s_mov (.lst 2 (a_1.map encGRow)) rfl <| s_dof (o_len (enc := encGRow) rfl) fun hl40 => s_q (.bool (decide ((i_22 : Int) < (a_1.length : Int)))) rfl rfl rfl <| w_done <| k_seq <| w_condf rfl hq37 <| w_exit <| k_seqx <| k_loopx <| k_blkx <| ?_; obtain rfl := os hc1; exact k_cutn ⟨_, rfl⟩ ⟨[], [], _, _, rfl, rfl, ⟨.refl _, trivial⟩, (.refl _)⟩
   ·rw [hd38, laws_szRowS_L1.eq_2] at hc1
    have hq37 := dlt hlt33
    refine awp_seq <| awp_seq <| w_reg <| s_mov (.int .i64 (i_22 : Int)) rfl <| s_mov (.lst 2 (a_1.map encGRow)) rfl <| s_dof (o_len (enc := encGRow) rfl) fun hl41 => s_q (.bool (decide ((i_22 : Int) < (a_1.length : Int)))) rfl rfl rfl <| w_done <| k_seq <| w_condt rfl hq37 <| w_skip <| k_seq <| awp_seq <| w_blk <| awp_seq <| w_reg <| ?_
    obtain ⟨r_42, er43, hc1⟩ := ob hc1
    refine s_mov (.lst 2 (a_1.map encGRow)) rfl <| s_mov (.int .i64 (i_22 : Int)) rfl <| s_do (o_iaddrn (enc := encGRow) rfl rfl hx34) <| s_q (encGRow x_39) rfl nle rfl <| s_mov (.int .i64 left_21) rfl <| s_do (o_call (w_laws_szRow _ _ _ er43) rfl (.refl _) rfl) <| s_mov (.int .i64 r_42) rfl <| w_done <| k_seq <| awp_seq <| w_reg <| s_mov (.int .i64 r_42) rfl <| s_q (.bool (decide (r_42 < 0))) rfl rfl rfl <| w_done <| k_seq <| ?_
    rcases oi hc1 with ⟨c44, hc1⟩ | ⟨c44, hc1⟩
    ·refine w_condt rfl c44 <| awp_seq <| w_reg <| s_mov (.int .i64 (-1)) rfl <| w_done <| k_seq <| w_ret <| ?_; obtain rfl := os hc1; obtain rfl := os hf; exact r_flat ⟨trivial, trivial⟩ rfl (.refl _)
    ·refine w_condf rfl (bf c44) <| w_skip <| k_blk <| k_seq <| w_reg <| s_mov (.int .i64 (i_22 : Int)) rfl <| s_q (.int .i64 (w64 ((i_22 : Int) + 1))) rfl rfl rfl <| s_mov (.int .i64 (w64 ((i_22 : Int) + 1))) rfl <| w_done <| ?_; exact k_loopn ⟨(r_42, (i_22 + 1)), hc1⟩ (mul hlt33) ⟨[], [], _, _, rfl, rfl, ⟨.refl _, ⟨.refl _, ⟨.of_eq (congrArg (AV.int _) (w64_incr hlt33 hl41)), trivial⟩⟩⟩, (.refl _)⟩
  ·rintro ⟨left_31, rfl⟩
   refine awp_seq <| w_reg <| s_mov (.int .i64 left_31) rfl <| s_mov (.int .i64 left_31) rfl <| w_done <| k_seq <| w_ret <| ?_; obtain rfl := os hf; exact r_flat ⟨trivial, trivial⟩ rfl (.refl _)

/- laws.szResult -/
def c68 : ACode :=
 (.seq (.reg (tq 2 (.box 5 (.t 0)) (tm 4 (.c (.int .i64 0)) .done)))
 (.seq (.reg (tq 5 (.faddr 3 (.t 2)) (tq 6 (.load 1 false (.t 5)) (tm 7 (.t 1) (tq 8 (.call 38 [(.t 6), (.t 7)]) (tm 1 (.t 8) .done))))))
 (.seq (.seq (.reg (tm 9 (.t 1) (tq 10 (.bin .lss (.t 9) (.c (.int .i64 0))) .done)))
 (.cond (.t 10) (.seq (.reg (tq 4 (.mov (.c (.int .i64 (-1)))) .done))
 .ret)
 .skip))
 (.seq (.reg (tq 11 (.faddr 4 (.t 2)) (tq 12 (.load 1 false (.t 11)) (tm 13 (.t 1) (tq 14 (.call 150 [(.t 12), (.t 13)]) (tm 1 (.t 14) .done))))))
 (.seq (.seq (.reg (tm 15 (.t 1) (tq 16 (.bin .lss (.t 15) (.c (.int .i64 0))) .done)))
 (.cond (.t 16) (.seq (.reg (tq 4 (.mov (.c (.int .i64 (-1)))) .done))
 .ret)
 .skip))
 (.seq (.reg (tm 17 (.t 1) (tm 4 (.t 17) .done)))
 .ret))))))
theorem fc68 : fcomp Try.prog Try.f68 = some (c68.erase, [.mov (.t 4)], 18) := by kernel_rfl
def laws_szResult (a_1 : GResult) (left_2 : Int) : Option Int :=
    (laws_szStringS a_1.Columns left_2).bind fun r_3 =>
    if (decide (r_3 < 0)) then
    some (-1)
    else
    (laws_szRowS a_1.Rows r_3).bind fun r_6 =>
    if (decide (r_6 < 0)) then
    some (-1)
    else
    some r_6
theorem w_laws_szResult (a_1 : GResult) (left_2 : Int) (r : Int) (hf : laws_szResult a_1 left_2 = some r) : CallOK Try.prog 68 .flat [(encGResult a_1), (.int .i64 left_2)] (.int .i64 r) := by
 refine CallOK.of_awp mixed Try.func68 fc68 nle ?_; rw [argT_eq]; unfold laws_szResult at hf; unfold c68; refine (show awp Try.prog false 0 _ (ofL [(0, (encGResult a_1)), (1, (.int .i64 left_2))]) [] _ from ?_); refine awp_seq <| w_reg <| s_do (o_box (j := 0) (c := (.agg [(.int .i64 a_1.Code), (.int .i64 a_1.Count), (.int .i64 a_1.Id), (.lst 1 (a_1.Columns.map AV.str)), (.lst 2 (a_1.Rows.map encGRow))])) rfl trivial rfl rfl) <| s_mov (.int .i64 0) rfl <| w_done <| k_seq <| awp_seq <| w_reg <| ?_
 obtain ⟨r_3, er4, hf⟩ := ob hf
 refine s_q (.ptr 0 0 3) rfl trivial rfl <| s_q (.lst 1 (a_1.Columns.map AV.str)) rfl nle rfl <| s_mov (.int .i64 left_2) rfl <| s_do (o_call (w_laws_szStringS _ _ _ er4) rfl (.refl _) rfl) <| s_mov (.int .i64 r_3) rfl <| w_done <| k_seq <| awp_seq <| awp_seq <| w_reg <| s_mov (.int .i64 r_3) rfl <| s_q (.bool (decide (r_3 < 0))) rfl rfl rfl <| w_done <| k_seq <| ?_
 rcases oi hf with ⟨c5, hf⟩ | ⟨c5, hf⟩
 ·refine w_condt rfl c5 <| awp_seq <| w_reg <| s_mov (.int .i64 (-1)) rfl <| w_done <| k_seq <| w_ret <| ?_; obtain rfl := os hf; exact r_flat ⟨trivial, trivial⟩ rfl (.refl _)
 ·refine w_condf rfl (bf c5) <| w_skip <| k_seq <| awp_seq <| w_reg <| ?_
  obtain ⟨r_6, er7, hf⟩ := ob hf
  refine s_q (.ptr 0 0 4) rfl trivial rfl <| s_q (.lst 2 (a_1.Rows.map encGRow)) rfl nle rfl <| s_mov (.int .i64 r_3) rfl <| s_do (o_call (w_laws_szRowS _ _ _ er7) rfl (.refl _) rfl) <| s_mov (.int .i64 r_6) rfl <| w_done <| k_seq <| awp_seq <| awp_seq <| w_reg <| s_mov (.int .i64 r_6) rfl <| s_q (.bool (decide (r_6 < 0))) rfl rfl rfl <| w_done <| k_seq <| ?_
  rcases oi hf with ⟨c8, hf⟩ | ⟨c8, hf⟩
  ·refine w_condt rfl c8 <| awp_seq <| w_reg <| s_mov (.int .i64 (-1)) rfl <| w_done <| k_seq <| w_ret <| ?_; obtain rfl := os hf; exact r_flat ⟨trivial, trivial⟩ rfl (.refl _)
  ·refine w_condf rfl (bf c8) <| w_skip <| k_seq <| awp_seq <| w_reg <| s_mov (.int .i64 r_6) rfl <| s_mov (.int .i64 r_6) rfl <| w_done <| k_seq <| w_ret <| ?_; obtain rfl := os hf; exact r_flat ⟨trivial, trivial⟩ rfl (.refl _)

/- laws.szResultS -/
def c11 : ACode :=
 (.seq (.reg (tm 4 (.c (.int .i64 0)) .done))
 (.seq (.reg (tm 6 (.t 1) (tm 7 (.t 0) (tq 8 (.len (.t 7)) (tq 9 (.bin .sub (.t 6) (.t 8)) (tm 1 (.t 9) .done))))))
 (.seq (.seq (.reg (tm 10 (.t 1) (tq 11 (.bin .lss (.t 10) (.c (.int .i64 0))) .done)))
 (.cond (.t 11) (.seq (.reg (tq 4 (.mov (.c (.int .i64 (-1)))) .done))
 .ret)
 .skip))
 (.seq (.seq (.reg (tm 5 (.c (.int .i64 0)) .done))
 (.block 0 (.loop (.seq (.seq (.reg (tm 12 (.t 5) (tm 13 (.t 0) (tq 14 (.len (.t 13)) (tq 15 (.bin .lss (.t 12) (.t 14)) .done)))))
 (.cond (.t 15) .skip
 (.exit 0)))
 (.seq (.block 1 (.seq (.reg (tm 18 (.t 0) (tm 19 (.t 5) (tq 20 (.iaddr 5 (.t 18) (.t 19)) (tq 21 (.load 5 true (.t 20)) (tm 22 (.t 1) (tq 23 (.call 68 [(.t 21), (.t 22)]) (tm 1 (.t 23) .done))))))))
 (.seq (.reg (tm 24 (.t 1) (tq 25 (.bin .lss (.t 24) (.c (.int .i64 0))) .done)))
 (.cond (.t 25) (.seq (.reg (tq 4 (.mov (.c (.int .i64 (-1)))) .done))
 .ret)
 .skip))))
 (.reg (tm 16 (.t 5) (tq 17 (.bin .add (.t 16) (.c (.int .i64 1))) (tm 5 (.t 17) .done)))))))))
 (.cut (.seq (.reg (tm 26 (.t 1) (tm 4 (.t 26) .done)))
 .ret))))))
theorem fc11 : fcomp Try.prog Try.f11 = some (c11.erase, [.mov (.t 4)], 27) := by kernel_rfl
def laws_szResultS_L1  : List GResult → Int → Option (Fl Int Int)
  | [], left_21 =>
    some (.go left_21)
  | x_39 :: xs, left_21 =>
    (laws_szResult x_39 left_21).bind fun r_42 =>
    if (decide (r_42 < 0)) then
    some (.ret (-1))
    else
    laws_szResultS_L1 xs r_42 

def laws_szResultS (a_1 : (List GResult)) (left_2 : Int) : Option Int :=
    if (decide (w64 (left_2 - (a_1.length : Int)) < 0)) then
    some (-1)
    else
    (laws_szResultS_L1 a_1 (w64 (left_2 - (a_1.length : Int)))).bind fun q => (match q with
    | .ret r => some r
    | .go left_31 =>
    some left_31)
theorem w_laws_szResultS (a_1 : (List GResult)) (left_2 : Int) (r : Int) (hf : laws_szResultS a_1 left_2 = some r) : CallOK Try.prog 11 .flat [(.lst 5 (a_1.map encGResult)), (.int .i64 left_2)] (.int .i64 r) := by
 refine CallOK.of_awp mixed Try.func11 fc11 nle ?_; rw [argT_eq]; unfold laws_szResultS at hf; unfold c11; refine (show awp Try.prog false 0 _ (ofL [(0, (.lst 5 (a_1.map encGResult))), (1, (.int .i64 left_2))]) [] _ from ?_); refine awp_seq <| w_reg <| s_mov (.int .i64 0) rfl <| w_done <| k_seq <| awp_seq <| w_reg <| s_mov (.int .i64 left_2) rfl <| s_mov (.lst 5 (a_1.map encGResult)) rfl <| s_dof (o_len (enc := encGResult) rfl) fun hl3 => s_q (.int .i64 (w64 (left_2 - (a_1.length : Int)))) rfl rfl rfl <| s_mov (.int .i64 (w64 (left_2 - (a_1.length : Int)))) rfl <| w_done <| k_seq <| awp_seq <| awp_seq <| w_reg <| s_mov (.int .i64 (w64 (left_2 - (a_1.length : Int)))) rfl <| s_q (.bool (decide (w64 (left_2 - (a_1.length : Int)) < 0))) rfl rfl rfl <| ?_
 refine w_done <| k_seq <| ?_
 rcases oi hf with ⟨c4, hf⟩ | ⟨c4, hf⟩
 ·refine w_condt rfl c4 <| awp_seq <| w_reg <| s_mov (.int .i64 (-1)) rfl <| w_done <| k_seq <| w_ret <| ?_; obtain rfl := os hf; exact r_flat ⟨trivial, trivial⟩ rfl (.refl _)
 ·refine w_condf rfl (bf c4) <| w_skip <| k_seq <| awp_seq <| awp_seq <| w_reg <| s_mov (.int .i64 0) rfl <| w_done <| k_seq <| ?_
  obtain ⟨p32, hb1, hf⟩ := ob hf
  refine awp_cutx (X := {q : Int // p32 = .go q}) (fun q => ([(1, (.int .i64 q.1))], [])) ?_ ?_
  ·refine awp_loop (X := {q : (Int × Nat) // laws_szResultS_L1 (a_1.drop q.2) q.1 = some p32}) (fun q => ([(0, (.lst 5 (a_1.map encGResult))), (1, (.int .i64 q.1.1)), (5, (.int .i64 (q.1.2 : Int)))], [])) (fun q => a_1.length - q.1.2) ⟨(w64 (left_2 - (a_1.length : Int)), 0), hb1⟩ ⟨[], [], _, _, rfl, rfl, ⟨.refl _, ⟨.refl _, ⟨.refl _, trivial⟩⟩⟩, (.refl _)⟩ ?_
   rintro ⟨⟨left_21, i_22⟩, hc1⟩
   have hc1 : laws_szResultS_L1 (a_1.drop i_22) left_21 = some p32 := hc1
   refine (show awp Try.prog false 0 _ (ofL [(0, (.lst 5 (a_1.map encGResult))), (1, (.int .i64 left_21)), (5, (.int .i64 (i_22 : Int)))]) [] _ from ?_)
   rcases dropc a_1 i_22 with ⟨hie35, hd38⟩ | ⟨hlt33, x_39, hx34, hd38⟩
   ·rw [hd38, laws_szResultS_L1.eq_1] at hc1
    have hq37 := dlf hie35
    refine awp_seq <| awp_seq <| w_reg <| s_mov (.int .i64 (i_22 : Int)) rfl <| s_mov (.lst 5 (a_1.map encGResult)) rfl <| s_dof (o_len (enc := encGResult) rfl) fun hl40 => s_q (.bool (decide ((i_22 : Int) < (a_1.length : Int)))) rfl rfl rfl <| w_done <| k_seq <| w_condf rfl hq37 <| w_exit <| k_seqx <| k_loopx <| k_blkx <| ?_; obtain rfl := os hc1; exact k_cutn ⟨_, rfl⟩ ⟨[], [], _, _, rfl, rfl, ⟨.refl _, trivial⟩, (.refl _)⟩
   ·rw [hd38, laws_szResultS_L1.eq_2] at hc1
    have hq37 := dlt hlt33
    refine awp_seq <| awp_seq <| w_reg <| s_mov (.int .i64 (i_22 : Int)) rfl <| s_mov (.lst 5 (a_1.map encGResult)) rfl <| s_dof (o_len (enc := encGResult) rfl) fun hl41 => s_q (.bool (decide ((i_22 : Int) < (a_1.length : Int)))) rfl rfl rfl <| w_done <| k_seq <| w_condt rfl hq37 <| w_skip <| k_seq <| awp_seq <| w_blk <| awp_seq <| w_reg <| ?_
    obtain ⟨r_42, er43, hc1⟩ := ob hc1
    refine s_mov (.lst 5 (a_1.map encGResult)) rfl <| s_mov (.int .i64 (i_22 : Int)) rfl <| s_do (o_iaddrn (enc := encGResult) rfl rfl hx34) <| s_q (encGResult x_39) rfl nle rfl <| s_mov (.int .i64 left_21) rfl <| s_do (o_call (w_laws_szResult _ _ _ er43) rfl (.refl _) rfl) <| s_mov (.int .i64 r_42) rfl <| w_done <| k_seq <| awp_seq <| w_reg <| s_mov (.int .i64 r_42) rfl <| s_q (.bool (decide (r_42 < 0))) rfl rfl rfl <| w_done <| k_seq <| ?_
    rcases oi hc1 with ⟨c44, hc1⟩ | ⟨c44, hc1⟩
    ·refine w_condt rfl c44 <| awp_seq <| w_reg <| s_mov (.int .i64 (-1)) rfl <| w_done <| k_seq <| w_ret <| ?_; obtain rfl := os hc1; obtain rfl := os hf; exact r_flat ⟨trivial, trivial⟩ rfl (.refl _)
    ·refine w_condf rfl (bf c44) <| w_skip <| k_blk <| k_seq <| w_reg <| s_mov (.int .i64 (i_22 : Int)) rfl <| s_q (.int .i64 (w64 ((i_22 : Int) + 1))) rfl rfl rfl <| s_mov (.int .i64 (w64 ((i_22 : Int) + 1))) rfl <| w_done <| ?_; exact k_loopn ⟨(r_42, (i_22 + 1)), hc1⟩ (mul hlt33) ⟨[], [], _, _, rfl, rfl, ⟨.refl _, ⟨.refl _, ⟨.of_eq (congrArg (AV.int _) (w64_incr hlt33 hl41)), trivial⟩⟩⟩, (.refl _)⟩
  ·rintro ⟨left_31, rfl⟩
   refine awp_seq <| w_reg <| s_mov (.int .i64 left_31) rfl <| s_mov (.int .i64 left_31) rfl <| w_done <| k_seq <| w_ret <| ?_; obtain rfl := os hf; exact r_flat ⟨trivial, trivial⟩ rfl (.refl _)

/- laws.toStringS -/
def c42 : ACode :=
 (.seq (.reg (tm 2 (.c .nil) .done))
 (.seq (.reg (tm 5 (.t 0) (tq 6 (.len (.t 5)) (tq 7 (.mkslice 1 16 (.str []) (.t 6) (.t 6)) (tm 3 (.t 7) .done)))))
 (.seq (.seq (.reg (tm 4 (.c (.int .i64 0)) .done))
 (.block 0 (.loop (.seq (.seq (.reg (tm 8 (.t 4) (tm 9 (.t 0) (tq 10 (.len (.t 9)) (tq 11 (.bin .lss (.t 8) (.t 10)) .done)))))
 (.cond (.t 11) .skip
 (.exit 0)))
 (.seq (.block 1 (.reg (tm 14 (.t 3) (tm 15 (.t 4) (tm 16 (.t 0) (tm 17 (.t 4) (tq 18 (.iaddr 1 (.t 16) (.t 17)) (tq 19 (.load 1 false (.t 18)) (tq 20 (.iaddr 1 (.t 14) (.t 15)) (.q ⟨none, none, .store 1 (.t 20) (.t 19)⟩
 .done))))))))))
 (.reg (tm 12 (.t 4) (tq 13 (.bin .add (.t 12) (.c (.int .i64 1))) (tm 4 (.t 13) .done)))))))))
 (.cut (.seq (.reg (tm 21 (.t 3) (tm 2 (.t 21) .done)))
 .ret)))))
theorem fc42 : fcomp Try.prog Try.f42 = some (c42.erase, [.mov (.t 2)], 22) := by kernel_rfl
def laws_toStringS_L1  : List Str → Nat → (List Str) → Option (List Str)
  | [], i_20, out_21 =>
    some out_21
  | x_38 :: xs, i_20, out_21 =>
    if i_20 < out_21.length then
    (out_21[i_20]?).bind fun x_42 =>
    laws_toStringS_L1 xs (i_20 + 1) (out_21.set i_20 x_38)
    else none

def laws_toStringS (a_1 : (List Str)) : Option (List Str) :=
    if (a_1.length : Int) ≤ 2 ^ 30 then
    (laws_toStringS_L1 a_1 0 (List.replicate a_1.length [])).bind fun out_30 =>
    some out_30
    else none
theorem w_laws_toStringS (a_1 : (List Str)) (r : (List Str)) (hf : laws_toStringS a_1 = some r) : CallOK Try.prog 42 .fresh [(.lst 1 (a_1.map AV.str))] (.lst 1 (r.map AV.str)) := by
 refine CallOK.of_awp mixed Try.func42 fc42 nle ?_; rw [argT_eq]; unfold laws_toStringS at hf; unfold c42; refine (show awp Try.prog true 0 _ (ofL [(0, (.lst 1 (a_1.map AV.str)))]) [] _ from ?_); refine awp_seq <| w_reg <| s_mov .nil rfl <| w_done <| k_seq <| awp_seq <| w_reg <| ?_
 obtain ⟨g3, hf⟩ := og hf
 refine s_mov (.lst 1 (a_1.map AV.str)) rfl <| s_dof (o_len (enc := AV.str) rfl) fun hl2 => s_do (o_mkslice (j := 0) (enc := AV.str) (m := a_1.length) [] (.refl _) rfl rfl (Int.le_refl _) g3 rfl) <| s_mov (.own 0 0 a_1.length) rfl <| w_done <| k_seq <| awp_seq <| awp_seq <| w_reg <| s_mov (.int .i64 0) rfl <| w_done <| k_seq <| ?_
 obtain ⟨out_30, hb1, hf⟩ := ob hf
 refine awp_cut ([(3, (.own 0 0 out_30.length))], [.row 1 (out_30.map AV.str)]) ?_ ?_
 ·refine awp_loop (X := {q : (Nat × (List Str)) // laws_toStringS_L1 (a_1.drop q.1) q.1 q.2 = some out_30}) (fun q => ([(0, (.lst 1 (a_1.map AV.str))), (3, (.own 0 0 q.1.2.length)), (4, (.int .i64 (q.1.1 : Int)))], [.row 1 (q.1.2.map AV.str)])) (fun q => a_1.length - q.1.1) ⟨(0, List.replicate a_1.length []), hb1⟩ ⟨[], [0], _, _, rfl, rfl, ⟨.refl _, ⟨.of_eq (congrArg (AV.own _ 0) (by simp)), ⟨.refl _, trivial⟩⟩⟩, (.refl _)⟩ ?_
  rintro ⟨⟨i_20, out_21⟩, hc1⟩
  have hc1 : laws_toStringS_L1 (a_1.drop i_20) i_20 out_21 = some out_30 := hc1
  refine (show awp Try.prog true 0 _ (ofL [(0, (.lst 1 (a_1.map AV.str))), (3, (.own 0 0 out_21.length)), (4, (.int .i64 (i_20 : Int)))]) [.row 1 (out_21.map AV.str)] _ from ?_)
  rcases dropc a_1 i_20 with ⟨hie34, hd37⟩ | ⟨hlt32, x_38, hx33, hd37⟩
  ·rw [hd37, laws_toStringS_L1.eq_1] at hc1
   have hq36 := dlf hie34
   refine awp_seq <| awp_seq <| w_reg <| s_mov (.int .i64 (i_20 : Int)) rfl <| s_mov (.lst 1 (a_1.map AV.str)) rfl <| s_dof (o_len (enc := AV.str) rfl) fun hl39 => s_q (.bool (decide ((i_20 : Int) < (a_1.length : Int)))) rfl rfl rfl <| w_done <| k_seq <| w_condf rfl hq36 <| w_exit <| k_seqx <| k_loopx <| k_blkx <| ?_; obtain rfl := os hc1; exact ⟨[], [0], _, _, rfl, rfl, ⟨.refl _, trivial⟩, (.refl _)⟩
  ·rw [hd37, laws_toStringS_L1.eq_2] at hc1
   have hq36 := dlt hlt32
   refine awp_seq <| awp_seq <| w_reg <| s_mov (.int .i64 (i_20 : Int)) rfl <| s_mov (.lst 1 (a_1.map AV.str)) rfl <| s_dof (o_len (enc := AV.str) rfl) fun hl40 => s_q (.bool (decide ((i_20 : Int) < (a_1.length : Int)))) rfl rfl rfl <| w_done <| k_seq <| w_condt rfl hq36 <| w_skip <| k_seq <| awp_seq <| w_blk <| w_reg <| ?_
   obtain ⟨g41, hc1⟩ := og hc1
   obtain ⟨x_42, ex43, hc1⟩ := ob hc1
   refine s_mov (.own 0 0 out_21.length) rfl <| s_mov (.int .i64 (i_20 : Int)) rfl <| s_mov (.lst 1 (a_1.map AV.str)) rfl <| s_mov (.int .i64 (i_20 : Int)) rfl <| s_do (o_iaddrn (enc := AV.str) rfl rfl hx33) <| s_q (.str x_38) rfl ⟨rfl, rfl⟩ rfl <| s_do (o_iaddrownn rfl rfl g41 rfl rfl) <| ?_; refine s_do0 (o_storerow (v' := (.str x_38)) (e' := x_38) rfl rfl ex43 rfl rfl rfl (by decide) (fun _ => by decide) ⟨rfl, rfl, rfl⟩ (.refl _) rfl) ?_; refine w_done <| k_blk <| k_seq <| w_reg <| s_mov (.int .i64 (i_20 : Int)) rfl <| s_q (.int .i64 (w64 ((i_20 : Int) + 1))) rfl rfl rfl <| s_mov (.int .i64 (w64 ((i_20 : Int) + 1))) rfl <| w_done <| ?_; exact k_loopn ⟨((i_20 + 1), out_21.set i_20 x_38), hc1⟩ (mul hlt32) ⟨[], [0], _, _, rfl, rfl, ⟨.refl _, ⟨.of_eq (congrArg (AV.own _ 0) (by simp)), ⟨.of_eq (congrArg (AV.int _) (w64_incr hlt32 hl40)), trivial⟩⟩⟩, (.refl _)⟩
 ·refine awp_seq <| w_reg <| s_mov (.own 0 0 out_30.length) rfl <| s_mov (.own 0 0 out_30.length) rfl <| w_done <| k_seq <| w_ret <| ?_; obtain rfl := os hf; exact r_fresh ⟨trivial, trivial⟩ rfl (by decide) (.of_eq (congrArg (AV.lst _) (tk (enc := AV.str) out_30)))

/- laws.toAtom -/
def c241 : ACode :=
 (.seq (.reg (tq 1 (.box 3 (.t 0)) (tq 2 (.box 3 (.c (.agg [(.int .i64 0), (.int .i64 0), (.str [])]))) .done)))
 (.seq (.reg (tq 3 (.box 3 (.c (.agg [(.int .i64 0), (.int .i64 0), (.str [])]))) .done))
 (.seq (.reg (tq 4 (.faddr 0 (.t 1)) (tq 5 (.load 1 false (.t 4)) (tq 6 (.faddr 0 (.t 3)) (.q ⟨none, none, .store 1 (.t 6) (.t 5)⟩
 .done)))))
 (.seq (.reg (tq 7 (.faddr 1 (.t 1)) (tq 8 (.load 1 false (.t 7)) (tq 9 (.faddr 1 (.t 3)) (.q ⟨none, none, .store 1 (.t 9) (.t 8)⟩
 .done)))))
 (.seq (.reg (tq 10 (.faddr 2 (.t 1)) (tq 11 (.load 1 false (.t 10)) (tq 12 (.faddr 2 (.t 3)) (.q ⟨none, none, .store 1 (.t 12) (.t 11)⟩
 .done)))))
 (.seq (.reg (tq 13 (.load 3 true (.t 3)) (.q ⟨none, none, .store 3 (.t 2) (.t 13)⟩
 .done)))
 .ret))))))
theorem fc241 : fcomp Try.prog Try.f241 = some (c241.erase, [.load 3 true (.t 2)], 14) := by kernel_rfl
def laws_toAtom (a_1 : GAtom) : Option GAtom :=
    some a_1
theorem w_laws_toAtom (a_1 : GAtom) (r : GAtom) (hf : laws_toAtom a_1 = some r) : CallOK Try.prog 241 .flat [(encGAtom a_1)] (encGAtom r) := by
 refine CallOK.of_awp mixed Try.func241 fc241 nle ?_; rw [argT_eq]; unfold laws_toAtom at hf; unfold c241; refine (show awp Try.prog false 0 _ (ofL [(0, (encGAtom a_1))]) [] _ from ?_); refine awp_seq <| w_reg <| s_do (o_box (j := 0) (c := (.agg [(.int .i64 a_1.Kind), (.int .i64 a_1.N), (.str a_1.T)])) rfl trivial rfl rfl) <| s_do (o_box (j := 1) (c := (.agg [(.int .i64 0), (.int .i64 0), (.str [])])) rfl trivial rfl rfl) <| w_done <| k_seq <| awp_seq <| w_reg <| s_do (o_box (j := 2) (c := (.agg [(.int .i64 0), (.int .i64 0), (.str [])])) rfl trivial rfl rfl) <| w_done <| k_seq <| awp_seq <| w_reg <| s_q (.ptr 0 0 0) rfl trivial rfl <| s_q (.int .i64 a_1.Kind) rfl nle rfl <| s_q (.ptr 2 0 0) rfl trivial rfl <| s_do0 (o_storebox (v := (.int .i64 a_1.Kind)) (y' := (.agg [(.int .i64 a_1.Kind), (.int .i64 0), (.str [])])) rfl rfl rfl trivial ⟨rfl, nle⟩ ⟨⟨rfl, trivial⟩, trivial⟩ rfl) <| ?_
 refine w_done <| k_seq <| awp_seq <| w_reg <| s_q (.ptr 0 0 1) rfl trivial rfl <| s_q (.int .i64 a_1.N) rfl nle rfl <| s_q (.ptr 2 0 1) rfl trivial rfl <| s_do0 (o_storebox (v := (.int .i64 a_1.N)) (y' := (.agg [(.int .i64 a_1.Kind), (.int .i64 a_1.N), (.str [])])) rfl rfl rfl trivial ⟨rfl, nle⟩ ⟨⟨rfl, trivial⟩, trivial⟩ rfl) <| w_done <| k_seq <| awp_seq <| w_reg <| s_q (.ptr 0 0 2) rfl trivial rfl <| s_q (.str a_1.T) rfl nle rfl <| s_q (.ptr 2 0 2) rfl trivial rfl <| s_do0 (o_storebox (v := (.str a_1.T)) (y' := (.agg [(.int .i64 a_1.Kind), (.int .i64 a_1.N), (.str a_1.T)])) rfl rfl rfl trivial ⟨rfl, nle⟩ ⟨⟨rfl, trivial⟩, trivial⟩ rfl) <| w_done <| k_seq <| awp_seq <| w_reg <| s_q (.agg [(.int .i64 a_1.Kind), (.int .i64 a_1.N), (.str a_1.T)]) rfl nle rfl <| ?_
 refine s_do0 (o_storebox (v := (.agg [(.int .i64 a_1.Kind), (.int .i64 a_1.N), (.str a_1.T)])) (y' := (.agg [(.int .i64 a_1.Kind), (.int .i64 a_1.N), (.str a_1.T)])) rfl rfl rfl trivial ⟨rfl, nle⟩ ⟨⟨rfl, trivial⟩, ⟨⟨rfl, trivial⟩, ⟨⟨rfl, trivial⟩, trivial⟩⟩⟩ rfl) <| w_done <| k_seq <| w_ret <| ?_; obtain rfl := os hf; exact r_flat ⟨nle, trivial⟩ rfl (.refl _)

/- laws.toAtomS -/
def c202 : ACode :=
 (.seq (.reg (tm 2 (.c .nil) .done))
 (.seq (.reg (tm 5 (.t 0) (tq 6 (.len (.t 5)) (tq 7 (.mkslice 3 32 (.agg [(.int .i64 0), (.int .i64 0), (.str [])]) (.t 6) (.t 6)) (tm 3 (.t 7) .done)))))
 (.seq (.seq (.reg (tm 4 (.c (.int .i64 0)) .done))
 (.block 0 (.loop (.seq (.seq (.reg (tm 8 (.t 4) (tm 9 (.t 0) (tq 10 (.len (.t 9)) (tq 11 (.bin .lss (.t 8) (.t 10)) .done)))))
 (.cond (.t 11) .skip
 (.exit 0)))
 (.seq (.block 1 (.reg (tm 14 (.t 3) (tm 15 (.t 4) (tm 16 (.t 0) (tm 17 (.t 4) (tq 18 (.iaddr 3 (.t 16) (.t 17)) (tq 19 (.load 3 true (.t 18)) (tq 20 (.call 241 [(.t 19)]) (tq 21 (.iaddr 3 (.t 14) (.t 15)) (.q ⟨none, none, .store 3 (.t 21) (.t 20)⟩
 .done)))))))))))
 (.reg (tm 12 (.t 4) (tq 13 (.bin .add (.t 12) (.c (.int .i64 1))) (tm 4 (.t 13) .done)))))))))
 (.cut (.seq (.reg (tm 22 (.t 3) (tm 2 (.t 22) .done)))
 .ret)))))
theorem fc202 : fcomp Try.prog Try.f202 = some (c202.erase, [.mov (.t 2)], 23) := by kernel_rfl
def laws_toAtomS_L1  : List GAtom → Nat → (List GAtom) → Option (List GAtom)
  | [], i_24, out_25 =>
    some out_25
  | x_44 :: xs, i_24, out_25 =>
    (laws_toAtom x_44).bind fun r_47 =>
    if i_24 < out_25.length then
    (out_25[i_24]?).bind fun x_50 =>
    laws_toAtomS_L1 xs (i_24 + 1) (out_25.set i_24 r_47)
    else none

def laws_toAtomS (a_1 : (List GAtom)) : Option (List GAtom) :=
    if (a_1.length : Int) ≤ 2 ^ 30 then
    (laws_toAtomS_L1 a_1 0 (List.replicate a_1.length (⟨0, 0, []⟩ : GAtom))).bind fun out_36 =>
    some out_36
    else none
theorem w_laws_toAtomS (a_1 : (List GAtom)) (r : (List GAtom)) (hf : laws_toAtomS a_1 = some r) : CallOK Try.prog 202 .fresh [(.lst 3 (a_1.map encGAtom))] (.lst 3 (r.map encGAtom)) := by
 refine CallOK.of_awp mixed Try.func202 fc202 nle ?_; rw [argT_eq]; unfold laws_toAtomS at hf; unfold c202; refine (show awp Try.prog true 0 _ (ofL [(0, (.lst 3 (a_1.map encGAtom)))]) [] _ from ?_); refine awp_seq <| w_reg <| s_mov .nil rfl <| w_done <| k_seq <| awp_seq <| w_reg <| ?_
 obtain ⟨g3, hf⟩ := og hf
 refine s_mov (.lst 3 (a_1.map encGAtom)) rfl <| s_dof (o_len (enc := encGAtom) rfl) fun hl2 => s_do (o_mkslice (j := 0) (enc := encGAtom) (m := a_1.length) (⟨0, 0, []⟩ : GAtom) (.refl _) rfl rfl (Int.le_refl _) g3 rfl) <| s_mov (.own 0 0 a_1.length) rfl <| w_done <| k_seq <| awp_seq <| awp_seq <| w_reg <| s_mov (.int .i64 0) rfl <| w_done <| k_seq <| ?_
 obtain ⟨out_36, hb1, hf⟩ := ob hf
 refine awp_cut ([(3, (.own 0 0 out_36.length))], [.row 3 (out_36.map encGAtom)]) ?_ ?_
 ·refine awp_loop (X := {q : (Nat × (List GAtom)) // laws_toAtomS_L1 (a_1.drop q.1) q.1 q.2 = some out_36}) (fun q => ([(0, (.lst 3 (a_1.map encGAtom))), (3, (.own 0 0 q.1.2.length)), (4, (.int .i64 (q.1.1 : Int)))], [.row 3 (q.1.2.map encGAtom)])) (fun q => a_1.length - q.1.1) ⟨(0, List.replicate a_1.length (⟨0, 0, []⟩ : GAtom)), hb1⟩ ⟨[], [0], _, _, rfl, rfl, ⟨.refl _, ⟨.of_eq (congrArg (AV.own _ 0) (by simp)), ⟨.refl _, trivial⟩⟩⟩, (.refl _)⟩ ?_
  rintro ⟨⟨i_24, out_25⟩, hc1⟩
  have hc1 : laws_toAtomS_L1 (a_1.drop i_24) i_24 out_25 = some out_36 := hc1
  refine (show awp Try.prog true 0 _ (ofL [(0, (.lst 3 (a_1.map encGAtom))), (3, (.own 0 0 out_25.length)), (4, (.int .i64 (i_24 : Int)))]) [.row 3 (out_25.map encGAtom)] _ from ?_)
  rcases dropc a_1 i_24 with ⟨hie40, hd43⟩ | ⟨hlt38, x_44, hx39, hd43⟩
  ·rw [hd43, laws_toAtomS_L1.eq_1] at hc1
   have hq42 := dlf hie40
   refine awp_seq <| awp_seq <| w_reg <| s_mov (.int .i64 (i_24 : Int)) rfl <| s_mov (.lst 3 (a_1.map encGAtom)) rfl <| s_dof (o_len (enc := encGAtom) rfl) fun hl45 => s_q (.bool (decide ((i_24 : Int) < (a_1.length : Int)))) rfl rfl rfl <| w_done <| k_seq <| w_condf rfl hq42 <| w_exit <| k_seqx <| k_loopx <| k_blkx <| ?_; obtain rfl := os hc1; exact ⟨[], [0], _, _, rfl, rfl, ⟨.refl _, trivial⟩, (.refl _)⟩
  ·rw [hd43, laws_toAtomS_L1.eq_2] at hc1
   have hq42 := dlt hlt38
   refine awp_seq <| awp_seq <| w_reg <| s_mov (.int .i64 (i_24 : Int)) rfl <| s_mov (.lst 3 (a_1.map encGAtom)) rfl <| s_dof (o_len (enc := encGAtom) rfl) fun hl46 => s_q (.bool (decide ((i_24 : Int) < (a_1.length : Int)))) rfl rfl rfl <| w_done <| k_seq <| w_condt rfl hq42 <| w_skip <| k_seq <| awp_seq <| w_blk <| w_reg <| ?_
   obtain ⟨r_47, er48, hc1⟩ := ob hc1
   obtain ⟨g49, hc1⟩ := og hc1
   obtain ⟨x_50, ex51, hc1⟩ := ob hc1
   refine s_mov (.own 0 0 out_25.length) rfl <| s_mov (.int .i64 (i_24 : Int)) rfl <| s_mov (.lst 3 (a_1.map encGAtom)) rfl <| s_mov (.int .i64 (i_24 : Int)) rfl <| s_do (o_iaddrn (enc := encGAtom) rfl rfl hx39) <| s_q (encGAtom x_44) rfl nle rfl <| s_do (o_call (w_laws_toAtom _ _ er48) rfl (.refl _) rfl) <| s_do (o_iaddrownn rfl rfl g49 rfl rfl) <| ?_; refine s_do0 (o_storerow (v' := (encGAtom r_47)) (e' := r_47) rfl rfl ex51 rfl rfl rfl (by decide) (fun _ => by decide) ⟨rfl, nle⟩ (.refl _) rfl) ?_; refine w_done <| k_blk <| k_seq <| w_reg <| s_mov (.int .i64 (i_24 : Int)) rfl <| s_q (.int .i64 (w64 ((i_24 : Int) + 1))) rfl rfl rfl <| s_mov (.int .i64 (w64 ((i_24 : Int) + 1))) rfl <| w_done <| ?_; exact k_loopn ⟨((i_24 + 1), out_25.set i_24 r_47), hc1⟩ (mul hlt38) ⟨[], [0], _, _, rfl, rfl, ⟨.refl _, ⟨.of_eq (congrArg (AV.own _ 0) (by simp)), ⟨.of_eq (congrArg (AV.int _) (w64_incr hlt38 hl46)), trivial⟩⟩⟩, (.refl _)⟩
 ·refine awp_seq <| w_reg <| s_mov (.own 0 0 out_36.length) rfl <| s_mov (.own 0 0 out_36.length) rfl <| w_done <| k_seq <| w_ret <| ?_; obtain rfl := os hf; exact r_fresh ⟨trivial, trivial⟩ rfl (by decide) (.of_eq (congrArg (AV.lst _) (tk (enc := encGAtom) out_36)))

/- laws.toAtomSS -/
def c121 : ACode :=
 (.seq (.reg (tm 2 (.c .nil) .done))
 (.seq (.reg (tm 5 (.t 0) (tq 6 (.len (.t 5)) (tq 7 (.mkslice 1 24 .nil (.t 6) (.t 6)) (tm 3 (.t 7) .done)))))
 (.seq (.seq (.reg (tm 4 (.c (.int .i64 0)) .done))
 (.block 0 (.loop (.seq (.seq (.reg (tm 8 (.t 4) (tm 9 (.t 0) (tq 10 (.len (.t 9)) (tq 11 (.bin .lss (.t 8) (.t 10)) .done)))))
 (.cond (.t 11) .skip
 (.exit 0)))
 (.seq (.block 1 (.reg (tm 14 (.t 3) (tm 15 (.t 4) (tm 16 (.t 0) (tm 17 (.t 4) (tq 18 (.iaddr 1 (.t 16) (.t 17)) (tq 19 (.load 1 false (.t 18)) (tq 20 (.call 202 [(.t 19)]) (tq 21 (.iaddr 1 (.t 14) (.t 15)) (.q ⟨none, none, .store 1 (.t 21) (.t 20)⟩
 .done)))))))))))
 (.reg (tm 12 (.t 4) (tq 13 (.bin .add (.t 12) (.c (.int .i64 1))) (tm 4 (.t 13) .done)))))))))
 (.cut (.seq (.reg (tm 22 (.t 3) (tm 2 (.t 22) .done)))
 .ret)))))
theorem fc121 : fcomp Try.prog Try.f121 = some (c121.erase, [.mov (.t 2)], 23) := by kernel_rfl
def laws_toAtomSS_L1  : List (List GAtom) → Nat → (List (List GAtom)) → Option (List (List GAtom))
  | [], i_24, out_25 =>
    some out_25
  | x_44 :: xs, i_24, out_25 =>
    (laws_toAtomS x_44).bind fun r_47 =>
    if i_24 < out_25.length then
    (out_25[i_24]?).bind fun x_50 =>
    laws_toAtomSS_L1 xs (i_24 + 1) (out_25.set i_24 r_47)
    else none

def laws_toAtomSS (a_1 : (List (List GAtom))) : Option (List (List GAtom)) :=
    if (a_1.length : Int) ≤ 2 ^ 30 then
    (laws_toAtomSS_L1 a_1 0 (List.replicate a_1.length [])).bind fun out_36 =>
    some out_36
    else none
theorem w_laws_toAtomSS (a_1 : (List (List GAtom))) (r : (List (List GAtom))) (hf : laws_toAtomSS a_1 = some r) : CallOK Try.prog 121 .fresh [(.lst 1 (a_1.map (encL 3 encGAtom)))] (.lst 1 (r.map (encL 3 encGAtom))) := by
 refine CallOK.of_awp mixed Try.func121 fc121 nle ?_; rw [argT_eq]; unfold laws_toAtomSS at hf; unfold c121; refine (show awp Try.prog true 0 _ (ofL [(0, (.lst 1 (a_1.map (encL 3 encGAtom))))]) [] _ from ?_); refine awp_seq <| w_reg <| s_mov .nil rfl <| w_done <| k_seq <| awp_seq <| w_reg <| ?_
 obtain ⟨g3, hf⟩ := og hf
 refine s_mov (.lst 1 (a_1.map (encL 3 encGAtom))) rfl <| s_dof (o_len (enc := (encL 3 encGAtom)) rfl) fun hl2 => s_do (o_mkslice (j := 0) (enc := (encL 3 encGAtom)) (m := a_1.length) [] (.nil _) rfl rfl (Int.le_refl _) g3 rfl) <| s_mov (.own 0 0 a_1.length) rfl <| w_done <| k_seq <| awp_seq <| awp_seq <| w_reg <| s_mov (.int .i64 0) rfl <| w_done <| k_seq <| ?_
 obtain ⟨out_36, hb1, hf⟩ := ob hf
 refine awp_cut ([(3, (.own 0 0 out_36.length))], [.row 1 (out_36.map (encL 3 encGAtom))]) ?_ ?_
 ·refine awp_loop (X := {q : (Nat × (List (List GAtom))) // laws_toAtomSS_L1 (a_1.drop q.1) q.1 q.2 = some out_36}) (fun q => ([(0, (.lst 1 (a_1.map (encL 3 encGAtom)))), (3, (.own 0 0 q.1.2.length)), (4, (.int .i64 (q.1.1 : Int)))], [.row 1 (q.1.2.map (encL 3 encGAtom))])) (fun q => a_1.length - q.1.1) ⟨(0, List.replicate a_1.length []), hb1⟩ ⟨[], [0], _, _, rfl, rfl, ⟨.refl _, ⟨.of_eq (congrArg (AV.own _ 0) (by simp)), ⟨.refl _, trivial⟩⟩⟩, (.refl _)⟩ ?_
  rintro ⟨⟨i_24, out_25⟩, hc1⟩
  have hc1 : laws_toAtomSS_L1 (a_1.drop i_24) i_24 out_25 = some out_36 := hc1
  refine (show awp Try.prog true 0 _ (ofL [(0, (.lst 1 (a_1.map (encL 3 encGAtom)))), (3, (.own 0 0 out_25.length)), (4, (.int .i64 (i_24 : Int)))]) [.row 1 (out_25.map (encL 3 encGAtom))] _ from ?_)
  rcases dropc a_1 i_24 with ⟨hie40, hd43⟩ | ⟨hlt38, x_44, hx39, hd43⟩
  ·rw [hd43, laws_toAtomSS_L1.eq_1] at hc1
   have hq42 := dlf hie40
   refine awp_seq <| awp_seq <| w_reg <| s_mov (.int .i64 (i_24 : Int)) rfl <| s_mov (.lst 1 (a_1.map (encL 3 encGAtom))) rfl <| s_dof (o_len (enc := (encL 3 encGAtom)) rfl) fun hl45 => s_q (.bool (decide ((i_24 : Int) < (a_1.length : Int)))) rfl rfl rfl <| w_done <| k_seq <| w_condf rfl hq42 <| w_exit <| k_seqx <| k_loopx <| k_blkx <| ?_; obtain rfl := os hc1; exact ⟨[], [0], _, _, rfl, rfl, ⟨.refl _, trivial⟩, (.refl _)⟩
  ·rw [hd43, laws_toAtomSS_L1.eq_2] at hc1
   have hq42 := dlt hlt38
   refine awp_seq <| awp_seq <| w_reg <| s_mov (.int .i64 (i_24 : Int)) rfl <| s_mov (.lst 1 (a_1.map (encL 3 encGAtom))) rfl <| s_dof (o_len (enc := (encL 3 encGAtom)) rfl) fun hl46 => s_q (.bool (decide ((i_24 : Int) < (a_1.length : Int)))) rfl rfl rfl <| w_done <| k_seq <| w_condt rfl hq42 <| w_skip <| k_seq <| awp_seq <| w_blk <| w_reg <| ?_
   obtain ⟨r_47, er48, hc1⟩ := ob hc1
   obtain ⟨g49, hc1⟩ := og hc1
   obtain ⟨x_50, ex51, hc1⟩ := ob hc1
   refine s_mov (.own 0 0 out_25.length) rfl <| s_mov (.int .i64 (i_24 : Int)) rfl <| s_mov (.lst 1 (a_1.map (encL 3 encGAtom))) rfl <| s_mov (.int .i64 (i_24 : Int)) rfl <| s_do (o_iaddrn (enc := (encL 3 encGAtom)) rfl rfl hx39) <| s_q (.lst 3 (x_44.map encGAtom)) rfl ⟨rfl, rfl⟩ rfl <| s_do (o_callf (v := (.own 1 0 r_47.length)) (h' := [.row 3 (r_47.map encGAtom)]) (w_laws_toAtomS _ _ er48) rfl (.refl _) (by simp only [openV, openVs, List.length_map, List.nil_append, List.append_nil, List.cons_append]; rfl)) <| s_do (o_iaddrownn rfl rfl g49 rfl rfl) <| ?_; refine s_do0 (o_storerow (v' := (.lst 3 (r_47.map encGAtom))) (e' := r_47) rfl rfl ex51 rfl rfl (by simp only [tk, tko, List.take_length]) (by decide) (fun _ => by decide) ⟨rfl, rfl, rfl⟩ (.refl _) rfl) ?_
   refine w_done <| k_blk <| k_seq <| w_reg <| s_mov (.int .i64 (i_24 : Int)) rfl <| s_q (.int .i64 (w64 ((i_24 : Int) + 1))) rfl rfl rfl <| s_mov (.int .i64 (w64 ((i_24 : Int) + 1))) rfl <| w_done <| ?_; exact k_loopn ⟨((i_24 + 1), out_25.set i_24 r_47), hc1⟩ (mul hlt38) ⟨[], [0], _, _, rfl, rfl, ⟨.refl _, ⟨.of_eq (congrArg (AV.own _ 0) (by simp)), ⟨.of_eq (congrArg (AV.int _) (w64_incr hlt38 hl46)), trivial⟩⟩⟩, (.refl _)⟩
 ·refine awp_seq <| w_reg <| s_mov (.own 0 0 out_36.length) rfl <| s_mov (.own 0 0 out_36.length) rfl <| w_done <| k_seq <| w_ret <| ?_; obtain rfl := os hf; exact r_fresh ⟨trivial, trivial⟩ rfl (by decide) (.of_eq (congrArg (AV.lst _) (tk (enc := (encL 3 encGAtom)) out_36)))

/- laws.toRow -/
def c41 : ACode :=
 (.seq (.reg (tq 1 (.box 2 (.t 0)) (tq 2 (.box 2 (.c (.agg [(.int .i64 0), .nil]))) .done)))
 (.seq (.reg (tq 3 (.box 2 (.c (.agg [(.int .i64 0), .nil]))) .done))
 (.seq (.reg (tq 4 (.faddr 0 (.t 1)) (tq 5 (.load 1 false (.t 4)) (tq 6 (.faddr 0 (.t 3)) (.q ⟨none, none, .store 1 (.t 6) (.t 5)⟩
 .done)))))
 (.seq (.reg (tq 7 (.faddr 1 (.t 1)) (tq 8 (.load 1 false (.t 7)) (tq 9 (.call 121 [(.t 8)]) (tq 10 (.faddr 1 (.t 3)) (.q ⟨none, none, .store 1 (.t 10) (.t 9)⟩
 .done))))))
 (.seq (.reg (tq 11 (.load 2 true (.t 3)) (.q ⟨none, none, .store 2 (.t 2) (.t 11)⟩
 .done)))
 .ret)))))
theorem fc41 : fcomp Try.prog Try.f41 = some (c41.erase, [.load 2 true (.t 2)], 12) := by kernel_rfl
def laws_toRow (a_1 : GRow) : Option GRow :=
    (laws_toAtomSS a_1.Cells).bind fun r_2 =>
    some (⟨a_1.Id, r_2⟩ : GRow)
theorem w_laws_toRow (a_1 : GRow) (r : GRow) (hf : laws_toRow a_1 = some r) : CallOK Try.prog 41 .fresh [(encGRow a_1)] (encGRow r) := by
 refine CallOK.of_awp mixed Try.func41 fc41 nle ?_; rw [argT_eq]; unfold laws_toRow at hf; unfold c41; refine (show awp Try.prog true 0 _ (ofL [(0, (encGRow a_1))]) [] _ from ?_); refine awp_seq <| w_reg <| s_do (o_box (j := 0) (c := (.agg [(.int .i64 a_1.Id), (.lst 1 (a_1.Cells.map (encL 3 encGAtom)))])) rfl trivial rfl rfl) <| s_do (o_box (j := 1) (c := (.agg [(.int .i64 0), .nil])) rfl trivial rfl rfl) <| w_done <| k_seq <| awp_seq <| w_reg <| s_do (o_box (j := 2) (c := (.agg [(.int .i64 0), .nil])) rfl trivial rfl rfl) <| w_done <| k_seq <| awp_seq <| w_reg <| s_q (.ptr 0 0 0) rfl trivial rfl <| s_q (.int .i64 a_1.Id) rfl nle rfl <| s_q (.ptr 2 0 0) rfl trivial rfl <| s_do0 (o_storebox (v := (.int .i64 a_1.Id)) (y' := (.agg [(.int .i64 a_1.Id), .nil])) rfl rfl rfl trivial ⟨rfl, nle⟩ ⟨⟨rfl, trivial⟩, trivial⟩ rfl) <| ?_
 refine w_done <| k_seq <| awp_seq <| w_reg <| ?_
 obtain ⟨r_2, er3, hf⟩ := ob hf
 refine s_q (.ptr 0 0 1) rfl trivial rfl <| s_q (.lst 1 (a_1.Cells.map (encL 3 encGAtom))) rfl nle rfl <| s_do (o_callf (v := (.own 3 0 r_2.length)) (h' := [.row 1 (r_2.map (encL 3 encGAtom))]) (w_laws_toAtomSS _ _ er3) rfl (.refl _) (by simp only [openV, openVs, List.length_map, List.nil_append, List.append_nil, List.cons_append]; rfl)) <| s_q (.ptr 2 0 1) rfl trivial rfl <| s_do0 (o_storebox (v := (.own 3 0 r_2.length)) (y' := (.agg [(.int .i64 a_1.Id), (.own 3 0 r_2.length)])) rfl rfl rfl trivial ⟨rfl, nle⟩ ⟨⟨rfl, trivial⟩, trivial⟩ rfl) <| w_done <| k_seq <| awp_seq <| w_reg <| s_q (.agg [(.int .i64 a_1.Id), (.own 3 0 r_2.length)]) rfl nle rfl <| s_do0 (o_storebox (v := (.agg [(.int .i64 a_1.Id), (.own 3 0 r_2.length)])) (y' := (.agg [(.int .i64 a_1.Id), (.own 3 0 r_2.length)])) rfl rfl rfl trivial ⟨rfl, nle⟩ ⟨⟨rfl, trivial⟩, ⟨⟨rfl, trivial⟩, trivial⟩⟩ rfl) <| ?_
 refine w_done <| k_seq <| w_ret <| ?_; obtain rfl := os hf; exact r_fresh ⟨nle, trivial⟩ rfl (by decide) (.agg (.cons (.refl _) (.cons (.of_eq (congrArg (AV.lst _) (tk (enc := (encL 3 encGAtom)) r_2))) .nil)))

/- laws.toRowS -/
def c154 : ACode :=
 (.seq (.reg (tm 2 (.c .nil) .done))
 (.seq (.reg (tm 5 (.t 0) (tq 6 (.len (.t 5)) (tq 7 (.mkslice 2 32 (.agg [(.int .i64 0), .nil]) (.t 6) (.t 6)) (tm 3 (.t 7) .done)))))
 (.seq (.seq (.reg (tm 4 (.c (.int .i64 0)) .done))
 (.block 0 (.loop (.seq (.seq (.reg (tm 8 (.t 4) (tm 9 (.t 0) (tq 10 (.len (.t 9)) (tq 11 (.bin .lss (.t 8) (.t 10)) .done)))))
 (.cond (.t 11) .skip
 (.exit 0)))
 (.seq (.block 1 (.reg (tm 14 (.t 3) (tm 15 (.t 4) (tm 16 (.t 0) (tm 17 (.t 4) (tq 18 (.iaddr 2 (.t 16) (.t 17)) (tq 19 (.load 2 true (.t 18)) (tq 20 (.call 41 [(.t 19)]) (tq 21 (.iaddr 2 (.t 14) (.t 15)) (.q ⟨none, none, .store 2 (.t 21) (.t 20)⟩
 .done)))))))))))
 (.reg (tm 12 (.t 4) (tq 13 (.bin .add (.t 12) (.c (.int .i64 1))) (tm 4 (.t 13) .done)))))))))
 (.cut (.seq (.reg (tm 22 (.t 3) (tm 2 (.t 22) .done)))
 .ret)))))
theorem fc154 : fcomp Try.prog Try.f154 = some (c154.erase, [.mov (.t 2)], 23) := by kernel_rfl
def laws_toRowS_L1  : List GRow → Nat → (List GRow) → Option (List GRow)
  | [], i_24, out_25 =>
    some out_25
  | x_44 :: xs, i_24, out_25 =>
    (laws_toRow x_44).bind fun r_47 =>
    if i_24 < out_25.length then
    (out_25[i_24]?).bind fun x_50 =>
    laws_toRowS_L1 xs (i_24 + 1) (out_25.set i_24 r_47)
    else none

def laws_toRowS (a_1 : (List GRow)) : Option (List GRow) :=
    if (a_1.length : Int) ≤ 2 ^ 30 then
    (laws_toRowS_L1 a_1 0 (List.replicate a_1.length (⟨0, []⟩ : GRow))).bind fun out_36 =>
    some out_36
    else none
theorem w_laws_toRowS (a_1 : (List GRow)) (r : (List GRow)) (hf : laws_toRowS a_1 = some r) : CallOK Try.prog 154 .fresh [(.lst 2 (a_1.map encGRow))] (.lst 2 (r.map encGRow)) := by
 refine CallOK.of_awp mixed Try.func154 fc154 nle ?_; rw [argT_eq]; unfold laws_toRowS at hf; unfold c154; refine (show awp Try.prog true 0 _ (ofL [(0, (.lst 2 (a_1.map encGRow)))]) [] _ from ?_); refine awp_seq <| w_reg <| s_mov .nil rfl <| w_done <| k_seq <| awp_seq <| w_reg <| ?_
 obtain ⟨g3, hf⟩ := og hf
 refine s_mov (.lst 2 (a_1.map encGRow)) rfl <| s_dof (o_len (enc := encGRow) rfl) fun hl2 => s_do (o_mkslice (j := 0) (enc := encGRow) (m := a_1.length) (⟨0, []⟩ : GRow) (.agg (.cons (.refl _) (.cons (.nil _) .nil))) rfl rfl (Int.le_refl _) g3 rfl) <| s_mov (.own 0 0 a_1.length) rfl <| w_done <| k_seq <| awp_seq <| awp_seq <| w_reg <| s_mov (.int .i64 0) rfl <| w_done <| k_seq <| ?_
 obtain ⟨out_36, hb1, hf⟩ := ob hf
 refine awp_cut ([(3, (.own 0 0 out_36.length))], [.row 2 (out_36.map encGRow)]) ?_ ?_
 ·refine awp_loop (X := {q : (Nat × (List GRow)) // laws_toRowS_L1 (a_1.drop q.1) q.1 q.2 = some out_36}) (fun q => ([(0, (.lst 2 (a_1.map encGRow))), (3, (.own 0 0 q.1.2.length)), (4, (.int .i64 (q.1.1 : Int)))], [.row 2 (q.1.2.map encGRow)])) (fun q => a_1.length - q.1.1) ⟨(0, List.replicate a_1.length (⟨0, []⟩ : GRow)), hb1⟩ ⟨[], [0], _, _, rfl, rfl, ⟨.refl _, ⟨.of_eq (congrArg (AV.own _ 0) (by simp)), ⟨.refl _, trivial⟩⟩⟩, (.refl _)⟩ ?_
  rintro ⟨⟨i_24, out_25⟩, hc1⟩
  have hc1 : laws_toRowS_L1 (a_1.drop i_24) i_24 out_25 = some out_36 := hc1
  refine (show awp Try.prog true 0 _ (ofL [(0, (.lst 2 (a_1.map encGRow))), (3, (.own 0 0 out_25.length)), (4, (.int .i64 (i_24 : Int)))]) [.row 2 (out_25.map encGRow)] _ from ?_)
  rcases dropc a_1 i_24 with ⟨hie40, hd43⟩ | ⟨hlt38, x_44, hx39, hd43⟩
  ·rw [hd43, laws_toRowS_L1.eq_1] at hc1
   have hq42 := dlf hie40
   refine awp_seq <| awp_seq <| w_reg <| s_mov (.int .i64 (i_24 : Int)) rfl <| s_mov (.lst 2 (a_1.map encGRow)) rfl <| s_dof (o_len (enc := encGRow) rfl) fun hl45 => s_q (.bool (decide ((i_24 : Int) < (a_1.length : Int)))) rfl rfl rfl <| w_done <| k_seq <| w_condf rfl hq42 <| w_exit <| k_seqx <| k_loopx <| k_blkx <| ?_; obtain rfl := os hc1; exact ⟨[], [0], _, _, rfl, rfl, ⟨.refl _, trivial⟩, (.refl _)⟩
  ·rw [hd43, laws_toRowS_L1.eq_2] at hc1
   have hq42 := dlt hlt38
   refine awp_seq <| awp_seq <| w_reg <| s_mov (.int .i64 (i_24 : Int)) rfl <| s_mov (.lst 2 (a_1.map encGRow)) rfl <| s_dof (o_len (enc := encGRow) rfl) fun hl46 => s_q (.bool (decide ((i_24 : Int) < (a_1.length : Int)))) rfl rfl rfl <| w_done <| k_seq <| w_condt rfl hq42 <| w_skip <| k_seq <| awp_seq <| w_blk <| w_reg <| ?_
   obtain ⟨r_47, er48, hc1⟩ := ob hc1
   obtain ⟨g49, hc1⟩ := og hc1
   obtain ⟨x_50, ex51, hc1⟩ := ob hc1
   refine s_mov (.own 0 0 out_25.length) rfl <| s_mov (.int .i64 (i_24 : Int)) rfl <| s_mov (.lst 2 (a_1.map encGRow)) rfl <| s_mov (.int .i64 (i_24 : Int)) rfl <| s_do (o_iaddrn (enc := encGRow) rfl rfl hx39) <| s_q (encGRow x_44) rfl nle rfl <| s_do (o_callf (v := (.agg [(.int .i64 r_47.Id), (.own 1 0 r_47.Cells.length)])) (h' := [.row 1 (r_47.Cells.map (encL 3 encGAtom))]) (w_laws_toRow _ _ er48) rfl (.refl _) (by simp only [openV, openVs, List.length_map, encGRow_eq, List.nil_append, List.append_nil, List.cons_append]; rfl)) <| s_do (o_iaddrownn rfl rfl g49 rfl rfl) <| ?_; refine s_do0 (o_storerow (v' := (.agg [(.int .i64 r_47.Id), (.lst 1 (r_47.Cells.map (encL 3 encGAtom)))])) (e' := r_47) rfl rfl ex51 rfl rfl (by simp only [tk, tko, List.take_length]) (by decide) (fun _ => by decide) ⟨rfl, nle⟩ (.refl _) rfl) ?_
   refine w_done <| k_blk <| k_seq <| w_reg <| s_mov (.int .i64 (i_24 : Int)) rfl <| s_q (.int .i64 (w64 ((i_24 : Int) + 1))) rfl rfl rfl <| s_mov (.int .i64 (w64 ((i_24 : Int) + 1))) rfl <| w_done <| ?_; exact k_loopn ⟨((i_24 + 1), out_25.set i_24 r_47), hc1⟩ (mul hlt38) ⟨[], [0], _, _, rfl, rfl, ⟨.refl _, ⟨.of_eq (congrArg (AV.own _ 0) (by simp)), ⟨.of_eq (congrArg (AV.int _) (w64_incr hlt38 hl46)), trivial⟩⟩⟩, (.refl _)⟩
 ·refine awp_seq <| w_reg <| s_mov (.own 0 0 out_36.length) rfl <| s_mov (.own 0 0 out_36.length) rfl <| w_done <| k_seq <| w_ret <| ?_; obtain rfl := os hf; exact r_fresh ⟨trivial, trivial⟩ rfl (by decide) (.of_eq (congrArg (AV.lst _) (tk (enc := encGRow) out_36)))

/- laws.toResult -/
def c70 : ACode :=
 (.seq (.reg (tq 1 (.box 5 (.t 0)) (tq 2 (.box 5 (.c (.agg [(.int .i64 0), (.int .i64 0), (.int .i64 0), .nil, .nil]))) .done)))
 (.seq (.reg (tq 3 (.box 5 (.c (.agg [(.int .i64 0), (.int .i64 0), (.int .i64 0), .nil, .nil]))) .done))
 (.seq (.reg (tq 4 (.faddr 0 (.t 1)) (tq 5 (.load 1 false (.t 4)) (tq 6 (.faddr 0 (.t 3)) (.q ⟨none, none, .store 1 (.t 6) (.t 5)⟩
 .done)))))
 (.seq (.reg (tq 7 (.faddr 1 (.t 1)) (tq 8 (.load 1 false (.t 7)) (tq 9 (.faddr 1 (.t 3)) (.q ⟨none, none, .store 1 (.t 9) (.t 8)⟩
 .done)))))
 (.seq (.reg (tq 10 (.faddr 2 (.t 1)) (tq 11 (.load 1 false (.t 10)) (tq 12 (.faddr 2 (.t 3)) (.q ⟨none, none, .store 1 (.t 12) (.t 11)⟩
 .done)))))
 (.seq (.reg (tq 13 (.faddr 3 (.t 1)) (tq 14 (.load 1 false (.t 13)) (tq 15 (.call 42 [(.t 14)]) (tq 16 (.faddr 3 (.t 3)) (.q ⟨none, none, .store 1 (.t 16) (.t 15)⟩
 .done))))))
 (.seq (.reg (tq 17 (.faddr 4 (.t 1)) (tq 18 (.load 1 false (.t 17)) (tq 19 (.call 154 [(.t 18)]) (tq 20 (.faddr 4 (.t 3)) (.q ⟨none, none, .store 1 (.t 20) (.t 19)⟩
 .done))))))
 (.seq (.reg (tq 21 (.load 5 true (.t 3)) (.q ⟨none, none, .store 5 (.t 2) (.t 21)⟩
 .done)))
 .ret))))))))
theorem fc70 : fcomp Try.prog Try.f70 = some (c70.erase, [.load 5 true (.t 2)], 22) := by kernel_rfl
def laws_toResult (a_1 : GResult) : Option GResult :=
    (laws_toStringS a_1.Columns).bind fun r_2 =>
    (laws_toRowS a_1.Rows).bind fun r_4 =>
    some (⟨a_1.Code, a_1.Count, a_1.Id, r_2, r_4⟩ : GResult)
theorem w_laws_toResult (a_1 : GResult) (r : GResult) (hf : laws_toResult a_1 = some r) : CallOK Try.prog 70 .fresh [(encGResult a_1)] (encGResult r) := by
 refine CallOK.of_awp mixed Try.func70 fc70 nle ?_; rw [argT_eq]; unfold laws_toResult at hf; unfold c70; refine (show awp Try.prog true 0 _ (ofL [(0, (encGResult a_1))]) [] _ from ?_); refine awp_seq <| w_reg <| s_do (o_box (j := 0) (c := (.agg [(.int .i64 a_1.Code), (.int .i64 a_1.Count), (.int .i64 a_1.Id), (.lst 1 (a_1.Columns.map AV.str)), (.lst 2 (a_1.Rows.map encGRow))])) rfl trivial rfl rfl) <| s_do (o_box (j := 1) (c := (.agg [(.int .i64 0), (.int .i64 0), (.int .i64 0), .nil, .nil])) rfl trivial rfl rfl) <| w_done <| k_seq <| awp_seq <| w_reg <| s_do (o_box (j := 2) (c := (.agg [(.int .i64 0), (.int .i64 0), (.int .i64 0), .nil, .nil])) rfl trivial rfl rfl) <| w_done <| k_seq <| awp_seq <| w_reg <| s_q (.ptr 0 0 0) rfl trivial rfl <| ?_
 refine s_q (.int .i64 a_1.Code) rfl nle rfl <| s_q (.ptr 2 0 0) rfl trivial rfl <| s_do0 (o_storebox (v := (.int .i64 a_1.Code)) (y' := (.agg [(.int .i64 a_1.Code), (.int .i64 0), (.int .i64 0), .nil, .nil])) rfl rfl rfl trivial ⟨rfl, nle⟩ ⟨⟨rfl, trivial⟩, trivial⟩ rfl) <| w_done <| k_seq <| awp_seq <| w_reg <| s_q (.ptr 0 0 1) rfl trivial rfl <| s_q (.int .i64 a_1.Count) rfl nle rfl <| s_q (.ptr 2 0 1) rfl trivial rfl <| s_do0 (o_storebox (v := (.int .i64 a_1.Count)) (y' := (.agg [(.int .i64 a_1.Code), (.int .i64 a_1.Count), (.int .i64 0), .nil, .nil])) rfl rfl rfl trivial ⟨rfl, nle⟩ ⟨⟨rfl, trivial⟩, trivial⟩ rfl) <| w_done <| k_seq <| awp_seq <| w_reg <| s_q (.ptr 0 0 2) rfl trivial rfl <| s_q (.int .i64 a_1.Id) rfl nle rfl <| ?_
 refine s_q (.ptr 2 0 2) rfl trivial rfl <| s_do0 (o_storebox (v := (.int .i64 a_1.Id)) (y' := (.agg [(.int .i64 a_1.Code), (.int .i64 a_1.Count), (.int .i64 a_1.Id), .nil, .nil])) rfl rfl rfl trivial ⟨rfl, nle⟩ ⟨⟨rfl, trivial⟩, trivial⟩ rfl) <| w_done <| k_seq <| awp_seq <| w_reg <| ?_
 obtain ⟨r_2, er3, hf⟩ := ob hf
 refine s_q (.ptr 0 0 3) rfl trivial rfl <| s_q (.lst 1 (a_1.Columns.map AV.str)) rfl nle rfl <| s_do (o_callf (v := (.own 3 0 r_2.length)) (h' := [.row 1 (r_2.map AV.str)]) (w_laws_toStringS _ _ er3) rfl (.refl _) (by simp only [openV, openVs, List.length_map, List.nil_append, List.append_nil, List.cons_append]; rfl)) <| s_q (.ptr 2 0 3) rfl trivial rfl <| s_do0 (o_storebox (v := (.own 3 0 r_2.length)) (y' := (.agg [(.int .i64 a_1.Code), (.int .i64 a_1.Count), (.int .i64 a_1.Id), (.own 3 0 r_2.length), .nil])) rfl rfl rfl trivial ⟨rfl, nle⟩ ⟨⟨rfl, trivial⟩, trivial⟩ rfl) <| w_done <| k_seq <| awp_seq <| w_reg <| ?_
 obtain ⟨r_4, er5, hf⟩ := ob hf
 refine s_q (.ptr 0 0 4) rfl trivial rfl <| s_q (.lst 2 (a_1.Rows.map encGRow)) rfl nle rfl <| s_do (o_callf (v := (.own 4 0 r_4.length)) (h' := [.row 2 (r_4.map encGRow)]) (w_laws_toRowS _ _ er5) rfl (.refl _) (by simp only [openV, openVs, List.length_map, List.nil_append, List.append_nil, List.cons_append]; rfl)) <| s_q (.ptr 2 0 4) rfl trivial rfl <| s_do0 (o_storebox (v := (.own 4 0 r_4.length)) (y' := (.agg [(.int .i64 a_1.Code), (.int .i64 a_1.Count), (.int .i64 a_1.Id), (.own 3 0 r_2.length), (.own 4 0 r_4.length)])) rfl rfl rfl trivial ⟨rfl, nle⟩ ⟨⟨rfl, trivial⟩, trivial⟩ rfl) <| w_done <| k_seq <| awp_seq <| w_reg <| s_q (.agg [(.int .i64 a_1.Code), (.int .i64 a_1.Count), (.int .i64 a_1.Id), (.own 3 0 r_2.length), (.own 4 0 r_4.length)]) rfl nle rfl <| ?_
 refine s_do0 (o_storebox (v := (.agg [(.int .i64 a_1.Code), (.int .i64 a_1.Count), (.int .i64 a_1.Id), (.own 3 0 r_2.length), (.own 4 0 r_4.length)])) (y' := (.agg [(.int .i64 a_1.Code), (.int .i64 a_1.Count), (.int .i64 a_1.Id), (.own 3 0 r_2.length), (.own 4 0 r_4.length)])) rfl rfl rfl trivial ⟨rfl, nle⟩ ⟨⟨rfl, trivial⟩, ⟨⟨rfl, trivial⟩, ⟨⟨rfl, trivial⟩, ⟨⟨rfl, trivial⟩, ⟨⟨rfl, trivial⟩, trivial⟩⟩⟩⟩⟩ rfl) <| w_done <| k_seq <| w_ret <| ?_; obtain rfl := os hf; exact r_fresh ⟨nle, trivial⟩ rfl (by decide) (.agg (.cons (.refl _) (.cons (.refl _) (.cons (.refl _) (.cons (.of_eq (congrArg (AV.lst _) (tk (enc := AV.str) r_2))) (.cons (.of_eq (congrArg (AV.lst _) (tk (enc := encGRow) r_4))) .nil))))))

/- laws.toResultS -/
def c13 : ACode :=
 (.seq (.reg (tm 2 (.c .nil) .done))
 (.seq (.reg (tm 5 (.t 0) (tq 6 (.len (.t 5)) (tq 7 (.mkslice 5 72 (.agg [(.int .i64 0), (.int .i64 0), (.int .i64 0), .nil, .nil]) (.t 6) (.t 6)) (tm 3 (.t 7) .done)))))
 (.seq (.seq (.reg (tm 4 (.c (.int .i64 0)) .done))
 (.block 0 (.loop (.seq (.seq (.reg (tm 8 (.t 4) (tm 9 (.t 0) (tq 10 (.len (.t 9)) (tq 11 (.bin .lss (.t 8) (.t 10)) .done)))))
 (.cond (.t 11) .skip
 (.exit 0)))
 (.seq (.block 1 (.reg (tm 14 (.t 3) (tm 15 (.t 4) (tm 16 (.t 0) (tm 17 (.t 4) (tq 18 (.iaddr 5 (.t 16) (.t 17)) (tq 19 (.load 5 true (.t 18)) (tq 20 (.call 70 [(.t 19)]) (tq 21 (.iaddr 5 (.t 14) (.t 15)) (.q ⟨none, none, .store 5 (.t 21) (.t 20)⟩
 .done)))))))))))
 (.reg (tm 12 (.t 4) (tq 13 (.bin .add (.t 12) (.c (.int .i64 1))) (tm 4 (.t 13) .done)))))))))
 (.cut (.seq (.reg (tm 22 (.t 3) (tm 2 (.t 22) .done)))
 .ret)))))
theorem fc13 : fcomp Try.prog Try.f13 = some (c13.erase, [.mov (.t 2)], 23) := by kernel_rfl
def laws_toResultS_L1  : List GResult → Nat → (List GResult) → Option (List GResult)
  | [], i_24, out_25 =>
    some out_25
  | x_44 :: xs, i_24, out_25 =>
    (laws_toResult x_44).bind fun r_47 =>
    if i_24 < out_25.length then
    (out_25[i_24]?).bind fun x_50 =>
    laws_toResultS_L1 xs (i_24 + 1) (out_25.set i_24 r_47)
    else none

def laws_toResultS (a_1 : (List GResult)) : Option (List GResult) :=
    if (a_1.length : Int) ≤ 2 ^ 30 then
    (laws_toResultS_L1 a_1 0 (List.replicate a_1.length (⟨0, 0, 0, [], []⟩ : GResult))).bind fun out_36 =>
    some out_36
    else none
theorem w_laws_toResultS (a_1 : (List GResult)) (r : (List GResult)) (hf : laws_toResultS a_1 = some r) : CallOK Try.prog 13 .fresh [(.lst 5 (a_1.map encGResult))] (.lst 5 (r.map encGResult)) := by
 refine CallOK.of_awp mixed Try.func13 fc13 nle ?_; rw [argT_eq]; unfold laws_toResultS at hf; unfold c13; refine (show awp Try.prog true 0 _ (ofL [(0, (.lst 5 (a_1.map encGResult)))]) [] _ from ?_); refine awp_seq <| w_reg <| s_mov .nil rfl <| w_done <| k_seq <| awp_seq <| w_reg <| ?_
 obtain ⟨g3, hf⟩ := og hf
 refine s_mov (.lst 5 (a_1.map encGResult)) rfl <| s_dof (o_len (enc := encGResult) rfl) fun hl2 => s_do (o_mkslice (j := 0) (enc := encGResult) (m := a_1.length) (⟨0, 0, 0, [], []⟩ : GResult) (.agg (.cons (.refl _) (.cons (.refl _) (.cons (.refl _) (.cons (.nil _) (.cons (.nil _) .nil)))))) rfl rfl (Int.le_refl _) g3 rfl) <| s_mov (.own 0 0 a_1.length) rfl <| w_done <| k_seq <| awp_seq <| awp_seq <| w_reg <| s_mov (.int .i64 0) rfl <| w_done <| k_seq <| ?_
 obtain ⟨out_36, hb1, hf⟩ := ob hf
 refine awp_cut ([(3, (.own 0 0 out_36.length))], [.row 5 (out_36.map encGResult)]) ?_ ?_
 ·refine awp_loop (X := {q : (Nat × (List GResult)) // laws_toResultS_L1 (a_1.drop q.1) q.1 q.2 = some out_36}) (fun q => ([(0, (.lst 5 (a_1.map encGResult))), (3, (.own 0 0 q.1.2.length)), (4, (.int .i64 (q.1.1 : Int)))], [.row 5 (q.1.2.map encGResult)])) (fun q => a_1.length - q.1.1) ⟨(0, List.replicate a_1.length (⟨0, 0, 0, [], []⟩ : GResult)), hb1⟩ ⟨[], [0], _, _, rfl, rfl, ⟨.refl _, ⟨.of_eq (congrArg (AV.own _ 0) (by simp)), ⟨.refl _, trivial⟩⟩⟩, (.refl _)⟩ ?_
  rintro ⟨⟨i_24, out_25⟩, hc1⟩
  have hc1 : laws_toResultS_L1 (a_1.drop i_24) i_24 out_25 = some out_36 := hc1
  refine (show awp Try.prog true 0 _ (ofL [(0, (.lst 5 (a_1.map encGResult))), (3, (.own 0 0 out_25.length)), (4, (.int .i64 (i_24 : Int)))]) [.row 5 (out_25.map encGResult)] _ from ?_)
  rcases dropc a_1 i_24 with ⟨hie40, hd43⟩ | ⟨hlt38, x_44, hx39, hd43⟩
  ·rw [hd43, laws_toResultS_L1.eq_1] at hc1
   have hq42 := dlf hie40
   refine awp_seq <| awp_seq <| w_reg <| s_mov (.int .i64 (i_24 : Int)) rfl <| s_mov (.lst 5 (a_1.map encGResult)) rfl <| s_dof (o_len (enc := encGResult) rfl) fun hl45 => s_q (.bool (decide ((i_24 : Int) < (a_1.length : Int)))) rfl rfl rfl <| w_done <| k_seq <| w_condf rfl hq42 <| w_exit <| k_seqx <| k_loopx <| k_blkx <| ?_; obtain rfl := os hc1; exact ⟨[], [0], _, _, rfl, rfl, ⟨.refl _, trivial⟩, (.refl _)⟩
  ·rw [hd43, laws_toResultS_L1.eq_2] at hc1
   have hq42 := dlt hlt38
   refine awp_seq <| awp_seq <| w_reg <| s_mov (.int .i64 (i_24 : Int)) rfl <| s_mov (.lst 5 (a_1.map encGResult)) rfl <| s_dof (o_len (enc := encGResult) rfl) fun hl46 => s_q (.bool (decide ((i_24 : Int) < (a_1.length : Int)))) rfl rfl rfl <| w_done <| k_seq <| w_condt rfl hq42 <| w_skip <| k_seq <| awp_seq <| w_blk <| w_reg <| ?_
   obtain ⟨r_47, er48, hc1⟩ := ob hc1
   obtain ⟨g49, hc1⟩ := og hc1
   obtain ⟨x_50, ex51, hc1⟩ := ob hc1
   refine s_mov (.own 0 0 out_25.length) rfl <| s_mov (.int .i64 (i_24 : Int)) rfl <| s_mov (.lst 5 (a_1.map encGResult)) rfl <| s_mov (.int .i64 (i_24 : Int)) rfl <| s_do (o_iaddrn (enc := encGResult) rfl rfl hx39) <| s_q (encGResult x_44) rfl nle rfl <| s_do (o_callf (v := (.agg [(.int .i64 r_47.Code), (.int .i64 r_47.Count), (.int .i64 r_47.Id), (.own 1 0 r_47.Columns.length), (.own 2 0 r_47.Rows.length)])) (h' := [.row 1 (r_47.Columns.map AV.str), .row 2 (r_47.Rows.map encGRow)]) (w_laws_toResult _ _ er48) rfl (.refl _) (by simp only [openV, openVs, List.length_map, encGResult_eq, List.nil_append, List.append_nil, List.cons_append]; rfl)) <| s_do (o_iaddrownn rfl rfl g49 rfl rfl) <| ?_; refine s_do0 (o_storerow (v' := (.agg [(.int .i64 r_47.Code), (.int .i64 r_47.Count), (.int .i64 r_47.Id), (.lst 1 (r_47.Columns.map AV.str)), (.lst 2 (r_47.Rows.map encGRow))])) (e' := r_47) rfl rfl ex51 rfl rfl (by simp only [tk, tko, List.take_length]) (by decide) (fun _ => by decide) ⟨rfl, nle⟩ (.refl _) rfl) ?_
   refine w_done <| k_blk <| k_seq <| w_reg <| s_mov (.int .i64 (i_24 : Int)) rfl <| s_q (.int .i64 (w64 ((i_24 : Int) + 1))) rfl rfl rfl <| s_mov (.int .i64 (w64 ((i_24 : Int) + 1))) rfl <| w_done <| ?_; exact k_loopn ⟨((i_24 + 1), out_25.set i_24 r_47), hc1⟩ (mul hlt38) ⟨[], [0], _, _, rfl, rfl, ⟨.refl _, ⟨.of_eq (congrArg (AV.own _ 0) (by simp)), ⟨.of_eq (congrArg (AV.int _) (w64_incr hlt38 hl46)), trivial⟩⟩⟩, (.refl _)⟩
 ·refine awp_seq <| w_reg <| s_mov (.own 0 0 out_36.length) rfl <| s_mov (.own 0 0 out_36.length) rfl <| w_done <| k_seq <| w_ret <| ?_; obtain rfl := os hf; exact r_fresh ⟨trivial, trivial⟩ rfl (by decide) (.of_eq (congrArg (AV.lst _) (tk (enc := encGResult) out_36)))

/- spec.l01In -/
def c151 : ACode :=
 (.seq (.reg (tm 6 (.c (.bool false)) .done))
 (.seq (.reg (tm 7 (.t 1) (tm 8 (.t 0) (tq 9 (.bin .leq (.t 7) (.t 8)) (tm 10 (.t 9) (tg 11 10 true (.mov (.t 0)) (tg 12 10 true (.mov (.t 2)) (tg 13 10 true (.bin .leq (.t 11) (.t 12)) (tq 14 (.pick (.t 10) (.t 13) (.c (.bool false))) (tm 6 (.t 14) .done))))))))))
 .ret))
theorem fc151 : fcomp Try.prog Try.f151 = some (c151.erase, [.mov (.t 6)], 15) := by kernel_rfl
def spec_l01In (n_1 : Int) (low_2 : Int) (high_3 : Int) : Option Bool :=
    if (decide (low_2 ≤ n_1)) then
    some (decide (n_1 ≤ high_3))
    else
    some false
theorem w_spec_l01In (n_1 : Int) (low_2 : Int) (high_3 : Int) (r : Bool) (hf : spec_l01In n_1 low_2 high_3 = some r) : CallOK Try.prog 151 .flat [(.int .i64 n_1), (.int .i64 low_2), (.int .i64 high_3)] (.bool r) := by
 refine CallOK.of_awp mixed Try.func151 fc151 nle ?_; rw [argT_eq]; unfold spec_l01In at hf; unfold c151; refine (show awp Try.prog false 0 _ (ofL [(0, (.int .i64 n_1)), (1, (.int .i64 low_2)), (2, (.int .i64 high_3))]) [] _ from ?_); refine awp_seq <| w_reg <| s_mov (.bool false) rfl <| w_done <| k_seq <| awp_seq <| w_reg <| ?_
 rcases oi hf with ⟨c4, hf⟩ | ⟨c4, hf⟩
 ·refine s_mov (.int .i64 low_2) rfl <| s_mov (.int .i64 n_1) rfl <| s_q (.bool (decide (low_2 ≤ n_1))) rfl rfl rfl <| s_mov (.bool (decide (low_2 ≤ n_1))) rfl <| s_lit (s := 10) (b := true) rfl c4 <| s_on rfl <| s_mov (.int .i64 n_1) rfl <| s_on rfl <| s_mov (.int .i64 high_3) rfl <| s_on rfl <| s_q (.bool (decide (n_1 ≤ high_3))) rfl rfl rfl <| s_q (.bool (decide (n_1 ≤ high_3))) rfl trivial rfl <| s_mov (.bool (decide (n_1 ≤ high_3))) rfl <| w_done <| k_seq <| w_ret <| ?_; obtain rfl := os hf; exact r_flat ⟨trivial, trivial⟩ rfl (.refl _)
 ·refine s_mov (.int .i64 low_2) rfl <| s_mov (.int .i64 n_1) rfl <| s_q (.bool (decide (low_2 ≤ n_1))) rfl rfl rfl <| s_mov (.bool (decide (low_2 ≤ n_1))) rfl <| s_lit (s := 10) (b := false) rfl (bf c4) <| s_off rfl rfl <| s_off rfl rfl <| s_off rfl rfl <| s_q (.bool false) rfl trivial rfl <| s_mov (.bool false) rfl <| w_done <| k_seq <| w_ret <| ?_; obtain rfl := os hf; exact r_flat ⟨trivial, trivial⟩ rfl (.refl _)

/- spec.l00Letter -/
def c255 : ACode :=
 (.seq (.reg (tm 2 (.c (.bool false)) .done))
 (.seq (.reg (tm 3 (.t 0) (tq 4 (.bin .geq (.t 3) (.c (.int .u8 97))) (tm 5 (.t 4) (tg 6 5 true (.mov (.t 0)) (tg 7 5 true (.bin .leq (.t 6) (.c (.int .u8 122))) (tq 8 (.pick (.t 5) (.t 7) (.c (.bool false))) (tm 9 (.t 8) (tg 10 9 false (.mov (.t 0)) (tg 11 9 false (.bin .geq (.t 10) (.c (.int .u8 65))) (tg 12 9 false (.mov (.t 11)) (tg 13 12 true (.mov (.t 0)) (tg 14 12 true (.bin .leq (.t 13) (.c (.int .u8 90))) (tg 15 9 false (.pick (.t 12) (.t 14) (.c (.bool false))) (tq 16 (.pick (.t 9) (.c (.bool true)) (.t 15)) (tm 17 (.t 16) (tg 18 17 false (.mov (.t 0)) (tg 19 17 false (.bin .eql (.t 18) (.c (.int .u8 95))) (tq 20 (.pick (.t 17) (.c (.bool true)) (.t 19)) (tm 2 (.t 20) .done))))))))))))))))))))
 .ret))
theorem fc255 : fcomp Try.prog Try.f255 = some (c255.erase, [.mov (.t 2)], 21) := by kernel_rfl
def spec_l00Letter (c_1 : Int) : Option Bool :=
    some (bif (bif (bif (decide (c_1 ≥ 97)) then (decide (c_1 ≤ 122)) else false) then true else (bif (decide (c_1 ≥ 65)) then (decide (c_1 ≤ 90)) else false)) then true else (c_1 == 95))
theorem w_spec_l00Letter (c_1 : Int) (r : Bool) (hf : spec_l00Letter c_1 = some r) : CallOK Try.prog 255 .flat [(.int .u8 c_1)] (.bool r) := by
 refine CallOK.of_awp mixed Try.func255 fc255 nle ?_; rw [argT_eq]; unfold spec_l00Letter at hf; unfold c255; refine (show awp Try.prog false 0 _ (ofL [(0, (.int .u8 c_1))]) [] _ from ?_); refine awp_seq <| w_reg <| s_mov (.bool false) rfl <| w_done <| k_seq <| awp_seq <| w_reg <| s_mov (.int .u8 c_1) rfl <| s_q (.bool (decide (c_1 ≥ 97))) rfl rfl rfl <| s_mov (.bool (decide (c_1 ≥ 97))) rfl <| ?_; refine s_g (v := (decide (c_1 ≥ 97))) (.int .u8 c_1) rfl (fun hv => by (try simp only [gs_on hv]); exact ⟨rfl, trivial, rfl⟩) ?_; refine s_g (v := (decide (c_1 ≥ 97))) (.bool (decide (c_1 ≤ 122))) rfl (fun hv => by (try simp only [gs_on hv]); exact ⟨rfl, rfl, rfl⟩) ?_; refine s_pick (x := (decide (c_1 ≤ 122))) (y := false) rfl (fun hv => by (try simp only [gs_on hv]); rfl) (fun hv => by (try simp only [gs_on hv]); rfl) ?_
 refine s_mov (.bool (bif (decide (c_1 ≥ 97)) then (decide (c_1 ≤ 122)) else false)) rfl ?_; refine s_g (v := (bif (decide (c_1 ≥ 97)) then (decide (c_1 ≤ 122)) else false)) (.int .u8 c_1) rfl (fun hv => by (try simp only [gs_on hv]); exact ⟨rfl, trivial, rfl⟩) ?_; refine s_g (v := (bif (decide (c_1 ≥ 97)) then (decide (c_1 ≤ 122)) else false)) (.bool (decide (c_1 ≥ 65))) rfl (fun hv => by (try simp only [gs_on hv]); exact ⟨rfl, rfl, rfl⟩) ?_; refine s_g (v := (bif (decide (c_1 ≥ 97)) then (decide (c_1 ≤ 122)) else false)) (.bool (decide (c_1 ≥ 65))) rfl (fun hv => by (try simp only [gs_on hv]); exact ⟨rfl, trivial, rfl⟩) ?_; refine s_gg (v1 := (bif (decide (c_1 ≥ 97)) then (decide (c_1 ≤ 122)) else false)) (b1 := false) (v2 := (decide (c_1 ≥ 65))) (.int .u8 c_1) rfl (fun hv hw => by (try simp only [gs_on hv, gs_on hw]); exact ⟨rfl, trivial, rfl⟩) ?_
 refine s_gg (v1 := (bif (decide (c_1 ≥ 97)) then (decide (c_1 ≤ 122)) else false)) (b1 := false) (v2 := (decide (c_1 ≥ 65))) (.bool (decide (c_1 ≤ 90))) rfl (fun hv hw => by (try simp only [gs_on hv, gs_on hw]); exact ⟨rfl, rfl, rfl⟩) ?_; refine s_gp (v1 := (bif (decide (c_1 ≥ 97)) then (decide (c_1 ≤ 122)) else false)) (b1 := false) (v2 := (decide (c_1 ≥ 65))) (x := (decide (c_1 ≤ 90))) (y := false) rfl (fun hv => by (try simp only [gs_on hv]); rfl) (fun hv hw => by (try simp only [gs_on hv, gs_on hw]); rfl) (fun hv hw => by (try simp only [gs_on hv, gs_on hw]); rfl) ?_; refine s_pick (x := true) (y := (bif (decide (c_1 ≥ 65)) then (decide (c_1 ≤ 90)) else false)) rfl (fun hv => by (try simp only [gs_on hv]); rfl) (fun hv => by (try simp only [gs_on hv]); rfl) ?_
 refine s_mov (.bool (bif (bif (decide (c_1 ≥ 97)) then (decide (c_1 ≤ 122)) else false) then true else (bif (decide (c_1 ≥ 65)) then (decide (c_1 ≤ 90)) else false))) rfl ?_; refine s_g (v := (bif (bif (decide (c_1 ≥ 97)) then (decide (c_1 ≤ 122)) else false) then true else (bif (decide (c_1 ≥ 65)) then (decide (c_1 ≤ 90)) else false))) (.int .u8 c_1) rfl (fun hv => by (try simp only [gs_on hv]); exact ⟨rfl, trivial, rfl⟩) ?_; refine s_g (v := (bif (bif (decide (c_1 ≥ 97)) then (decide (c_1 ≤ 122)) else false) then true else (bif (decide (c_1 ≥ 65)) then (decide (c_1 ≤ 90)) else false))) (.bool (c_1 == 95)) rfl (fun hv => by (try simp only [gs_on hv]); exact ⟨rfl, rfl, rfl⟩) ?_; refine s_pick (x := true) (y := (c_1 == 95)) rfl (fun hv => by (try simp only [gs_on hv]); rfl) (fun hv => by (try simp only [gs_on hv]); rfl) ?_
 refine s_mov (.bool (bif (bif (bif (decide (c_1 ≥ 97)) then (decide (c_1 ≤ 122)) else false) then true else (bif (decide (c_1 ≥ 65)) then (decide (c_1 ≤ 90)) else false)) then true else (c_1 == 95))) rfl <| w_done <| k_seq <| w_ret <| ?_; obtain rfl := os hf; exact r_flat ⟨trivial, trivial⟩ rfl (.refl _)

/- spec.l00Digit -/
def c256 : ACode :=
 (.seq (.reg (tm 2 (.c (.bool false)) .done))
 (.seq (.reg (tm 3 (.t 0) (tq 4 (.bin .geq (.t 3) (.c (.int .u8 48))) (tm 5 (.t 4) (tg 6 5 true (.mov (.t 0)) (tg 7 5 true (.bin .leq (.t 6) (.c (.int .u8 57))) (tq 8 (.pick (.t 5) (.t 7) (.c (.bool false))) (tm 2 (.t 8) .done))))))))
 .ret))
theorem fc256 : fcomp Try.prog Try.f256 = some (c256.erase, [.mov (.t 2)], 9) := by kernel_rfl
def spec_l00Digit (c_1 : Int) : Option Bool :=
    if (decide (c_1 ≥ 48)) then
    some (decide (c_1 ≤ 57))
    else
    some false
theorem w_spec_l00Digit (c_1 : Int) (r : Bool) (hf : spec_l00Digit c_1 = some r) : CallOK Try.prog 256 .flat [(.int .u8 c_1)] (.bool r) := by
 refine CallOK.of_awp mixed Try.func256 fc256 nle ?_; rw [argT_eq]; unfold spec_l00Digit at hf; unfold c256; refine (show awp Try.prog false 0 _ (ofL [(0, (.int .u8 c_1))]) [] _ from ?_); refine awp_seq <| w_reg <| s_mov (.bool false) rfl <| w_done <| k_seq <| awp_seq <| w_reg <| ?_
 rcases oi hf with ⟨c2, hf⟩ | ⟨c2, hf⟩
 ·refine s_mov (.int .u8 c_1) rfl <| s_q (.bool (decide (c_1 ≥ 48))) rfl rfl rfl <| s_mov (.bool (decide (c_1 ≥ 48))) rfl <| s_lit (s := 5) (b := true) rfl c2 <| s_on rfl <| s_mov (.int .u8 c_1) rfl <| s_on rfl <| s_q (.bool (decide (c_1 ≤ 57))) rfl rfl rfl <| s_q (.bool (decide (c_1 ≤ 57))) rfl trivial rfl <| s_mov (.bool (decide (c_1 ≤ 57))) rfl <| w_done <| k_seq <| w_ret <| ?_; obtain rfl := os hf; exact r_flat ⟨trivial, trivial⟩ rfl (.refl _)
 ·refine s_mov (.int .u8 c_1) rfl <| s_q (.bool (decide (c_1 ≥ 48))) rfl rfl rfl <| s_mov (.bool (decide (c_1 ≥ 48))) rfl <| s_lit (s := 5) (b := false) rfl (bf c2) <| s_off rfl rfl <| s_off rfl rfl <| s_q (.bool false) rfl trivial rfl <| s_mov (.bool false) rfl <| w_done <| k_seq <| w_ret <| ?_; obtain rfl := os hf; exact r_flat ⟨trivial, trivial⟩ rfl (.refl _)

/- spec.l00Word -/
def c221 : ACode :=
 (.seq (.reg (tm 2 (.c (.bool false)) .done))
 (.seq (.seq (.reg (tm 4 (.t 0) (tq 5 (.lenS (.t 4)) (tq 6 (.bin .lss (.t 5) (.c (.int .i64 1))) (tm 7 (.t 6) (tg 8 7 false (.mov (.t 0)) (tg 9 7 false (.lenS (.t 8)) (tg 10 7 false (.bin .gtr (.t 9) (.c (.int .i64 40))) (tq 11 (.pick (.t 7) (.c (.bool true)) (.t 10)) (tm 12 (.t 11) (tg 13 12 false (.mov (.t 0)) (tg 14 12 false (.idxs (.t 13) (.c (.int .i64 0))) (tg 15 12 false (.call 255 [(.t 14)]) (tg 16 12 false (.not (.t 15)) (tq 17 (.pick (.t 12) (.c (.bool true)) (.t 16)) .done)))))))))))))))
 (.cut (.cond (.t 17) (.seq (.reg (tm 2 (.c (.bool false)) .done))
 .ret)
 .skip)))
 (.seq (.seq (.reg (tm 3 (.c (.int .i64 1)) .done))
 (.block 0 (.loop (.seq (.seq (.reg (tm 18 (.t 3) (tm 19 (.t 0) (tq 20 (.lenS (.t 19)) (tq 21 (.bin .lss (.t 18) (.t 20)) .done)))))
 (.cond (.t 21) .skip
 (.exit 0)))
 (.seq (.block 1 (.seq (.reg (tm 24 (.t 0) (tm 25 (.t 3) (tq 26 (.idxs (.t 24) (.t 25)) (tq 27 (.call 255 [(.t 26)]) (tq 28 (.not (.t 27)) (tm 29 (.t 28) (tg 30 29 true (.mov (.t 0)) (tg 31 29 true (.mov (.t 3)) (tg 32 29 true (.idxs (.t 30) (.t 31)) (tg 33 29 true (.call 256 [(.t 32)]) (tg 34 29 true (.not (.t 33)) (tq 35 (.pick (.t 29) (.t 34) (.c (.bool false))) .done)))))))))))))
 (.cut (.cond (.t 35) (.seq (.reg (tm 2 (.c (.bool false)) .done))
 .ret)
 .skip))))
 (.reg (tm 22 (.t 3) (tq 23 (.bin .add (.t 22) (.c (.int .i64 1))) (tm 3 (.t 23) .done)))))))))
 (.cut (.seq (.reg (tm 2 (.c (.bool true)) .done))
 .ret)))))
theorem fc221 : fcomp Try.prog Try.f221 = some (c221.erase, [.mov (.t 2)], 36) := by kernel_rfl
def spec_l00Word_L1  : List UInt8 → Option (Fl Bool Unit)
  | [] =>
    some (.go ())
  | x_98 :: xs =>
    (((spec_l00Letter (x_98.toNat : Int)).bind fun r_108 =>
    if (!r_108) then
    (spec_l00Digit (x_98.toNat : Int)).bind fun r_111 =>
    some (!r_111)
    else
    some false : Option Bool)).bind fun s35_106 =>
    if s35_106 then
    some (.ret false)
    else
    spec_l00Word_L1 xs 

def spec_l00Word (t_1 : Str) : Option Bool :=
    ((if (bif (decide ((t_1.length : Int) < 1)) then true else (decide ((t_1.length : Int) > 40))) then
    some true
    else
    (idx t_1 0).bind fun b_14 =>
    (spec_l00Letter (b_14.toNat : Int)).bind fun r_16 =>
    some (!r_16) : Option Bool)).bind fun s17_9 =>
    if s17_9 then
    some false
    else
    (spec_l00Word_L1 (t_1.drop 1) ).bind fun q => (match q with
    | .ret r => some r
    | .go _ =>
    some true)
theorem w_spec_l00Word (t_1 : Str) (r : Bool) (hf : spec_l00Word t_1 = some r) : CallOK Try.prog 221 .flat [(.str t_1)] (.bool r) := by
 refine CallOK.of_awp mixed Try.func221 fc221 nle ?_; rw [argT_eq]; unfold spec_l00Word at hf; unfold c221; refine (show awp Try.prog false 0 _ (ofL [(0, (.str t_1))]) [] _ from ?_); refine awp_seq <| w_reg <| s_mov (.bool false) rfl <| w_done <| k_seq <| awp_seq <| awp_seq <| ?_
 obtain ⟨s17_9, hb1, hf⟩ := ob hf
 refine awp_cut ([(0, (.str t_1)), (17, (.bool s17_9))], []) ?_ ?_
 ·refine w_reg <| s_mov (.str t_1) rfl <| s_dof (o_lenS rfl) fun hl11 => s_q (.bool (decide ((t_1.length : Int) < 1))) rfl rfl rfl <| s_mov (.bool (decide ((t_1.length : Int) < 1))) rfl <| ?_; refine s_g (v := (decide ((t_1.length : Int) < 1))) (.str t_1) rfl (fun hv => by (try simp only [gs_on hv]); exact ⟨rfl, trivial, rfl⟩) ?_; refine s_g (v := (decide ((t_1.length : Int) < 1))) (.int .i64 (t_1.length : Int)) rfl (fun hv => by (try simp only [gs_on hv]); exact ⟨rfl, trivial, rfl⟩) ?_; refine s_g (v := (decide ((t_1.length : Int) < 1))) (.bool (decide ((t_1.length : Int) > 40))) rfl (fun hv => by (try simp only [gs_on hv]); exact ⟨rfl, rfl, rfl⟩) ?_; refine s_pick (x := true) (y := (decide ((t_1.length : Int) > 40))) rfl (fun hv => by (try simp only [gs_on hv]); rfl) (fun hv => by (try simp only [gs_on hv]); rfl) ?_
  refine s_mov (.bool (bif (decide ((t_1.length : Int) < 1)) then true else (decide ((t_1.length : Int) > 40)))) rfl ?_
  rcases oi hb1 with ⟨c13, hb1⟩ | ⟨c13, hb1⟩
  ·refine s_lit (s := 12) (b := true) rfl c13 <| s_off rfl rfl <| s_off rfl rfl <| s_off rfl rfl <| s_off rfl rfl <| s_q (.bool true) rfl trivial rfl <| w_done <| ?_; obtain rfl := os hb1; exact ⟨[], [], _, _, rfl, rfl, ⟨.refl _, ⟨.refl _, trivial⟩⟩, (.refl _)⟩
  ·refine s_lit (s := 12) (b := false) rfl (bf c13) <| s_on rfl <| s_mov (.str t_1) rfl <| s_on rfl <| ?_
   obtain ⟨b_14, eb15, hb1⟩ := ob hb1
   refine s_do (o_idxs rfl rfl (idx0 eb15) (idx1 eb15)) <| s_on rfl <| ?_
   obtain ⟨r_16, er17, hb1⟩ := ob hb1
   refine s_do (o_call (w_spec_l00Letter _ _ er17) rfl (.refl _) rfl) <| s_on rfl <| s_q (.bool (!r_16)) rfl trivial rfl <| s_q (.bool (!r_16)) rfl trivial rfl <| w_done <| ?_; obtain rfl := os hb1; exact ⟨[], [], _, _, rfl, rfl, ⟨.refl _, ⟨.refl _, trivial⟩⟩, (.refl _)⟩
 ·rcases oi hf with ⟨c18, hf⟩ | ⟨c18, hf⟩
  ·refine w_condt rfl c18 <| awp_seq <| w_reg <| s_mov (.bool false) rfl <| w_done <| k_seq <| w_ret <| ?_; obtain rfl := os hf; exact r_flat ⟨trivial, trivial⟩ rfl (.refl _)
  ·refine w_condf rfl (bf c18) <| w_skip <| k_seq <| awp_seq <| awp_seq <| w_reg <| s_mov (.int .i64 1) rfl <| w_done <| k_seq <| ?_
   obtain ⟨p91, hb1, hf⟩ := ob hf
   refine awp_cutx (X := {q : Unit // p91 = .go q}) (fun q => ([], [])) ?_ ?_
   ·refine awp_loop (X := {q : Nat // spec_l00Word_L1 (t_1.drop q)  = some p91}) (fun q => ([(0, (.str t_1)), (3, (.int .i64 (q.1 : Int)))], [])) (fun q => t_1.length - q.1) ⟨1, hb1⟩ ⟨[], [], _, _, rfl, rfl, ⟨.refl _, ⟨.refl _, trivial⟩⟩, (.refl _)⟩ ?_
    rintro ⟨i_66, hc1⟩
    have hc1 : spec_l00Word_L1 (t_1.drop i_66)  = some p91 := hc1
    refine (show awp Try.prog false 0 _ (ofL [(0, (.str t_1)), (3, (.int .i64 (i_66 : Int)))]) [] _ from ?_)
    rcases dropc t_1 i_66 with ⟨hie94, hd97⟩ | ⟨hlt92, x_98, hx93, hd97⟩
    ·rw [hd97, spec_l00Word_L1.eq_1] at hc1
     have hq96 := dlf hie94
     refine awp_seq <| awp_seq <| w_reg <| s_mov (.int .i64 (i_66 : Int)) rfl <| s_mov (.str t_1) rfl <| s_dof (o_lenS rfl) fun hl99 => s_q (.bool (decide ((i_66 : Int) < (t_1.length : Int)))) rfl rfl rfl <| w_done <| k_seq <| w_condf rfl hq96 <| w_exit <| k_seqx <| k_loopx <| k_blkx <| ?_; obtain rfl := os hc1; exact k_cutn ⟨_, rfl⟩ ⟨[], [], _, _, rfl, rfl, trivial, (.refl _)⟩
    ·rw [hd97, spec_l00Word_L1.eq_2] at hc1
     have hq96 := dlt hlt92
     refine awp_seq <| awp_seq <| w_reg <| s_mov (.int .i64 (i_66 : Int)) rfl <| s_mov (.str t_1) rfl <| s_dof (o_lenS rfl) fun hl100 => s_q (.bool (decide ((i_66 : Int) < (t_1.length : Int)))) rfl rfl rfl <| w_done <| k_seq <| w_condt rfl hq96 <| w_skip <| k_seq <| awp_seq <| w_blk <| awp_seq <| ?_
     obtain ⟨s35_106, hb2, hc1⟩ := ob hc1
     refine awp_cut ([(0, (.str t_1)), (3, (.int .i64 (i_66 : Int))), (35, (.bool s35_106))], []) ?_ ?_
     ·refine w_reg ?_
      obtain ⟨r_108, er109, hb2⟩ := ob hb2
      rcases oi hb2 with ⟨c110, hb2⟩ | ⟨c110, hb2⟩
      ·obtain ⟨r_111, er112, hb2⟩ := ob hb2
       refine s_mov (.str t_1) rfl <| s_mov (.int .i64 (i_66 : Int)) rfl <| s_do (o_idxsn rfl rfl hx93) <| s_do (o_call (w_spec_l00Letter _ _ er109) rfl (.refl _) rfl) <| s_q (.bool (!r_108)) rfl trivial rfl <| s_mov (.bool (!r_108)) rfl <| s_lit (s := 29) (b := true) rfl c110 <| s_on rfl <| s_mov (.str t_1) rfl <| s_on rfl <| s_mov (.int .i64 (i_66 : Int)) rfl <| s_on rfl <| s_do (o_idxsn rfl rfl hx93) <| s_on rfl <| s_do (o_call (w_spec_l00Digit _ _ er112) rfl (.refl _) rfl) <| s_on rfl <| s_q (.bool (!r_111)) rfl trivial rfl <| s_q (.bool (!r_111)) rfl trivial rfl <| w_done <| ?_; obtain rfl := os hb2; exact ⟨[], [], _, _, rfl, rfl, ⟨.refl _, ⟨.refl _, ⟨.refl _, trivial⟩⟩⟩, (.refl _)⟩
      ·refine s_mov (.str t_1) rfl <| s_mov (.int .i64 (i_66 : Int)) rfl <| s_do (o_idxsn rfl rfl hx93) <| s_do (o_call (w_spec_l00Letter _ _ er109) rfl (.refl _) rfl) <| s_q (.bool (!r_108)) rfl trivial rfl <| s_mov (.bool (!r_108)) rfl <| s_lit (s := 29) (b := false) rfl (bf c110) <| s_off rfl rfl <| s_off rfl rfl <| s_off rfl rfl <| s_off rfl rfl <| s_off rfl rfl <| s_q (.bool false) rfl trivial rfl <| w_done <| ?_; obtain rfl := os hb2; exact ⟨[], [], _, _, rfl, rfl, ⟨.refl _, ⟨.refl _, ⟨.refl _, trivial⟩⟩⟩, (.refl _)⟩
     ·rcases oi hc1 with ⟨c113, hc1⟩ | ⟨c113, hc1⟩
      ·refine w_condt rfl c113 <| awp_seq <| w_reg <| s_mov (.bool false) rfl <| w_done <| k_seq <| w_ret <| ?_; obtain rfl := os hc1; obtain rfl := os hf; exact r_flat ⟨trivial, trivial⟩ rfl (.refl _)
      ·refine w_condf rfl (bf c113) <| w_skip <| k_blk <| k_seq <| w_reg <| s_mov (.int .i64 (i_66 : Int)) rfl <| s_q (.int .i64 (w64 ((i_66 : Int) + 1))) rfl rfl rfl <| s_mov (.int .i64 (w64 ((i_66 : Int) + 1))) rfl <| w_done <| ?_; exact k_loopn ⟨(i_66 + 1), hc1⟩ (mul hlt92) ⟨[], [], _, _, rfl, rfl, ⟨.refl _, ⟨.of_eq (congrArg (AV.int _) (w64_incr hlt92 hl100)), trivial⟩⟩, (.refl _)⟩
   ·rintro ⟨_, rfl⟩
    refine awp_seq <| w_reg <| s_mov (.bool true) rfl <| w_done <| k_seq <| w_ret <| ?_; obtain rfl := os hf; exact r_flat ⟨trivial, trivial⟩ rfl (.refl _)

/- spec.NameOK -/
def c152 : ACode :=
 (.seq (.reg (tm 2 (.c (.bool false)) .done))
 (.seq (.reg (tm 3 (.t 0) (tq 4 (.call 221 [(.t 3)]) (tm 2 (.t 4) .done))))
 .ret))
theorem fc152 : fcomp Try.prog Try.f152 = some (c152.erase, [.mov (.t 2)], 5) := by kernel_rfl
def spec_NameOK (t_1 : Str) : Option Bool :=
    (spec_l00Word t_1).bind fun r_2 =>
    some r_2
theorem w_spec_NameOK (t_1 : Str) (r : Bool) (hf : spec_NameOK t_1 = some r) : CallOK Try.prog 152 .flat [(.str t_1)] (.bool r) := by
  refine CallOK.of_awp mixed Try.func152 fc152 nle ?_
  rw [argT_eq]
  unfold spec_NameOK at hf
  unfold c152
  refine (show awp Try.prog false 0 _ (ofL [(0, (.str t_1))]) [] _ from ?_)
  refine awp_seq ?_
  refine w_reg ?_
  refine s_do (o_mov (.bool false) rfl) ?_
  refine w_done ?_
  refine k_seq ?_
  refine awp_seq ?_
  refine w_reg ?_
  obtain ⟨r_2, er3, hf⟩ := ob hf
  refine s_do (o_mov (.str t_1) rfl) ?_
  refine s_do (o_call (w_spec_l00Word _ _ er3) rfl (.refl _) rfl) ?_
  refine s_do (o_mov (.bool r_2) rfl) ?_
  refine w_done ?_
  refine k_seq ?_
  refine w_ret ?_
  obtain rfl := os hf
  exact r_flat ⟨trivial, trivial⟩ rfl (.refl _)

/- spec.l01Text -/
def c250 : ACode :=
 (.seq (.reg (tm 2 (.c (.bool false)) .done))
 (.seq (.seq (.reg (tm 3 (.c (.int .i64 0)) .done))
 (.block 0 (.loop (.seq (.seq (.reg (tm 4 (.t 3) (tm 5 (.t 0) (tq 6 (.lenS (.t 5)) (tq 7 (.bin .lss (.t 4) (.t 6)) .done)))))
 (.cond (.t 7) .skip
 (.exit 0)))
 (.seq (.block 1 (.seq (.reg (tm 10 (.t 0) (tm 11 (.t 3) (tq 12 (.idxs (.t 10) (.t 11)) (tq 13 (.bin .lss (.t 12) (.c (.int .u8 32))) (tm 14 (.t 13) (tg 15 14 false (.mov (.t 0)) (tg 16 14 false (.mov (.t 3)) (tg 17 14 false (.idxs (.t 15) (.t 16)) (tg 18 14 false (.bin .gtr (.t 17) (.c (.int .u8 126))) (tq 19 (.pick (.t 14) (.c (.bool true)) (.t 18)) .done)))))))))))
 (.cut (.cond (.t 19) (.seq (.reg (tm 2 (.c (.bool false)) .done))
 .ret)
 .skip))))
 (.reg (tm 8 (.t 3) (tq 9 (.bin .add (.t 8) (.c (.int .i64 1))) (tm 3 (.t 9) .done)))))))))
 (.cut (.seq (.reg (tm 20 (.t 0) (tq 21 (.lenS (.t 20)) (tq 22 (.bin .leq (.t 21) (.c (.int .i64 200))) (tm 2 (.t 22) .done)))))
 .ret))))
theorem fc250 : fcomp Try.prog Try.f250 = some (c250.erase, [.mov (.t 2)], 23) := by kernel_rfl
def spec_l01Text_L1  : List UInt8 → Option (Fl Bool Unit)
  | [] =>
    some (.go ())
  | x_57 :: xs =>
    ((if (decide ((x_57.toNat : Int) < 32)) then
    some true
    else
    some (decide ((x_57.toNat : Int) > 126)) : Option Bool)).bind fun s19_61 =>
    if s19_61 then
    some (.ret false)
    else
    spec_l01Text_L1 xs 

def spec_l01Text (t_1 : Str) : Option Bool :=
    (spec_l01Text_L1 t_1 ).bind fun q => (match q with
    | .ret r => some r
    | .go _ =>
    some (decide ((t_1.length : Int) ≤ 200)))
theorem w_spec_l01Text (t_1 : Str) (r : Bool) (hf : spec_l01Text t_1 = some r) : CallOK Try.prog 250 .flat [(.str t_1)] (.bool r) := by
 refine CallOK.of_awp mixed Try.func250 fc250 nle ?_; rw [argT_eq]; unfold spec_l01Text at hf; unfold c250; refine (show awp Try.prog false 0 _ (ofL [(0, (.str t_1))]) [] _ from ?_); refine awp_seq <| w_reg <| s_mov (.bool false) rfl <| w_done <| k_seq <| awp_seq <| awp_seq <| w_reg <| s_mov (.int .i64 0) rfl <| w_done <| k_seq <| ?_
 obtain ⟨p50, hb1, hf⟩ := ob hf
 refine awp_cutx (X := {q : Unit // p50 = .go q}) (fun q => ([(0, (.str t_1))], [])) ?_ ?_
 ·refine awp_loop (X := {q : Nat // spec_l01Text_L1 (t_1.drop q)  = some p50}) (fun q => ([(0, (.str t_1)), (3, (.int .i64 (q.1 : Int)))], [])) (fun q => t_1.length - q.1) ⟨0, hb1⟩ ⟨[], [], _, _, rfl, rfl, ⟨.refl _, ⟨.refl _, trivial⟩⟩, (.refl _)⟩ ?_
  rintro ⟨i_33, hc1⟩
  have hc1 : spec_l01Text_L1 (t_1.drop i_33)  = some p50 := hc1
  refine (show awp Try.prog false 0 _ (ofL [(0, (.str t_1)), (3, (.int .i64 (i_33 : Int)))]) [] _ from ?_)
  rcases dropc t_1 i_33 with ⟨hie53, hd56⟩ | ⟨hlt51, x_57, hx52, hd56⟩
  ·rw [hd56, spec_l01Text_L1.eq_1] at hc1
   have hq55 := dlf hie53
   refine awp_seq <| awp_seq <| w_reg <| s_mov (.int .i64 (i_33 : Int)) rfl <| s_mov (.str t_1) rfl <| s_dof (o_lenS rfl) fun hl58 => s_q (.bool (decide ((i_33 : Int) < (t_1.length : Int)))) rfl rfl rfl <| w_done <| k_seq <| w_condf rfl hq55 <| w_exit <| k_seqx <| k_loopx <| k_blkx <| ?_; obtain rfl := os hc1; exact k_cutn ⟨_, rfl⟩ ⟨[], [], _, _, rfl, rfl, ⟨.refl _, trivial⟩, (.refl _)⟩
  ·rw [hd56, spec_l01Text_L1.eq_2] at hc1
   have hq55 := dlt hlt51
   refine awp_seq <| awp_seq <| w_reg <| s_mov (.int .i64 (i_33 : Int)) rfl <| s_mov (.str t_1) rfl <| s_dof (o_lenS rfl) fun hl59 => s_q (.bool (decide ((i_33 : Int) < (t_1.length : Int)))) rfl rfl rfl <| w_done <| k_seq <| w_condt rfl hq55 <| w_skip <| k_seq <| awp_seq <| w_blk <| awp_seq <| ?_
   obtain ⟨s19_61, hb2, hc1⟩ := ob hc1
   refine awp_cut ([(0, (.str t_1)), (3, (.int .i64 (i_33 : Int))), (19, (.bool s19_61))], []) ?_ ?_
   ·refine w_reg ?_
    rcases oi hb2 with ⟨c63, hb2⟩ | ⟨c63, hb2⟩
    ·refine s_mov (.str t_1) rfl <| s_mov (.int .i64 (i_33 : Int)) rfl <| s_do (o_idxsn rfl rfl hx52) <| s_q (.bool (decide ((x_57.toNat : Int) < 32))) rfl rfl rfl <| s_mov (.bool (decide ((x_57.toNat : Int) < 32))) rfl <| s_lit (s := 14) (b := true) rfl c63 <| s_off rfl rfl <| s_off rfl rfl <| s_off rfl rfl <| s_off rfl rfl <| s_q (.bool true) rfl trivial rfl <| w_done <| ?_; obtain rfl := os hb2; exact ⟨[], [], _, _, rfl, rfl, ⟨.refl _, ⟨.refl _, ⟨.refl _, trivial⟩⟩⟩, (.refl _)⟩
    ·refine s_mov (.str t_1) rfl <| s_mov (.int .i64 (i_33 : Int)) rfl <| s_do (o_idxsn rfl rfl hx52) <| s_q (.bool (decide ((x_57.toNat : Int) < 32))) rfl rfl rfl <| s_mov (.bool (decide ((x_57.toNat : Int) < 32))) rfl <| s_lit (s := 14) (b := false) rfl (bf c63) <| s_on rfl <| s_mov (.str t_1) rfl <| s_on rfl <| s_mov (.int .i64 (i_33 : Int)) rfl <| s_on rfl <| s_do (o_idxsn rfl rfl hx52) <| s_on rfl <| s_q (.bool (decide ((x_57.toNat : Int) > 126))) rfl rfl rfl <| s_q (.bool (decide ((x_57.toNat : Int) > 126))) rfl trivial rfl <| w_done <| ?_; obtain rfl := os hb2; exact ⟨[], [], _, _, rfl, rfl, ⟨.refl _, ⟨.refl _, ⟨.refl _, trivial⟩⟩⟩, (.refl _)⟩
   ·rcases oi hc1 with ⟨c64, hc1⟩ | ⟨c64, hc1⟩
    ·refine w_condt rfl c64 <| awp_seq <| w_reg <| s_mov (.bool false) rfl <| w_done <| k_seq <| w_ret <| ?_; obtain rfl := os hc1; obtain rfl := os hf; exact r_flat ⟨trivial, trivial⟩ rfl (.refl _)
    ·refine w_condf rfl (bf c64) <| w_skip <| k_blk <| k_seq <| w_reg <| s_mov (.int .i64 (i_33 : Int)) rfl <| s_q (.int .i64 (w64 ((i_33 : Int) + 1))) rfl rfl rfl <| s_mov (.int .i64 (w64 ((i_33 : Int) + 1))) rfl <| w_done <| ?_; exact k_loopn ⟨(i_33 + 1), hc1⟩ (mul hlt51) ⟨[], [], _, _, rfl, rfl, ⟨.refl _, ⟨.of_eq (congrArg (AV.int _) (w64_incr hlt51 hl59)), trivial⟩⟩, (.refl _)⟩
 ·rintro ⟨_, rfl⟩
  refine awp_seq <| w_reg <| s_mov (.str t_1) rfl <| s_dof (o_lenS rfl) fun hl65 => s_q (.bool (decide ((t_1.length : Int) ≤ 200))) rfl rfl rfl <| s_mov (.bool (decide ((t_1.length : Int) ≤ 200))) rfl <| w_done <| k_seq <| w_ret <| ?_; obtain rfl := os hf; exact r_flat ⟨trivial, trivial⟩ rfl (.refl _)

/- spec.AtomOK -/
def c222 : ACode :=
 (.seq (.reg (tq 1 (.box 3 (.t 0)) (tm 2 (.c (.bool false)) .done)))
 (.seq (.seq (.reg (tq 3 (.faddr 0 (.t 1)) (tq 4 (.load 1 false (.t 3)) .done)))
 (.block 0 (.seq (.reg (tq 6 (.bin .eql (.t 4) (.c (.int .i64 1))) (tm 5 (.t 6) .done)))
 (.cond (.t 5) (.seq (.reg (tq 7 (.faddr 1 (.t 1)) (tq 8 (.load 1 false (.t 7)) (tq 9 (.call 151 [(.t 8), (.c (.int .i64 (-1000000000))), (.c (.int .i64 1000000000))]) (tm 10 (.t 9) (tg 11 10 true (.faddr 2 (.t 1)) (tg 12 10 true (.load 1 false (.t 11)) (tg 13 10 true (.bin .eql (.t 12) (.c (.str []))) (tq 14 (.pick (.t 10) (.t 13) (.c (.bool false))) (tm 2 (.t 14) .done))))))))))
 .ret)
 (.seq (.reg (tq 16 (.bin .eql (.t 4) (.c (.int .i64 2))) (tm 15 (.t 16) .done)))
 (.cond (.t 15) (.seq (.reg (tq 17 (.faddr 1 (.t 1)) (tq 18 (.load 1 false (.t 17)) (tq 19 (.bin .eql (.t 18) (.c (.int .i64 0))) (tm 20 (.t 19) (tg 21 20 true (.faddr 2 (.t 1)) (tg 22 20 true (.load 1 false (.t 21)) (tg 23 20 true (.call 250 [(.t 22)]) (tq 24 (.pick (.t 20) (.t 23) (.c (.bool false))) (tm 2 (.t 24) .done))))))))))
 .ret)
 (.seq (.reg (tq 26 (.bin .eql (.t 4) (.c (.int .i64 3))) (tm 25 (.t 26) .done)))
 (.cond (.t 25) (.seq (.reg (tq 27 (.faddr 1 (.t 1)) (tq 28 (.load 1 false (.t 27)) (tq 29 (.call 151 [(.t 28), (.c (.int .i64 0)), (.c (.int .i64 1))]) (tm 30 (.t 29) (tg 31 30 true (.faddr 2 (.t 1)) (tg 32 30 true (.load 1 false (.t 31)) (tg 33 30 true (.bin .eql (.t 32) (.c (.str []))) (tq 34 (.pick (.t 30) (.t 33) (.c (.bool false))) (tm 2 (.t 34) .done))))))))))
 .ret)
 (.seq (.reg (tq 36 (.bin .eql (.t 4) (.c (.int .i64 4))) (tm 35 (.t 36) .done)))
 (.cond (.t 35) (.seq (.reg (tq 37 (.faddr 1 (.t 1)) (tq 38 (.load 1 false (.t 37)) (tq 39 (.call 151 [(.t 38), (.c (.int .i64 1)), (.c (.int .i64 1000000))]) (tm 40 (.t 39) (tg 41 40 true (.faddr 2 (.t 1)) (tg 42 40 true (.load 1 false (.t 41)) (tg 43 40 true (.bin .eql (.t 42) (.c (.str []))) (tq 44 (.pick (.t 40) (.t 43) (.c (.bool false))) (tm 2 (.t 44) .done))))))))))
 .ret)
 .skip))))))))))
 (.seq (.reg (tm 2 (.c (.bool false)) .done))
 .ret)))
theorem fc222 : fcomp Try.prog Try.f222 = some (c222.erase, [.mov (.t 2)], 45) := by kernel_rfl
def spec_AtomOK (a_1 : GAtom) : Option Bool :=
    if (a_1.Kind == 1) then
    (spec_l01In a_1.N (-1000000000) 1000000000).bind fun r_3 =>
    if r_3 then
    some (a_1.T == [])
    else
    some false
    else
    if (a_1.Kind == 2) then
    if (a_1.N == 0) then
    (spec_l01Text a_1.T).bind fun r_8 =>
    some r_8
    else
    some false
    else
    if (a_1.Kind == 3) then
    (spec_l01In a_1.N 0 1).bind fun r_11 =>
    if r_11 then
    some (a_1.T == [])
    else
    some false
    else
    if (a_1.Kind == 4) then
    (spec_l01In a_1.N 1 1000000).bind fun r_15 =>
    if r_15 then
    some (a_1.T == [])
    else
    some false
    else
    some false
theorem w_spec_AtomOK (a_1 : GAtom) (r : Bool) (hf : spec_AtomOK a_1 = some r) : CallOK Try.prog 222 .flat [(encGAtom a_1)] (.bool r) := by
 refine CallOK.of_awp mixed Try.func222 fc222 nle ?_; rw [argT_eq]; unfold spec_AtomOK at hf; unfold c222; refine (show awp Try.prog false 0 _ (ofL [(0, (encGAtom a_1))]) [] _ from ?_); refine awp_seq <| w_reg <| s_do (o_box (j := 0) (c := (.agg [(.int .i64 a_1.Kind), (.int .i64 a_1.N), (.str a_1.T)])) rfl trivial rfl rfl) <| s_mov (.bool false) rfl <| w_done <| k_seq <| awp_seq <| awp_seq <| w_reg <| s_q (.ptr 0 0 0) rfl trivial rfl <| s_q (.int .i64 a_1.Kind) rfl nle rfl <| w_done <| k_seq <| w_blk <| awp_seq <| w_reg <| s_q (.bool (a_1.Kind == 1)) rfl rfl rfl <| s_mov (.bool (a_1.Kind == 1)) rfl <| w_done <| k_seq <| ?_
 rcases oi hf with ⟨c2, hf⟩ | ⟨c2, hf⟩
 ·refine w_condt rfl c2 <| awp_seq <| w_reg <| ?_
  obtain ⟨r_3, er4, hf⟩ := ob hf
  rcases oi hf with ⟨c5, hf⟩ | ⟨c5, hf⟩
  ·refine s_q (.ptr 0 0 1) rfl trivial rfl <| s_q (.int .i64 a_1.N) rfl nle rfl <| s_do (o_call (w_spec_l01In _ _ _ _ er4) rfl (.refl _) rfl) <| s_mov (.bool r_3) rfl <| s_lit (s := 10) (b := true) rfl c5 <| s_on rfl <| s_q (.ptr 0 0 2) rfl trivial rfl <| s_on rfl <| s_q (.str a_1.T) rfl nle rfl <| s_on rfl <| s_q (.bool (a_1.T == [])) rfl trivial rfl <| s_q (.bool (a_1.T == [])) rfl trivial rfl <| s_mov (.bool (a_1.T == [])) rfl <| w_done <| k_seq <| w_ret <| ?_; obtain rfl := os hf; exact r_flat ⟨trivial, trivial⟩ rfl (.refl _)
  ·refine s_q (.ptr 0 0 1) rfl trivial rfl <| s_q (.int .i64 a_1.N) rfl nle rfl <| s_do (o_call (w_spec_l01In _ _ _ _ er4) rfl (.refl _) rfl) <| s_mov (.bool r_3) rfl <| s_lit (s := 10) (b := false) rfl (bf c5) <| s_off rfl rfl <| s_off rfl rfl <| s_off rfl rfl <| s_q (.bool false) rfl trivial rfl <| s_mov (.bool false) rfl <| w_done <| k_seq <| w_ret <| ?_; obtain rfl := os hf; exact r_flat ⟨trivial, trivial⟩ rfl (.refl _)
 ·refine w_condf rfl (bf c2) <| awp_seq <| w_reg <| s_q (.bool (a_1.Kind == 2)) rfl rfl rfl <| s_mov (.bool (a_1.Kind == 2)) rfl <| w_done <| k_seq <| ?_
  rcases oi hf with ⟨c6, hf⟩ | ⟨c6, hf⟩
  ·refine w_condt rfl c6 <| awp_seq <| w_reg <| ?_
   rcases oi hf with ⟨c7, hf⟩ | ⟨c7, hf⟩
   ·obtain ⟨r_8, er9, hf⟩ := ob hf
    refine s_q (.ptr 0 0 1) rfl trivial rfl <| s_q (.int .i64 a_1.N) rfl nle rfl <| s_q (.bool (a_1.N == 0)) rfl rfl rfl <| s_mov (.bool (a_1.N == 0)) rfl <| s_lit (s := 20) (b := true) rfl c7 <| s_on rfl <| s_q (.ptr 0 0 2) rfl trivial rfl <| s_on rfl <| s_q (.str a_1.T) rfl nle rfl <| s_on rfl <| s_do (o_call (w_spec_l01Text _ _ er9) rfl (.refl _) rfl) <| s_q (.bool r_8) rfl trivial rfl <| s_mov (.bool r_8) rfl <| w_done <| k_seq <| w_ret <| ?_; obtain rfl := os hf; exact r_flat ⟨trivial, trivial⟩ rfl (.refl _)
   ·refine s_q (.ptr 0 0 1) rfl trivial rfl <| s_q (.int .i64 a_1.N) rfl nle rfl <| s_q (.bool (a_1.N == 0)) rfl rfl rfl <| s_mov (.bool (a_1.N == 0)) rfl <| s_lit (s := 20) (b := false) rfl (bf c7) <| s_off rfl rfl <| s_off rfl rfl <| s_off rfl rfl <| s_q (.bool false) rfl trivial rfl <| s_mov (.bool false) rfl <| w_done <| k_seq <| w_ret <| ?_; obtain rfl := os hf; exact r_flat ⟨trivial, trivial⟩ rfl (.refl _)
  ·refine w_condf rfl (bf c6) <| awp_seq <| w_reg <| s_q (.bool (a_1.Kind == 3)) rfl rfl rfl <| s_mov (.bool (a_1.Kind == 3)) rfl <| w_done <| k_seq <| ?_
   rcases oi hf with ⟨c10, hf⟩ | ⟨c10, hf⟩
   ·refine w_condt rfl c10 <| awp_seq <| w_reg <| ?_
    obtain ⟨r_11, er12, hf⟩ := ob hf
    rcases oi hf with ⟨c13, hf⟩ | ⟨c13, hf⟩
    ·refine s_q (.ptr 0 0 1) rfl trivial rfl <| s_q (.int .i64 a_1.N) rfl nle rfl <| s_do (o_call (w_spec_l01In _ _ _ _ er12) rfl (.refl _) rfl) <| s_mov (.bool r_11) rfl <| s_lit (s := 30) (b := true) rfl c13 <| s_on rfl <| s_q (.ptr 0 0 2) rfl trivial rfl <| s_on rfl <| s_q (.str a_1.T) rfl nle rfl <| s_on rfl <| s_q (.bool (a_1.T == [])) rfl trivial rfl <| s_q (.bool (a_1.T == [])) rfl trivial rfl <| s_mov (.bool (a_1.T == [])) rfl <| w_done <| k_seq <| w_ret <| ?_; obtain rfl := os hf; exact r_flat ⟨trivial, trivial⟩ rfl (.refl _)
    ·refine s_q (.ptr 0 0 1) rfl trivial rfl <| s_q (.int .i64 a_1.N) rfl nle rfl <| s_do (o_call (w_spec_l01In _ _ _ _ er12) rfl (.refl _) rfl) <| s_mov (.bool r_11) rfl <| s_lit (s := 30) (b := false) rfl (bf c13) <| s_off rfl rfl <| s_off rfl rfl <| s_off rfl rfl <| s_q (.bool false) rfl trivial rfl <| s_mov (.bool false) rfl <| w_done <| k_seq <| w_ret <| ?_; obtain rfl := os hf; exact r_flat ⟨trivial, trivial⟩ rfl (.refl _)
   ·refine w_condf rfl (bf c10) <| awp_seq <| w_reg <| s_q (.bool (a_1.Kind == 4)) rfl rfl rfl <| s_mov (.bool (a_1.Kind == 4)) rfl <| w_done <| k_seq <| ?_
    rcases oi hf with ⟨c14, hf⟩ | ⟨c14, hf⟩
    ·refine w_condt rfl c14 <| awp_seq <| w_reg <| ?_
     obtain ⟨r_15, er16, hf⟩ := ob hf
     rcases oi hf with ⟨c17, hf⟩ | ⟨c17, hf⟩
     ·refine s_q (.ptr 0 0 1) rfl trivial rfl <| s_q (.int .i64 a_1.N) rfl nle rfl <| s_do (o_call (w_spec_l01In _ _ _ _ er16) rfl (.refl _) rfl) <| s_mov (.bool r_15) rfl <| s_lit (s := 40) (b := true) rfl c17 <| s_on rfl <| s_q (.ptr 0 0 2) rfl trivial rfl <| s_on rfl <| s_q (.str a_1.T) rfl nle rfl <| s_on rfl <| s_q (.bool (a_1.T == [])) rfl trivial rfl <| s_q (.bool (a_1.T == [])) rfl trivial rfl <| s_mov (.bool (a_1.T == [])) rfl <| w_done <| k_seq <| w_ret <| ?_; obtain rfl := os hf; exact r_flat ⟨trivial, trivial⟩ rfl (.refl _)
     ·refine s_q (.ptr 0 0 1) rfl trivial rfl <| s_q (.int .i64 a_1.N) rfl nle rfl <| s_do (o_call (w_spec_l01In _ _ _ _ er16) rfl (.refl _) rfl) <| s_mov (.bool r_15) rfl <| s_lit (s := 40) (b := false) rfl (bf c17) <| s_off rfl rfl <| s_off rfl rfl <| s_off rfl rfl <| s_q (.bool false) rfl trivial rfl <| s_mov (.bool false) rfl <| w_done <| k_seq <| w_ret <| ?_; obtain rfl := os hf; exact r_flat ⟨trivial, trivial⟩ rfl (.refl _)
    ·refine w_condf rfl (bf c14) <| w_skip <| k_blk <| k_seq <| awp_seq <| w_reg <| s_mov (.bool false) rfl <| w_done <| k_seq <| w_ret <| ?_; obtain rfl := os hf; exact r_flat ⟨trivial, trivial⟩ rfl (.refl _)

/- spec.l01Bit -/
def c257 : ACode :=
 (.seq (.reg (tm 2 (.c (.int .i64 0)) .done))
 (.seq (.seq (.reg (tm 3 (.t 0) .done))
 (.cond (.t 3) (.seq (.reg (tm 2 (.c (.int .i64 1)) .done))
 .ret)
 .skip))
 (.seq (.reg (tm 2 (.c (.int .i64 0)) .done))
 .ret)))
theorem fc257 : fcomp Try.prog Try.f257 = some (c257.erase, [.mov (.t 2)], 4) := by kernel_rfl
def spec_l01Bit (b_1 : Bool) : Option Int :=
    if b_1 then
    some 1
    else
    some 0
theorem w_spec_l01Bit (b_1 : Bool) (r : Int) (hf : spec_l01Bit b_1 = some r) : CallOK Try.prog 257 .flat [(.bool b_1)] (.int .i64 r) := by
  refine CallOK.of_awp mixed Try.func257 fc257 nle ?_
  rw [argT_eq]
  unfold spec_l01Bit at hf
  unfold c257
  refine (show awp Try.prog false 0 _ (ofL [(0, (.bool b_1))]) [] _ from ?_)
  refine awp_seq ?_
  refine w_reg ?_
  refine s_do (o_mov (.int .i64 0) rfl) ?_
  refine w_done ?_
  refine k_seq ?_
  refine awp_seq ?_
  refine awp_seq ?_
  refine w_reg ?_
  refine s_do (o_mov (.bool b_1) rfl) ?_
  refine w_done ?_
  refine k_seq ?_
  rcases oi hf with ⟨c2, hf⟩ | ⟨c2, hf⟩
  · refine w_condt rfl c2 ?_
    refine awp_seq ?_
    refine w_reg ?_
    refine s_do (o_mov (.int .i64 1) rfl) ?_
    refine w_done ?_
    refine k_seq ?_
    refine w_ret ?_
    obtain rfl := os hf
    exact r_flat ⟨trivial, trivial⟩ rfl (.refl _)
  · refine w_condf rfl (bf c2) ?_
    refine w_skip ?_
    refine k_seq ?_
    refine awp_seq ?_
    refine w_reg ?_
    refine s_do (o_mov (.int .i64 0) rfl) ?_
    refine w_done ?_
    refine k_seq ?_
    refine w_ret ?_
    obtain rfl := os hf
    exact r_flat ⟨trivial, trivial⟩ rfl (.refl _)

/- spec.l03Order -/
def c223 : ACode :=
 (.seq (.reg (tq 2 (.box 3 (.t 0)) (tq 3 (.box 3 (.t 1)) (tm 4 (.c (.int .i64 0)) .done))))
 (.seq (.block 0 (.seq (.reg (tq 6 (.faddr 0 (.t 2)) (tq 7 (.load 1 false (.t 6)) (tq 8 (.faddr 0 (.t 3)) (tq 9 (.load 1 false (.t 8)) (tq 10 (.bin .neq (.t 7) (.t 9)) (tm 5 (.t 10) .done)))))))
 (.cond (.t 5) (.seq (.reg (tq 11 (.faddr 0 (.t 2)) (tq 12 (.load 1 false (.t 11)) (tq 13 (.faddr 0 (.t 3)) (tq 14 (.load 1 false (.t 13)) (tq 15 (.bin .lss (.t 12) (.t 14)) (tq 16 (.call 257 [(.t 15)]) (tq 17 (.bin .mul (.c (.int .i64 2)) (.t 16)) (tq 18 (.bin .sub (.c (.int .i64 1)) (.t 17)) (tm 4 (.t 18) .done))))))))))
 .ret)
 (.seq (.reg (tq 20 (.faddr 1 (.t 2)) (tq 21 (.load 1 false (.t 20)) (tq 22 (.faddr 1 (.t 3)) (tq 23 (.load 1 false (.t 22)) (tq 24 (.bin .neq (.t 21) (.t 23)) (tm 19 (.t 24) .done)))))))
 (.cond (.t 19) (.seq (.reg (tq 25 (.faddr 1 (.t 2)) (tq 26 (.load 1 false (.t 25)) (tq 27 (.faddr 1 (.t 3)) (tq 28 (.load 1 false (.t 27)) (tq 29 (.bin .lss (.t 26) (.t 28)) (tq 30 (.call 257 [(.t 29)]) (tq 31 (.bin .mul (.c (.int .i64 2)) (.t 30)) (tq 32 (.bin .sub (.c (.int .i64 1)) (.t 31)) (tm 4 (.t 32) .done))))))))))
 .ret)
 (.seq (.reg (tq 34 (.faddr 2 (.t 2)) (tq 35 (.load 1 false (.t 34)) (tq 36 (.faddr 2 (.t 3)) (tq 37 (.load 1 false (.t 36)) (tq 38 (.bin .neq (.t 35) (.t 37)) (tm 33 (.t 38) .done)))))))
 (.cond (.t 33) (.seq (.reg (tq 39 (.faddr 2 (.t 2)) (tq 40 (.load 1 false (.t 39)) (tq 41 (.faddr 2 (.t 3)) (tq 42 (.load 1 false (.t 41)) (tq 43 (.bin .lss (.t 40) (.t 42)) (tq 44 (.call 257 [(.t 43)]) (tq 45 (.bin .mul (.c (.int .i64 2)) (.t 44)) (tq 46 (.bin .sub (.c (.int .i64 1)) (.t 45)) (tm 4 (.t 46) .done))))))))))
 .ret)
 .skip)))))))
 (.seq (.reg (tm 4 (.c (.int .i64 0)) .done))
 .ret)))
theorem fc223 : fcomp Try.prog Try.f223 = some (c223.erase, [.mov (.t 4)], 47) := by kernel_rfl
def spec_l03Order (a_1 : GAtom) (b_2 : GAtom) : Option Int :=
    if (a_1.Kind != b_2.Kind) then
    (spec_l01Bit (decide (a_1.Kind < b_2.Kind))).bind fun r_4 =>
    some (w64 (1 - (w64 (2 * r_4))))
    else
    if (a_1.N != b_2.N) then
    (spec_l01Bit (decide (a_1.N < b_2.N))).bind fun r_7 =>
    some (w64 (1 - (w64 (2 * r_7))))
    else
    if (!(a_1.T == b_2.T)) then
    (spec_l01Bit (Op.bytesLess a_1.T b_2.T)).bind fun r_10 =>
    some (w64 (1 - (w64 (2 * r_10))))
    else
    some 0
theorem w_spec_l03Order (a_1 : GAtom) (b_2 : GAtom) (r : Int) (hf : spec_l03Order a_1 b_2 = some r) : CallOK Try.prog 223 .flat [(encGAtom a_1), (encGAtom b_2)] (.int .i64 r) := by
 refine CallOK.of_awp mixed Try.func223 fc223 nle ?_; rw [argT_eq]; unfold spec_l03Order at hf; unfold c223; refine (show awp Try.prog false 0 _ (ofL [(0, (encGAtom a_1)), (1, (encGAtom b_2))]) [] _ from ?_); refine awp_seq <| w_reg <| s_do (o_box (j := 0) (c := (.agg [(.int .i64 a_1.Kind), (.int .i64 a_1.N), (.str a_1.T)])) rfl trivial rfl rfl) <| s_do (o_box (j := 1) (c := (.agg [(.int .i64 b_2.Kind), (.int .i64 b_2.N), (.str b_2.T)])) rfl trivial rfl rfl) <| s_mov (.int .i64 0) rfl <| w_done <| k_seq <| awp_seq <| w_blk <| awp_seq <| w_reg <| s_q (.ptr 0 0 0) rfl trivial rfl <| s_q (.int .i64 a_1.Kind) rfl nle rfl <| s_q (.ptr 1 0 0) rfl trivial rfl <| s_q (.int .i64 b_2.Kind) rfl nle rfl <| s_q (.bool (a_1.Kind != b_2.Kind)) rfl rfl rfl <| ?_
 refine s_mov (.bool (a_1.Kind != b_2.Kind)) rfl <| w_done <| k_seq <| ?_
 rcases oi hf with ⟨c3, hf⟩ | ⟨c3, hf⟩
 ·refine w_condt rfl c3 <| awp_seq <| w_reg <| ?_
  obtain ⟨r_4, er5, hf⟩ := ob hf
  refine s_q (.ptr 0 0 0) rfl trivial rfl <| s_q (.int .i64 a_1.Kind) rfl nle rfl <| s_q (.ptr 1 0 0) rfl trivial rfl <| s_q (.int .i64 b_2.Kind) rfl nle rfl <| s_q (.bool (decide (a_1.Kind < b_2.Kind))) rfl rfl rfl <| s_do (o_call (w_spec_l01Bit _ _ er5) rfl (.refl _) rfl) <| s_q (.int .i64 (w64 (2 * r_4))) rfl rfl rfl <| s_q (.int .i64 (w64 (1 - (w64 (2 * r_4))))) rfl rfl rfl <| s_mov (.int .i64 (w64 (1 - (w64 (2 * r_4))))) rfl <| w_done <| k_seq <| w_ret <| ?_; obtain rfl := os hf; exact r_flat ⟨trivial, trivial⟩ rfl (.refl _)
 ·refine w_condf rfl (bf c3) <| awp_seq <| w_reg <| s_q (.ptr 0 0 1) rfl trivial rfl <| s_q (.int .i64 a_1.N) rfl nle rfl <| s_q (.ptr 1 0 1) rfl trivial rfl <| s_q (.int .i64 b_2.N) rfl nle rfl <| s_q (.bool (a_1.N != b_2.N)) rfl rfl rfl <| s_mov (.bool (a_1.N != b_2.N)) rfl <| w_done <| k_seq <| ?_
  rcases oi hf with ⟨c6, hf⟩ | ⟨c6, hf⟩
  ·refine w_condt rfl c6 <| awp_seq <| w_reg <| ?_
   obtain ⟨r_7, er8, hf⟩ := ob hf
   refine s_q (.ptr 0 0 1) rfl trivial rfl <| s_q (.int .i64 a_1.N) rfl nle rfl <| s_q (.ptr 1 0 1) rfl trivial rfl <| s_q (.int .i64 b_2.N) rfl nle rfl <| s_q (.bool (decide (a_1.N < b_2.N))) rfl rfl rfl <| s_do (o_call (w_spec_l01Bit _ _ er8) rfl (.refl _) rfl) <| s_q (.int .i64 (w64 (2 * r_7))) rfl rfl rfl <| s_q (.int .i64 (w64 (1 - (w64 (2 * r_7))))) rfl rfl rfl <| s_mov (.int .i64 (w64 (1 - (w64 (2 * r_7))))) rfl <| w_done <| k_seq <| w_ret <| ?_; obtain rfl := os hf; exact r_flat ⟨trivial, trivial⟩ rfl (.refl _)
  ·refine w_condf rfl (bf c6) <| awp_seq <| w_reg <| s_q (.ptr 0 0 2) rfl trivial rfl <| s_q (.str a_1.T) rfl nle rfl <| s_q (.ptr 1 0 2) rfl trivial rfl <| s_q (.str b_2.T) rfl nle rfl <| s_q (.bool (!(a_1.T == b_2.T))) rfl trivial rfl <| s_mov (.bool (!(a_1.T == b_2.T))) rfl <| w_done <| k_seq <| ?_
   rcases oi hf with ⟨c9, hf⟩ | ⟨c9, hf⟩
   ·refine w_condt rfl c9 <| awp_seq <| w_reg <| ?_
    obtain ⟨r_10, er11, hf⟩ := ob hf
    refine s_q (.ptr 0 0 2) rfl trivial rfl <| s_q (.str a_1.T) rfl nle rfl <| s_q (.ptr 1 0 2) rfl trivial rfl <| s_q (.str b_2.T) rfl nle rfl <| s_q (.bool (Op.bytesLess a_1.T b_2.T)) rfl trivial rfl <| s_do (o_call (w_spec_l01Bit _ _ er11) rfl (.refl _) rfl) <| s_q (.int .i64 (w64 (2 * r_10))) rfl rfl rfl <| s_q (.int .i64 (w64 (1 - (w64 (2 * r_10))))) rfl rfl rfl <| s_mov (.int .i64 (w64 (1 - (w64 (2 * r_10))))) rfl <| w_done <| k_seq <| w_ret <| ?_; obtain rfl := os hf; exact r_flat ⟨trivial, trivial⟩ rfl (.refl _)
   ·refine w_condf rfl (bf c9) <| w_skip <| k_blk <| k_seq <| awp_seq <| w_reg <| s_mov (.int .i64 0) rfl <| w_done <| k_seq <| w_ret <| ?_; obtain rfl := os hf; exact r_flat ⟨trivial, trivial⟩ rfl (.refl _)

/- spec.DatumOK -/
def c153 : ACode :=
 (.seq (.reg (tm 2 (.c (.bool false)) .done))
 (.seq (.seq (.reg (tm 4 (.t 0) (tq 5 (.len (.t 4)) (tq 6 (.bin .gtr (.t 5) (.c (.int .i64 4096))) .done))))
 (.cond (.t 6) (.seq (.reg (tm 2 (.c (.bool false)) .done))
 .ret)
 .skip))
 (.seq (.seq (.reg (tm 3 (.c (.int .i64 0)) .done))
 (.block 0 (.loop (.seq (.seq (.reg (tm 7 (.t 3) (tm 8 (.t 0) (tq 9 (.len (.t 8)) (tq 10 (.bin .lss (.t 7) (.t 9)) .done)))))
 (.cond (.t 10) .skip
 (.exit 0)))
 (.seq (.block 1 (.seq (.reg (tm 13 (.t 0) (tm 14 (.t 3) (tq 15 (.iaddr 3 (.t 13) (.t 14)) (tq 16 (.load 3 true (.t 15)) (.l ⟨(some 17), none, .call 222 [(.t 16)]⟩ []
 (tq 18 (.not (.t 17)) (tm 19 (.t 18) (tg 20 19 false (.mov (.t 0)) (tg 21 19 false (.mov (.t 3)) (tg 22 19 false (.iaddr 3 (.t 20) (.t 21)) (tg 23 19 false (.faddr 0 (.t 22)) (tg 24 19 false (.load 1 false (.t 23)) (tg 25 19 false (.mov (.t 0)) (tg 26 19 false (.iaddr 3 (.t 25) (.c (.int .i64 0))) (tg 27 19 false (.faddr 0 (.t 26)) (tg 28 19 false (.load 1 false (.t 27)) (tg 29 19 false (.bin .neq (.t 24) (.t 28)) (tq 30 (.pick (.t 19) (.c (.bool true)) (.t 29)) (tm 31 (.t 30) (tg 32 31 false (.mov (.t 3)) (tg 33 31 false (.bin .gtr (.t 32) (.c (.int .i64 0))) (tg 34 31 false (.mov (.t 33)) (tg 35 34 true (.mov (.t 0)) (tg 36 34 true (.mov (.t 3)) (tg 37 34 true (.bin .sub (.t 36) (.c (.int .i64 1))) (tg 38 34 true (.iaddr 3 (.t 35) (.t 37)) (tg 39 34 true (.load 3 true (.t 38)) (tg 40 34 true (.mov (.t 0)) (tg 41 34 true (.mov (.t 3)) (tg 42 34 true (.iaddr 3 (.t 40) (.t 41)) (tg 43 34 true (.load 3 true (.t 42)) (.l ⟨(some 44), (some (34, true)), .call 223 [(.t 39), (.t 43)]⟩ []
 (tg 45 34 true (.bin .geq (.t 44) (.c (.int .i64 0))) (tg 46 31 false (.pick (.t 34) (.t 45) (.c (.bool false))) (tq 47 (.pick (.t 31) (.c (.bool true)) (.t 46)) .done))) .non))))))))))))))))))))))))))) .non))))))
 (.cut (.cond (.t 47) (.seq (.reg (tm 2 (.c (.bool false)) .done))
 .ret)
 .skip))))
 (.reg (tm 11 (.t 3) (tq 12 (.bin .add (.t 11) (.c (.int .i64 1))) (tm 3 (.t 12) .done)))))))))
 (.cut (.seq (.reg (tm 48 (.t 0) (tq 49 (.len (.t 48)) (tq 50 (.bin .leq (.t 49) (.c (.int .i64 8))) (tm 2 (.t 50) .done)))))
 .ret)))))
theorem fc153 : fcomp Try.prog Try.f153 = some (c153.erase, [.mov (.t 2)], 51) := by kernel_rfl
def spec_DatumOK_L1 (d_1 : (List GAtom)) : List GAtom → Nat → Option (Fl Bool Unit)
  | [], i_83 =>
    some (.go ())
  | x_131 :: xs, i_83 =>
    (((spec_AtomOK x_131).bind fun r_147 =>
    if (!r_147) then
    some true
    else
    (idx d_1 0).bind fun x_150 =>
    if (x_131.Kind != x_150.Kind) then
    some true
    else
    if (decide ((i_83 : Int) > 0)) then
    (idx d_1 (w64 ((i_83 : Int) - 1))).bind fun x_154 =>
    (spec_l03Order x_154 x_131).bind fun r_156 =>
    some (decide (r_156 ≥ 0))
    else
    some false : Option Bool)).bind fun s47_145 =>
    if s47_145 then
    some (.ret false)
    else
    spec_DatumOK_L1 d_1 xs (i_83 + 1)

def spec_DatumOK (d_1 : (List GAtom)) : Option Bool :=
    if (decide ((d_1.length : Int) > 4096)) then
    some false
    else
    (spec_DatumOK_L1 d_1 d_1 0).bind fun q => (match q with
    | .ret r => some r
    | .go _ =>
    some (decide ((d_1.length : Int) ≤ 8)))
theorem w_spec_DatumOK (d_1 : (List GAtom)) (r : Bool) (hf : spec_DatumOK d_1 = some r) : CallOK Try.prog 153 .flat [(.lst 3 (d_1.map encGAtom))] (.bool r) := by
 refine CallOK.of_awp mixed Try.func153 fc153 nle ?_; rw [argT_eq]; unfold spec_DatumOK at hf; unfold c153; refine (show awp Try.prog false 0 _ (ofL [(0, (.lst 3 (d_1.map encGAtom)))]) [] _ from ?_); refine awp_seq <| w_reg <| s_mov (.bool false) rfl <| w_done <| k_seq <| awp_seq <| awp_seq <| w_reg <| s_mov (.lst 3 (d_1.map encGAtom)) rfl <| s_dof (o_len (enc := encGAtom) rfl) fun hl2 => s_q (.bool (decide ((d_1.length : Int) > 4096))) rfl rfl rfl <| w_done <| k_seq <| ?_
 rcases oi hf with ⟨c3, hf⟩ | ⟨c3, hf⟩
 ·refine w_condt rfl c3 <| awp_seq <| w_reg <| s_mov (.bool false) rfl <| w_done <| k_seq <| w_ret <| ?_; obtain rfl := os hf; exact r_flat ⟨trivial, trivial⟩ rfl (.refl _)
 ·refine w_condf rfl (bf c3) <| w_skip <| k_seq <| awp_seq <| awp_seq <| w_reg <| s_mov (.int .i64 0) rfl <| w_done <| k_seq <| ?_
  obtain ⟨p124, hb1, hf⟩ := ob hf
  refine awp_cutx (X := {q : Unit // p124 = .go q}) (fun q => ([(0, (.lst 3 (d_1.map encGAtom)))], [])) ?_ ?_
  ·refine awp_loop (X := {q : Nat // spec_DatumOK_L1 d_1 (d_1.drop q) q = some p124}) (fun q => ([(0, (.lst 3 (d_1.map encGAtom))), (3, (.int .i64 (q.1 : Int)))], [])) (fun q => d_1.length - q.1) ⟨0, hb1⟩ ⟨[], [], _, _, rfl, rfl, ⟨.refl _, ⟨.refl _, trivial⟩⟩, (.refl _)⟩ ?_
   rintro ⟨i_83, hc1⟩
   have hc1 : spec_DatumOK_L1 d_1 (d_1.drop i_83) i_83 = some p124 := hc1
   refine (show awp Try.prog false 0 _ (ofL [(0, (.lst 3 (d_1.map encGAtom))), (3, (.int .i64 (i_83 : Int)))]) [] _ from ?_)
   rcases dropc d_1 i_83 with ⟨hie127, hd130⟩ | ⟨hlt125, x_131, hx126, hd130⟩
   ·rw [hd130, spec_DatumOK_L1.eq_1] at hc1
    have hq129 := dlf hie127
    refine awp_seq <| awp_seq <| w_reg <| s_mov (.int .i64 (i_83 : Int)) rfl <| s_mov (.lst 3 (d_1.map encGAtom)) rfl <| s_dof (o_len (enc := encGAtom) rfl) fun hl132 => s_q (.bool (decide ((i_83 : Int) < (d_1.length : Int)))) rfl rfl rfl <| w_done <| k_seq <| w_condf rfl hq129 <| w_exit <| k_seqx <| k_loopx <| k_blkx <| ?_; obtain rfl := os hc1; exact k_cutn ⟨_, rfl⟩ ⟨[], [], _, _, rfl, rfl, ⟨.refl _, trivial⟩, (.refl _)⟩
   ·rw [hd130, spec_DatumOK_L1.eq_2] at hc1
    have hq129 := dlt hlt125
    refine awp_seq <| awp_seq <| w_reg <| s_mov (.int .i64 (i_83 : Int)) rfl <| s_mov (.lst 3 (d_1.map encGAtom)) rfl <| s_dof (o_len (enc := encGAtom) rfl) fun hl133 => s_q (.bool (decide ((i_83 : Int) < (d_1.length : Int)))) rfl rfl rfl <| w_done <| k_seq <| w_condt rfl hq129 <| w_skip <| k_seq <| awp_seq <| w_blk <| awp_seq <| ?_
    obtain ⟨s47_145, hb2, hc1⟩ := ob hc1
    refine awp_cut ([(0, (.lst 3 (d_1.map encGAtom))), (3, (.int .i64 (i_83 : Int))), (47, (.bool s47_145))], []) ?_ ?_
    ·refine w_reg <| s_mov (.lst 3 (d_1.map encGAtom)) rfl <| s_mov (.int .i64 (i_83 : Int)) rfl <| s_do (o_iaddrn (enc := encGAtom) rfl rfl hx126) <| s_q (encGAtom x_131) rfl nle rfl <| ?_
     obtain ⟨r_147, er148, hb2⟩ := ob hb2
     refine s_dol (o_call (w_spec_AtomOK _ _ er148) rfl (.refl _) rfl) a_same trivial <| s_q (.bool (!r_147)) rfl trivial rfl <| s_mov (.bool (!r_147)) rfl <| ?_
     rcases oi hb2 with ⟨c149, hb2⟩ | ⟨c149, hb2⟩
     ·refine s_lit (s := 19) (b := true) rfl c149 <| s_off rfl rfl <| s_off rfl rfl <| s_off rfl rfl <| s_off rfl rfl <| s_off rfl rfl <| s_off rfl rfl <| s_off rfl rfl <| s_off rfl rfl <| s_off rfl rfl <| s_off rfl rfl <| s_q (.bool true) rfl trivial rfl <| s_mov (.bool true) rfl <| s_off rfl rfl <| s_off rfl rfl <| s_off rfl rfl <| s_offs rfl <| s_offs rfl <| s_offs rfl <| s_offs rfl <| s_offs rfl <| s_offs rfl <| s_offs rfl <| s_offs rfl <| s_offs rfl <| s_offsl rfl trivial <| s_offs rfl <| s_off rfl rfl <| s_q (.bool true) rfl trivial rfl <| w_done <| ?_; obtain rfl := os hb2; exact ⟨[], [], _, _, rfl, rfl, ⟨.refl _, ⟨.refl _, ⟨.refl _, trivial⟩⟩⟩, (.refl _)⟩
     ·refine s_lit (s := 19) (b := false) rfl (bf c149) <| s_on rfl <| s_mov (.lst 3 (d_1.map encGAtom)) rfl <| s_on rfl <| s_mov (.int .i64 (i_83 : Int)) rfl <| s_on rfl <| s_do (o_iaddrn (enc := encGAtom) rfl rfl hx126) <| s_on rfl <| s_q (.iptr (encGAtom x_131) 0) rfl trivial rfl <| s_on rfl <| s_q (.int .i64 x_131.Kind) rfl nle rfl <| s_on rfl <| s_mov (.lst 3 (d_1.map encGAtom)) rfl <| s_on rfl <| ?_
      obtain ⟨x_150, ex151, hb2⟩ := ob hb2
      refine s_do (o_iaddr (enc := encGAtom) rfl rfl (idx0 ex151) (idx1 ex151)) <| s_on rfl <| s_q (.iptr (encGAtom x_150) 0) rfl trivial rfl <| s_on rfl <| s_q (.int .i64 x_150.Kind) rfl nle rfl <| s_on rfl <| s_q (.bool (x_131.Kind != x_150.Kind)) rfl rfl rfl <| s_q (.bool (x_131.Kind != x_150.Kind)) rfl trivial rfl <| s_mov (.bool (x_131.Kind != x_150.Kind)) rfl <| ?_
      rcases oi hb2 with ⟨c152, hb2⟩ | ⟨c152, hb2⟩
      ·refine s_lit (s := 31) (b := true) rfl c152 <| s_off rfl rfl <| s_off rfl rfl <| s_off rfl rfl <| s_offs rfl <| s_offs rfl <| s_offs rfl <| s_offs rfl <| s_offs rfl <| s_offs rfl <| s_offs rfl <| s_offs rfl <| s_offs rfl <| s_offsl rfl trivial <| s_offs rfl <| s_off rfl rfl <| s_q (.bool true) rfl trivial rfl <| w_done <| ?_; obtain rfl := os hb2; exact ⟨[], [], _, _, rfl, rfl, ⟨.refl _, ⟨.refl _, ⟨.refl _, trivial⟩⟩⟩, (.refl _)⟩
      ·refine s_lit (s := 31) (b := false) rfl (bf c152) <| s_on rfl <| s_mov (.int .i64 (i_83 : Int)) rfl <| s_on rfl <| s_q (.bool (decide ((i_83 : Int) > 0))) rfl rfl rfl <| s_on rfl <| s_mov (.bool (decide ((i_83 : Int) > 0))) rfl <| ?_
       rcases oi hb2 with ⟨c153, hb2⟩ | ⟨c153, hb2⟩
       ·refine s_lit (s := 34) (b := true) rfl c153 <| s_on rfl <| s_mov (.lst 3 (d_1.map encGAtom)) rfl <| s_on rfl <| s_mov (.int .i64 (i_83 : Int)) rfl <| s_on rfl <| s_q (.int .i64 (w64 ((i_83 : Int) - 1))) rfl rfl rfl <| s_on rfl <| ?_
        obtain ⟨x_154, ex155, hb2⟩ := ob hb2
        refine s_do (o_iaddr (enc := encGAtom) rfl rfl (idx0 ex155) (idx1 ex155)) <| s_on rfl <| s_q (encGAtom x_154) rfl nle rfl <| s_on rfl <| s_mov (.lst 3 (d_1.map encGAtom)) rfl <| s_on rfl <| s_mov (.int .i64 (i_83 : Int)) rfl <| s_on rfl <| s_do (o_iaddrn (enc := encGAtom) rfl rfl hx126) <| s_on rfl <| s_q (encGAtom x_131) rfl nle rfl <| s_onl rfl <| ?_
        obtain ⟨r_156, er157, hb2⟩ := ob hb2
        refine s_dol (o_call (w_spec_l03Order _ _ _ er157) rfl (.refl _) rfl) a_same trivial <| s_on rfl <| s_q (.bool (decide (r_156 ≥ 0))) rfl rfl rfl <| s_on rfl <| s_q (.bool (decide (r_156 ≥ 0))) rfl trivial rfl <| s_q (.bool (decide (r_156 ≥ 0))) rfl trivial rfl <| w_done <| ?_; obtain rfl := os hb2; exact ⟨[], [], _, _, rfl, rfl, ⟨.refl _, ⟨.refl _, ⟨.refl _, trivial⟩⟩⟩, (.refl _)⟩
       ·refine s_lit (s := 34) (b := false) rfl (bf c153) <| s_off rfl rfl <| s_off rfl rfl <| s_off rfl rfl <| s_off rfl rfl <| s_off rfl rfl <| s_off rfl rfl <| s_off rfl rfl <| s_off rfl rfl <| s_off rfl rfl <| s_offl rfl rfl trivial <| s_off rfl rfl <| s_on rfl <| s_q (.bool false) rfl trivial rfl <| s_q (.bool false) rfl trivial rfl <| w_done <| ?_; obtain rfl := os hb2; exact ⟨[], [], _, _, rfl, rfl, ⟨.refl _, ⟨.refl _, ⟨.refl _, trivial⟩⟩⟩, (.refl _)⟩
    ·rcases oi hc1 with ⟨c158, hc1⟩ | ⟨c158, hc1⟩
     ·refine w_condt rfl c158 <| awp_seq <| w_reg <| s_mov (.bool false) rfl <| w_done <| k_seq <| w_ret <| ?_; obtain rfl := os hc1; obtain rfl := os hf; exact r_flat ⟨trivial, trivial⟩ rfl (.refl _)
     ·refine w_condf rfl (bf c158) <| w_skip <| k_blk <| k_seq <| w_reg <| s_mov (.int .i64 (i_83 : Int)) rfl <| s_q (.int .i64 (w64 ((i_83 : Int) + 1))) rfl rfl rfl <| s_mov (.int .i64 (w64 ((i_83 : Int) + 1))) rfl <| w_done <| ?_; exact k_loopn ⟨(i_83 + 1), hc1⟩ (mul hlt125) ⟨[], [], _, _, rfl, rfl, ⟨.refl _, ⟨.of_eq (congrArg (AV.int _) (w64_incr hlt125 hl133)), trivial⟩⟩, (.refl _)⟩
  ·rintro ⟨_, rfl⟩
   refine awp_seq <| w_reg <| s_mov (.lst 3 (d_1.map encGAtom)) rfl <| s_dof (o_len (enc := encGAtom) rfl) fun hl159 => s_q (.bool (decide ((d_1.length : Int) ≤ 8))) rfl rfl rfl <| s_mov (.bool (decide ((d_1.length : Int) ≤ 8))) rfl <| w_done <| k_seq <| w_ret <| ?_; obtain rfl := os hf; exact r_flat ⟨trivial, trivial⟩ rfl (.refl _)

/- spec.ResultOK -/
def c69 : ACode :=
 (.seq (.reg (tq 1 (.box 5 (.t 0)) (tm 2 (.c (.bool false)) .done)))
 (.seq (.seq (.reg (tq 6 (.faddr 0 (.t 1)) (tq 7 (.load 1 false (.t 6)) (tq 8 (.call 151 [(.t 7), (.c (.int .i64 0)), (.c (.int .i64 19))]) (tq 9 (.not (.t 8)) (tm 10 (.t 9) (tg 11 10 false (.faddr 1 (.t 1)) (tg 12 10 false (.load 1 false (.t 11)) (tg 13 10 false (.call 151 [(.t 12), (.c (.int .i64 0)), (.c (.int .i64 1000))]) (tg 14 10 false (.not (.t 13)) (tq 15 (.pick (.t 10) (.c (.bool true)) (.t 14)) (tm 16 (.t 15) (tg 17 16 false (.faddr 2 (.t 1)) (tg 18 16 false (.load 1 false (.t 17)) (tg 19 16 false (.call 151 [(.t 18), (.c (.int .i64 0)), (.c (.int .i64 1000000))]) (tg 20 16 false (.not (.t 19)) (tq 21 (.pick (.t 16) (.c (.bool true)) (.t 20)) (tm 22 (.t 21) (tg 23 22 false (.faddr 4 (.t 1)) (tg 24 22 false (.load 1 false (.t 23)) (tg 25 22 false (.len (.t 24)) (tg 26 22 false (.bin .gtr (.t 25) (.c (.int .i64 12))) (tq 27 (.pick (.t 22) (.c (.bool true)) (.t 26)) (tm 28 (.t 27) (tg 29 28 false (.faddr 3 (.t 1)) (tg 30 28 false (.load 1 false (.t 29)) (tg 31 28 false (.len (.t 30)) (tg 32 28 false (.bin .gtr (.t 31) (.c (.int .i64 7))) (tq 33 (.pick (.t 28) (.c (.bool true)) (.t 32)) .done)))))))))))))))))))))))))))))
 (.cut (.cond (.t 33) (.seq (.reg (tm 2 (.c (.bool false)) .done))
 .ret)
 .skip)))
 (.seq (.seq (.reg (tm 3 (.c (.int .i64 0)) .done))
 (.block 0 (.loop (.seq (.seq (.reg (tm 34 (.t 3) (tq 35 (.faddr 3 (.t 1)) (tq 36 (.load 1 false (.t 35)) (tq 37 (.len (.t 36)) (tq 38 (.bin .lss (.t 34) (.t 37)) .done))))))
 (.cond (.t 38) .skip
 (.exit 0)))
 (.seq (.block 1 (.seq (.reg (tq 41 (.faddr 3 (.t 1)) (tq 42 (.load 1 false (.t 41)) (tm 43 (.t 3) (tq 44 (.iaddr 1 (.t 42) (.t 43)) (tq 45 (.load 1 false (.t 44)) (tq 46 (.call 152 [(.t 45)]) (tq 47 (.not (.t 46)) .done))))))))
 (.cond (.t 47) (.seq (.reg (tm 2 (.c (.bool false)) .done))
 .ret)
 .skip)))
 (.reg (tm 39 (.t 3) (tq 40 (.bin .add (.t 39) (.c (.int .i64 1))) (tm 3 (.t 40) .done)))))))))
 (.cut (.seq (.seq (.reg (tm 4 (.c (.int .i64 0)) .done))
 (.block 2 (.loop (.seq (.seq (.reg (tm 48 (.t 4) (tq 49 (.faddr 4 (.t 1)) (tq 50 (.load 1 false (.t 49)) (tq 51 (.len (.t 50)) (tq 52 (.bin .lss (.t 48) (.t 51)) .done))))))
 (.cond (.t 52) .skip
 (.exit 2)))
 (.seq (.block 3 (.seq (.seq (.reg (tq 55 (.faddr 4 (.t 1)) (tq 56 (.load 1 false (.t 55)) (tm 57 (.t 4) (tq 58 (.iaddr 2 (.t 56) (.t 57)) (tq 59 (.faddr 1 (.t 58)) (tq 60 (.load 1 false (.t 59)) (tq 61 (.len (.t 60)) (tq 62 (.faddr 3 (.t 1)) (tq 63 (.load 1 false (.t 62)) (tq 64 (.len (.t 63)) (tq 65 (.bin .neq (.t 61) (.t 64)) .done))))))))))))
 (.cond (.t 65) (.seq (.reg (tm 2 (.c (.bool false)) .done))
 .ret)
 .skip))
 (.seq (.reg (tm 5 (.c (.int .i64 0)) .done))
 (.block 4 (.loop (.seq (.seq (.reg (tm 66 (.t 5) (tq 67 (.faddr 4 (.t 1)) (tq 68 (.load 1 false (.t 67)) (tm 69 (.t 4) (tq 70 (.iaddr 2 (.t 68) (.t 69)) (tq 71 (.faddr 1 (.t 70)) (tq 72 (.load 1 false (.t 71)) (tq 73 (.len (.t 72)) (tq 74 (.bin .lss (.t 66) (.t 73)) .done))))))))))
 (.cond (.t 74) .skip
 (.exit 4)))
 (.seq (.block 5 (.seq (.reg (tq 77 (.faddr 4 (.t 1)) (tq 78 (.load 1 false (.t 77)) (tm 79 (.t 4) (tq 80 (.iaddr 2 (.t 78) (.t 79)) (tq 81 (.faddr 1 (.t 80)) (tq 82 (.load 1 false (.t 81)) (tm 83 (.t 5) (tq 84 (.iaddr 1 (.t 82) (.t 83)) (tq 85 (.load 1 false (.t 84)) (tq 86 (.call 153 [(.t 85)]) (tq 87 (.not (.t 86)) .done))))))))))))
 (.cond (.t 87) (.seq (.reg (tm 2 (.c (.bool false)) .done))
 .ret)
 .skip)))
 (.reg (tm 75 (.t 5) (tq 76 (.bin .add (.t 75) (.c (.int .i64 1))) (tm 5 (.t 76) .done)))))))))))
 (.cut (.reg (tm 53 (.t 4) (tq 54 (.bin .add (.t 53) (.c (.int .i64 1))) (tm 4 (.t 54) .done))))))))))
 (.cut (.seq (.reg (tq 88 (.faddr 0 (.t 1)) (tq 89 (.load 1 false (.t 88)) (tq 90 (.bin .eql (.t 89) (.c (.int .i64 0))) (tm 91 (.t 90) (tg 92 91 false (.faddr 1 (.t 1)) (tg 93 91 false (.load 1 false (.t 92)) (tg 94 91 false (.bin .eql (.t 93) (.c (.int .i64 0))) (tg 95 91 false (.mov (.t 94)) (tg 96 95 true (.faddr 2 (.t 1)) (tg 97 95 true (.load 1 false (.t 96)) (tg 98 95 true (.bin .eql (.t 97) (.c (.int .i64 0))) (tg 99 91 false (.pick (.t 95) (.t 98) (.c (.bool false))) (tg 100 91 false (.mov (.t 99)) (tg 101 100 true (.faddr 4 (.t 1)) (tg 102 100 true (.load 1 false (.t 101)) (tg 103 100 true (.len (.t 102)) (tg 104 100 true (.bin .eql (.t 103) (.c (.int .i64 0))) (tg 105 91 false (.pick (.t 100) (.t 104) (.c (.bool false))) (tg 106 91 false (.mov (.t 105)) (tg 107 106 true (.faddr 3 (.t 1)) (tg 108 106 true (.load 1 false (.t 107)) (tg 109 106 true (.len (.t 108)) (tg 110 106 true (.bin .eql (.t 109) (.c (.int .i64 0))) (tg 111 91 false (.pick (.t 106) (.t 110) (.c (.bool false))) (tq 112 (.pick (.t 91) (.c (.bool true)) (.t 111)) (tm 2 (.t 112) .done)))))))))))))))))))))))))))
 .ret)))))))
theorem fc69 : fcomp Try.prog Try.f69 = some (c69.erase, [.mov (.t 2)], 113) := by kernel_rfl
def spec_ResultOK_L1  : List Str → Option (Fl Bool Unit)
  | [] =>
    some (.go ())
  | x_56 :: xs =>
    (spec_NameOK x_56).bind fun r_59 =>
    if (!r_59) then
    some (.ret false)
    else
    spec_ResultOK_L1 xs 

def spec_ResultOK_L3  : List (List GAtom) → Option (Fl Bool Unit)
  | [] =>
    some (.go ())
  | x_385 :: xs =>
    (spec_DatumOK x_385).bind fun r_388 =>
    if (!r_388) then
    some (.ret false)
    else
    spec_ResultOK_L3 xs 

def spec_ResultOK_L2 (r_1 : GResult) : List GRow → Option (Fl Bool Unit)
  | [] =>
    some (.go ())
  | x_348 :: xs =>
    if ((x_348.Cells.length : Int) != (r_1.Columns.length : Int)) then
    some (.ret false)
    else
    (spec_ResultOK_L3 x_348.Cells ).bind fun q => (match q with
    | .ret r => some (.ret r)
    | .go _ =>
    spec_ResultOK_L2 r_1 xs )

def spec_ResultOK (r_1 : GResult) : Option Bool :=
    (((spec_l01In r_1.Code 0 19).bind fun r_14 =>
    if (!r_14) then
    some true
    else
    (spec_l01In r_1.Count 0 1000).bind fun r_17 =>
    if (!r_17) then
    some true
    else
    (spec_l01In r_1.Id 0 1000000).bind fun r_20 =>
    some (bif (bif (!r_20) then true else (decide ((r_1.Rows.length : Int) > 12))) then true else (decide ((r_1.Columns.length : Int) > 7))) : Option Bool)).bind fun s33_12 =>
    if s33_12 then
    some false
    else
    (spec_ResultOK_L1 r_1.Columns ).bind fun q => (match q with
    | .ret r => some r
    | .go _ =>
    (spec_ResultOK_L2 r_1 r_1.Rows ).bind fun q => (match q with
    | .ret r => some r
    | .go _ =>
    some (bif (r_1.Code == 0) then true else (bif (bif (bif (r_1.Count == 0) then (r_1.Id == 0) else false) then ((r_1.Rows.length : Int) == 0) else false) then ((r_1.Columns.length : Int) == 0) else false))))
theorem w_spec_ResultOK (r_1 : GResult) (r : Bool) (hf : spec_ResultOK r_1 = some r) : CallOK Try.prog 69 .flat [(encGResult r_1)] (.bool r) := by
 refine CallOK.of_awp mixed Try.func69 fc69 nle ?_; rw [argT_eq]; unfold spec_ResultOK at hf; unfold c69; refine (show awp Try.prog false 0 _ (ofL [(0, (encGResult r_1))]) [] _ from ?_); refine awp_seq <| w_reg <| s_do (o_box (j := 0) (c := (.agg [(.int .i64 r_1.Code), (.int .i64 r_1.Count), (.int .i64 r_1.Id), (.lst 1 (r_1.Columns.map AV.str)), (.lst 2 (r_1.Rows.map encGRow))])) rfl trivial rfl rfl) <| s_mov (.bool false) rfl <| w_done <| k_seq <| awp_seq <| awp_seq <| ?_
 obtain ⟨s33_12, hb1, hf⟩ := ob hf
 refine awp_cut ([(1, (.ptr 0 0 0)), (33, (.bool s33_12))], [.box 5 (.agg [(.int .i64 r_1.Code), (.int .i64 r_1.Count), (.int .i64 r_1.Id), (.lst 1 (r_1.Columns.map AV.str)), (.lst 2 (r_1.Rows.map encGRow))])]) ?_ ?_
 ·refine w_reg <| s_q (.ptr 0 0 0) rfl trivial rfl <| s_q (.int .i64 r_1.Code) rfl nle rfl <| ?_
  obtain ⟨r_14, er15, hb1⟩ := ob hb1
  refine s_do (o_call (w_spec_l01In _ _ _ _ er15) rfl (.refl _) rfl) <| s_q (.bool (!r_14)) rfl trivial rfl <| s_mov (.bool (!r_14)) rfl <| ?_
  rcases oi hb1 with ⟨c16, hb1⟩ | ⟨c16, hb1⟩
  ·refine s_lit (s := 10) (b := true) rfl c16 <| s_off rfl rfl <| s_off rfl rfl <| s_off rfl rfl <| s_off rfl rfl <| s_q (.bool true) rfl trivial rfl <| s_mov (.bool true) rfl <| s_off rfl rfl <| s_off rfl rfl <| s_off rfl rfl <| s_off rfl rfl <| s_q (.bool true) rfl trivial rfl <| s_mov (.bool true) rfl <| s_off rfl rfl <| s_off rfl rfl <| s_off rfl rfl <| s_off rfl rfl <| s_q (.bool true) rfl trivial rfl <| s_mov (.bool true) rfl <| s_off rfl rfl <| s_off rfl rfl <| s_off rfl rfl <| s_off rfl rfl <| s_q (.bool true) rfl trivial rfl <| w_done <| ?_; obtain rfl := os hb1; exact ⟨[], [0], _, _, rfl, rfl, ⟨.refl _, ⟨.refl _, trivial⟩⟩, (.refl _)⟩
  ·refine s_lit (s := 10) (b := false) rfl (bf c16) <| s_on rfl <| s_q (.ptr 0 0 1) rfl trivial rfl <| s_on rfl <| s_q (.int .i64 r_1.Count) rfl nle rfl <| s_on rfl <| ?_
   obtain ⟨r_17, er18, hb1⟩ := ob hb1
   refine s_do (o_call (w_spec_l01In _ _ _ _ er18) rfl (.refl _) rfl) <| s_on rfl <| s_q (.bool (!r_17)) rfl trivial rfl <| s_q (.bool (!r_17)) rfl trivial rfl <| s_mov (.bool (!r_17)) rfl <| ?_
   rcases oi hb1 with ⟨c19, hb1⟩ | ⟨c19, hb1⟩
   ·refine s_lit (s := 16) (b := true) rfl c19 <| s_off rfl rfl <| s_off rfl rfl <| s_off rfl rfl <| s_off rfl rfl <| s_q (.bool true) rfl trivial rfl <| s_mov (.bool true) rfl <| s_off rfl rfl <| s_off rfl rfl <| s_off rfl rfl <| s_off rfl rfl <| s_q (.bool true) rfl trivial rfl <| s_mov (.bool true) rfl <| s_off rfl rfl <| s_off rfl rfl <| s_off rfl rfl <| s_off rfl rfl <| s_q (.bool true) rfl trivial rfl <| w_done <| ?_; obtain rfl := os hb1; exact ⟨[], [0], _, _, rfl, rfl, ⟨.refl _, ⟨.refl _, trivial⟩⟩, (.refl _)⟩
   ·refine s_lit (s := 16) (b := false) rfl (bf c19) <| s_on rfl <| s_q (.ptr 0 0 2) rfl trivial rfl <| s_on rfl <| s_q (.int .i64 r_1.Id) rfl nle rfl <| s_on rfl <| ?_
    obtain ⟨r_20, er21, hb1⟩ := ob hb1
    refine s_do (o_call (w_spec_l01In _ _ _ _ er21) rfl (.refl _) rfl) <| s_on rfl <| s_q (.bool (!r_20)) rfl trivial rfl <| s_q (.bool (!r_20)) rfl trivial rfl <| s_mov (.bool (!r_20)) rfl <| ?_; refine s_g (v := (!r_20)) (.ptr 0 0 4) rfl (fun hv => by (try simp only [gs_on hv]); exact ⟨rfl, trivial, rfl⟩) ?_; refine s_g (v := (!r_20)) (.lst 2 (r_1.Rows.map encGRow)) rfl (fun hv => by (try simp only [gs_on hv]); exact ⟨rfl, nle, rfl⟩) ?_; refine s_g (v := (!r_20)) (.int .i64 (r_1.Rows.length : Int)) rfl (fun hv => by (try simp only [gs_on hv]); exact ⟨rfl, trivial, lenV _ _⟩) ?_; refine s_g (v := (!r_20)) (.bool (decide ((r_1.Rows.length : Int) > 12))) rfl (fun hv => by (try simp only [gs_on hv]); exact ⟨rfl, rfl, rfl⟩) ?_
    refine s_pick (x := true) (y := (decide ((r_1.Rows.length : Int) > 12))) rfl (fun hv => by (try simp only [gs_on hv]); rfl) (fun hv => by (try simp only [gs_on hv]); rfl) ?_; refine s_mov (.bool (bif (!r_20) then true else (decide ((r_1.Rows.length : Int) > 12)))) rfl ?_; refine s_g (v := (bif (!r_20) then true else (decide ((r_1.Rows.length : Int) > 12)))) (.ptr 0 0 3) rfl (fun hv => by (try simp only [gs_on hv]); exact ⟨rfl, trivial, rfl⟩) ?_; refine s_g (v := (bif (!r_20) then true else (decide ((r_1.Rows.length : Int) > 12)))) (.lst 1 (r_1.Columns.map AV.str)) rfl (fun hv => by (try simp only [gs_on hv]); exact ⟨rfl, nle, rfl⟩) ?_; refine s_g (v := (bif (!r_20) then true else (decide ((r_1.Rows.length : Int) > 12)))) (.int .i64 (r_1.Columns.length : Int)) rfl (fun hv => by (try simp only [gs_on hv]); exact ⟨rfl, trivial, lenV _ _⟩) ?_
    refine s_g (v := (bif (!r_20) then true else (decide ((r_1.Rows.length : Int) > 12)))) (.bool (decide ((r_1.Columns.length : Int) > 7))) rfl (fun hv => by (try simp only [gs_on hv]); exact ⟨rfl, rfl, rfl⟩) ?_; refine s_pick (x := true) (y := (decide ((r_1.Columns.length : Int) > 7))) rfl (fun hv => by (try simp only [gs_on hv]); rfl) (fun hv => by (try simp only [gs_on hv]); rfl) ?_; refine w_done ?_; obtain rfl := os hb1; exact ⟨[], [0], _, _, rfl, rfl, ⟨.refl _, ⟨.refl _, trivial⟩⟩, (.refl _)⟩
 ·rcases oi hf with ⟨c24, hf⟩ | ⟨c24, hf⟩
  ·refine w_condt rfl c24 <| awp_seq <| w_reg <| s_mov (.bool false) rfl <| w_done <| k_seq <| w_ret <| ?_; obtain rfl := os hf; exact r_flat ⟨trivial, trivial⟩ rfl (.refl _)
  ·refine w_condf rfl (bf c24) <| w_skip <| k_seq <| awp_seq <| awp_seq <| w_reg <| s_mov (.int .i64 0) rfl <| w_done <| k_seq <| ?_
   obtain ⟨p49, hb1, hf⟩ := ob hf
   refine awp_cutx (X := {q : Unit // p49 = .go q}) (fun q => ([(1, (.ptr 0 0 0))], [.box 5 (.agg [(.int .i64 r_1.Code), (.int .i64 r_1.Count), (.int .i64 r_1.Id), (.lst 1 (r_1.Columns.map AV.str)), (.lst 2 (r_1.Rows.map encGRow))])])) ?_ ?_
   ·refine awp_loop (X := {q : Nat // spec_ResultOK_L1 (r_1.Columns.drop q)  = some p49}) (fun q => ([(1, (.ptr 0 0 0)), (3, (.int .i64 (q.1 : Int)))], [.box 5 (.agg [(.int .i64 r_1.Code), (.int .i64 r_1.Count), (.int .i64 r_1.Id), (.lst 1 (r_1.Columns.map AV.str)), (.lst 2 (r_1.Rows.map encGRow))])])) (fun q => r_1.Columns.length - q.1) ⟨0, hb1⟩ ⟨[], [0], _, _, rfl, rfl, ⟨.refl _, ⟨.refl _, trivial⟩⟩, (.refl _)⟩ ?_
    rintro ⟨i_40, hc1⟩
    have hc1 : spec_ResultOK_L1 (r_1.Columns.drop i_40)  = some p49 := hc1
    refine (show awp Try.prog false 0 _ (ofL [(1, (.ptr 0 0 0)), (3, (.int .i64 (i_40 : Int)))]) [.box 5 (.agg [(.int .i64 r_1.Code), (.int .i64 r_1.Count), (.int .i64 r_1.Id), (.lst 1 (r_1.Columns.map AV.str)), (.lst 2 (r_1.Rows.map encGRow))])] _ from ?_)
    rcases dropc r_1.Columns i_40 with ⟨hie52, hd55⟩ | ⟨hlt50, x_56, hx51, hd55⟩
    ·rw [hd55, spec_ResultOK_L1.eq_1] at hc1
     have hq54 := dlf hie52
     refine awp_seq <| awp_seq <| w_reg <| s_mov (.int .i64 (i_40 : Int)) rfl <| s_q (.ptr 0 0 3) rfl trivial rfl <| s_q (.lst 1 (r_1.Columns.map AV.str)) rfl nle rfl <| s_dof (o_len (enc := AV.str) rfl) fun hl57 => s_q (.bool (decide ((i_40 : Int) < (r_1.Columns.length : Int)))) rfl rfl rfl <| w_done <| k_seq <| w_condf rfl hq54 <| w_exit <| k_seqx <| k_loopx <| k_blkx <| ?_; obtain rfl := os hc1; exact k_cutn ⟨_, rfl⟩ ⟨[], [0], _, _, rfl, rfl, ⟨.refl _, trivial⟩, (.refl _)⟩
    ·rw [hd55, spec_ResultOK_L1.eq_2] at hc1
     have hq54 := dlt hlt50
     refine awp_seq <| awp_seq <| w_reg <| s_mov (.int .i64 (i_40 : Int)) rfl <| s_q (.ptr 0 0 3) rfl trivial rfl <| s_q (.lst 1 (r_1.Columns.map AV.str)) rfl nle rfl <| s_dof (o_len (enc := AV.str) rfl) fun hl58 => s_q (.bool (decide ((i_40 : Int) < (r_1.Columns.length : Int)))) rfl rfl rfl <| w_done <| k_seq <| w_condt rfl hq54 <| w_skip <| k_seq <| awp_seq <| w_blk <| awp_seq <| w_reg <| ?_
     obtain ⟨r_59, er60, hc1⟩ := ob hc1
     refine s_q (.ptr 0 0 3) rfl trivial rfl <| s_q (.lst 1 (r_1.Columns.map AV.str)) rfl nle rfl <| s_mov (.int .i64 (i_40 : Int)) rfl <| s_do (o_iaddrn (enc := AV.str) rfl rfl hx51) <| s_q (.str x_56) rfl ⟨rfl, rfl⟩ rfl <| s_do (o_call (w_spec_NameOK _ _ er60) rfl (.refl _) rfl) <| s_q (.bool (!r_59)) rfl trivial rfl <| w_done <| k_seq <| ?_
     rcases oi hc1 with ⟨c61, hc1⟩ | ⟨c61, hc1⟩
     ·refine w_condt rfl c61 <| awp_seq <| w_reg <| s_mov (.bool false) rfl <| w_done <| k_seq <| w_ret <| ?_; obtain rfl := os hc1; obtain rfl := os hf; exact r_flat ⟨trivial, trivial⟩ rfl (.refl _)
     ·refine w_condf rfl (bf c61) <| w_skip <| k_blk <| k_seq <| w_reg <| s_mov (.int .i64 (i_40 : Int)) rfl <| s_q (.int .i64 (w64 ((i_40 : Int) + 1))) rfl rfl rfl <| s_mov (.int .i64 (w64 ((i_40 : Int) + 1))) rfl <| w_done <| ?_; exact k_loopn ⟨(i_40 + 1), hc1⟩ (mul hlt50) ⟨[], [0], _, _, rfl, rfl, ⟨.refl _, ⟨.of_eq (congrArg (AV.int _) (w64_incr hlt50 hl58)), trivial⟩⟩, (.refl _)⟩
   ·rintro ⟨_, rfl⟩
    refine awp_seq <| awp_seq <| w_reg <| s_mov (.int .i64 0) rfl <| w_done <| k_seq <| ?_
    obtain ⟨p341, hb1, hf⟩ := ob hf
    refine awp_cutx (X := {q : Unit // p341 = .go q}) (fun q => ([(1, (.ptr 0 0 0))], [.box 5 (.agg [(.int .i64 r_1.Code), (.int .i64 r_1.Count), (.int .i64 r_1.Id), (.lst 1 (r_1.Columns.map AV.str)), (.lst 2 (r_1.Rows.map encGRow))])])) ?_ ?_
    ·refine awp_loop (X := {q : Nat // spec_ResultOK_L2 r_1 (r_1.Rows.drop q)  = some p341}) (fun q => ([(1, (.ptr 0 0 0)), (4, (.int .i64 (q.1 : Int)))], [.box 5 (.agg [(.int .i64 r_1.Code), (.int .i64 r_1.Count), (.int .i64 r_1.Id), (.lst 1 (r_1.Columns.map AV.str)), (.lst 2 (r_1.Rows.map encGRow))])])) (fun q => r_1.Rows.length - q.1) ⟨0, hb1⟩ ⟨[], [0], _, _, rfl, rfl, ⟨.refl _, ⟨.refl _, trivial⟩⟩, (.refl _)⟩ ?_
     rintro ⟨i_247, hc1⟩
     have hc1 : spec_ResultOK_L2 r_1 (r_1.Rows.drop i_247)  = some p341 := hc1
     refine (show awp Try.prog false 0 _ (ofL [(1, (.ptr 0 0 0)), (4, (.int .i64 (i_247 : Int)))]) [.box 5 (.agg [(.int .i64 r_1.Code), (.int .i64 r_1.Count), (.int .i64 r_1.Id), (.lst 1 (r_1.Columns.map AV.str)), (.lst 2 (r_1.Rows.map encGRow))])] _ from ?_)
     rcases dropc r_1.Rows i_247 with ⟨hie344, hd347⟩ | ⟨hlt342, x_348, hx343, hd347⟩
     ·rw [hd347, spec_ResultOK_L2.eq_1] at hc1
      have hq346 := dlf hie344
      refine awp_seq <| awp_seq <| w_reg <| s_mov (.int .i64 (i_247 : Int)) rfl <| s_q (.ptr 0 0 4) rfl trivial rfl <| s_q (.lst 2 (r_1.Rows.map encGRow)) rfl nle rfl <| s_dof (o_len (enc := encGRow) rfl) fun hl349 => s_q (.bool (decide ((i_247 : Int) < (r_1.Rows.length : Int)))) rfl rfl rfl <| w_done <| k_seq <| w_condf rfl hq346 <| w_exit <| k_seqx <| k_loopx <| k_blkx <| ?_; obtain rfl := os hc1; exact k_cutn ⟨_, rfl⟩ ⟨[], [0], _, _, rfl, rfl, ⟨.refl _, trivial⟩, (.refl _)⟩
     ·rw [hd347, spec_ResultOK_L2.eq_2] at hc1
      have hq346 := dlt hlt342
      refine awp_seq <| awp_seq <| w_reg <| s_mov (.int .i64 (i_247 : Int)) rfl <| s_q (.ptr 0 0 4) rfl trivial rfl <| s_q (.lst 2 (r_1.Rows.map encGRow)) rfl nle rfl <| s_dof (o_len (enc := encGRow) rfl) fun hl350 => s_q (.bool (decide ((i_247 : Int) < (r_1.Rows.length : Int)))) rfl rfl rfl <| w_done <| k_seq <| w_condt rfl hq346 <| w_skip <| k_seq <| awp_seq <| w_blk <| awp_seq <| awp_seq <| w_reg <| s_q (.ptr 0 0 4) rfl trivial rfl <| s_q (.lst 2 (r_1.Rows.map encGRow)) rfl nle rfl <| s_mov (.int .i64 (i_247 : Int)) rfl <| s_do (o_iaddrn (enc := encGRow) rfl rfl hx343) <| s_q (.iptr (encGRow x_348) 1) rfl trivial rfl <| s_q (.lst 1 (x_348.Cells.map (encL 3 encGAtom))) rfl nle rfl <| s_dof (o_len (enc := (encL 3 encGAtom)) rfl) fun hl351 => ?_
      refine s_q (.ptr 0 0 3) rfl trivial rfl <| s_q (.lst 1 (r_1.Columns.map AV.str)) rfl nle rfl <| s_dof (o_len (enc := AV.str) rfl) fun hl352 => s_q (.bool ((x_348.Cells.length : Int) != (r_1.Columns.length : Int))) rfl rfl rfl <| w_done <| k_seq <| ?_
      rcases oi hc1 with ⟨c353, hc1⟩ | ⟨c353, hc1⟩
      ·refine w_condt rfl c353 <| awp_seq <| w_reg <| s_mov (.bool false) rfl <| w_done <| k_seq <| w_ret <| ?_; obtain rfl := os hc1; obtain rfl := os hf; exact r_flat ⟨trivial, trivial⟩ rfl (.refl _)
      ·refine w_condf rfl (bf c353) <| w_skip <| k_seq <| awp_seq <| w_reg <| s_mov (.int .i64 0) rfl <| w_done <| k_seq <| ?_
       obtain ⟨p378, hb2, hc1⟩ := ob hc1
       refine awp_cutxb (X := {q : Unit // p378 = .go q}) (fun q => ([(1, (.ptr 0 0 0)), (4, (.int .i64 (i_247 : Int)))], [.box 5 (.agg [(.int .i64 r_1.Code), (.int .i64 r_1.Count), (.int .i64 r_1.Id), (.lst 1 (r_1.Columns.map AV.str)), (.lst 2 (r_1.Rows.map encGRow))])])) ?_ ?_
       ·refine awp_loop (X := {q : Nat // spec_ResultOK_L3 (x_348.Cells.drop q)  = some p378}) (fun q => ([(1, (.ptr 0 0 0)), (4, (.int .i64 (i_247 : Int))), (5, (.int .i64 (q.1 : Int)))], [.box 5 (.agg [(.int .i64 r_1.Code), (.int .i64 r_1.Count), (.int .i64 r_1.Id), (.lst 1 (r_1.Columns.map AV.str)), (.lst 2 (r_1.Rows.map encGRow))])])) (fun q => x_348.Cells.length - q.1) ⟨0, hb2⟩ ⟨[], [0], _, _, rfl, rfl, ⟨.refl _, ⟨.refl _, ⟨.refl _, trivial⟩⟩⟩, (.refl _)⟩ ?_
        rintro ⟨k_369, hc2⟩
        have hc2 : spec_ResultOK_L3 (x_348.Cells.drop k_369)  = some p378 := hc2
        refine (show awp Try.prog false 0 _ (ofL [(1, (.ptr 0 0 0)), (4, (.int .i64 (i_247 : Int))), (5, (.int .i64 (k_369 : Int)))]) [.box 5 (.agg [(.int .i64 r_1.Code), (.int .i64 r_1.Count), (.int .i64 r_1.Id), (.lst 1 (r_1.Columns.map AV.str)), (.lst 2 (r_1.Rows.map encGRow))])] _ from ?_)
        rcases dropc x_348.Cells k_369 with ⟨hie381, hd384⟩ | ⟨hlt379, x_385, hx380, hd384⟩
        ·rw [hd384, spec_ResultOK_L3.eq_1] at hc2
         have hq383 := dlf hie381
         refine awp_seq <| awp_seq <| w_reg <| s_mov (.int .i64 (k_369 : Int)) rfl <| s_q (.ptr 0 0 4) rfl trivial rfl <| s_q (.lst 2 (r_1.Rows.map encGRow)) rfl nle rfl <| s_mov (.int .i64 (i_247 : Int)) rfl <| s_do (o_iaddrn (enc := encGRow) rfl rfl hx343) <| s_q (.iptr (encGRow x_348) 1) rfl trivial rfl <| s_q (.lst 1 (x_348.Cells.map (encL 3 encGAtom))) rfl nle rfl <| s_dof (o_len (enc := (encL 3 encGAtom)) rfl) fun hl386 => s_q (.bool (decide ((k_369 : Int) < (x_348.Cells.length : Int)))) rfl rfl rfl <| w_done <| k_seq <| w_condf rfl hq383 <| w_exit <| k_seqx <| k_loopx <| k_blkx <| k_blk <| ?_; obtain rfl := os hc2; exact k_cutn ⟨_, rfl⟩ ⟨[], [0], _, _, rfl, rfl, ⟨.refl _, ⟨.refl _, trivial⟩⟩, (.refl _)⟩
        ·rw [hd384, spec_ResultOK_L3.eq_2] at hc2
         have hq383 := dlt hlt379
         refine awp_seq <| awp_seq <| w_reg <| s_mov (.int .i64 (k_369 : Int)) rfl <| s_q (.ptr 0 0 4) rfl trivial rfl <| s_q (.lst 2 (r_1.Rows.map encGRow)) rfl nle rfl <| s_mov (.int .i64 (i_247 : Int)) rfl <| s_do (o_iaddrn (enc := encGRow) rfl rfl hx343) <| s_q (.iptr (encGRow x_348) 1) rfl trivial rfl <| s_q (.lst 1 (x_348.Cells.map (encL 3 encGAtom))) rfl nle rfl <| s_dof (o_len (enc := (encL 3 encGAtom)) rfl) fun hl387 => s_q (.bool (decide ((k_369 : Int) < (x_348.Cells.length : Int)))) rfl rfl rfl <| w_done <| k_seq <| w_condt rfl hq383 <| w_skip <| k_seq <| awp_seq <| w_blk <| awp_seq <| w_reg <| ?_
         obtain ⟨r_388, er389, hc2⟩ := ob hc2
         refine s_q (.ptr 0 0 4) rfl trivial rfl <| s_q (.lst 2 (r_1.Rows.map encGRow)) rfl nle rfl <| s_mov (.int .i64 (i_247 : Int)) rfl <| s_do (o_iaddrn (enc := encGRow) rfl rfl hx343) <| s_q (.iptr (encGRow x_348) 1) rfl trivial rfl <| s_q (.lst 1 (x_348.Cells.map (encL 3 encGAtom))) rfl nle rfl <| s_mov (.int .i64 (k_369 : Int)) rfl <| s_do (o_iaddrn (enc := (encL 3 encGAtom)) rfl rfl hx380) <| s_q (.lst 3 (x_385.map encGAtom)) rfl ⟨rfl, rfl⟩ rfl <| s_do (o_call (w_spec_DatumOK _ _ er389) rfl (.refl _) rfl) <| s_q (.bool (!r_388)) rfl trivial rfl <| w_done <| k_seq <| ?_
         rcases oi hc2 with ⟨c390, hc2⟩ | ⟨c390, hc2⟩
         ·refine w_condt rfl c390 <| awp_seq <| w_reg <| s_mov (.bool false) rfl <| w_done <| k_seq <| w_ret <| ?_; obtain rfl := os hc2; obtain rfl := os hc1; obtain rfl := os hf; exact r_flat ⟨trivial, trivial⟩ rfl (.refl _)
         ·refine w_condf rfl (bf c390) <| w_skip <| k_blk <| k_seq <| w_reg <| s_mov (.int .i64 (k_369 : Int)) rfl <| s_q (.int .i64 (w64 ((k_369 : Int) + 1))) rfl rfl rfl <| s_mov (.int .i64 (w64 ((k_369 : Int) + 1))) rfl <| w_done <| ?_; exact k_loopn ⟨(k_369 + 1), hc2⟩ (mul hlt379) ⟨[], [0], _, _, rfl, rfl, ⟨.refl _, ⟨.refl _, ⟨.of_eq (congrArg (AV.int _) (w64_incr hlt379 hl387)), trivial⟩⟩⟩, (.refl _)⟩
       ·rintro ⟨_, rfl⟩
        refine w_reg <| s_mov (.int .i64 (i_247 : Int)) rfl <| s_q (.int .i64 (w64 ((i_247 : Int) + 1))) rfl rfl rfl <| s_mov (.int .i64 (w64 ((i_247 : Int) + 1))) rfl <| w_done <| ?_; exact k_loopn ⟨(i_247 + 1), hc1⟩ (mul hlt342) ⟨[], [0], _, _, rfl, rfl, ⟨.refl _, ⟨.of_eq (congrArg (AV.int _) (w64_incr hlt342 hl350)), trivial⟩⟩, (.refl _)⟩
    ·rintro ⟨_, rfl⟩
     refine awp_seq <| w_reg <| s_q (.ptr 0 0 0) rfl trivial rfl <| s_q (.int .i64 r_1.Code) rfl nle rfl <| s_q (.bool (r_1.Code == 0)) rfl rfl rfl <| s_mov (.bool (r_1.Code == 0)) rfl <| ?_; refine s_g (v := (r_1.Code == 0)) (.ptr 0 0 1) rfl (fun hv => by (try simp only [gs_on hv]); exact ⟨rfl, trivial, rfl⟩) ?_; refine s_g (v := (r_1.Code == 0)) (.int .i64 r_1.Count) rfl (fun hv => by (try simp only [gs_on hv]); exact ⟨rfl, nle, rfl⟩) ?_; refine s_g (v := (r_1.Code == 0)) (.bool (r_1.Count == 0)) rfl (fun hv => by (try simp only [gs_on hv]); exact ⟨rfl, rfl, rfl⟩) ?_; refine s_g (v := (r_1.Code == 0)) (.bool (r_1.Count == 0)) rfl (fun hv => by (try simp only [gs_on hv]); exact ⟨rfl, trivial, rfl⟩) ?_; refine s_gg (v1 := (r_1.Code == 0)) (b1 := false) (v2 := (r_1.Count == 0)) (.ptr 0 0 2) rfl (fun hv hw => by (try simp only [gs_on hv, gs_on hw]); exact ⟨rfl, trivial, rfl⟩) ?_
     refine s_gg (v1 := (r_1.Code == 0)) (b1 := false) (v2 := (r_1.Count == 0)) (.int .i64 r_1.Id) rfl (fun hv hw => by (try simp only [gs_on hv, gs_on hw]); exact ⟨rfl, nle, rfl⟩) ?_; refine s_gg (v1 := (r_1.Code == 0)) (b1 := false) (v2 := (r_1.Count == 0)) (.bool (r_1.Id == 0)) rfl (fun hv hw => by (try simp only [gs_on hv, gs_on hw]); exact ⟨rfl, rfl, rfl⟩) ?_; refine s_gp (v1 := (r_1.Code == 0)) (b1 := false) (v2 := (r_1.Count == 0)) (x := (r_1.Id == 0)) (y := false) rfl (fun hv => by (try simp only [gs_on hv]); rfl) (fun hv hw => by (try simp only [gs_on hv, gs_on hw]); rfl) (fun hv hw => by (try simp only [gs_on hv, gs_on hw]); rfl) ?_; refine s_g (v := (r_1.Code == 0)) (.bool (bif (r_1.Count == 0) then (r_1.Id == 0) else false)) rfl (fun hv => by (try simp only [gs_on hv]); exact ⟨rfl, trivial, rfl⟩) ?_
     refine s_gg (v1 := (r_1.Code == 0)) (b1 := false) (v2 := (bif (r_1.Count == 0) then (r_1.Id == 0) else false)) (.ptr 0 0 4) rfl (fun hv hw => by (try simp only [gs_on hv, gs_on hw]); exact ⟨rfl, trivial, rfl⟩) ?_; refine s_gg (v1 := (r_1.Code == 0)) (b1 := false) (v2 := (bif (r_1.Count == 0) then (r_1.Id == 0) else false)) (.lst 2 (r_1.Rows.map encGRow)) rfl (fun hv hw => by (try simp only [gs_on hv, gs_on hw]); exact ⟨rfl, nle, rfl⟩) ?_; refine s_gg (v1 := (r_1.Code == 0)) (b1 := false) (v2 := (bif (r_1.Count == 0) then (r_1.Id == 0) else false)) (.int .i64 (r_1.Rows.length : Int)) rfl (fun hv hw => by (try simp only [gs_on hv, gs_on hw]); exact ⟨rfl, trivial, lenV _ _⟩) ?_; refine s_gg (v1 := (r_1.Code == 0)) (b1 := false) (v2 := (bif (r_1.Count == 0) then (r_1.Id == 0) else false)) (.bool ((r_1.Rows.length : Int) == 0)) rfl (fun hv hw => by (try simp only [gs_on hv, gs_on hw]); exact ⟨rfl, rfl, rfl⟩) ?_
     refine s_gp (v1 := (r_1.Code == 0)) (b1 := false) (v2 := (bif (r_1.Count == 0) then (r_1.Id == 0) else false)) (x := ((r_1.Rows.length : Int) == 0)) (y := false) rfl (fun hv => by (try simp only [gs_on hv]); rfl) (fun hv hw => by (try simp only [gs_on hv, gs_on hw]); rfl) (fun hv hw => by (try simp only [gs_on hv, gs_on hw]); rfl) ?_; refine s_g (v := (r_1.Code == 0)) (.bool (bif (bif (r_1.Count == 0) then (r_1.Id == 0) else false) then ((r_1.Rows.length : Int) == 0) else false)) rfl (fun hv => by (try simp only [gs_on hv]); exact ⟨rfl, trivial, rfl⟩) ?_; refine s_gg (v1 := (r_1.Code == 0)) (b1 := false) (v2 := (bif (bif (r_1.Count == 0) then (r_1.Id == 0) else false) then ((r_1.Rows.length : Int) == 0) else false)) (.ptr 0 0 3) rfl (fun hv hw => by (try simp only [gs_on hv, gs_on hw]); exact ⟨rfl, trivial, rfl⟩) ?_
     refine s_gg (v1 := (r_1.Code == 0)) (b1 := false) (v2 := (bif (bif (r_1.Count == 0) then (r_1.Id == 0) else false) then ((r_1.Rows.length : Int) == 0) else false)) (.lst 1 (r_1.Columns.map AV.str)) rfl (fun hv hw => by (try simp only [gs_on hv, gs_on hw]); exact ⟨rfl, nle, rfl⟩) ?_; refine s_gg (v1 := (r_1.Code == 0)) (b1 := false) (v2 := (bif (bif (r_1.Count == 0) then (r_1.Id == 0) else false) then ((r_1.Rows.length : Int) == 0) else false)) (.int .i64 (r_1.Columns.length : Int)) rfl (fun hv hw => by (try simp only [gs_on hv, gs_on hw]); exact ⟨rfl, trivial, lenV _ _⟩) ?_; refine s_gg (v1 := (r_1.Code == 0)) (b1 := false) (v2 := (bif (bif (r_1.Count == 0) then (r_1.Id == 0) else false) then ((r_1.Rows.length : Int) == 0) else false)) (.bool ((r_1.Columns.length : Int) == 0)) rfl (fun hv hw => by (try simp only [gs_on hv, gs_on hw]); exact ⟨rfl, rfl, rfl⟩) ?_
     refine s_gp (v1 := (r_1.Code == 0)) (b1 := false) (v2 := (bif (bif (r_1.Count == 0) then (r_1.Id == 0) else false) then ((r_1.Rows.length : Int) == 0) else false)) (x := ((r_1.Columns.length : Int) == 0)) (y := false) rfl (fun hv => by (try simp only [gs_on hv]); rfl) (fun hv hw => by (try simp only [gs_on hv, gs_on hw]); rfl) (fun hv hw => by (try simp only [gs_on hv, gs_on hw]); rfl) ?_; refine s_pick (x := true) (y := (bif (bif (bif (r_1.Count == 0) then (r_1.Id == 0) else false) then ((r_1.Rows.length : Int) == 0) else false) then ((r_1.Columns.length : Int) == 0) else false)) rfl (fun hv => by (try simp only [gs_on hv]); rfl) (fun hv => by (try simp only [gs_on hv]); rfl) ?_; refine s_mov (.bool (bif (r_1.Code == 0) then true else (bif (bif (bif (r_1.Count == 0) then (r_1.Id == 0) else false) then ((r_1.Rows.length : Int) == 0) else false) then ((r_1.Columns.length : Int) == 0) else false))) rfl ?_
     refine w_done <| k_seq <| w_ret <| ?_; obtain rfl := os hf; exact r_flat ⟨trivial, trivial⟩ rfl (.refl _)

/- spec.Failed -/
def c12 : ACode :=
 (.seq (.reg (tm 2 (.c (.bool false)) (tm 3 (.c (.int .i64 0)) .done)))
 (.seq (.seq (.reg (tm 5 (.t 0) (tq 6 (.len (.t 5)) (tq 7 (.bin .gtr (.t 6) (.c (.int .i64 4096))) .done))))
 (.cond (.t 7) (.seq (.reg (tm 2 (.c (.bool false)) (tm 3 (.c (.int .i64 2)) .done)))
 .ret)
 .skip))
 (.seq (.seq (.reg (tm 4 (.c (.int .i64 0)) .done))
 (.block 0 (.loop (.seq (.seq (.reg (tm 8 (.t 4) (tm 9 (.t 0) (tq 10 (.len (.t 9)) (tq 11 (.bin .lss (.t 8) (.t 10)) .done)))))
 (.cond (.t 11) .skip
 (.exit 0)))
 (.seq (.block 1 (.seq (.reg (tm 14 (.t 0) (tm 15 (.t 4) (tq 16 (.iaddr 5 (.t 14) (.t 15)) (tq 17 (.load 5 true (.t 16)) (tq 18 (.call 69 [(.t 17)]) (tq 19 (.not (.t 18)) .done)))))))
 (.cond (.t 19) (.seq (.reg (tm 2 (.c (.bool false)) (tm 3 (.c (.int .i64 1)) .done)))
 .ret)
 .skip)))
 (.reg (tm 12 (.t 4) (tq 13 (.bin .add (.t 12) (.c (.int .i64 1))) (tm 4 (.t 13) .done)))))))))
 (.cut (.seq (.reg (tm 20 (.t 0) (tq 21 (.len (.t 20)) (tq 22 (.bin .gtr (.t 21) (.c (.int .i64 0))) (tm 23 (.t 22) (tg 24 23 true (.mov (.t 0)) (tg 25 23 true (.mov (.t 0)) (tg 26 23 true (.len (.t 25)) (tg 27 23 true (.bin .sub (.t 26) (.c (.int .i64 1))) (tg 28 23 true (.iaddr 5 (.t 24) (.t 27)) (tg 29 23 true (.faddr 0 (.t 28)) (tg 30 23 true (.load 1 false (.t 29)) (tg 31 23 true (.bin .neq (.t 30) (.c (.int .i64 0))) (tq 32 (.pick (.t 23) (.t 31) (.c (.bool false))) (tm 2 (.t 32) (tm 3 (.c (.int .i64 0)) .done))))))))))))))))
 .ret)))))
theorem fc12 : fcomp Try.prog Try.f12 = some (c12.erase, [.mov (.t 2), .mov (.t 3)], 33) := by kernel_rfl
def spec_Failed_L1  : List GResult → Option (Fl (Bool × Int) Unit)
  | [] =>
    some (.go ())
  | x_35 :: xs =>
    (spec_ResultOK x_35).bind fun r_38 =>
    if (!r_38) then
    some (.ret (false, 1))
    else
    spec_Failed_L1 xs 

def spec_Failed (list_1 : (List GResult)) : Option (Bool × Int) :=
    if (decide ((list_1.length : Int) > 4096)) then
    some (false, 2)
    else
    (spec_Failed_L1 list_1 ).bind fun q => (match q with
    | .ret r => some r
    | .go _ =>
    if (decide ((list_1.length : Int) > 0)) then
    (idx list_1 (w64 ((list_1.length : Int) - 1))).bind fun x_45 =>
    some ((x_45.Code != 0), 0)
    else
    some (false, 0))
theorem w_spec_Failed (list_1 : (List GResult)) (r : (Bool × Int)) (hf : spec_Failed list_1 = some r) : CallOK Try.prog 12 .flat [(.lst 5 (list_1.map encGResult))] (.tup [(.bool r.1), (.int .i64 r.2)]) := by
 refine CallOK.of_awp mixed Try.func12 fc12 nle ?_; rw [argT_eq]; unfold spec_Failed at hf; unfold c12; refine (show awp Try.prog false 0 _ (ofL [(0, (.lst 5 (list_1.map encGResult)))]) [] _ from ?_); refine awp_seq <| w_reg <| s_mov (.bool false) rfl <| s_mov (.int .i64 0) rfl <| w_done <| k_seq <| awp_seq <| awp_seq <| w_reg <| s_mov (.lst 5 (list_1.map encGResult)) rfl <| s_dof (o_len (enc := encGResult) rfl) fun hl2 => s_q (.bool (decide ((list_1.length : Int) > 4096))) rfl rfl rfl <| w_done <| k_seq <| ?_
 rcases oi hf with ⟨c3, hf⟩ | ⟨c3, hf⟩
 ·refine w_condt rfl c3 <| awp_seq <| w_reg <| s_mov (.bool false) rfl <| s_mov (.int .i64 2) rfl <| w_done <| k_seq <| w_ret <| ?_; obtain rfl := os hf; exact r_flat ⟨trivial, ⟨trivial, trivial⟩⟩ rfl (.refl _)
 ·refine w_condf rfl (bf c3) <| w_skip <| k_seq <| awp_seq <| awp_seq <| w_reg <| s_mov (.int .i64 0) rfl <| w_done <| k_seq <| ?_
  obtain ⟨p28, hb1, hf⟩ := ob hf
  refine awp_cutx (X := {q : Unit // p28 = .go q}) (fun q => ([(0, (.lst 5 (list_1.map encGResult)))], [])) ?_ ?_
  ·refine awp_loop (X := {q : Nat // spec_Failed_L1 (list_1.drop q)  = some p28}) (fun q => ([(0, (.lst 5 (list_1.map encGResult))), (4, (.int .i64 (q.1 : Int)))], [])) (fun q => list_1.length - q.1) ⟨0, hb1⟩ ⟨[], [], _, _, rfl, rfl, ⟨.refl _, ⟨.refl _, trivial⟩⟩, (.refl _)⟩ ?_
   rintro ⟨i_19, hc1⟩
   have hc1 : spec_Failed_L1 (list_1.drop i_19)  = some p28 := hc1
   refine (show awp Try.prog false 0 _ (ofL [(0, (.lst 5 (list_1.map encGResult))), (4, (.int .i64 (i_19 : Int)))]) [] _ from ?_)
   rcases dropc list_1 i_19 with ⟨hie31, hd34⟩ | ⟨hlt29, x_35, hx30, hd34⟩
   ·rw [hd34, spec_Failed_L1.eq_1] at hc1
    have hq33 := dlf hie31
    refine awp_seq <| awp_seq <| w_reg <| s_mov (.int .i64 (i_19 : Int)) rfl <| s_mov (.lst 5 (list_1.map encGResult)) rfl <| s_dof (o_len (enc := encGResult) rfl) fun hl36 => s_q (.bool (decide ((i_19 : Int) < (list_1.length : Int)))) rfl rfl rfl <| w_done <| k_seq <| w_condf rfl hq33 <| w_exit <| k_seqx <| k_loopx <| k_blkx <| ?_; obtain rfl := os hc1; exact k_cutn ⟨_, rfl⟩ ⟨[], [], _, _, rfl, rfl, ⟨.refl _, trivial⟩, (.refl _)⟩
   ·rw [hd34, spec_Failed_L1.eq_2] at hc1
    have hq33 := dlt hlt29
    refine awp_seq <| awp_seq <| w_reg <| s_mov (.int .i64 (i_19 : Int)) rfl <| s_mov (.lst 5 (list_1.map encGResult)) rfl <| s_dof (o_len (enc := encGResult) rfl) fun hl37 => s_q (.bool (decide ((i_19 : Int) < (list_1.length : Int)))) rfl rfl rfl <| w_done <| k_seq <| w_condt rfl hq33 <| w_skip <| k_seq <| awp_seq <| w_blk <| awp_seq <| w_reg <| ?_
    obtain ⟨r_38, er39, hc1⟩ := ob hc1
    refine s_mov (.lst 5 (list_1.map encGResult)) rfl <| s_mov (.int .i64 (i_19 : Int)) rfl <| s_do (o_iaddrn (enc := encGResult) rfl rfl hx30) <| s_q (encGResult x_35) rfl nle rfl <| s_do (o_call (w_spec_ResultOK _ _ er39) rfl (.refl _) rfl) <| s_q (.bool (!r_38)) rfl trivial rfl <| w_done <| k_seq <| ?_
    rcases oi hc1 with ⟨c40, hc1⟩ | ⟨c40, hc1⟩
    ·refine w_condt rfl c40 <| awp_seq <| w_reg <| s_mov (.bool false) rfl <| s_mov (.int .i64 1) rfl <| w_done <| k_seq <| w_ret <| ?_; obtain rfl := os hc1; obtain rfl := os hf; exact r_flat ⟨trivial, ⟨trivial, trivial⟩⟩ rfl (.refl _)
    ·refine w_condf rfl (bf c40) <| w_skip <| k_blk <| k_seq <| w_reg <| s_mov (.int .i64 (i_19 : Int)) rfl <| s_q (.int .i64 (w64 ((i_19 : Int) + 1))) rfl rfl rfl <| s_mov (.int .i64 (w64 ((i_19 : Int) + 1))) rfl <| w_done <| ?_; exact k_loopn ⟨(i_19 + 1), hc1⟩ (mul hlt29) ⟨[], [], _, _, rfl, rfl, ⟨.refl _, ⟨.of_eq (congrArg (AV.int _) (w64_incr hlt29 hl37)), trivial⟩⟩, (.refl _)⟩
  ·rintro ⟨_, rfl⟩
   refine awp_seq <| w_reg <| s_mov (.lst 5 (list_1.map encGResult)) rfl <| s_dof (o_len (enc := encGResult) rfl) fun hl41 => s_q (.bool (decide ((list_1.length : Int) > 0))) rfl rfl rfl <| s_mov (.bool (decide ((list_1.length : Int) > 0))) rfl <| ?_
   rcases oi hf with ⟨c43, hf⟩ | ⟨c43, hf⟩
   ·refine s_lit (s := 23) (b := true) rfl c43 <| s_on rfl <| s_mov (.lst 5 (list_1.map encGResult)) rfl <| s_on rfl <| s_mov (.lst 5 (list_1.map encGResult)) rfl <| s_on rfl <| s_dof (o_len (enc := encGResult) rfl) fun hl44 => s_on rfl <| s_q (.int .i64 (w64 ((list_1.length : Int) - 1))) rfl rfl rfl <| s_on rfl <| ?_
    obtain ⟨x_45, ex46, hf⟩ := ob hf
    refine s_do (o_iaddr (enc := encGResult) rfl rfl (idx0 ex46) (idx1 ex46)) <| s_on rfl <| s_q (.iptr (encGResult x_45) 0) rfl trivial rfl <| s_on rfl <| s_q (.int .i64 x_45.Code) rfl nle rfl <| s_on rfl <| s_q (.bool (x_45.Code != 0)) rfl rfl rfl <| s_q (.bool (x_45.Code != 0)) rfl trivial rfl <| s_mov (.bool (x_45.Code != 0)) rfl <| s_mov (.int .i64 0) rfl <| w_done <| k_seq <| w_ret <| ?_; obtain rfl := os hf; exact r_flat ⟨trivial, ⟨trivial, trivial⟩⟩ rfl (.refl _)
   ·refine s_lit (s := 23) (b := false) rfl (bf c43) <| s_off rfl rfl <| s_off rfl rfl <| s_off rfl rfl <| s_off rfl rfl <| s_off rfl rfl <| s_off rfl rfl <| s_off rfl rfl <| s_off rfl rfl <| s_q (.bool false) rfl trivial rfl <| s_mov (.bool false) rfl <| s_mov (.int .i64 0) rfl <| w_done <| k_seq <| w_ret <| ?_; obtain rfl := os hf; exact r_flat ⟨trivial, ⟨trivial, trivial⟩⟩ rfl (.refl _)

/- impl.isList[impl.Result] -/
def c71 : ACode :=
 (.seq (.reg (tm 2 (.c (.bool false)) .done))
 (.seq (.reg (tm 3 (.t 0) (tq 4 (.len (.t 3)) (tq 5 (.bin .leq (.t 4) (.c (.int .i64 4096))) (tm 2 (.t 5) .done)))))
 .ret))
theorem fc71 : fcomp Try.prog Try.f71 = some (c71.erase, [.mov (.t 2)], 6) := by kernel_rfl
def impl_isList_impl_Result (list_1 : (List GResult)) : Option Bool :=
    some (decide ((list_1.length : Int) ≤ 4096))
theorem w_impl_isList_impl_Result (list_1 : (List GResult)) (r : Bool) (hf : impl_isList_impl_Result list_1 = some r) : CallOK Try.prog 71 .flat [(.lst 5 (list_1.map encGResult))] (.bool r) := by
  refine CallOK.of_awp mixed Try.func71 fc71 nle ?_
  rw [argT_eq]
  unfold impl_isList_impl_Result at hf
  unfold c71
  refine (show awp Try.prog false 0 _ (ofL [(0, (.lst 5 (list_1.map encGResult)))]) [] _ from ?_)
  refine awp_seq ?_
  refine w_reg ?_
  refine s_do (o_mov (.bool false) rfl) ?_
  refine w_done ?_
  refine k_seq ?_
  refine awp_seq ?_
  refine w_reg ?_
  refine s_do (o_mov (.lst 5 (list_1.map encGResult)) rfl) ?_
  refine s_dof (o_len (enc := encGResult) rfl) fun hl2 => ?_
  refine s_do (o_q (.bool (decide ((list_1.length : Int) ≤ 4096))) rfl rfl rfl) ?_
  refine s_do (o_mov (.bool (decide ((list_1.length : Int) ≤ 4096))) rfl) ?_
  refine w_done ?_
  refine k_seq ?_
  refine w_ret ?_
  obtain rfl := os hf
  exact r_flat ⟨trivial, trivial⟩ rfl (.refl _)

/- slices.IndexFunc[[]impl.Result,impl.Result] -/
def c155 : ACode :=
 (.seq (.reg (tm 4 (.c (.int .i64 0)) .done))
 (.seq (.seq (.reg (tm 6 (.t 0) (tq 7 (.len (.t 6)) (tm 8 (.c (.int .i64 0)) .done))))
 (.block 0 (.loop (.seq (.reg (tq 9 (.bin .lss (.t 8) (.t 7)) .done))
 (.seq (.cond (.t 9) .skip
 (.exit 0))
 (.seq (.block 1 (.seq (.reg (tm 10 (.t 8) (tm 5 (.t 10) .done)))
 (.seq (.reg (tm 11 (.t 1) (tm 12 (.t 0) (tm 13 (.t 5) (tq 14 (.iaddr 5 (.t 12) (.t 13)) (tq 15 (.load 5 true (.t 14)) (tq 16 (.calv (.t 11) [(.t 15)]) .done)))))))
 (.cond (.t 16) (.seq (.reg (tm 17 (.t 5) (tm 4 (.t 17) .done)))
 .ret)
 .skip))))
 (.reg (tq 18 (.bin .add (.t 8) (.c (.int .i64 1))) (tm 8 (.t 18) .done)))))))))
 (.cut (.seq (.reg (tq 4 (.mov (.c (.int .i64 (-1)))) .done))
 .ret))))
theorem fc155 : fcomp Try.prog Try.f155 = some (c155.erase, [.mov (.t 4)], 19) := by kernel_rfl
def slices_IndexFunc_impl_Result_impl_Result_L1 (f_2 : (GResult → Option Bool)) : List GResult → Nat → Option (Fl Int Unit)
  | [], s8_17 =>
    some (.go ())
  | x_31 :: xs, s8_17 =>
    (f_2 x_31).bind fun r_32 =>
    if r_32 then
    some (.ret (s8_17 : Int))
    else
    slices_IndexFunc_impl_Result_impl_Result_L1 f_2 xs (s8_17 + 1)

def slices_IndexFunc_impl_Result_impl_Result (s_1 : (List GResult)) (f_2 : (GResult → Option Bool)) : Option Int :=
    (slices_IndexFunc_impl_Result_impl_Result_L1 f_2 s_1 0).bind fun q => (match q with
    | .ret r => some r
    | .go _ =>
    some (-1))
theorem w_slices_IndexFunc_impl_Result_impl_Result (s_1 : (List GResult)) (f_2 : (GResult → Option Bool)) (r : Int) (hf : slices_IndexFunc_impl_Result_impl_Result s_1 f_2 = some r) (kf_f_2 : Nat) (cf_f_2 : List AV) (okf_f_2 : okFn Try.prog kf_f_2 = true) (hcf_f_2 : ∀ h p, closeWs h p cf_f_2 = some cf_f_2) (hrf_f_2 : ∀ f, rens f cf_f_2 = cf_f_2) (hpf_f_2 : ∀ a0 r, f_2 a0 = some r → CallOK Try.prog kf_f_2 .flat ([(encGResult a0)] ++ cf_f_2) (.bool r)) : CallOK Try.prog 155 .flat [(.lst 5 (s_1.map encGResult)), (.fn kf_f_2 cf_f_2)] (.int .i64 r) := by
 refine CallOK.of_awp mixed Try.func155 fc155 nle ?_; rw [argT_eq]; unfold slices_IndexFunc_impl_Result_impl_Result at hf; unfold c155; refine (show awp Try.prog false 0 _ (ofL [(0, (.lst 5 (s_1.map encGResult))), (1, (.fn kf_f_2 cf_f_2))]) [] _ from ?_); refine awp_seq <| w_reg <| s_mov (.int .i64 0) rfl <| w_done <| k_seq <| awp_seq <| awp_seq <| w_reg <| s_mov (.lst 5 (s_1.map encGResult)) rfl <| s_dof (o_len (enc := encGResult) rfl) fun hl3 => s_mov (.int .i64 0) rfl <| w_done <| k_seq <| ?_
 obtain ⟨p24, hb1, hf⟩ := ob hf
 refine awp_cutx (X := {q : Unit // p24 = .go q}) (fun q => ([], [])) ?_ ?_
 ·refine awp_loop (X := {q : Nat // slices_IndexFunc_impl_Result_impl_Result_L1 f_2 (s_1.drop q) q = some p24}) (fun q => ([(0, (.lst 5 (s_1.map encGResult))), (1, (.fn kf_f_2 cf_f_2)), (7, (.int .i64 (s_1.length : Int))), (8, (.int .i64 (q.1 : Int)))], [])) (fun q => s_1.length - q.1) ⟨0, hb1⟩ ⟨[], [], _, _, rfl, rfl, ⟨.refl _, ⟨.of_eq (congrArg (AV.fn _) (hrf_f_2 _)), ⟨.refl _, ⟨.refl _, trivial⟩⟩⟩⟩, (.refl _)⟩ ?_
  rintro ⟨s8_17, hc1⟩
  have hc1 : slices_IndexFunc_impl_Result_impl_Result_L1 f_2 (s_1.drop s8_17) s8_17 = some p24 := hc1
  refine (show awp Try.prog false 0 _ (ofL [(0, (.lst 5 (s_1.map encGResult))), (1, (.fn kf_f_2 cf_f_2)), (7, (.int .i64 (s_1.length : Int))), (8, (.int .i64 (s8_17 : Int)))]) [] _ from ?_)
  rcases dropc s_1 s8_17 with ⟨hie27, hd30⟩ | ⟨hlt25, x_31, hx26, hd30⟩
  ·rw [hd30, slices_IndexFunc_impl_Result_impl_Result_L1.eq_1] at hc1
   have hq29 := dlf hie27
   refine awp_seq <| w_reg <| s_q (.bool (decide ((s8_17 : Int) < (s_1.length : Int)))) rfl rfl rfl <| w_done <| k_seq <| awp_seq <| w_condf rfl hq29 <| w_exit <| k_seqx <| k_loopx <| k_blkx <| ?_; obtain rfl := os hc1; exact k_cutn ⟨_, rfl⟩ ⟨[], [], _, _, rfl, rfl, trivial, (.refl _)⟩
  ·rw [hd30, slices_IndexFunc_impl_Result_impl_Result_L1.eq_2] at hc1
   have hq29 := dlt hlt25
   refine awp_seq <| w_reg <| s_q (.bool (decide ((s8_17 : Int) < (s_1.length : Int)))) rfl rfl rfl <| w_done <| k_seq <| awp_seq <| w_condt rfl hq29 <| w_skip <| k_seq <| awp_seq <| w_blk <| awp_seq <| w_reg <| s_mov (.int .i64 (s8_17 : Int)) rfl <| s_mov (.int .i64 (s8_17 : Int)) rfl <| w_done <| k_seq <| awp_seq <| w_reg <| ?_
   obtain ⟨r_32, er33, hc1⟩ := ob hc1
   refine s_mov (.fn kf_f_2 cf_f_2) rfl <| s_mov (.lst 5 (s_1.map encGResult)) rfl <| s_mov (.int .i64 (s8_17 : Int)) rfl <| s_do (o_iaddrn (enc := encGResult) rfl rfl hx26) <| s_q (encGResult x_31) rfl nle rfl <| s_do (o_calvp (v := (.bool r_32)) rfl okf_f_2 hcf_f_2 (hpf_f_2 _ _ er33) rfl (.refl _) rfl) <| w_done <| k_seq <| ?_
   rcases oi hc1 with ⟨c34, hc1⟩ | ⟨c34, hc1⟩
   ·refine w_condt rfl c34 <| awp_seq <| w_reg <| s_mov (.int .i64 (s8_17 : Int)) rfl <| s_mov (.int .i64 (s8_17 : Int)) rfl <| w_done <| k_seq <| w_ret <| ?_; obtain rfl := os hc1; obtain rfl := os hf; exact r_flat ⟨trivial, trivial⟩ rfl (.refl _)
   ·refine w_condf rfl (bf c34) <| w_skip <| k_blk <| k_seq <| w_reg <| s_q (.int .i64 (w64 ((s8_17 : Int) + 1))) rfl rfl rfl <| s_mov (.int .i64 (w64 ((s8_17 : Int) + 1))) rfl <| w_done <| ?_; exact k_loopn ⟨(s8_17 + 1), hc1⟩ (mul hlt25) ⟨[], [], _, _, rfl, rfl, ⟨.refl _, ⟨.of_eq (congrArg (AV.fn _) (hrf_f_2 _)), ⟨.refl _, ⟨.of_eq (congrArg (AV.int _) (w64_incr hlt25 hl3)), trivial⟩⟩⟩⟩, (.refl _)⟩
 ·rintro ⟨_, rfl⟩
  refine awp_seq <| w_reg <| s_mov (.int .i64 (-1)) rfl <| w_done <| k_seq <| w_ret <| ?_; obtain rfl := os hf; exact r_flat ⟨trivial, trivial⟩ rfl (.refl _)

/- slices.ContainsFunc[[]impl.Result,impl.Result] -/
def c72 : ACode :=
 (.seq (.reg (tm 4 (.c (.bool false)) .done))
 (.seq (.reg (tm 5 (.t 0) (tm 6 (.t 1) (tq 7 (.call 155 [(.t 5), (.t 6)]) (tq 8 (.bin .geq (.t 7) (.c (.int .i64 0))) (tm 4 (.t 8) .done))))))
 .ret))
theorem fc72 : fcomp Try.prog Try.f72 = some (c72.erase, [.mov (.t 4)], 9) := by kernel_rfl
def slices_ContainsFunc_impl_Result_impl_Result (s_1 : (List GResult)) (f_2 : (GResult → Option Bool)) : Option Bool :=
    (slices_IndexFunc_impl_Result_impl_Result s_1 f_2).bind fun r_3 =>
    some (decide (r_3 ≥ 0))
theorem w_slices_ContainsFunc_impl_Result_impl_Result (s_1 : (List GResult)) (f_2 : (GResult → Option Bool)) (r : Bool) (hf : slices_ContainsFunc_impl_Result_impl_Result s_1 f_2 = some r) (kf_f_2 : Nat) (cf_f_2 : List AV) (okf_f_2 : okFn Try.prog kf_f_2 = true) (hcf_f_2 : ∀ h p, closeWs h p cf_f_2 = some cf_f_2) (hrf_f_2 : ∀ f, rens f cf_f_2 = cf_f_2) (hpf_f_2 : ∀ a0 r, f_2 a0 = some r → CallOK Try.prog kf_f_2 .flat ([(encGResult a0)] ++ cf_f_2) (.bool r)) : CallOK Try.prog 72 .flat [(.lst 5 (s_1.map encGResult)), (.fn kf_f_2 cf_f_2)] (.bool r) := by
 refine CallOK.of_awp mixed Try.func72 fc72 nle ?_; rw [argT_eq]; unfold slices_ContainsFunc_impl_Result_impl_Result at hf; unfold c72; refine (show awp Try.prog false 0 _ (ofL [(0, (.lst 5 (s_1.map encGResult))), (1, (.fn kf_f_2 cf_f_2))]) [] _ from ?_); refine awp_seq <| w_reg <| s_mov (.bool false) rfl <| w_done <| k_seq <| awp_seq <| w_reg <| ?_
 obtain ⟨r_3, er4, hf⟩ := ob hf
 refine s_mov (.lst 5 (s_1.map encGResult)) rfl <| s_mov (.fn kf_f_2 cf_f_2) rfl <| s_do (o_call (w_slices_IndexFunc_impl_Result_impl_Result _ _ _ er4 kf_f_2 cf_f_2 okf_f_2 hcf_f_2 hrf_f_2 hpf_f_2) (cls_cons rfl (cls_cons (cls_fn hcf_f_2) rfl)) (.refl _) rfl) <| s_q (.bool (decide (r_3 ≥ 0))) rfl rfl rfl <| s_mov (.bool (decide (r_3 ≥ 0))) rfl <| w_done <| k_seq <| w_ret <| ?_; obtain rfl := os hf; exact r_flat ⟨trivial, trivial⟩ rfl (.refl _)

/- impl.within -/
def c156 : ACode :=
 (.seq (.reg (tm 6 (.c (.bool false)) .done))
 (.seq (.reg (tm 7 (.t 0) (tm 8 (.t 1) (tq 9 (.bin .geq (.t 7) (.t 8)) (tm 10 (.t 9) (tg 11 10 true (.mov (.t 0)) (tg 12 10 true (.mov (.t 2)) (tg 13 10 true (.bin .leq (.t 11) (.t 12)) (tq 14 (.pick (.t 10) (.t 13) (.c (.bool false))) (tm 6 (.t 14) .done))))))))))
 .ret))
theorem fc156 : fcomp Try.prog Try.f156 = some (c156.erase, [.mov (.t 6)], 15) := by kernel_rfl
def impl_within (n_1 : Int) (low_2 : Int) (high_3 : Int) : Option Bool :=
    if (decide (n_1 ≥ low_2)) then
    some (decide (n_1 ≤ high_3))
    else
    some false
theorem w_impl_within (n_1 : Int) (low_2 : Int) (high_3 : Int) (r : Bool) (hf : impl_within n_1 low_2 high_3 = some r) : CallOK Try.prog 156 .flat [(.int .i64 n_1), (.int .i64 low_2), (.int .i64 high_3)] (.bool r) := by
 refine CallOK.of_awp mixed Try.func156 fc156 nle ?_; rw [argT_eq]; unfold impl_within at hf; unfold c156; refine (show awp Try.prog false 0 _ (ofL [(0, (.int .i64 n_1)), (1, (.int .i64 low_2)), (2, (.int .i64 high_3))]) [] _ from ?_); refine awp_seq <| w_reg <| s_mov (.bool false) rfl <| w_done <| k_seq <| awp_seq <| w_reg <| ?_
 rcases oi hf with ⟨c4, hf⟩ | ⟨c4, hf⟩
 ·refine s_mov (.int .i64 n_1) rfl <| s_mov (.int .i64 low_2) rfl <| s_q (.bool (decide (n_1 ≥ low_2))) rfl rfl rfl <| s_mov (.bool (decide (n_1 ≥ low_2))) rfl <| s_lit (s := 10) (b := true) rfl c4 <| s_on rfl <| s_mov (.int .i64 n_1) rfl <| s_on rfl <| s_mov (.int .i64 high_3) rfl <| s_on rfl <| s_q (.bool (decide (n_1 ≤ high_3))) rfl rfl rfl <| s_q (.bool (decide (n_1 ≤ high_3))) rfl trivial rfl <| s_mov (.bool (decide (n_1 ≤ high_3))) rfl <| w_done <| k_seq <| w_ret <| ?_; obtain rfl := os hf; exact r_flat ⟨trivial, trivial⟩ rfl (.refl _)
 ·refine s_mov (.int .i64 n_1) rfl <| s_mov (.int .i64 low_2) rfl <| s_q (.bool (decide (n_1 ≥ low_2))) rfl rfl rfl <| s_mov (.bool (decide (n_1 ≥ low_2))) rfl <| s_lit (s := 10) (b := false) rfl (bf c4) <| s_off rfl rfl <| s_off rfl rfl <| s_off rfl rfl <| s_q (.bool false) rfl trivial rfl <| s_mov (.bool false) rfl <| w_done <| k_seq <| w_ret <| ?_; obtain rfl := os hf; exact r_flat ⟨trivial, trivial⟩ rfl (.refl _)

/- slices.IndexFunc[[]string,string] -/
def c224 : ACode :=
 (.seq (.reg (tm 4 (.c (.int .i64 0)) .done))
 (.seq (.seq (.reg (tm 6 (.t 0) (tq 7 (.len (.t 6)) (tm 8 (.c (.int .i64 0)) .done))))
 (.block 0 (.loop (.seq (.reg (tq 9 (.bin .lss (.t 8) (.t 7)) .done))
 (.seq (.cond (.t 9) .skip
 (.exit 0))
 (.seq (.block 1 (.seq (.reg (tm 10 (.t 8) (tm 5 (.t 10) .done)))
 (.seq (.reg (tm 11 (.t 1) (tm 12 (.t 0) (tm 13 (.t 5) (tq 14 (.iaddr 1 (.t 12) (.t 13)) (tq 15 (.load 1 false (.t 14)) (tq 16 (.calv (.t 11) [(.t 15)]) .done)))))))
 (.cond (.t 16) (.seq (.reg (tm 17 (.t 5) (tm 4 (.t 17) .done)))
 .ret)
 .skip))))
 (.reg (tq 18 (.bin .add (.t 8) (.c (.int .i64 1))) (tm 8 (.t 18) .done)))))))))
 (.cut (.seq (.reg (tq 4 (.mov (.c (.int .i64 (-1)))) .done))
 .ret))))
theorem fc224 : fcomp Try.prog Try.f224 = some (c224.erase, [.mov (.t 4)], 19) := by kernel_rfl
def slices_IndexFunc_string_string_L1 (f_2 : (Str → Option Bool)) : List Str → Nat → Option (Fl Int Unit)
  | [], s8_17 =>
    some (.go ())
  | x_31 :: xs, s8_17 =>
    (f_2 x_31).bind fun r_32 =>
    if r_32 then
    some (.ret (s8_17 : Int))
    else
    slices_IndexFunc_string_string_L1 f_2 xs (s8_17 + 1)

def slices_IndexFunc_string_string (s_1 : (List Str)) (f_2 : (Str → Option Bool)) : Option Int :=
    (slices_IndexFunc_string_string_L1 f_2 s_1 0).bind fun q => (match q with
    | .ret r => some r
    | .go _ =>
    some (-1))
theorem w_slices_IndexFunc_string_string (s_1 : (List Str)) (f_2 : (Str → Option Bool)) (r : Int) (hf : slices_IndexFunc_string_string s_1 f_2 = some r) (kf_f_2 : Nat) (cf_f_2 : List AV) (okf_f_2 : okFn Try.prog kf_f_2 = true) (hcf_f_2 : ∀ h p, closeWs h p cf_f_2 = some cf_f_2) (hrf_f_2 : ∀ f, rens f cf_f_2 = cf_f_2) (hpf_f_2 : ∀ a0 r, f_2 a0 = some r → CallOK Try.prog kf_f_2 .flat ([(.str a0)] ++ cf_f_2) (.bool r)) : CallOK Try.prog 224 .flat [(.lst 1 (s_1.map AV.str)), (.fn kf_f_2 cf_f_2)] (.int .i64 r) := by
 refine CallOK.of_awp mixed Try.func224 fc224 nle ?_; rw [argT_eq]; unfold slices_IndexFunc_string_string at hf; unfold c224; refine (show awp Try.prog false 0 _ (ofL [(0, (.lst 1 (s_1.map AV.str))), (1, (.fn kf_f_2 cf_f_2))]) [] _ from ?_); refine awp_seq <| w_reg <| s_mov (.int .i64 0) rfl <| w_done <| k_seq <| awp_seq <| awp_seq <| w_reg <| s_mov (.lst 1 (s_1.map AV.str)) rfl <| s_dof (o_len (enc := AV.str) rfl) fun hl3 => s_mov (.int .i64 0) rfl <| w_done <| k_seq <| ?_
 obtain ⟨p24, hb1, hf⟩ := ob hf
 refine awp_cutx (X := {q : Unit // p24 = .go q}) (fun q => ([], [])) ?_ ?_
 ·refine awp_loop (X := {q : Nat // slices_IndexFunc_string_string_L1 f_2 (s_1.drop q) q = some p24}) (fun q => ([(0, (.lst 1 (s_1.map AV.str))), (1, (.fn kf_f_2 cf_f_2)), (7, (.int .i64 (s_1.length : Int))), (8, (.int .i64 (q.1 : Int)))], [])) (fun q => s_1.length - q.1) ⟨0, hb1⟩ ⟨[], [], _, _, rfl, rfl, ⟨.refl _, ⟨.of_eq (congrArg (AV.fn _) (hrf_f_2 _)), ⟨.refl _, ⟨.refl _, trivial⟩⟩⟩⟩, (.refl _)⟩ ?_
  rintro ⟨s8_17, hc1⟩
  have hc1 : slices_IndexFunc_string_string_L1 f_2 (s_1.drop s8_17) s8_17 = some p24 := hc1
  refine (show awp Try.prog false 0 _ (ofL [(0, (.lst 1 (s_1.map AV.str))), (1, (.fn kf_f_2 cf_f_2)), (7, (.int .i64 (s_1.length : Int))), (8, (.int .i64 (s8_17 : Int)))]) [] _ from ?_)
  rcases dropc s_1 s8_17 with ⟨hie27, hd30⟩ | ⟨hlt25, x_31, hx26, hd30⟩
  ·rw [hd30, slices_IndexFunc_string_string_L1.eq_1] at hc1
   have hq29 := dlf hie27
   refine awp_seq <| w_reg <| s_q (.bool (decide ((s8_17 : Int) < (s_1.length : Int)))) rfl rfl rfl <| w_done <| k_seq <| awp_seq <| w_condf rfl hq29 <| w_exit <| k_seqx <| k_loopx <| k_blkx <| ?_; obtain rfl := os hc1; exact k_cutn ⟨_, rfl⟩ ⟨[], [], _, _, rfl, rfl, trivial, (.refl _)⟩
  ·rw [hd30, slices_IndexFunc_string_string_L1.eq_2] at hc1
   have hq29 := dlt hlt25
   refine awp_seq <| w_reg <| s_q (.bool (decide ((s8_17 : Int) < (s_1.length : Int)))) rfl rfl rfl <| w_done <| k_seq <| awp_seq <| w_condt rfl hq29 <| w_skip <| k_seq <| awp_seq <| w_blk <| awp_seq <| w_reg <| s_mov (.int .i64 (s8_17 : Int)) rfl <| s_mov (.int .i64 (s8_17 : Int)) rfl <| w_done <| k_seq <| awp_seq <| w_reg <| ?_
   obtain ⟨r_32, er33, hc1⟩ := ob hc1
   refine s_mov (.fn kf_f_2 cf_f_2) rfl <| s_mov (.lst 1 (s_1.map AV.str)) rfl <| s_mov (.int .i64 (s8_17 : Int)) rfl <| s_do (o_iaddrn (enc := AV.str) rfl rfl hx26) <| s_q (.str x_31) rfl ⟨rfl, rfl⟩ rfl <| s_do (o_calvp (v := (.bool r_32)) rfl okf_f_2 hcf_f_2 (hpf_f_2 _ _ er33) rfl (.refl _) rfl) <| w_done <| k_seq <| ?_
   rcases oi hc1 with ⟨c34, hc1⟩ | ⟨c34, hc1⟩
   ·refine w_condt rfl c34 <| awp_seq <| w_reg <| s_mov (.int .i64 (s8_17 : Int)) rfl <| s_mov (.int .i64 (s8_17 : Int)) rfl <| w_done <| k_seq <| w_ret <| ?_; obtain rfl := os hc1; obtain rfl := os hf; exact r_flat ⟨trivial, trivial⟩ rfl (.refl _)
   ·refine w_condf rfl (bf c34) <| w_skip <| k_blk <| k_seq <| w_reg <| s_q (.int .i64 (w64 ((s8_17 : Int) + 1))) rfl rfl rfl <| s_mov (.int .i64 (w64 ((s8_17 : Int) + 1))) rfl <| w_done <| ?_; exact k_loopn ⟨(s8_17 + 1), hc1⟩ (mul hlt25) ⟨[], [], _, _, rfl, rfl, ⟨.refl _, ⟨.of_eq (congrArg (AV.fn _) (hrf_f_2 _)), ⟨.refl _, ⟨.of_eq (congrArg (AV.int _) (w64_incr hlt25 hl3)), trivial⟩⟩⟩⟩, (.refl _)⟩
 ·rintro ⟨_, rfl⟩
  refine awp_seq <| w_reg <| s_mov (.int .i64 (-1)) rfl <| w_done <| k_seq <| w_ret <| ?_; obtain rfl := os hf; exact r_flat ⟨trivial, trivial⟩ rfl (.refl _)

/- slices.ContainsFunc[[]string,string] -/
def c157 : ACode :=
 (.seq (.reg (tm 4 (.c (.bool false)) .done))
 (.seq (.reg (tm 5 (.t 0) (tm 6 (.t 1) (tq 7 (.call 224 [(.t 5), (.t 6)]) (tq 8 (.bin .geq (.t 7) (.c (.int .i64 0))) (tm 4 (.t 8) .done))))))
 .ret))
theorem fc157 : fcomp Try.prog Try.f157 = some (c157.erase, [.mov (.t 4)], 9) := by kernel_rfl
def slices_ContainsFunc_string_string (s_1 : (List Str)) (f_2 : (Str → Option Bool)) : Option Bool :=
    (slices_IndexFunc_string_string s_1 f_2).bind fun r_3 =>
    some (decide (r_3 ≥ 0))
theorem w_slices_ContainsFunc_string_string (s_1 : (List Str)) (f_2 : (Str → Option Bool)) (r : Bool) (hf : slices_ContainsFunc_string_string s_1 f_2 = some r) (kf_f_2 : Nat) (cf_f_2 : List AV) (okf_f_2 : okFn Try.prog kf_f_2 = true) (hcf_f_2 : ∀ h p, closeWs h p cf_f_2 = some cf_f_2) (hrf_f_2 : ∀ f, rens f cf_f_2 = cf_f_2) (hpf_f_2 : ∀ a0 r, f_2 a0 = some r → CallOK Try.prog kf_f_2 .flat ([(.str a0)] ++ cf_f_2) (.bool r)) : CallOK Try.prog 157 .flat [(.lst 1 (s_1.map AV.str)), (.fn kf_f_2 cf_f_2)] (.bool r) := by
  refine CallOK.of_awp mixed Try.func157 fc157 nle ?_
  rw [argT_eq]
  unfold slices_ContainsFunc_string_string at hf
  unfold c157
  refine (show awp Try.prog false 0 _ (ofL [(0, (.lst 1 (s_1.map AV.str))), (1, (.fn kf_f_2 cf_f_2))]) [] _ from ?_)
  refine awp_seq ?_
  refine w_reg ?_
  refine s_do (o_mov (.bool false) rfl) ?_
  refine w_done ?_
  refine k_seq ?_
  refine awp_seq ?_
  refine w_reg ?_
  obtain ⟨r_3, er4, hf⟩ := ob hf
  refine s_do (o_mov (.lst 1 (s_1.map AV.str)) rfl) ?_
  refine s_do (o_mov (.fn kf_f_2 cf_f_2) rfl) ?_
  refine s_do (o_call (w_slices_IndexFunc_string_string _ _ _ er4 kf_f_2 cf_f_2 okf_f_2 hcf_f_2 hrf_f_2 hpf_f_2) (cls_cons rfl (cls_cons (cls_fn hcf_f_2) rfl)) (.refl _) rfl) ?_
  refine s_do (o_q (.bool (decide (r_3 ≥ 0))) rfl rfl rfl) ?_
  refine s_do (o_mov (.bool (decide (r_3 ≥ 0))) rfl) ?_
  refine w_done ?_
  refine k_seq ?_
  refine w_ret ?_
  obtain rfl := os hf
  exact r_flat ⟨trivial, trivial⟩ rfl (.refl _)

/- impl.isDigit -/
def c225 : ACode :=
 (.seq (.reg (tm 2 (.c (.bool false)) .done))
 (.seq (.reg (tm 3 (.t 0) (tq 4 (.bin .geq (.t 3) (.c (.int .u8 48))) (tm 5 (.t 4) (tg 6 5 true (.mov (.t 0)) (tg 7 5 true (.bin .leq (.t 6) (.c (.int .u8 57))) (tq 8 (.pick (.t 5) (.t 7) (.c (.bool false))) (tm 2 (.t 8) .done))))))))
 .ret))
theorem fc225 : fcomp Try.prog Try.f225 = some (c225.erase, [.mov (.t 2)], 9) := by kernel_rfl
def impl_isDigit (b_1 : Int) : Option Bool :=
    if (decide (b_1 ≥ 48)) then
    some (decide (b_1 ≤ 57))
    else
    some false
theorem w_impl_isDigit (b_1 : Int) (r : Bool) (hf : impl_isDigit b_1 = some r) : CallOK Try.prog 225 .flat [(.int .u8 b_1)] (.bool r) := by
 refine CallOK.of_awp mixed Try.func225 fc225 nle ?_; rw [argT_eq]; unfold impl_isDigit at hf; unfold c225; refine (show awp Try.prog false 0 _ (ofL [(0, (.int .u8 b_1))]) [] _ from ?_); refine awp_seq <| w_reg <| s_mov (.bool false) rfl <| w_done <| k_seq <| awp_seq <| w_reg <| ?_
 rcases oi hf with ⟨c2, hf⟩ | ⟨c2, hf⟩
 ·refine s_mov (.int .u8 b_1) rfl <| s_q (.bool (decide (b_1 ≥ 48))) rfl rfl rfl <| s_mov (.bool (decide (b_1 ≥ 48))) rfl <| s_lit (s := 5) (b := true) rfl c2 <| s_on rfl <| s_mov (.int .u8 b_1) rfl <| s_on rfl <| s_q (.bool (decide (b_1 ≤ 57))) rfl rfl rfl <| s_q (.bool (decide (b_1 ≤ 57))) rfl trivial rfl <| s_mov (.bool (decide (b_1 ≤ 57))) rfl <| w_done <| k_seq <| w_ret <| ?_; obtain rfl := os hf; exact r_flat ⟨trivial, trivial⟩ rfl (.refl _)
 ·refine s_mov (.int .u8 b_1) rfl <| s_q (.bool (decide (b_1 ≥ 48))) rfl rfl rfl <| s_mov (.bool (decide (b_1 ≥ 48))) rfl <| s_lit (s := 5) (b := false) rfl (bf c2) <| s_off rfl rfl <| s_off rfl rfl <| s_q (.bool false) rfl trivial rfl <| s_mov (.bool false) rfl <| w_done <| k_seq <| w_ret <| ?_; obtain rfl := os hf; exact r_flat ⟨trivial, trivial⟩ rfl (.refl _)

end Go.R
