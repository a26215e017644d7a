/- Walks. -/
import Derived.Test.YthneidgpgfgecaaAPUT
set_option linter.all false
namespace Go.R
open Go Go.Proofs
set_option linter.unusedVariables false
set_option linter.unusedSimpArgs false
set_option maxHeartbeats 8000000
/- laws.szAtom -/
def c110 : ACode :=
 (.seq (.reg (tq 2 (.box 3 (.t 0)) (tm 4 (.c (.int .i64 0)) .done)))
 (.seq (.reg (tm 5 (.t 1) (tq 6 (.faddr 2 (.t 2)) (tq 7 (.load 1 false (.t 6)) (tq 8 (.lenS (.t 7)) (tq 9 (.bin .sub (.t 5) (.t 8)) (tm 1 (.t 9) .done)))))))
 (.seq (.seq (.reg (tm 10 (.t 1) (tq 11 (.bin .lss (.t 10) (.c (.int .i64 0))) .done)))
 (.cond (.t 11) (.seq (.reg (tq 4 (.mov (.c (.int .i64 (-1)))) .done))
 .ret)
 .skip))
 (.seq (.reg (tm 12 (.t 1) (tm 4 (.t 12) .done)))
 .ret))))
theorem fc110 : fcomp Try.prog Try.f110 = some (c110.erase, [.mov (.t 4)], 13) := by kernel_rfl
def laws_szAtom (a_1 : GAtom) (left_2 : Int) : Option Int :=
    if (decide (w64 (left_2 - (a_1.T.length : Int)) < 0)) then
    some (-1)
    else
    some (w64 (left_2 - (a_1.T.length : Int)))
theorem w_laws_szAtom (a_1 : GAtom) (left_2 : Int) (r : Int) (hf : laws_szAtom a_1 left_2 = some r) : CallOK Try.prog 110 .flat [(encGAtom a_1), (.int .i64 left_2)] (.int .i64 r) := by
 refine CallOK.of_awp mixed Try.func110 fc110 nle ?_; rw [argT_eq]; unfold laws_szAtom at hf; unfold c110; refine (show awp Try.prog false 0 _ (ofL [(0, (encGAtom a_1)), (1, (.int .i64 left_2))]) [] _ from ?_); refine awp_seq <| w_reg <| s_do (o_box (j := 0) (c := (.agg [(.int .i64 a_1.Kind), (.int .i64 a_1.N), (.str a_1.T)])) rfl trivial rfl rfl) <| s_mov (.int .i64 0) rfl <| w_done <| k_seq <| awp_seq <| w_reg <| s_mov (.int .i64 left_2) rfl <| s_q (.ptr 0 0 2) rfl trivial rfl <| s_q (.str a_1.T) rfl nle rfl <| s_dof (o_lenS rfl) fun hl3 => s_q (.int .i64 (w64 (left_2 - (a_1.T.length : Int)))) rfl rfl rfl <| s_mov (.int .i64 (w64 (left_2 - (a_1.T.length : Int)))) rfl <| w_done <| k_seq <| awp_seq <| awp_seq <| w_reg <| ?_
 refine s_mov (.int .i64 (w64 (left_2 - (a_1.T.length : Int)))) rfl <| s_q (.bool (decide (w64 (left_2 - (a_1.T.length : Int)) < 0))) rfl rfl rfl <| w_done <| k_seq <| ?_
 rcases oi hf with ⟨c4, hf⟩ | ⟨c4, hf⟩
 ·refine w_condt rfl c4 <| awp_seq <| w_reg <| s_mov (.int .i64 (-1)) rfl <| w_done <| k_seq <| w_ret <| ?_; obtain rfl := os hf; exact r_flat ⟨trivial, trivial⟩ rfl (.refl _)
 ·refine w_condf rfl (bf c4) <| w_skip <| k_seq <| awp_seq <| w_reg <| s_mov (.int .i64 (w64 (left_2 - (a_1.T.length : Int)))) rfl <| s_mov (.int .i64 (w64 (left_2 - (a_1.T.length : Int)))) rfl <| w_done <| k_seq <| w_ret <| ?_; obtain rfl := os hf; exact r_flat ⟨trivial, trivial⟩ rfl (.refl _)

/- laws.szAtomS -/
def c95 : ACode :=
 (.seq (.reg (tm 4 (.c (.int .i64 0)) .done))
 (.seq (.reg (tm 6 (.t 1) (tm 7 (.t 0) (tq 8 (.len (.t 7)) (tq 9 (.bin .sub (.t 6) (.t 8)) (tm 1 (.t 9) .done))))))
 (.seq (.seq (.reg (tm 10 (.t 1) (tq 11 (.bin .lss (.t 10) (.c (.int .i64 0))) .done)))
 (.cond (.t 11) (.seq (.reg (tq 4 (.mov (.c (.int .i64 (-1)))) .done))
 .ret)
 .skip))
 (.seq (.seq (.reg (tm 5 (.c (.int .i64 0)) .done))
 (.block 0 (.loop (.seq (.seq (.reg (tm 12 (.t 5) (tm 13 (.t 0) (tq 14 (.len (.t 13)) (tq 15 (.bin .lss (.t 12) (.t 14)) .done)))))
 (.cond (.t 15) .skip
 (.exit 0)))
 (.seq (.block 1 (.seq (.reg (tm 18 (.t 0) (tm 19 (.t 5) (tq 20 (.iaddr 3 (.t 18) (.t 19)) (tq 21 (.load 3 true (.t 20)) (tm 22 (.t 1) (tq 23 (.call 110 [(.t 21), (.t 22)]) (tm 1 (.t 23) .done))))))))
 (.seq (.reg (tm 24 (.t 1) (tq 25 (.bin .lss (.t 24) (.c (.int .i64 0))) .done)))
 (.cond (.t 25) (.seq (.reg (tq 4 (.mov (.c (.int .i64 (-1)))) .done))
 .ret)
 .skip))))
 (.reg (tm 16 (.t 5) (tq 17 (.bin .add (.t 16) (.c (.int .i64 1))) (tm 5 (.t 17) .done)))))))))
 (.cut (.seq (.reg (tm 26 (.t 1) (tm 4 (.t 26) .done)))
 .ret))))))
theorem fc95 : fcomp Try.prog Try.f95 = some (c95.erase, [.mov (.t 4)], 27) := by kernel_rfl
def laws_szAtomS_L1  : List GAtom → Int → Option (Fl Int Int)
  | [], left_21 =>
    some (.go left_21)
  | x_39 :: xs, left_21 =>
    (laws_szAtom x_39 left_21).bind fun r_42 =>
    if (decide (r_42 < 0)) then
    some (.ret (-1))
    else
    laws_szAtomS_L1 xs r_42 

def laws_szAtomS (a_1 : (List GAtom)) (left_2 : Int) : Option Int :=
    if (decide (w64 (left_2 - (a_1.length : Int)) < 0)) then
    some (-1)
    else
    (laws_szAtomS_L1 a_1 (w64 (left_2 - (a_1.length : Int)))).bind fun q => (match q with
    | .ret r => some r
    | .go left_31 =>
    some left_31)
theorem w_laws_szAtomS (a_1 : (List GAtom)) (left_2 : Int) (r : Int) (hf : laws_szAtomS a_1 left_2 = some r) : CallOK Try.prog 95 .flat [(.lst 3 (a_1.map encGAtom)), (.int .i64 left_2)] (.int .i64 r) := by
 refine CallOK.of_awp mixed Try.func95 fc95 nle ?_; rw [argT_eq]; unfold laws_szAtomS at hf; unfold c95; refine (show awp Try.prog false 0 _ (ofL [(0, (.lst 3 (a_1.map encGAtom))), (1, (.int .i64 left_2))]) [] _ from ?_); refine awp_seq <| w_reg <| s_mov (.int .i64 0) rfl <| w_done <| k_seq <| awp_seq <| w_reg <| s_mov (.int .i64 left_2) rfl <| s_mov (.lst 3 (a_1.map encGAtom)) rfl <| s_dof (o_len (enc := encGAtom) rfl) fun hl3 => s_q (.int .i64 (w64 (left_2 - (a_1.length : Int)))) rfl rfl rfl <| s_mov (.int .i64 (w64 (left_2 - (a_1.length : Int)))) rfl <| w_done <| k_seq <| awp_seq <| awp_seq <| w_reg <| s_mov (.int .i64 (w64 (left_2 - (a_1.length : Int)))) rfl <| s_q (.bool (decide (w64 (left_2 - (a_1.length : Int)) < 0))) rfl rfl rfl <| ?_
 refine w_done <| k_seq <| ?_
 rcases oi hf with ⟨c4, hf⟩ | ⟨c4, hf⟩
 ·refine w_condt rfl c4 <| awp_seq <| w_reg <| s_mov (.int .i64 (-1)) rfl <| w_done <| k_seq <| w_ret <| ?_; obtain rfl := os hf; exact r_flat ⟨trivial, trivial⟩ rfl (.refl _)
 ·refine w_condf rfl (bf c4) <| w_skip <| k_seq <| awp_seq <| awp_seq <| w_reg <| s_mov (.int .i64 0) rfl <| w_done <| k_seq <| ?_
  obtain ⟨p32, hb1, hf⟩ := ob hf
  refine awp_cutx (X := {q : Int // p32 = .go q}) (fun q => ([(1, (.int .i64 q.1))], [])) ?_ ?_
  ·refine awp_loop (X := {q : (Int × Nat) // laws_szAtomS_L1 (a_1.drop q.2) q.1 = some p32}) (fun q => ([(0, (.lst 3 (a_1.map encGAtom))), (1, (.int .i64 q.1.1)), (5, (.int .i64 (q.1.2 : Int)))], [])) (fun q => a_1.length - q.1.2) ⟨(w64 (left_2 - (a_1.length : Int)), 0), hb1⟩ ⟨[], [], _, _, rfl, rfl, ⟨.refl _, ⟨.refl _, ⟨.refl _, trivial⟩⟩⟩, (.refl _)⟩ ?_
   rintro ⟨⟨left_21, i_22⟩, hc1⟩
   have hc1 : laws_szAtomS_L1 (a_1.drop i_22) left_21 = some p32 := hc1
   refine (show awp Try.prog false 0 _ (ofL [(0, (.lst 3 (a_1.map encGAtom))), (1, (.int .i64 left_21)), (5, (.int .i64 (i_22 : Int)))]) [] _ from ?_)
   rcases dropc a_1 i_22 with ⟨hie35, hd38⟩ | ⟨hlt33, x_39, hx34, hd38⟩
   ·rw [hd38, laws_szAtomS_L1.eq_1] at hc1
    have hq37 := dlf hie35
    refine awp_seq <| awp_seq <| w_reg <| s_mov (.int .i64 (i_22 : Int)) rfl <| s_mov (.lst 3 (a_1.map encGAtom)) rfl <| s_dof (o_len (enc := encGAtom) rfl) fun hl40 => s_q (.bool (decide ((i_22 : Int) < (a_1.length : Int)))) rfl rfl rfl <| w_done <| k_seq <| w_condf rfl hq37 <| w_exit <| k_seqx <| k_loopx <| k_blkx <| ?_; obtain rfl := os hc1; exact k_cutn ⟨_, rfl⟩ ⟨[], [], _, _, rfl, rfl, ⟨.refl _, trivial⟩, (.refl _)⟩
   ·rw [hd38, laws_szAtomS_L1.eq_2] at hc1
    have hq37 := dlt hlt33
    refine awp_seq <| awp_seq <| w_reg <| s_mov (.int .i64 (i_22 : Int)) rfl <| s_mov (.lst 3 (a_1.map encGAtom)) rfl <| s_dof (o_len (enc := encGAtom) rfl) fun hl41 => s_q (.bool (decide ((i_22 : Int) < (a_1.length : Int)))) rfl rfl rfl <| w_done <| k_seq <| w_condt rfl hq37 <| w_skip <| k_seq <| awp_seq <| w_blk <| awp_seq <| w_reg <| ?_
    obtain ⟨r_42, er43, hc1⟩ := ob hc1
    refine s_mov (.lst 3 (a_1.map encGAtom)) rfl <| s_mov (.int .i64 (i_22 : Int)) rfl <| s_do (o_iaddrn (enc := encGAtom) rfl rfl hx34) <| s_q (encGAtom x_39) rfl nle rfl <| s_mov (.int .i64 left_21) rfl <| s_do (o_call (w_laws_szAtom _ _ _ er43) rfl (.refl _) rfl) <| s_mov (.int .i64 r_42) rfl <| w_done <| k_seq <| awp_seq <| w_reg <| s_mov (.int .i64 r_42) rfl <| s_q (.bool (decide (r_42 < 0))) rfl rfl rfl <| w_done <| k_seq <| ?_
    rcases oi hc1 with ⟨c44, hc1⟩ | ⟨c44, hc1⟩
    ·refine w_condt rfl c44 <| awp_seq <| w_reg <| s_mov (.int .i64 (-1)) rfl <| w_done <| k_seq <| w_ret <| ?_; obtain rfl := os hc1; obtain rfl := os hf; exact r_flat ⟨trivial, trivial⟩ rfl (.refl _)
    ·refine w_condf rfl (bf c44) <| w_skip <| k_blk <| k_seq <| w_reg <| s_mov (.int .i64 (i_22 : Int)) rfl <| s_q (.int .i64 (w64 ((i_22 : Int) + 1))) rfl rfl rfl <| s_mov (.int .i64 (w64 ((i_22 : Int) + 1))) rfl <| w_done <| ?_; exact k_loopn ⟨(r_42, (i_22 + 1)), hc1⟩ (mul hlt33) ⟨[], [], _, _, rfl, rfl, ⟨.refl _, ⟨.refl _, ⟨.of_eq (congrArg (AV.int _) (w64_incr hlt33 hl41)), trivial⟩⟩⟩, (.refl _)⟩
  ·rintro ⟨left_31, rfl⟩
   refine awp_seq <| w_reg <| s_mov (.int .i64 left_31) rfl <| s_mov (.int .i64 left_31) rfl <| w_done <| k_seq <| w_ret <| ?_; obtain rfl := os hf; exact r_flat ⟨trivial, trivial⟩ rfl (.refl _)

/- laws.szAtomSS -/
def c72 : ACode :=
 (.seq (.reg (tm 4 (.c (.int .i64 0)) .done))
 (.seq (.reg (tm 6 (.t 1) (tm 7 (.t 0) (tq 8 (.len (.t 7)) (tq 9 (.bin .sub (.t 6) (.t 8)) (tm 1 (.t 9) .done))))))
 (.seq (.seq (.reg (tm 10 (.t 1) (tq 11 (.bin .lss (.t 10) (.c (.int .i64 0))) .done)))
 (.cond (.t 11) (.seq (.reg (tq 4 (.mov (.c (.int .i64 (-1)))) .done))
 .ret)
 .skip))
 (.seq (.seq (.reg (tm 5 (.c (.int .i64 0)) .done))
 (.block 0 (.loop (.seq (.seq (.reg (tm 12 (.t 5) (tm 13 (.t 0) (tq 14 (.len (.t 13)) (tq 15 (.bin .lss (.t 12) (.t 14)) .done)))))
 (.cond (.t 15) .skip
 (.exit 0)))
 (.seq (.block 1 (.seq (.reg (tm 18 (.t 0) (tm 19 (.t 5) (tq 20 (.iaddr 1 (.t 18) (.t 19)) (tq 21 (.load 1 false (.t 20)) (tm 22 (.t 1) (tq 23 (.call 95 [(.t 21), (.t 22)]) (tm 1 (.t 23) .done))))))))
 (.seq (.reg (tm 24 (.t 1) (tq 25 (.bin .lss (.t 24) (.c (.int .i64 0))) .done)))
 (.cond (.t 25) (.seq (.reg (tq 4 (.mov (.c (.int .i64 (-1)))) .done))
 .ret)
 .skip))))
 (.reg (tm 16 (.t 5) (tq 17 (.bin .add (.t 16) (.c (.int .i64 1))) (tm 5 (.t 17) .done)))))))))
 (.cut (.seq (.reg (tm 26 (.t 1) (tm 4 (.t 26) .done)))
 .ret))))))
theorem fc72 : fcomp Try.prog Try.f72 = some (c72.erase, [.mov (.t 4)], 27) := by kernel_rfl
def laws_szAtomSS_L1  : List (List GAtom) → Int → Option (Fl Int Int)
  | [], left_21 =>
    some (.go left_21)
  | x_39 :: xs, left_21 =>
    (laws_szAtomS x_39 left_21).bind fun r_42 =>
    if (decide (r_42 < 0)) then
    some (.ret (-1))
    else
    laws_szAtomSS_L1 xs r_42 

def laws_szAtomSS (a_1 : (List (List GAtom))) (left_2 : Int) : Option Int :=
    if (decide (w64 (left_2 - (a_1.length : Int)) < 0)) then
    some (-1)
    else
    (laws_szAtomSS_L1 a_1 (w64 (left_2 - (a_1.length : Int)))).bind fun q => (match q with
    | .ret r => some r
    | .go left_31 =>
    some left_31)
theorem w_laws_szAtomSS (a_1 : (List (List GAtom))) (left_2 : Int) (r : Int) (hf : laws_szAtomSS a_1 left_2 = some r) : CallOK Try.prog 72 .flat [(.lst 1 (a_1.map (encL 3 encGAtom))), (.int .i64 left_2)] (.int .i64 r) := by
 refine CallOK.of_awp mixed Try.func72 fc72 nle ?_; rw [argT_eq]; unfold laws_szAtomSS at hf; unfold c72; refine (show awp Try.prog false 0 _ (ofL [(0, (.lst 1 (a_1.map (encL 3 encGAtom)))), (1, (.int .i64 left_2))]) [] _ from ?_); refine awp_seq <| w_reg <| s_mov (.int .i64 0) rfl <| w_done <| k_seq <| awp_seq <| w_reg <| s_mov (.int .i64 left_2) rfl <| s_mov (.lst 1 (a_1.map (encL 3 encGAtom))) rfl <| s_dof (o_len (enc := (encL 3 encGAtom)) rfl) fun hl3 => s_q (.int .i64 (w64 (left_2 - (a_1.length : Int)))) rfl rfl rfl <| s_mov (.int .i64 (w64 (left_2 - (a_1.length : Int)))) rfl <| w_done <| k_seq <| awp_seq <| awp_seq <| w_reg <| s_mov (.int .i64 (w64 (left_2 - (a_1.length : Int)))) rfl <| s_q (.bool (decide (w64 (left_2 - (a_1.length : Int)) < 0))) rfl rfl rfl <| ?_
 refine w_done <| k_seq <| ?_
 rcases oi hf with ⟨c4, hf⟩ | ⟨c4, hf⟩
 ·refine w_condt rfl c4 <| awp_seq <| w_reg <| s_mov (.int .i64 (-1)) rfl <| w_done <| k_seq <| w_ret <| ?_; obtain rfl := os hf; exact r_flat ⟨trivial, trivial⟩ rfl (.refl _)
 ·refine w_condf rfl (bf c4) <| w_skip <| k_seq <| awp_seq <| awp_seq <| w_reg <| s_mov (.int .i64 0) rfl <| w_done <| k_seq <| ?_
  obtain ⟨p32, hb1, hf⟩ := ob hf
  refine awp_cutx (X := {q : Int // p32 = .go q}) (fun q => ([(1, (.int .i64 q.1))], [])) ?_ ?_
  ·refine awp_loop (X := {q : (Int × Nat) // laws_szAtomSS_L1 (a_1.drop q.2) q.1 = some p32}) (fun q => ([(0, (.lst 1 (a_1.map (encL 3 encGAtom)))), (1, (.int .i64 q.1.1)), (5, (.int .i64 (q.1.2 : Int)))], [])) (fun q => a_1.length - q.1.2) ⟨(w64 (left_2 - (a_1.length : Int)), 0), hb1⟩ ⟨[], [], _, _, rfl, rfl, ⟨.refl _, ⟨.refl _, ⟨.refl _, trivial⟩⟩⟩, (.refl _)⟩ ?_
   rintro ⟨⟨left_21, i_22⟩, hc1⟩
   have hc1 : laws_szAtomSS_L1 (a_1.drop i_22) left_21 = some p32 := hc1
   refine (show awp Try.prog false 0 _ (ofL [(0, (.lst 1 (a_1.map (encL 3 encGAtom)))), (1, (.int .i64 left_21)), (5, (.int .i64 (i_22 : Int)))]) [] _ from ?_)
   rcases dropc a_1 i_22 with ⟨hie35, hd38⟩ | ⟨hlt33, x_39, hx34, hd38⟩
   ·rw [hd38, laws_szAtomSS_L1.eq_1] at hc1
    have hq37 := dlf hie35
    refine awp_seq <| awp_seq <| w_reg <| s_mov (.int .i64 (i_22 : Int)) rfl <| s_mov (.lst 1 (a_1.map (encL 3 encGAtom))) rfl <| s_dof (o_len (enc := (encL 3 encGAtom)) rfl) fun hl40 => s_q (.bool (decide ((i_22 : Int) < (a_1.length : Int)))) rfl rfl rfl <| w_done <| k_seq <| w_condf rfl hq37 <| w_exit <| k_seqx <| k_loopx <| k_blkx <| ?_; obtain rfl := os hc1; exact k_cutn ⟨_, rfl⟩ ⟨[], [], _, _, rfl, rfl, ⟨.refl _, trivial⟩, (.refl _)⟩
   ·rw [hd38, laws_szAtomSS_L1.eq_2] at hc1
    have hq37 := dlt hlt33
    refine awp_seq <| awp_seq <| w_reg <| s_mov (.int .i64 (i_22 : Int)) rfl <| s_mov (.lst 1 (a_1.map (encL 3 encGAtom))) rfl <| s_dof (o_len (enc := (encL 3 encGAtom)) rfl) fun hl41 => s_q (.bool (decide ((i_22 : Int) < (a_1.length : Int)))) rfl rfl rfl <| w_done <| k_seq <| w_condt rfl hq37 <| w_skip <| k_seq <| awp_seq <| w_blk <| awp_seq <| w_reg <| ?_
    obtain ⟨r_42, er43, hc1⟩ := ob hc1
    refine s_mov (.lst 1 (a_1.map (encL 3 encGAtom))) rfl <| s_mov (.int .i64 (i_22 : Int)) rfl <| s_do (o_iaddrn (enc := (encL 3 encGAtom)) rfl rfl hx34) <| s_q (.lst 3 (x_39.map encGAtom)) rfl ⟨rfl, rfl⟩ rfl <| s_mov (.int .i64 left_21) rfl <| s_do (o_call (w_laws_szAtomS _ _ _ er43) rfl (.refl _) rfl) <| s_mov (.int .i64 r_42) rfl <| w_done <| k_seq <| awp_seq <| w_reg <| s_mov (.int .i64 r_42) rfl <| s_q (.bool (decide (r_42 < 0))) rfl rfl rfl <| w_done <| k_seq <| ?_
    rcases oi hc1 with ⟨c44, hc1⟩ | ⟨c44, hc1⟩
    ·refine w_condt rfl c44 <| awp_seq <| w_reg <| s_mov (.int .i64 (-1)) rfl <| w_done <| k_seq <| w_ret <| ?_; obtain rfl := os hc1; obtain rfl := os hf; exact r_flat ⟨trivial, trivial⟩ rfl (.refl _)
    ·refine w_condf rfl (bf c44) <| w_skip <| k_blk <| k_seq <| w_reg <| s_mov (.int .i64 (i_22 : Int)) rfl <| s_q (.int .i64 (w64 ((i_22 : Int) + 1))) rfl rfl rfl <| s_mov (.int .i64 (w64 ((i_22 : Int) + 1))) rfl <| w_done <| ?_; exact k_loopn ⟨(r_42, (i_22 + 1)), hc1⟩ (mul hlt33) ⟨[], [], _, _, rfl, rfl, ⟨.refl _, ⟨.refl _, ⟨.of_eq (congrArg (AV.int _) (w64_incr hlt33 hl41)), trivial⟩⟩⟩, (.refl _)⟩
  ·rintro ⟨left_31, rfl⟩
   refine awp_seq <| w_reg <| s_mov (.int .i64 left_31) rfl <| s_mov (.int .i64 left_31) rfl <| w_done <| k_seq <| w_ret <| ?_; obtain rfl := os hf; exact r_flat ⟨trivial, trivial⟩ rfl (.refl _)

/- laws.szRow -/
def c34 : ACode :=
 (.seq (.reg (tq 2 (.box 2 (.t 0)) (tm 4 (.c (.int .i64 0)) .done)))
 (.seq (.reg (tq 5 (.faddr 1 (.t 2)) (tq 6 (.load 1 false (.t 5)) (tm 7 (.t 1) (tq 8 (.call 72 [(.t 6), (.t 7)]) (tm 1 (.t 8) .done))))))
 (.seq (.seq (.reg (tm 9 (.t 1) (tq 10 (.bin .lss (.t 9) (.c (.int .i64 0))) .done)))
 (.cond (.t 10) (.seq (.reg (tq 4 (.mov (.c (.int .i64 (-1)))) .done))
 .ret)
 .skip))
 (.seq (.reg (tm 11 (.t 1) (tm 4 (.t 11) .done)))
 .ret))))
theorem fc34 : fcomp Try.prog Try.f34 = some (c34.erase, [.mov (.t 4)], 12) := by kernel_rfl
def laws_szRow (a_1 : GRow) (left_2 : Int) : Option Int :=
    (laws_szAtomSS a_1.Cells left_2).bind fun r_3 =>
    if (decide (r_3 < 0)) then
    some (-1)
    else
    some r_3
theorem w_laws_szRow (a_1 : GRow) (left_2 : Int) (r : Int) (hf : laws_szRow a_1 left_2 = some r) : CallOK Try.prog 34 .flat [(encGRow a_1), (.int .i64 left_2)] (.int .i64 r) := by
 refine CallOK.of_awp mixed Try.func34 fc34 nle ?_; rw [argT_eq]; unfold laws_szRow at hf; unfold c34; refine (show awp Try.prog false 0 _ (ofL [(0, (encGRow a_1)), (1, (.int .i64 left_2))]) [] _ from ?_); refine awp_seq <| w_reg <| s_do (o_box (j := 0) (c := (.agg [(.int .i64 a_1.Id), (.lst 1 (a_1.Cells.map (encL 3 encGAtom)))])) rfl trivial rfl rfl) <| s_mov (.int .i64 0) rfl <| w_done <| k_seq <| awp_seq <| w_reg <| ?_
 obtain ⟨r_3, er4, hf⟩ := ob hf
 refine s_q (.ptr 0 0 1) rfl trivial rfl <| s_q (.lst 1 (a_1.Cells.map (encL 3 encGAtom))) rfl nle rfl <| s_mov (.int .i64 left_2) rfl <| s_do (o_call (w_laws_szAtomSS _ _ _ er4) rfl (.refl _) rfl) <| s_mov (.int .i64 r_3) rfl <| w_done <| k_seq <| awp_seq <| awp_seq <| w_reg <| s_mov (.int .i64 r_3) rfl <| s_q (.bool (decide (r_3 < 0))) rfl rfl rfl <| w_done <| k_seq <| ?_
 rcases oi hf with ⟨c5, hf⟩ | ⟨c5, hf⟩
 ·refine w_condt rfl c5 <| awp_seq <| w_reg <| s_mov (.int .i64 (-1)) rfl <| w_done <| k_seq <| w_ret <| ?_; obtain rfl := os hf; exact r_flat ⟨trivial, trivial⟩ rfl (.refl _)
 ·refine w_condf rfl (bf c5) <| w_skip <| k_seq <| awp_seq <| w_reg <| s_mov (.int .i64 r_3) rfl <| s_mov (.int .i64 r_3) rfl <| w_done <| k_seq <| w_ret <| ?_; obtain rfl := os hf; exact r_flat ⟨trivial, trivial⟩ rfl (.refl _)

/- laws.szRowS -/
def c7 : ACode :=
 (.seq (.reg (tm 4 (.c (.int .i64 0)) .done))
 (.seq (.reg (tm 6 (.t 1) (tm 7 (.t 0) (tq 8 (.len (.t 7)) (tq 9 (.bin .sub (.t 6) (.t 8)) (tm 1 (.t 9) .done))))))
 (.seq (.seq (.reg (tm 10 (.t 1) (tq 11 (.bin .lss (.t 10) (.c (.int .i64 0))) .done)))
 (.cond (.t 11) (.seq (.reg (tq 4 (.mov (.c (.int .i64 (-1)))) .done))
 .ret)
 .skip))
 (.seq (.seq (.reg (tm 5 (.c (.int .i64 0)) .done))
 (.block 0 (.loop (.seq (.seq (.reg (tm 12 (.t 5) (tm 13 (.t 0) (tq 14 (.len (.t 13)) (tq 15 (.bin .lss (.t 12) (.t 14)) .done)))))
 (.cond (.t 15) .skip
 (.exit 0)))
 (.seq (.block 1 (.seq (.reg (tm 18 (.t 0) (tm 19 (.t 5) (tq 20 (.iaddr 2 (.t 18) (.t 19)) (tq 21 (.load 2 true (.t 20)) (tm 22 (.t 1) (tq 23 (.call 34 [(.t 21), (.t 22)]) (tm 1 (.t 23) .done))))))))
 (.seq (.reg (tm 24 (.t 1) (tq 25 (.bin .lss (.t 24) (.c (.int .i64 0))) .done)))
 (.cond (.t 25) (.seq (.reg (tq 4 (.mov (.c (.int .i64 (-1)))) .done))
 .ret)
 .skip))))
 (.reg (tm 16 (.t 5) (tq 17 (.bin .add (.t 16) (.c (.int .i64 1))) (tm 5 (.t 17) .done)))))))))
 (.cut (.seq (.reg (tm 26 (.t 1) (tm 4 (.t 26) .done)))
 .ret))))))
theorem fc7 : fcomp Try.prog Try.f7 = some (c7.erase, [.mov (.t 4)], 27) := by kernel_rfl
def laws_szRowS_L1  : List GRow → Int → Option (Fl Int Int)
  | [], left_21 =>
    some (.go left_21)
  | x_39 :: xs, left_21 =>
    (laws_szRow x_39 left_21).bind fun r_42 =>
    if (decide (r_42 < 0)) then
    some (.ret (-1))
    else
    laws_szRowS_L1 xs r_42 

def laws_szRowS (a_1 : (List GRow)) (left_2 : Int) : Option Int :=
    if (decide (w64 (left_2 - (a_1.length : Int)) < 0)) then
    some (-1)
    else
    (laws_szRowS_L1 a_1 (w64 (left_2 - (a_1.length : Int)))).bind fun q => (match q with
    | .ret r => some r
    | .go left_31 =>
    some left_31)
theorem w_laws_szRowS (a_1 : (List GRow)) (left_2 : Int) (r : Int) (hf : laws_szRowS a_1 left_2 = some r) : CallOK Try.prog 7 .flat [(.lst 2 (a_1.map encGRow)), (.int .i64 left_2)] (.int .i64 r) := by
 refine CallOK.of_awp mixed Try.func7 fc7 nle ?_; rw [argT_eq]; unfold laws_szRowS at hf; unfold c7; refine (show awp Try.prog false 0 _ (ofL [(0, (.lst 2 (a_1.map encGRow))), (1, (.int .i64 left_2))]) [] _ from ?_); refine awp_seq <| w_reg <| s_mov (.int .i64 0) rfl <| w_done <| k_seq <| awp_seq <| w_reg <| s_mov (.int .i64 left_2) rfl <| s_mov (.lst 2 (a_1.map encGRow)) rfl <| s_dof (o_len (enc := encGRow) rfl) fun hl3 => s_q (.int .i64 (w64 (left_2 - (a_1.length : Int)))) rfl rfl rfl <| s_mov (.int .i64 (w64 (left_2 - (a_1.length : Int)))) rfl <| w_done <| k_seq <| awp_seq <| awp_seq <| w_reg <| s_mov (.int .i64 (w64 (left_2 - (a_1.length : Int)))) rfl <| s_q (.bool (decide (w64 (left_2 - (a_1.length : Int)) < 0))) rfl rfl rfl <| ?_
 refine w_done <| k_seq <| ?_
 rcases oi hf with ⟨c4, hf⟩ | ⟨c4, hf⟩
 ·refine w_condt rfl c4 <| awp_seq <| w_reg <| s_mov (.int .i64 (-1)) rfl <| w_done <| k_seq <| w_ret <| ?_; obtain rfl := os hf; exact r_flat ⟨trivial, trivial⟩ rfl (.refl _)
 ·refine w_condf rfl (bf c4) <| w_skip <| k_seq <| awp_seq <| awp_seq <| w_reg <| s_mov (.int .i64 0) rfl <| w_done <| k_seq <| ?_
  obtain ⟨p32, hb1, hf⟩ := ob hf
  refine awp_cutx (X := {q : Int // p32 = .go q}) (fun q => ([(1, (.int .i64 q.1))], [])) ?_ ?_
  ·refine awp_loop (X := {q : (Int × Nat) // laws_szRowS_L1 (a_1.drop q.2) q.1 = some p32}) (fun q => ([(0, (.lst 2 (a_1.map encGRow))), (1, (.int .i64 q.1.1)), (5, (.int .i64 (q.1.2 : Int)))], [])) (fun q => a_1.length - q.1.2) ⟨(w64 (left_2 - (a_1.length : Int)), 0), hb1⟩ ⟨[], [], _, _, rfl, rfl, ⟨.refl _, ⟨.refl _, ⟨.refl _, trivial⟩⟩⟩, (.refl _)⟩ ?_
   rintro ⟨⟨left_21, i_22⟩, hc1⟩
   have hc1 : laws_szRowS_L1 (a_1.drop i_22) left_21 = some p32 := hc1
   refine (show awp Try.prog false 0 _ (ofL [(0, (.lst 2 (a_1.map encGRow))), (1, (.int .i64 left_21)), (5, (.int .i64 (i_22 : Int)))]) [] _ from ?_)
   rcases dropc a_1 i_22 with ⟨hie35, hd38⟩ | ⟨hlt33, x_39, hx34, hd38⟩
   ·rw [hd38, laws_szRowS_L1.eq_1] at hc1
    have hq37 := dlf hie35
    refine awp_seq <| awp_seq <| w_reg <| s_mov (.int .i64 (i_22 : Int)) rfl <| s_mov (.lst 2 (a_1.map encGRow)) rfl <| s_dof (o_len (enc := encGRow) rfl) fun hl40 => s_q (.bool (decide ((i_22 : Int) < (a_1.length : Int)))) rfl rfl rfl <| w_done <| k_seq <| w_condf rfl hq37 <| w_exit <| k_seqx <| k_loopx <| k_blkx <| ?_; obtain rfl := os hc1; exact k_cutn ⟨_, rfl⟩ ⟨[], [], _, _, rfl, rfl, ⟨.refl _, trivial⟩, (.refl _)⟩
   ·rw [hd38, laws_szRowS_L1.eq_2] at hc1
    have hq37 := dlt hlt33
    refine awp_seq <| awp_seq <| w_reg <| s_mov (.int .i64 (i_22 : Int)) rfl <| s_mov (.lst 2 (a_1.map encGRow)) rfl <| s_dof (o_len (enc := encGRow) rfl) fun hl41 => s_q (.bool (decide ((i_22 : Int) < (a_1.length : Int)))) rfl rfl rfl <| w_done <| k_seq <| w_condt rfl hq37 <| w_skip <| k_seq <| awp_seq <| w_blk <| awp_seq <| w_reg <| ?_
    obtain ⟨r_42, er43, hc1⟩ := ob hc1
    refine s_mov (.lst 2 (a_1.map encGRow)) rfl <| s_mov (.int .i64 (i_22 : Int)) rfl <| s_do (o_iaddrn (enc := encGRow) rfl rfl hx34) <| s_q (encGRow x_39) rfl nle rfl <| s_mov (.int .i64 left_21) rfl <| s_do (o_call (w_laws_szRow _ _ _ er43) rfl (.refl _) rfl) <| s_mov (.int .i64 r_42) rfl <| w_done <| k_seq <| awp_seq <| w_reg <| s_mov (.int .i64 r_42) rfl <| s_q (.bool (decide (r_42 < 0))) rfl rfl rfl <| w_done <| k_seq <| ?_
    rcases oi hc1 with ⟨c44, hc1⟩ | ⟨c44, hc1⟩
    ·refine w_condt rfl c44 <| awp_seq <| w_reg <| s_mov (.int .i64 (-1)) rfl <| w_done <| k_seq <| w_ret <| ?_; obtain rfl := os hc1; obtain rfl := os hf; exact r_flat ⟨trivial, trivial⟩ rfl (.refl _)
    ·refine w_condf rfl (bf c44) <| w_skip <| k_blk <| k_seq <| w_reg <| s_mov (.int .i64 (i_22 : Int)) rfl <| s_q (.int .i64 (w64 ((i_22 : Int) + 1))) rfl rfl rfl <| s_mov (.int .i64 (w64 ((i_22 : Int) + 1))) rfl <| w_done <| ?_; exact k_loopn ⟨(r_42, (i_22 + 1)), hc1⟩ (mul hlt33) ⟨[], [], _, _, rfl, rfl, ⟨.refl _, ⟨.refl _, ⟨.of_eq (congrArg (AV.int _) (w64_incr hlt33 hl41)), trivial⟩⟩⟩, (.refl _)⟩
  ·rintro ⟨left_31, rfl⟩
   refine awp_seq <| w_reg <| s_mov (.int .i64 left_31) rfl <| s_mov (.int .i64 left_31) rfl <| w_done <| k_seq <| w_ret <| ?_; obtain rfl := os hf; exact r_flat ⟨trivial, trivial⟩ rfl (.refl _)

/- laws.szUpdate -/
def c35 : ACode :=
 (.seq (.reg (tq 2 (.box 5 (.t 0)) (tm 4 (.c (.int .i64 0)) .done)))
 (.seq (.reg (tq 5 (.faddr 1 (.t 2)) (tq 6 (.load 2 true (.t 5)) (tm 7 (.t 1) (tq 8 (.call 34 [(.t 6), (.t 7)]) (tm 1 (.t 8) .done))))))
 (.seq (.seq (.reg (tm 9 (.t 1) (tq 10 (.bin .lss (.t 9) (.c (.int .i64 0))) .done)))
 (.cond (.t 10) (.seq (.reg (tq 4 (.mov (.c (.int .i64 (-1)))) .done))
 .ret)
 .skip))
 (.seq (.reg (tq 11 (.faddr 3 (.t 2)) (tq 12 (.load 2 true (.t 11)) (tm 13 (.t 1) (tq 14 (.call 34 [(.t 12), (.t 13)]) (tm 1 (.t 14) .done))))))
 (.seq (.seq (.reg (tm 15 (.t 1) (tq 16 (.bin .lss (.t 15) (.c (.int .i64 0))) .done)))
 (.cond (.t 16) (.seq (.reg (tq 4 (.mov (.c (.int .i64 (-1)))) .done))
 .ret)
 .skip))
 (.seq (.reg (tm 17 (.t 1) (tm 4 (.t 17) .done)))
 .ret))))))
theorem fc35 : fcomp Try.prog Try.f35 = some (c35.erase, [.mov (.t 4)], 18) := by kernel_rfl
def laws_szUpdate (a_1 : GUpdate) (left_2 : Int) : Option Int :=
    (laws_szRow a_1.Old left_2).bind fun r_3 =>
    if (decide (r_3 < 0)) then
    some (-1)
    else
    (laws_szRow a_1.New r_3).bind fun r_6 =>
    if (decide (r_6 < 0)) then
    some (-1)
    else
    some r_6
theorem w_laws_szUpdate (a_1 : GUpdate) (left_2 : Int) (r : Int) (hf : laws_szUpdate a_1 left_2 = some r) : CallOK Try.prog 35 .flat [(encGUpdate a_1), (.int .i64 left_2)] (.int .i64 r) := by
 refine CallOK.of_awp mixed Try.func35 fc35 nle ?_; rw [argT_eq]; unfold laws_szUpdate at hf; unfold c35; refine (show awp Try.prog false 0 _ (ofL [(0, (encGUpdate a_1)), (1, (.int .i64 left_2))]) [] _ from ?_); refine awp_seq <| w_reg <| s_do (o_box (j := 0) (c := (.agg [(.int .i64 a_1.Id), (.int .i64 a_1.Old.Id), (.lst 1 (a_1.Old.Cells.map (encL 3 encGAtom))), (.int .i64 a_1.New.Id), (.lst 1 (a_1.New.Cells.map (encL 3 encGAtom)))])) rfl trivial rfl rfl) <| s_mov (.int .i64 0) rfl <| w_done <| k_seq <| awp_seq <| w_reg <| ?_
 obtain ⟨r_3, er4, hf⟩ := ob hf
 refine s_q (.ptr 0 0 1) rfl trivial rfl <| s_q (.agg [(.int .i64 a_1.Old.Id), (.lst 1 (a_1.Old.Cells.map (encL 3 encGAtom)))]) rfl nle rfl <| s_mov (.int .i64 left_2) rfl <| s_do (o_call (w_laws_szRow _ _ _ er4) rfl (.refl _) rfl) <| s_mov (.int .i64 r_3) rfl <| w_done <| k_seq <| awp_seq <| awp_seq <| w_reg <| s_mov (.int .i64 r_3) rfl <| s_q (.bool (decide (r_3 < 0))) rfl rfl rfl <| w_done <| k_seq <| ?_
 rcases oi hf with ⟨c5, hf⟩ | ⟨c5, hf⟩
 ·refine w_condt rfl c5 <| awp_seq <| w_reg <| s_mov (.int .i64 (-1)) rfl <| w_done <| k_seq <| w_ret <| ?_; obtain rfl := os hf; exact r_flat ⟨trivial, trivial⟩ rfl (.refl _)
 ·refine w_condf rfl (bf c5) <| w_skip <| k_seq <| awp_seq <| w_reg <| ?_
  obtain ⟨r_6, er7, hf⟩ := ob hf
  refine s_q (.ptr 0 0 3) rfl trivial rfl <| s_q (.agg [(.int .i64 a_1.New.Id), (.lst 1 (a_1.New.Cells.map (encL 3 encGAtom)))]) rfl nle rfl <| s_mov (.int .i64 r_3) rfl <| s_do (o_call (w_laws_szRow _ _ _ er7) rfl (.refl _) rfl) <| s_mov (.int .i64 r_6) rfl <| w_done <| k_seq <| awp_seq <| awp_seq <| w_reg <| s_mov (.int .i64 r_6) rfl <| s_q (.bool (decide (r_6 < 0))) rfl rfl rfl <| w_done <| k_seq <| ?_
  rcases oi hf with ⟨c8, hf⟩ | ⟨c8, hf⟩
  ·refine w_condt rfl c8 <| awp_seq <| w_reg <| s_mov (.int .i64 (-1)) rfl <| w_done <| k_seq <| w_ret <| ?_; obtain rfl := os hf; exact r_flat ⟨trivial, trivial⟩ rfl (.refl _)
  ·refine w_condf rfl (bf c8) <| w_skip <| k_seq <| awp_seq <| w_reg <| s_mov (.int .i64 r_6) rfl <| s_mov (.int .i64 r_6) rfl <| w_done <| k_seq <| w_ret <| ?_; obtain rfl := os hf; exact r_flat ⟨trivial, trivial⟩ rfl (.refl _)

/- laws.szUpdateS -/
def c8 : ACode :=
 (.seq (.reg (tm 4 (.c (.int .i64 0)) .done))
 (.seq (.reg (tm 6 (.t 1) (tm 7 (.t 0) (tq 8 (.len (.t 7)) (tq 9 (.bin .sub (.t 6) (.t 8)) (tm 1 (.t 9) .done))))))
 (.seq (.seq (.reg (tm 10 (.t 1) (tq 11 (.bin .lss (.t 10) (.c (.int .i64 0))) .done)))
 (.cond (.t 11) (.seq (.reg (tq 4 (.mov (.c (.int .i64 (-1)))) .done))
 .ret)
 .skip))
 (.seq (.seq (.reg (tm 5 (.c (.int .i64 0)) .done))
 (.block 0 (.loop (.seq (.seq (.reg (tm 12 (.t 5) (tm 13 (.t 0) (tq 14 (.len (.t 13)) (tq 15 (.bin .lss (.t 12) (.t 14)) .done)))))
 (.cond (.t 15) .skip
 (.exit 0)))
 (.seq (.block 1 (.seq (.reg (tm 18 (.t 0) (tm 19 (.t 5) (tq 20 (.iaddr 5 (.t 18) (.t 19)) (tq 21 (.load 5 true (.t 20)) (tm 22 (.t 1) (tq 23 (.call 35 [(.t 21), (.t 22)]) (tm 1 (.t 23) .done))))))))
 (.seq (.reg (tm 24 (.t 1) (tq 25 (.bin .lss (.t 24) (.c (.int .i64 0))) .done)))
 (.cond (.t 25) (.seq (.reg (tq 4 (.mov (.c (.int .i64 (-1)))) .done))
 .ret)
 .skip))))
 (.reg (tm 16 (.t 5) (tq 17 (.bin .add (.t 16) (.c (.int .i64 1))) (tm 5 (.t 17) .done)))))))))
 (.cut (.seq (.reg (tm 26 (.t 1) (tm 4 (.t 26) .done)))
 .ret))))))
theorem fc8 : fcomp Try.prog Try.f8 = some (c8.erase, [.mov (.t 4)], 27) := by kernel_rfl
def laws_szUpdateS_L1  : List GUpdate → Int → Option (Fl Int Int)
  | [], left_21 =>
    some (.go left_21)
  | x_39 :: xs, left_21 =>
    (laws_szUpdate x_39 left_21).bind fun r_42 =>
    if (decide (r_42 < 0)) then
    some (.ret (-1))
    else
    laws_szUpdateS_L1 xs r_42 

def laws_szUpdateS (a_1 : (List GUpdate)) (left_2 : Int) : Option Int :=
    if (decide (w64 (left_2 - (a_1.length : Int)) < 0)) then
    some (-1)
    else
    (laws_szUpdateS_L1 a_1 (w64 (left_2 - (a_1.length : Int)))).bind fun q => (match q with
    | .ret r => some r
    | .go left_31 =>
    some left_31)
theorem w_laws_szUpdateS (a_1 : (List GUpdate)) (left_2 : Int) (r : Int) (hf : laws_szUpdateS a_1 left_2 = some r) : CallOK Try.prog 8 .flat [(.lst 5 (a_1.map encGUpdate)), (.int .i64 left_2)] (.int .i64 r) := by
 refine CallOK.of_awp mixed Try.func8 fc8 nle ?_; rw [argT_eq]; unfold laws_szUpdateS at hf; unfold c8; refine (show awp Try.prog false 0 _ (ofL [(0, (.lst 5 (a_1.map encGUpdate))), (1, (.int .i64 left_2))]) [] _ from ?_); refine awp_seq <| w_reg <| s_mov (.int .i64 0) rfl <| w_done <| k_seq <| awp_seq <| w_reg <| s_mov (.int .i64 left_2) rfl <| s_mov (.lst 5 (a_1.map encGUpdate)) rfl <| s_dof (o_len (enc := encGUpdate) rfl) fun hl3 => s_q (.int .i64 (w64 (left_2 - (a_1.length : Int)))) rfl rfl rfl <| s_mov (.int .i64 (w64 (left_2 - (a_1.length : Int)))) rfl <| w_done <| k_seq <| awp_seq <| awp_seq <| w_reg <| s_mov (.int .i64 (w64 (left_2 - (a_1.length : Int)))) rfl <| s_q (.bool (decide (w64 (left_2 - (a_1.length : Int)) < 0))) rfl rfl rfl <| ?_
 refine w_done <| k_seq <| ?_
 rcases oi hf with ⟨c4, hf⟩ | ⟨c4, hf⟩
 ·refine w_condt rfl c4 <| awp_seq <| w_reg <| s_mov (.int .i64 (-1)) rfl <| w_done <| k_seq <| w_ret <| ?_; obtain rfl := os hf; exact r_flat ⟨trivial, trivial⟩ rfl (.refl _)
 ·refine w_condf rfl (bf c4) <| w_skip <| k_seq <| awp_seq <| awp_seq <| w_reg <| s_mov (.int .i64 0) rfl <| w_done <| k_seq <| ?_
  obtain ⟨p32, hb1, hf⟩ := ob hf
  refine awp_cutx (X := {q : Int // p32 = .go q}) (fun q => ([(1, (.int .i64 q.1))], [])) ?_ ?_
  ·refine awp_loop (X := {q : (Int × Nat) // laws_szUpdateS_L1 (a_1.drop q.2) q.1 = some p32}) (fun q => ([(0, (.lst 5 (a_1.map encGUpdate))), (1, (.int .i64 q.1.1)), (5, (.int .i64 (q.1.2 : Int)))], [])) (fun q => a_1.length - q.1.2) ⟨(w64 (left_2 - (a_1.length : Int)), 0), hb1⟩ ⟨[], [], _, _, rfl, rfl, ⟨.refl _, ⟨.refl _, ⟨.refl _, trivial⟩⟩⟩, (.refl _)⟩ ?_
   rintro ⟨⟨left_21, i_22⟩, hc1⟩
   have hc1 : laws_szUpdateS_L1 (a_1.drop i_22) left_21 = some p32 := hc1
   refine (show awp Try.prog false 0 _ (ofL [(0, (.lst 5 (a_1.map encGUpdate))), (1, (.int .i64 left_21)), (5, (.int .i64 (i_22 : Int)))]) [] _ from ?_)
   rcases dropc a_1 i_22 with ⟨hie35, hd38⟩ | ⟨hlt33, x_39, hx34, hd38⟩
   ·rw [hd38, laws_szUpdateS_L1.eq_1] at hc1
    have hq37 := dlf hie35
    refine awp_seq <| awp_seq <| w_reg <| s_mov (.int .i64 (i_22 : Int)) rfl <| s_mov (.lst 5 (a_1.map encGUpdate)) rfl <| s_dof (o_len (enc := encGUpdate) rfl) fun hl40 => s_q (.bool (decide ((i_22 : Int) < (a_1.length : Int)))) rfl rfl rfl <| w_done <| k_seq <| w_condf rfl hq37 <| w_exit <| k_seqx <| k_loopx <| k_blkx <| ?_; obtain rfl := os hc1; exact k_cutn ⟨_, rfl⟩ ⟨[], [], _, _, rfl, rfl, ⟨.refl _, trivial⟩, (.refl _)⟩
   ·rw [hd38, laws_szUpdateS_L1.eq_2] at hc1
    have hq37 := dlt hlt33
    refine awp_seq <| awp_seq <| w_reg <| s_mov (.int .i64 (i_22 : Int)) rfl <| s_mov (.lst 5 (a_1.map encGUpdate)) rfl <| s_dof (o_len (enc := encGUpdate) rfl) fun hl41 => s_q (.bool (decide ((i_22 : Int) < (a_1.length : Int)))) rfl rfl rfl <| w_done <| k_seq <| w_condt rfl hq37 <| w_skip <| k_seq <| awp_seq <| w_blk <| awp_seq <| w_reg <| ?_
    obtain ⟨r_42, er43, hc1⟩ := ob hc1
    refine s_mov (.lst 5 (a_1.map encGUpdate)) rfl <| s_mov (.int .i64 (i_22 : Int)) rfl <| s_do (o_iaddrn (enc := encGUpdate) rfl rfl hx34) <| s_q (encGUpdate x_39) rfl nle rfl <| s_mov (.int .i64 left_21) rfl <| s_do (o_call (w_laws_szUpdate _ _ _ er43) rfl (.refl _) rfl) <| s_mov (.int .i64 r_42) rfl <| w_done <| k_seq <| awp_seq <| w_reg <| s_mov (.int .i64 r_42) rfl <| s_q (.bool (decide (r_42 < 0))) rfl rfl rfl <| w_done <| k_seq <| ?_
    rcases oi hc1 with ⟨c44, hc1⟩ | ⟨c44, hc1⟩
    ·refine w_condt rfl c44 <| awp_seq <| w_reg <| s_mov (.int .i64 (-1)) rfl <| w_done <| k_seq <| w_ret <| ?_; obtain rfl := os hc1; obtain rfl := os hf; exact r_flat ⟨trivial, trivial⟩ rfl (.refl _)
    ·refine w_condf rfl (bf c44) <| w_skip <| k_blk <| k_seq <| w_reg <| s_mov (.int .i64 (i_22 : Int)) rfl <| s_q (.int .i64 (w64 ((i_22 : Int) + 1))) rfl rfl rfl <| s_mov (.int .i64 (w64 ((i_22 : Int) + 1))) rfl <| w_done <| ?_; exact k_loopn ⟨(r_42, (i_22 + 1)), hc1⟩ (mul hlt33) ⟨[], [], _, _, rfl, rfl, ⟨.refl _, ⟨.refl _, ⟨.of_eq (congrArg (AV.int _) (w64_incr hlt33 hl41)), trivial⟩⟩⟩, (.refl _)⟩
  ·rintro ⟨left_31, rfl⟩
   refine awp_seq <| w_reg <| s_mov (.int .i64 left_31) rfl <| s_mov (.int .i64 left_31) rfl <| w_done <| k_seq <| w_ret <| ?_; obtain rfl := os hf; exact r_flat ⟨trivial, trivial⟩ rfl (.refl _)

/- laws.toAtom -/
def c111 : ACode :=
 (.seq (.reg (tq 1 (.box 3 (.t 0)) (tq 2 (.box 3 (.c (.agg [(.int .i64 0), (.int .i64 0), (.str [])]))) .done)))
 (.seq (.reg (tq 3 (.box 3 (.c (.agg [(.int .i64 0), (.int .i64 0), (.str [])]))) .done))
 (.seq (.reg (tq 4 (.faddr 0 (.t 1)) (tq 5 (.load 1 false (.t 4)) (tq 6 (.faddr 0 (.t 3)) (.q ⟨none, none, .store 1 (.t 6) (.t 5)⟩
 .done)))))
 (.seq (.reg (tq 7 (.faddr 1 (.t 1)) (tq 8 (.load 1 false (.t 7)) (tq 9 (.faddr 1 (.t 3)) (.q ⟨none, none, .store 1 (.t 9) (.t 8)⟩
 .done)))))
 (.seq (.reg (tq 10 (.faddr 2 (.t 1)) (tq 11 (.load 1 false (.t 10)) (tq 12 (.faddr 2 (.t 3)) (.q ⟨none, none, .store 1 (.t 12) (.t 11)⟩
 .done)))))
 (.seq (.reg (tq 13 (.load 3 true (.t 3)) (.q ⟨none, none, .store 3 (.t 2) (.t 13)⟩
 .done)))
 .ret))))))
theorem fc111 : fcomp Try.prog Try.f111 = some (c111.erase, [.load 3 true (.t 2)], 14) := by kernel_rfl
def laws_toAtom (a_1 : GAtom) : Option GAtom :=
    some a_1
theorem w_laws_toAtom (a_1 : GAtom) (r : GAtom) (hf : laws_toAtom a_1 = some r) : CallOK Try.prog 111 .flat [(encGAtom a_1)] (encGAtom r) := by
 refine CallOK.of_awp mixed Try.func111 fc111 nle ?_; rw [argT_eq]; unfold laws_toAtom at hf; unfold c111; refine (show awp Try.prog false 0 _ (ofL [(0, (encGAtom a_1))]) [] _ from ?_); refine awp_seq <| w_reg <| s_do (o_box (j := 0) (c := (.agg [(.int .i64 a_1.Kind), (.int .i64 a_1.N), (.str a_1.T)])) rfl trivial rfl rfl) <| s_do (o_box (j := 1) (c := (.agg [(.int .i64 0), (.int .i64 0), (.str [])])) rfl trivial rfl rfl) <| w_done <| k_seq <| awp_seq <| w_reg <| s_do (o_box (j := 2) (c := (.agg [(.int .i64 0), (.int .i64 0), (.str [])])) rfl trivial rfl rfl) <| w_done <| k_seq <| awp_seq <| w_reg <| s_q (.ptr 0 0 0) rfl trivial rfl <| s_q (.int .i64 a_1.Kind) rfl nle rfl <| s_q (.ptr 2 0 0) rfl trivial rfl <| s_do0 (o_storebox (v := (.int .i64 a_1.Kind)) (y' := (.agg [(.int .i64 a_1.Kind), (.int .i64 0), (.str [])])) rfl rfl rfl trivial ⟨rfl, nle⟩ ⟨⟨rfl, trivial⟩, trivial⟩ rfl) <| ?_
 refine w_done <| k_seq <| awp_seq <| w_reg <| s_q (.ptr 0 0 1) rfl trivial rfl <| s_q (.int .i64 a_1.N) rfl nle rfl <| s_q (.ptr 2 0 1) rfl trivial rfl <| s_do0 (o_storebox (v := (.int .i64 a_1.N)) (y' := (.agg [(.int .i64 a_1.Kind), (.int .i64 a_1.N), (.str [])])) rfl rfl rfl trivial ⟨rfl, nle⟩ ⟨⟨rfl, trivial⟩, trivial⟩ rfl) <| w_done <| k_seq <| awp_seq <| w_reg <| s_q (.ptr 0 0 2) rfl trivial rfl <| s_q (.str a_1.T) rfl nle rfl <| s_q (.ptr 2 0 2) rfl trivial rfl <| s_do0 (o_storebox (v := (.str a_1.T)) (y' := (.agg [(.int .i64 a_1.Kind), (.int .i64 a_1.N), (.str a_1.T)])) rfl rfl rfl trivial ⟨rfl, nle⟩ ⟨⟨rfl, trivial⟩, trivial⟩ rfl) <| w_done <| k_seq <| awp_seq <| w_reg <| s_q (.agg [(.int .i64 a_1.Kind), (.int .i64 a_1.N), (.str a_1.T)]) rfl nle rfl <| ?_
 refine s_do0 (o_storebox (v := (.agg [(.int .i64 a_1.Kind), (.int .i64 a_1.N), (.str a_1.T)])) (y' := (.agg [(.int .i64 a_1.Kind), (.int .i64 a_1.N), (.str a_1.T)])) rfl rfl rfl trivial ⟨rfl, nle⟩ ⟨⟨rfl, trivial⟩, ⟨⟨rfl, trivial⟩, ⟨⟨rfl, trivial⟩, trivial⟩⟩⟩ rfl) <| w_done <| k_seq <| w_ret <| ?_; obtain rfl := os hf; exact r_flat ⟨nle, trivial⟩ rfl (.refl _)

/- laws.toAtomS -/
def c96 : ACode :=
 (.seq (.reg (tm 2 (.c .nil) .done))
 (.seq (.reg (tm 5 (.t 0) (tq 6 (.len (.t 5)) (tq 7 (.mkslice 3 32 (.agg [(.int .i64 0), (.int .i64 0), (.str [])]) (.t 6) (.t 6)) (tm 3 (.t 7) .done)))))
 (.seq (.seq (.reg (tm 4 (.c (.int .i64 0)) .done))
 (.block 0 (.loop (.seq (.seq (.reg (tm 8 (.t 4) (tm 9 (.t 0) (tq 10 (.len (.t 9)) (tq 11 (.bin .lss (.t 8) (.t 10)) .done)))))
 (.cond (.t 11) .skip
 (.exit 0)))
 (.seq (.block 1 (.reg (tm 14 (.t 3) (tm 15 (.t 4) (tm 16 (.t 0) (tm 17 (.t 4) (tq 18 (.iaddr 3 (.t 16) (.t 17)) (tq 19 (.load 3 true (.t 18)) (tq 20 (.call 111 [(.t 19)]) (tq 21 (.iaddr 3 (.t 14) (.t 15)) (.q ⟨none, none, .store 3 (.t 21) (.t 20)⟩
 .done)))))))))))
 (.reg (tm 12 (.t 4) (tq 13 (.bin .add (.t 12) (.c (.int .i64 1))) (tm 4 (.t 13) .done)))))))))
 (.cut (.seq (.reg (tm 22 (.t 3) (tm 2 (.t 22) .done)))
 .ret)))))
theorem fc96 : fcomp Try.prog Try.f96 = some (c96.erase, [.mov (.t 2)], 23) := by kernel_rfl
def laws_toAtomS_L1  : List GAtom → Nat → (List GAtom) → Option (List GAtom)
  | [], i_24, out_25 =>
    some out_25
  | x_44 :: xs, i_24, out_25 =>
    (laws_toAtom x_44).bind fun r_47 =>
    if i_24 < out_25.length then
    (out_25[i_24]?).bind fun x_50 =>
    laws_toAtomS_L1 xs (i_24 + 1) (out_25.set i_24 r_47)
    else none

def laws_toAtomS (a_1 : (List GAtom)) : Option (List GAtom) :=
    if (a_1.length : Int) ≤ 2 ^ 30 then
    (laws_toAtomS_L1 a_1 0 (List.replicate a_1.length (⟨0, 0, []⟩ : GAtom))).bind fun out_36 =>
    some out_36
    else none
theorem w_laws_toAtomS (a_1 : (List GAtom)) (r : (List GAtom)) (hf : laws_toAtomS a_1 = some r) : CallOK Try.prog 96 .fresh [(.lst 3 (a_1.map encGAtom))] (.lst 3 (r.map encGAtom)) := by
 refine CallOK.of_awp mixed Try.func96 fc96 nle ?_; rw [argT_eq]; unfold laws_toAtomS at hf; unfold c96; refine (show awp Try.prog true 0 _ (ofL [(0, (.lst 3 (a_1.map encGAtom)))]) [] _ from ?_); refine awp_seq <| w_reg <| s_mov .nil rfl <| w_done <| k_seq <| awp_seq <| w_reg <| ?_
 obtain ⟨g3, hf⟩ := og hf
 refine s_mov (.lst 3 (a_1.map encGAtom)) rfl <| s_dof (o_len (enc := encGAtom) rfl) fun hl2 => s_do (o_mkslice (j := 0) (enc := encGAtom) (m := a_1.length) (⟨0, 0, []⟩ : GAtom) (.refl _) rfl rfl (Int.le_refl _) g3 rfl) <| s_mov (.own 0 0 a_1.length) rfl <| w_done <| k_seq <| awp_seq <| awp_seq <| w_reg <| s_mov (.int .i64 0) rfl <| w_done <| k_seq <| ?_
 obtain ⟨out_36, hb1, hf⟩ := ob hf
 refine awp_cut ([(3, (.own 0 0 out_36.length))], [.row 3 (out_36.map encGAtom)]) ?_ ?_
 ·refine awp_loop (X := {q : (Nat × (List GAtom)) // laws_toAtomS_L1 (a_1.drop q.1) q.1 q.2 = some out_36}) (fun q => ([(0, (.lst 3 (a_1.map encGAtom))), (3, (.own 0 0 q.1.2.length)), (4, (.int .i64 (q.1.1 : Int)))], [.row 3 (q.1.2.map encGAtom)])) (fun q => a_1.length - q.1.1) ⟨(0, List.replicate a_1.length (⟨0, 0, []⟩ : GAtom)), hb1⟩ ⟨[], [0], _, _, rfl, rfl, ⟨.refl _, ⟨.of_eq (congrArg (AV.own _ 0) (by simp)), ⟨.refl _, trivial⟩⟩⟩, (.refl _)⟩ ?_
  rintro ⟨⟨i_24, out_25⟩, hc1⟩
  have hc1 : laws_toAtomS_L1 (a_1.drop i_24) i_24 out_25 = some out_36 := hc1
  refine (show awp Try.prog true 0 _ (ofL [(0, (.lst 3 (a_1.map encGAtom))), (3, (.own 0 0 out_25.length)), (4, (.int .i64 (i_24 : Int)))]) [.row 3 (out_25.map encGAtom)] _ from ?_)
  rcases dropc a_1 i_24 with ⟨hie40, hd43⟩ | ⟨hlt38, x_44, hx39, hd43⟩
  ·rw [hd43, laws_toAtomS_L1.eq_1] at hc1
   have hq42 := dlf hie40
   refine awp_seq <| awp_seq <| w_reg <| s_mov (.int .i64 (i_24 : Int)) rfl <| s_mov (.lst 3 (a_1.map encGAtom)) rfl <| s_dof (o_len (enc := encGAtom) rfl) fun hl45 => s_q (.bool (decide ((i_24 : Int) < (a_1.length : Int)))) rfl rfl rfl <| w_done <| k_seq <| w_condf rfl hq42 <| w_exit <| k_seqx <| k_loopx <| k_blkx <| ?_; obtain rfl := os hc1; exact ⟨[], [0], _, _, rfl, rfl, ⟨.refl _, trivial⟩, (.refl _)⟩
  ·rw [hd43, laws_toAtomS_L1.eq_2] at hc1
   have hq42 := dlt hlt38
   refine awp_seq <| awp_seq <| w_reg <| s_mov (.int .i64 (i_24 : Int)) rfl <| s_mov (.lst 3 (a_1.map encGAtom)) rfl <| s_dof (o_len (enc := encGAtom) rfl) fun hl46 => s_q (.bool (decide ((i_24 : Int) < (a_1.length : Int)))) rfl rfl rfl <| w_done <| k_seq <| w_condt rfl hq42 <| w_skip <| k_seq <| awp_seq <| w_blk <| w_reg <| ?_
   obtain ⟨r_47, er48, hc1⟩ := ob hc1
   obtain ⟨g49, hc1⟩ := og hc1
   obtain ⟨x_50, ex51, hc1⟩ := ob hc1
   refine s_mov (.own 0 0 out_25.length) rfl <| s_mov (.int .i64 (i_24 : Int)) rfl <| s_mov (.lst 3 (a_1.map encGAtom)) rfl <| s_mov (.int .i64 (i_24 : Int)) rfl <| s_do (o_iaddrn (enc := encGAtom) rfl rfl hx39) <| s_q (encGAtom x_44) rfl nle rfl <| s_do (o_call (w_laws_toAtom _ _ er48) rfl (.refl _) rfl) <| s_do (o_iaddrownn rfl rfl g49 rfl rfl) <| ?_; refine s_do0 (o_storerow (v' := (encGAtom r_47)) (e' := r_47) rfl rfl ex51 rfl rfl rfl (by decide) (fun _ => by decide) ⟨rfl, nle⟩ (.refl _) rfl) ?_; refine w_done <| k_blk <| k_seq <| w_reg <| s_mov (.int .i64 (i_24 : Int)) rfl <| s_q (.int .i64 (w64 ((i_24 : Int) + 1))) rfl rfl rfl <| s_mov (.int .i64 (w64 ((i_24 : Int) + 1))) rfl <| w_done <| ?_; exact k_loopn ⟨((i_24 + 1), out_25.set i_24 r_47), hc1⟩ (mul hlt38) ⟨[], [0], _, _, rfl, rfl, ⟨.refl _, ⟨.of_eq (congrArg (AV.own _ 0) (by simp)), ⟨.of_eq (congrArg (AV.int _) (w64_incr hlt38 hl46)), trivial⟩⟩⟩, (.refl _)⟩
 ·refine awp_seq <| w_reg <| s_mov (.own 0 0 out_36.length) rfl <| s_mov (.own 0 0 out_36.length) rfl <| w_done <| k_seq <| w_ret <| ?_; obtain rfl := os hf; exact r_fresh ⟨trivial, trivial⟩ rfl (by decide) (.of_eq (congrArg (AV.lst _) (tk (enc := encGAtom) out_36)))

/- laws.toAtomSS -/
def c75 : ACode :=
 (.seq (.reg (tm 2 (.c .nil) .done))
 (.seq (.reg (tm 5 (.t 0) (tq 6 (.len (.t 5)) (tq 7 (.mkslice 1 24 .nil (.t 6) (.t 6)) (tm 3 (.t 7) .done)))))
 (.seq (.seq (.reg (tm 4 (.c (.int .i64 0)) .done))
 (.block 0 (.loop (.seq (.seq (.reg (tm 8 (.t 4) (tm 9 (.t 0) (tq 10 (.len (.t 9)) (tq 11 (.bin .lss (.t 8) (.t 10)) .done)))))
 (.cond (.t 11) .skip
 (.exit 0)))
 (.seq (.block 1 (.reg (tm 14 (.t 3) (tm 15 (.t 4) (tm 16 (.t 0) (tm 17 (.t 4) (tq 18 (.iaddr 1 (.t 16) (.t 17)) (tq 19 (.load 1 false (.t 18)) (tq 20 (.call 96 [(.t 19)]) (tq 21 (.iaddr 1 (.t 14) (.t 15)) (.q ⟨none, none, .store 1 (.t 21) (.t 20)⟩
 .done)))))))))))
 (.reg (tm 12 (.t 4) (tq 13 (.bin .add (.t 12) (.c (.int .i64 1))) (tm 4 (.t 13) .done)))))))))
 (.cut (.seq (.reg (tm 22 (.t 3) (tm 2 (.t 22) .done)))
 .ret)))))
theorem fc75 : fcomp Try.prog Try.f75 = some (c75.erase, [.mov (.t 2)], 23) := by kernel_rfl
def laws_toAtomSS_L1  : List (List GAtom) → Nat → (List (List GAtom)) → Option (List (List GAtom))
  | [], i_24, out_25 =>
    some out_25
  | x_44 :: xs, i_24, out_25 =>
    (laws_toAtomS x_44).bind fun r_47 =>
    if i_24 < out_25.length then
    (out_25[i_24]?).bind fun x_50 =>
    laws_toAtomSS_L1 xs (i_24 + 1) (out_25.set i_24 r_47)
    else none

def laws_toAtomSS (a_1 : (List (List GAtom))) : Option (List (List GAtom)) :=
    if (a_1.length : Int) ≤ 2 ^ 30 then
    (laws_toAtomSS_L1 a_1 0 (List.replicate a_1.length [])).bind fun out_36 =>
    some out_36
    else none
theorem w_laws_toAtomSS (a_1 : (List (List GAtom))) (r : (List (List GAtom))) (hf : laws_toAtomSS a_1 = some r) : CallOK Try.prog 75 .fresh [(.lst 1 (a_1.map (encL 3 encGAtom)))] (.lst 1 (r.map (encL 3 encGAtom))) := by
 refine CallOK.of_awp mixed Try.func75 fc75 nle ?_; rw [argT_eq]; unfold laws_toAtomSS at hf; unfold c75; refine (show awp Try.prog true 0 _ (ofL [(0, (.lst 1 (a_1.map (encL 3 encGAtom))))]) [] _ from ?_); refine awp_seq <| w_reg <| s_mov .nil rfl <| w_done <| k_seq <| awp_seq <| w_reg <| ?_
 obtain ⟨g3, hf⟩ := og hf
 refine s_mov (.lst 1 (a_1.map (encL 3 encGAtom))) rfl <| s_dof (o_len (enc := (encL 3 encGAtom)) rfl) fun hl2 => s_do (o_mkslice (j := 0) (enc := (encL 3 encGAtom)) (m := a_1.length) [] (.nil _) rfl rfl (Int.le_refl _) g3 rfl) <| s_mov (.own 0 0 a_1.length) rfl <| w_done <| k_seq <| awp_seq <| awp_seq <| w_reg <| s_mov (.int .i64 0) rfl <| w_done <| k_seq <| ?_
 obtain ⟨out_36, hb1, hf⟩ := ob hf
 refine awp_cut ([(3, (.own 0 0 out_36.length))], [.row 1 (out_36.map (encL 3 encGAtom))]) ?_ ?_
 ·refine awp_loop (X := {q : (Nat × (List (List GAtom))) // laws_toAtomSS_L1 (a_1.drop q.1) q.1 q.2 = some out_36}) (fun q => ([(0, (.lst 1 (a_1.map (encL 3 encGAtom)))), (3, (.own 0 0 q.1.2.length)), (4, (.int .i64 (q.1.1 : Int)))], [.row 1 (q.1.2.map (encL 3 encGAtom))])) (fun q => a_1.length - q.1.1) ⟨(0, List.replicate a_1.length []), hb1⟩ ⟨[], [0], _, _, rfl, rfl, ⟨.refl _, ⟨.of_eq (congrArg (AV.own _ 0) (by simp)), ⟨.refl _, trivial⟩⟩⟩, (.refl _)⟩ ?_
  rintro ⟨⟨i_24, out_25⟩, hc1⟩
  have hc1 : laws_toAtomSS_L1 (a_1.drop i_24) i_24 out_25 = some out_36 := hc1
  refine (show awp Try.prog true 0 _ (ofL [(0, (.lst 1 (a_1.map (encL 3 encGAtom)))), (3, (.own 0 0 out_25.length)), (4, (.int .i64 (i_24 : Int)))]) [.row 1 (out_25.map (encL 3 encGAtom))] _ from ?_)
  rcases dropc a_1 i_24 with ⟨hie40, hd43⟩ | ⟨hlt38, x_44, hx39, hd43⟩
  ·rw [hd43, laws_toAtomSS_L1.eq_1] at hc1
   have hq42 := dlf hie40
   refine awp_seq <| awp_seq <| w_reg <| s_mov (.int .i64 (i_24 : Int)) rfl <| s_mov (.lst 1 (a_1.map (encL 3 encGAtom))) rfl <| s_dof (o_len (enc := (encL 3 encGAtom)) rfl) fun hl45 => s_q (.bool (decide ((i_24 : Int) < (a_1.length : Int)))) rfl rfl rfl <| w_done <| k_seq <| w_condf rfl hq42 <| w_exit <| k_seqx <| k_loopx <| k_blkx <| ?_; obtain rfl := os hc1; exact ⟨[], [0], _, _, rfl, rfl, ⟨.refl _, trivial⟩, (.refl _)⟩
  ·rw [hd43, laws_toAtomSS_L1.eq_2] at hc1
   have hq42 := dlt hlt38
   refine awp_seq <| awp_seq <| w_reg <| s_mov (.int .i64 (i_24 : Int)) rfl <| s_mov (.lst 1 (a_1.map (encL 3 encGAtom))) rfl <| s_dof (o_len (enc := (encL 3 encGAtom)) rfl) fun hl46 => s_q (.bool (decide ((i_24 : Int) < (a_1.length : Int)))) rfl rfl rfl <| w_done <| k_seq <| w_condt rfl hq42 <| w_skip <| k_seq <| awp_seq <| w_blk <| w_reg <| ?_
   obtain ⟨r_47, er48, hc1⟩ := ob hc1
   obtain ⟨g49, hc1⟩ := og hc1
   obtain ⟨x_50, ex51, hc1⟩ := ob hc1
   refine s_mov (.own 0 0 out_25.length) rfl <| s_mov (.int .i64 (i_24 : Int)) rfl <| s_mov (.lst 1 (a_1.map (encL 3 encGAtom))) rfl <| s_mov (.int .i64 (i_24 : Int)) rfl <| s_do (o_iaddrn (enc := (encL 3 encGAtom)) rfl rfl hx39) <| s_q (.lst 3 (x_44.map encGAtom)) rfl ⟨rfl, rfl⟩ rfl <| s_do (o_callf (v := (.own 1 0 r_47.length)) (h' := [.row 3 (r_47.map encGAtom)]) (w_laws_toAtomS _ _ er48) rfl (.refl _) (by simp only [openV, openVs, List.length_map, List.nil_append, List.append_nil, List.cons_append]; rfl)) <| s_do (o_iaddrownn rfl rfl g49 rfl rfl) <| ?_
   refine s_do0 (o_storerow (v' := (.lst 3 (r_47.map encGAtom))) (e' := r_47) rfl rfl ex51 rfl rfl (by first | (simp only [tk, tko, List.take_length]; done) | rfl | simp) (by decide) (fun _ => by decide) ⟨rfl, rfl, rfl⟩ (.refl _) rfl) ?_
   refine w_done <| k_blk <| k_seq <| w_reg <| s_mov (.int .i64 (i_24 : Int)) rfl <| s_q (.int .i64 (w64 ((i_24 : Int) + 1))) rfl rfl rfl <| s_mov (.int .i64 (w64 ((i_24 : Int) + 1))) rfl <| w_done <| ?_; exact k_loopn ⟨((i_24 + 1), out_25.set i_24 r_47), hc1⟩ (mul hlt38) ⟨[], [0], _, _, rfl, rfl, ⟨.refl _, ⟨.of_eq (congrArg (AV.own _ 0) (by simp)), ⟨.of_eq (congrArg (AV.int _) (w64_incr hlt38 hl46)), trivial⟩⟩⟩, (.refl _)⟩
 ·refine awp_seq <| w_reg <| s_mov (.own 0 0 out_36.length) rfl <| s_mov (.own 0 0 out_36.length) rfl <| w_done <| k_seq <| w_ret <| ?_; obtain rfl := os hf; exact r_fresh ⟨trivial, trivial⟩ rfl (by decide) (.of_eq (congrArg (AV.lst _) (tk (enc := (encL 3 encGAtom)) out_36)))

/- laws.toRow -/
def c44 : ACode :=
 (.seq (.reg (tq 1 (.box 2 (.t 0)) (tq 2 (.box 2 (.c (.agg [(.int .i64 0), .nil]))) .done)))
 (.seq (.reg (tq 3 (.box 2 (.c (.agg [(.int .i64 0), .nil]))) .done))
 (.seq (.reg (tq 4 (.faddr 0 (.t 1)) (tq 5 (.load 1 false (.t 4)) (tq 6 (.faddr 0 (.t 3)) (.q ⟨none, none, .store 1 (.t 6) (.t 5)⟩
 .done)))))
 (.seq (.reg (tq 7 (.faddr 1 (.t 1)) (tq 8 (.load 1 false (.t 7)) (tq 9 (.call 75 [(.t 8)]) (tq 10 (.faddr 1 (.t 3)) (.q ⟨none, none, .store 1 (.t 10) (.t 9)⟩
 .done))))))
 (.seq (.reg (tq 11 (.load 2 true (.t 3)) (.q ⟨none, none, .store 2 (.t 2) (.t 11)⟩
 .done)))
 .ret)))))
theorem fc44 : fcomp Try.prog Try.f44 = some (c44.erase, [.load 2 true (.t 2)], 12) := by kernel_rfl
def laws_toRow (a_1 : GRow) : Option GRow :=
    (laws_toAtomSS a_1.Cells).bind fun r_2 =>
    some (⟨a_1.Id, r_2⟩ : GRow)
theorem w_laws_toRow (a_1 : GRow) (r : GRow) (hf : laws_toRow a_1 = some r) : CallOK Try.prog 44 .fresh [(encGRow a_1)] (encGRow r) := by
 refine CallOK.of_awp mixed Try.func44 fc44 nle ?_; rw [argT_eq]; unfold laws_toRow at hf; unfold c44; refine (show awp Try.prog true 0 _ (ofL [(0, (encGRow a_1))]) [] _ from ?_); refine awp_seq <| w_reg <| s_do (o_box (j := 0) (c := (.agg [(.int .i64 a_1.Id), (.lst 1 (a_1.Cells.map (encL 3 encGAtom)))])) rfl trivial rfl rfl) <| s_do (o_box (j := 1) (c := (.agg [(.int .i64 0), .nil])) rfl trivial rfl rfl) <| w_done <| k_seq <| awp_seq <| w_reg <| s_do (o_box (j := 2) (c := (.agg [(.int .i64 0), .nil])) rfl trivial rfl rfl) <| w_done <| k_seq <| awp_seq <| w_reg <| s_q (.ptr 0 0 0) rfl trivial rfl <| s_q (.int .i64 a_1.Id) rfl nle rfl <| s_q (.ptr 2 0 0) rfl trivial rfl <| s_do0 (o_storebox (v := (.int .i64 a_1.Id)) (y' := (.agg [(.int .i64 a_1.Id), .nil])) rfl rfl rfl trivial ⟨rfl, nle⟩ ⟨⟨rfl, trivial⟩, trivial⟩ rfl) <| ?_
 refine w_done <| k_seq <| awp_seq <| w_reg <| ?_
 obtain ⟨r_2, er3, hf⟩ := ob hf
 refine s_q (.ptr 0 0 1) rfl trivial rfl <| s_q (.lst 1 (a_1.Cells.map (encL 3 encGAtom))) rfl nle rfl <| s_do (o_callf (v := (.own 3 0 r_2.length)) (h' := [.row 1 (r_2.map (encL 3 encGAtom))]) (w_laws_toAtomSS _ _ er3) rfl (.refl _) (by simp only [openV, openVs, List.length_map, List.nil_append, List.append_nil, List.cons_append]; rfl)) <| s_q (.ptr 2 0 1) rfl trivial rfl <| s_do0 (o_storebox (v := (.own 3 0 r_2.length)) (y' := (.agg [(.int .i64 a_1.Id), (.own 3 0 r_2.length)])) rfl rfl rfl trivial ⟨rfl, nle⟩ ⟨⟨rfl, trivial⟩, trivial⟩ rfl) <| w_done <| k_seq <| awp_seq <| w_reg <| s_q (.agg [(.int .i64 a_1.Id), (.own 3 0 r_2.length)]) rfl nle rfl <| s_do0 (o_storebox (v := (.agg [(.int .i64 a_1.Id), (.own 3 0 r_2.length)])) (y' := (.agg [(.int .i64 a_1.Id), (.own 3 0 r_2.length)])) rfl rfl rfl trivial ⟨rfl, nle⟩ ⟨⟨rfl, trivial⟩, ⟨⟨rfl, trivial⟩, trivial⟩⟩ rfl) <| ?_
 refine w_done <| k_seq <| w_ret <| ?_; obtain rfl := os hf; exact r_fresh ⟨nle, trivial⟩ rfl (by decide) (.agg (.cons (.refl _) (.cons (.of_eq (congrArg (AV.lst _) (tk (enc := (encL 3 encGAtom)) r_2))) .nil)))

/- laws.toRowS -/
def c10 : ACode :=
 (.seq (.reg (tm 2 (.c .nil) .done))
 (.seq (.reg (tm 5 (.t 0) (tq 6 (.len (.t 5)) (tq 7 (.mkslice 2 32 (.agg [(.int .i64 0), .nil]) (.t 6) (.t 6)) (tm 3 (.t 7) .done)))))
 (.seq (.seq (.reg (tm 4 (.c (.int .i64 0)) .done))
 (.block 0 (.loop (.seq (.seq (.reg (tm 8 (.t 4) (tm 9 (.t 0) (tq 10 (.len (.t 9)) (tq 11 (.bin .lss (.t 8) (.t 10)) .done)))))
 (.cond (.t 11) .skip
 (.exit 0)))
 (.seq (.block 1 (.reg (tm 14 (.t 3) (tm 15 (.t 4) (tm 16 (.t 0) (tm 17 (.t 4) (tq 18 (.iaddr 2 (.t 16) (.t 17)) (tq 19 (.load 2 true (.t 18)) (tq 20 (.call 44 [(.t 19)]) (tq 21 (.iaddr 2 (.t 14) (.t 15)) (.q ⟨none, none, .store 2 (.t 21) (.t 20)⟩
 .done)))))))))))
 (.reg (tm 12 (.t 4) (tq 13 (.bin .add (.t 12) (.c (.int .i64 1))) (tm 4 (.t 13) .done)))))))))
 (.cut (.seq (.reg (tm 22 (.t 3) (tm 2 (.t 22) .done)))
 .ret)))))
theorem fc10 : fcomp Try.prog Try.f10 = some (c10.erase, [.mov (.t 2)], 23) := by kernel_rfl
def laws_toRowS_L1  : List GRow → Nat → (List GRow) → Option (List GRow)
  | [], i_24, out_25 =>
    some out_25
  | x_44 :: xs, i_24, out_25 =>
    (laws_toRow x_44).bind fun r_47 =>
    if i_24 < out_25.length then
    (out_25[i_24]?).bind fun x_50 =>
    laws_toRowS_L1 xs (i_24 + 1) (out_25.set i_24 r_47)
    else none

def laws_toRowS (a_1 : (List GRow)) : Option (List GRow) :=
    if (a_1.length : Int) ≤ 2 ^ 30 then
    (laws_toRowS_L1 a_1 0 (List.replicate a_1.length (⟨0, []⟩ : GRow))).bind fun out_36 =>
    some out_36
    else none
theorem w_laws_toRowS (a_1 : (List GRow)) (r : (List GRow)) (hf : laws_toRowS a_1 = some r) : CallOK Try.prog 10 .fresh [(.lst 2 (a_1.map encGRow))] (.lst 2 (r.map encGRow)) := by
 refine CallOK.of_awp mixed Try.func10 fc10 nle ?_; rw [argT_eq]; unfold laws_toRowS at hf; unfold c10; refine (show awp Try.prog true 0 _ (ofL [(0, (.lst 2 (a_1.map encGRow)))]) [] _ from ?_); refine awp_seq <| w_reg <| s_mov .nil rfl <| w_done <| k_seq <| awp_seq <| w_reg <| ?_
 obtain ⟨g3, hf⟩ := og hf
 refine s_mov (.lst 2 (a_1.map encGRow)) rfl <| s_dof (o_len (enc := encGRow) rfl) fun hl2 => s_do (o_mkslice (j := 0) (enc := encGRow) (m := a_1.length) (⟨0, []⟩ : GRow) (.agg (.cons (.refl _) (.cons (.nil _) .nil))) rfl rfl (Int.le_refl _) g3 rfl) <| s_mov (.own 0 0 a_1.length) rfl <| w_done <| k_seq <| awp_seq <| awp_seq <| w_reg <| s_mov (.int .i64 0) rfl <| w_done <| k_seq <| ?_
 obtain ⟨out_36, hb1, hf⟩ := ob hf
 refine awp_cut ([(3, (.own 0 0 out_36.length))], [.row 2 (out_36.map encGRow)]) ?_ ?_
 ·refine awp_loop (X := {q : (Nat × (List GRow)) // laws_toRowS_L1 (a_1.drop q.1) q.1 q.2 = some out_36}) (fun q => ([(0, (.lst 2 (a_1.map encGRow))), (3, (.own 0 0 q.1.2.length)), (4, (.int .i64 (q.1.1 : Int)))], [.row 2 (q.1.2.map encGRow)])) (fun q => a_1.length - q.1.1) ⟨(0, List.replicate a_1.length (⟨0, []⟩ : GRow)), hb1⟩ ⟨[], [0], _, _, rfl, rfl, ⟨.refl _, ⟨.of_eq (congrArg (AV.own _ 0) (by simp)), ⟨.refl _, trivial⟩⟩⟩, (.refl _)⟩ ?_
  rintro ⟨⟨i_24, out_25⟩, hc1⟩
  have hc1 : laws_toRowS_L1 (a_1.drop i_24) i_24 out_25 = some out_36 := hc1
  refine (show awp Try.prog true 0 _ (ofL [(0, (.lst 2 (a_1.map encGRow))), (3, (.own 0 0 out_25.length)), (4, (.int .i64 (i_24 : Int)))]) [.row 2 (out_25.map encGRow)] _ from ?_)
  rcases dropc a_1 i_24 with ⟨hie40, hd43⟩ | ⟨hlt38, x_44, hx39, hd43⟩
  ·rw [hd43, laws_toRowS_L1.eq_1] at hc1
   have hq42 := dlf hie40
   refine awp_seq <| awp_seq <| w_reg <| s_mov (.int .i64 (i_24 : Int)) rfl <| s_mov (.lst 2 (a_1.map encGRow)) rfl <| s_dof (o_len (enc := encGRow) rfl) fun hl45 => s_q (.bool (decide ((i_24 : Int) < (a_1.length : Int)))) rfl rfl rfl <| w_done <| k_seq <| w_condf rfl hq42 <| w_exit <| k_seqx <| k_loopx <| k_blkx <| ?_; obtain rfl := os hc1; exact ⟨[], [0], _, _, rfl, rfl, ⟨.refl _, trivial⟩, (.refl _)⟩
  ·rw [hd43, laws_toRowS_L1.eq_2] at hc1
   have hq42 := dlt hlt38
   refine awp_seq <| awp_seq <| w_reg <| s_mov (.int .i64 (i_24 : Int)) rfl <| s_mov (.lst 2 (a_1.map encGRow)) rfl <| s_dof (o_len (enc := encGRow) rfl) fun hl46 => s_q (.bool (decide ((i_24 : Int) < (a_1.length : Int)))) rfl rfl rfl <| w_done <| k_seq <| w_condt rfl hq42 <| w_skip <| k_seq <| awp_seq <| w_blk <| w_reg <| ?_
   obtain ⟨r_47, er48, hc1⟩ := ob hc1
   obtain ⟨g49, hc1⟩ := og hc1
   obtain ⟨x_50, ex51, hc1⟩ := ob hc1
   refine s_mov (.own 0 0 out_25.length) rfl <| s_mov (.int .i64 (i_24 : Int)) rfl <| s_mov (.lst 2 (a_1.map encGRow)) rfl <| s_mov (.int .i64 (i_24 : Int)) rfl <| s_do (o_iaddrn (enc := encGRow) rfl rfl hx39) <| s_q (encGRow x_44) rfl nle rfl <| s_do (o_callf (v := (.agg [(.int .i64 r_47.Id), (.own 1 0 r_47.Cells.length)])) (h' := [.row 1 (r_47.Cells.map (encL 3 encGAtom))]) (w_laws_toRow _ _ er48) rfl (.refl _) (by simp only [openV, openVs, List.length_map, encGRow_eq, List.nil_append, List.append_nil, List.cons_append]; rfl)) <| s_do (o_iaddrownn rfl rfl g49 rfl rfl) <| ?_
   refine s_do0 (o_storerow (v' := (.agg [(.int .i64 r_47.Id), (.lst 1 (r_47.Cells.map (encL 3 encGAtom)))])) (e' := r_47) rfl rfl ex51 rfl rfl (by first | (simp only [tk, tko, List.take_length]; done) | rfl | simp) (by decide) (fun _ => by decide) ⟨rfl, nle⟩ (.refl _) rfl) ?_
   refine w_done <| k_blk <| k_seq <| w_reg <| s_mov (.int .i64 (i_24 : Int)) rfl <| s_q (.int .i64 (w64 ((i_24 : Int) + 1))) rfl rfl rfl <| s_mov (.int .i64 (w64 ((i_24 : Int) + 1))) rfl <| w_done <| ?_; exact k_loopn ⟨((i_24 + 1), out_25.set i_24 r_47), hc1⟩ (mul hlt38) ⟨[], [0], _, _, rfl, rfl, ⟨.refl _, ⟨.of_eq (congrArg (AV.own _ 0) (by simp)), ⟨.of_eq (congrArg (AV.int _) (w64_incr hlt38 hl46)), trivial⟩⟩⟩, (.refl _)⟩
 ·refine awp_seq <| w_reg <| s_mov (.own 0 0 out_36.length) rfl <| s_mov (.own 0 0 out_36.length) rfl <| w_done <| k_seq <| w_ret <| ?_; obtain rfl := os hf; exact r_fresh ⟨trivial, trivial⟩ rfl (by decide) (.of_eq (congrArg (AV.lst _) (tk (enc := encGRow) out_36)))

/- laws.toUpdate -/
def c45 : ACode :=
 (.seq (.reg (tq 1 (.box 5 (.t 0)) (tq 2 (.box 5 (.c (.agg [(.int .i64 0), (.int .i64 0), .nil, (.int .i64 0), .nil]))) .done)))
 (.seq (.reg (tq 3 (.box 5 (.c (.agg [(.int .i64 0), (.int .i64 0), .nil, (.int .i64 0), .nil]))) .done))
 (.seq (.reg (tq 4 (.faddr 0 (.t 1)) (tq 5 (.load 1 false (.t 4)) (tq 6 (.faddr 0 (.t 3)) (.q ⟨none, none, .store 1 (.t 6) (.t 5)⟩
 .done)))))
 (.seq (.reg (tq 7 (.faddr 1 (.t 1)) (tq 8 (.load 2 true (.t 7)) (tq 9 (.call 44 [(.t 8)]) (tq 10 (.faddr 1 (.t 3)) (.q ⟨none, none, .store 2 (.t 10) (.t 9)⟩
 .done))))))
 (.seq (.reg (tq 11 (.faddr 3 (.t 1)) (tq 12 (.load 2 true (.t 11)) (tq 13 (.call 44 [(.t 12)]) (tq 14 (.faddr 3 (.t 3)) (.q ⟨none, none, .store 2 (.t 14) (.t 13)⟩
 .done))))))
 (.seq (.reg (tq 15 (.load 5 true (.t 3)) (.q ⟨none, none, .store 5 (.t 2) (.t 15)⟩
 .done)))
 .ret))))))
theorem fc45 : fcomp Try.prog Try.f45 = some (c45.erase, [.load 5 true (.t 2)], 16) := by kernel_rfl
def laws_toUpdate (a_1 : GUpdate) : Option GUpdate :=
    (laws_toRow a_1.Old).bind fun r_2 =>
    (laws_toRow a_1.New).bind fun r_4 =>
    some (⟨a_1.Id, r_2, r_4⟩ : GUpdate)
theorem w_laws_toUpdate (a_1 : GUpdate) (r : GUpdate) (hf : laws_toUpdate a_1 = some r) : CallOK Try.prog 45 .fresh [(encGUpdate a_1)] (encGUpdate r) := by
 refine CallOK.of_awp mixed Try.func45 fc45 nle ?_; rw [argT_eq]; unfold laws_toUpdate at hf; unfold c45; refine (show awp Try.prog true 0 _ (ofL [(0, (encGUpdate a_1))]) [] _ from ?_); refine awp_seq <| w_reg <| s_do (o_box (j := 0) (c := (.agg [(.int .i64 a_1.Id), (.int .i64 a_1.Old.Id), (.lst 1 (a_1.Old.Cells.map (encL 3 encGAtom))), (.int .i64 a_1.New.Id), (.lst 1 (a_1.New.Cells.map (encL 3 encGAtom)))])) rfl trivial rfl rfl) <| s_do (o_box (j := 1) (c := (.agg [(.int .i64 0), (.int .i64 0), .nil, (.int .i64 0), .nil])) rfl trivial rfl rfl) <| w_done <| k_seq <| awp_seq <| w_reg <| s_do (o_box (j := 2) (c := (.agg [(.int .i64 0), (.int .i64 0), .nil, (.int .i64 0), .nil])) rfl trivial rfl rfl) <| w_done <| k_seq <| awp_seq <| ?_
 refine w_reg <| s_q (.ptr 0 0 0) rfl trivial rfl <| s_q (.int .i64 a_1.Id) rfl nle rfl <| s_q (.ptr 2 0 0) rfl trivial rfl <| s_do0 (o_storebox (v := (.int .i64 a_1.Id)) (y' := (.agg [(.int .i64 a_1.Id), (.int .i64 0), .nil, (.int .i64 0), .nil])) rfl rfl rfl trivial ⟨rfl, nle⟩ ⟨⟨rfl, trivial⟩, trivial⟩ rfl) <| w_done <| k_seq <| awp_seq <| w_reg <| ?_
 obtain ⟨r_2, er3, hf⟩ := ob hf
 refine s_q (.ptr 0 0 1) rfl trivial rfl <| s_q (.agg [(.int .i64 a_1.Old.Id), (.lst 1 (a_1.Old.Cells.map (encL 3 encGAtom)))]) rfl nle rfl <| s_do (o_callf (v := (.agg [(.int .i64 r_2.Id), (.own 3 0 r_2.Cells.length)])) (h' := [.row 1 (r_2.Cells.map (encL 3 encGAtom))]) (w_laws_toRow _ _ er3) rfl (.refl _) (by simp only [openV, openVs, List.length_map, encGRow_eq, List.nil_append, List.append_nil, List.cons_append]; rfl)) <| s_q (.ptr 2 0 1) rfl trivial rfl <| s_do0 (o_storebox (v := (.agg [(.int .i64 r_2.Id), (.own 3 0 r_2.Cells.length)])) (y' := (.agg [(.int .i64 a_1.Id), (.int .i64 r_2.Id), (.own 3 0 r_2.Cells.length), (.int .i64 0), .nil])) rfl rfl rfl trivial ⟨rfl, nle⟩ ⟨⟨rfl, trivial⟩, ⟨⟨rfl, trivial⟩, trivial⟩⟩ rfl) <| ?_
 refine w_done <| k_seq <| awp_seq <| w_reg <| ?_
 obtain ⟨r_4, er5, hf⟩ := ob hf
 refine s_q (.ptr 0 0 3) rfl trivial rfl <| s_q (.agg [(.int .i64 a_1.New.Id), (.lst 1 (a_1.New.Cells.map (encL 3 encGAtom)))]) rfl nle rfl <| s_do (o_callf (v := (.agg [(.int .i64 r_4.Id), (.own 4 0 r_4.Cells.length)])) (h' := [.row 1 (r_4.Cells.map (encL 3 encGAtom))]) (w_laws_toRow _ _ er5) rfl (.refl _) (by simp only [openV, openVs, List.length_map, encGRow_eq, List.nil_append, List.append_nil, List.cons_append]; rfl)) <| s_q (.ptr 2 0 3) rfl trivial rfl <| s_do0 (o_storebox (v := (.agg [(.int .i64 r_4.Id), (.own 4 0 r_4.Cells.length)])) (y' := (.agg [(.int .i64 a_1.Id), (.int .i64 r_2.Id), (.own 3 0 r_2.Cells.length), (.int .i64 r_4.Id), (.own 4 0 r_4.Cells.length)])) rfl rfl rfl trivial ⟨rfl, nle⟩ ⟨⟨rfl, trivial⟩, ⟨⟨rfl, trivial⟩, trivial⟩⟩ rfl) <| ?_
 refine w_done <| k_seq <| awp_seq <| w_reg <| s_q (.agg [(.int .i64 a_1.Id), (.int .i64 r_2.Id), (.own 3 0 r_2.Cells.length), (.int .i64 r_4.Id), (.own 4 0 r_4.Cells.length)]) rfl nle rfl <| s_do0 (o_storebox (v := (.agg [(.int .i64 a_1.Id), (.int .i64 r_2.Id), (.own 3 0 r_2.Cells.length), (.int .i64 r_4.Id), (.own 4 0 r_4.Cells.length)])) (y' := (.agg [(.int .i64 a_1.Id), (.int .i64 r_2.Id), (.own 3 0 r_2.Cells.length), (.int .i64 r_4.Id), (.own 4 0 r_4.Cells.length)])) rfl rfl rfl trivial ⟨rfl, nle⟩ ⟨⟨rfl, trivial⟩, ⟨⟨rfl, trivial⟩, ⟨⟨rfl, trivial⟩, ⟨⟨rfl, trivial⟩, ⟨⟨rfl, trivial⟩, trivial⟩⟩⟩⟩⟩ rfl) <| w_done <| k_seq <| w_ret <| ?_; obtain rfl := os hf; exact r_fresh ⟨nle, trivial⟩ rfl (by decide) (.agg (.cons (.refl _) (.cons (.refl _) (.cons (.of_eq (congrArg (AV.lst _) (tk (enc := (encL 3 encGAtom)) r_2.Cells))) (.cons (.refl _) (.cons (.of_eq (congrArg (AV.lst _) (tk (enc := (encL 3 encGAtom)) r_4.Cells))) .nil))))))

/- laws.toUpdateS -/
def c11 : ACode :=
 (.seq (.reg (tm 2 (.c .nil) .done))
 (.seq (.reg (tm 5 (.t 0) (tq 6 (.len (.t 5)) (tq 7 (.mkslice 5 72 (.agg [(.int .i64 0), (.int .i64 0), .nil, (.int .i64 0), .nil]) (.t 6) (.t 6)) (tm 3 (.t 7) .done)))))
 (.seq (.seq (.reg (tm 4 (.c (.int .i64 0)) .done))
 (.block 0 (.loop (.seq (.seq (.reg (tm 8 (.t 4) (tm 9 (.t 0) (tq 10 (.len (.t 9)) (tq 11 (.bin .lss (.t 8) (.t 10)) .done)))))
 (.cond (.t 11) .skip
 (.exit 0)))
 (.seq (.block 1 (.reg (tm 14 (.t 3) (tm 15 (.t 4) (tm 16 (.t 0) (tm 17 (.t 4) (tq 18 (.iaddr 5 (.t 16) (.t 17)) (tq 19 (.load 5 true (.t 18)) (tq 20 (.call 45 [(.t 19)]) (tq 21 (.iaddr 5 (.t 14) (.t 15)) (.q ⟨none, none, .store 5 (.t 21) (.t 20)⟩
 .done)))))))))))
 (.reg (tm 12 (.t 4) (tq 13 (.bin .add (.t 12) (.c (.int .i64 1))) (tm 4 (.t 13) .done)))))))))
 (.cut (.seq (.reg (tm 22 (.t 3) (tm 2 (.t 22) .done)))
 .ret)))))
theorem fc11 : fcomp Try.prog Try.f11 = some (c11.erase, [.mov (.t 2)], 23) := by kernel_rfl
def laws_toUpdateS_L1  : List GUpdate → Nat → (List GUpdate) → Option (List GUpdate)
  | [], i_24, out_25 =>
    some out_25
  | x_44 :: xs, i_24, out_25 =>
    (laws_toUpdate x_44).bind fun r_47 =>
    if i_24 < out_25.length then
    (out_25[i_24]?).bind fun x_50 =>
    laws_toUpdateS_L1 xs (i_24 + 1) (out_25.set i_24 r_47)
    else none

def laws_toUpdateS (a_1 : (List GUpdate)) : Option (List GUpdate) :=
    if (a_1.length : Int) ≤ 2 ^ 30 then
    (laws_toUpdateS_L1 a_1 0 (List.replicate a_1.length (⟨0, (⟨0, []⟩ : GRow), (⟨0, []⟩ : GRow)⟩ : GUpdate))).bind fun out_36 =>
    some out_36
    else none
theorem w_laws_toUpdateS (a_1 : (List GUpdate)) (r : (List GUpdate)) (hf : laws_toUpdateS a_1 = some r) : CallOK Try.prog 11 .fresh [(.lst 5 (a_1.map encGUpdate))] (.lst 5 (r.map encGUpdate)) := by
 refine CallOK.of_awp mixed Try.func11 fc11 nle ?_; rw [argT_eq]; unfold laws_toUpdateS at hf; unfold c11; refine (show awp Try.prog true 0 _ (ofL [(0, (.lst 5 (a_1.map encGUpdate)))]) [] _ from ?_); refine awp_seq <| w_reg <| s_mov .nil rfl <| w_done <| k_seq <| awp_seq <| w_reg <| ?_
 obtain ⟨g3, hf⟩ := og hf
 refine s_mov (.lst 5 (a_1.map encGUpdate)) rfl <| s_dof (o_len (enc := encGUpdate) rfl) fun hl2 => s_do (o_mkslice (j := 0) (enc := encGUpdate) (m := a_1.length) (⟨0, (⟨0, []⟩ : GRow), (⟨0, []⟩ : GRow)⟩ : GUpdate) (.agg (.cons (.refl _) (.cons (.refl _) (.cons (.nil _) (.cons (.refl _) (.cons (.nil _) .nil)))))) rfl rfl (Int.le_refl _) g3 rfl) <| s_mov (.own 0 0 a_1.length) rfl <| w_done <| k_seq <| awp_seq <| awp_seq <| w_reg <| s_mov (.int .i64 0) rfl <| w_done <| k_seq <| ?_
 obtain ⟨out_36, hb1, hf⟩ := ob hf
 refine awp_cut ([(3, (.own 0 0 out_36.length))], [.row 5 (out_36.map encGUpdate)]) ?_ ?_
 ·refine awp_loop (X := {q : (Nat × (List GUpdate)) // laws_toUpdateS_L1 (a_1.drop q.1) q.1 q.2 = some out_36}) (fun q => ([(0, (.lst 5 (a_1.map encGUpdate))), (3, (.own 0 0 q.1.2.length)), (4, (.int .i64 (q.1.1 : Int)))], [.row 5 (q.1.2.map encGUpdate)])) (fun q => a_1.length - q.1.1) ⟨(0, List.replicate a_1.length (⟨0, (⟨0, []⟩ : GRow), (⟨0, []⟩ : GRow)⟩ : GUpdate)), hb1⟩ ⟨[], [0], _, _, rfl, rfl, ⟨.refl _, ⟨.of_eq (congrArg (AV.own _ 0) (by simp)), ⟨.refl _, trivial⟩⟩⟩, (.refl _)⟩ ?_
  rintro ⟨⟨i_24, out_25⟩, hc1⟩
  have hc1 : laws_toUpdateS_L1 (a_1.drop i_24) i_24 out_25 = some out_36 := hc1
  refine (show awp Try.prog true 0 _ (ofL [(0, (.lst 5 (a_1.map encGUpdate))), (3, (.own 0 0 out_25.length)), (4, (.int .i64 (i_24 : Int)))]) [.row 5 (out_25.map encGUpdate)] _ from ?_)
  rcases dropc a_1 i_24 with ⟨hie40, hd43⟩ | ⟨hlt38, x_44, hx39, hd43⟩
  ·rw [hd43, laws_toUpdateS_L1.eq_1] at hc1
   have hq42 := dlf hie40
   refine awp_seq <| awp_seq <| w_reg <| s_mov (.int .i64 (i_24 : Int)) rfl <| s_mov (.lst 5 (a_1.map encGUpdate)) rfl <| s_dof (o_len (enc := encGUpdate) rfl) fun hl45 => s_q (.bool (decide ((i_24 : Int) < (a_1.length : Int)))) rfl rfl rfl <| w_done <| k_seq <| w_condf rfl hq42 <| w_exit <| k_seqx <| k_loopx <| k_blkx <| ?_; obtain rfl := os hc1; exact ⟨[], [0], _, _, rfl, rfl, ⟨.refl _, trivial⟩, (.refl _)⟩
  ·rw [hd43, laws_toUpdateS_L1.eq_2] at hc1
   have hq42 := dlt hlt38
   refine awp_seq <| awp_seq <| w_reg <| s_mov (.int .i64 (i_24 : Int)) rfl <| s_mov (.lst 5 (a_1.map encGUpdate)) rfl <| s_dof (o_len (enc := encGUpdate) rfl) fun hl46 => s_q (.bool (decide ((i_24 : Int) < (a_1.length : Int)))) rfl rfl rfl <| w_done <| k_seq <| w_condt rfl hq42 <| w_skip <| k_seq <| awp_seq <| w_blk <| w_reg <| ?_
   obtain ⟨r_47, er48, hc1⟩ := ob hc1
   obtain ⟨g49, hc1⟩ := og hc1
   obtain ⟨x_50, ex51, hc1⟩ := ob hc1
   refine s_mov (.own 0 0 out_25.length) rfl <| s_mov (.int .i64 (i_24 : Int)) rfl <| s_mov (.lst 5 (a_1.map encGUpdate)) rfl <| s_mov (.int .i64 (i_24 : Int)) rfl <| s_do (o_iaddrn (enc := encGUpdate) rfl rfl hx39) <| s_q (encGUpdate x_44) rfl nle rfl <| s_do (o_callf (v := (.agg [(.int .i64 r_47.Id), (.int .i64 r_47.Old.Id), (.own 1 0 r_47.Old.Cells.length), (.int .i64 r_47.New.Id), (.own 2 0 r_47.New.Cells.length)])) (h' := [.row 1 (r_47.Old.Cells.map (encL 3 encGAtom)), .row 1 (r_47.New.Cells.map (encL 3 encGAtom))]) (w_laws_toUpdate _ _ er48) rfl (.refl _) (by simp only [openV, openVs, List.length_map, encGUpdate_eq, List.nil_append, List.append_nil, List.cons_append]; rfl)) <| s_do (o_iaddrownn rfl rfl g49 rfl rfl) <| ?_
   refine s_do0 (o_storerow (v' := (.agg [(.int .i64 r_47.Id), (.int .i64 r_47.Old.Id), (.lst 1 (r_47.Old.Cells.map (encL 3 encGAtom))), (.int .i64 r_47.New.Id), (.lst 1 (r_47.New.Cells.map (encL 3 encGAtom)))])) (e' := r_47) rfl rfl ex51 rfl rfl (by first | (simp only [tk, tko, List.take_length]; done) | rfl | simp) (by decide) (fun _ => by decide) ⟨rfl, nle⟩ (.refl _) rfl) ?_
   refine w_done <| k_blk <| k_seq <| w_reg <| s_mov (.int .i64 (i_24 : Int)) rfl <| s_q (.int .i64 (w64 ((i_24 : Int) + 1))) rfl rfl rfl <| s_mov (.int .i64 (w64 ((i_24 : Int) + 1))) rfl <| w_done <| ?_; exact k_loopn ⟨((i_24 + 1), out_25.set i_24 r_47), hc1⟩ (mul hlt38) ⟨[], [0], _, _, rfl, rfl, ⟨.refl _, ⟨.of_eq (congrArg (AV.own _ 0) (by simp)), ⟨.of_eq (congrArg (AV.int _) (w64_incr hlt38 hl46)), trivial⟩⟩⟩, (.refl _)⟩
 ·refine awp_seq <| w_reg <| s_mov (.own 0 0 out_36.length) rfl <| s_mov (.own 0 0 out_36.length) rfl <| w_done <| k_seq <| w_ret <| ?_; obtain rfl := os hf; exact r_fresh ⟨trivial, trivial⟩ rfl (by decide) (.of_eq (congrArg (AV.lst _) (tk (enc := encGUpdate) out_36)))

/- spec.l05Plain -/
def c36 : ACode :=
 (.seq (.reg (tq 1 (.box 2 (.t 0)) (tm 2 (.c (.bool false)) .done)))
 (.seq (.seq (.reg (tm 3 (.c (.int .i64 0)) .done))
 (.block 0 (.loop (.seq (.seq (.reg (tm 5 (.t 3) (tq 6 (.faddr 0 (.t 1)) (tq 7 (.load 1 false (.t 6)) (tq 8 (.len (.t 7)) (tq 9 (.bin .lss (.t 5) (.t 8)) .done))))))
 (.cond (.t 9) .skip
 (.exit 0)))
 (.seq (.block 1 (.seq (.reg (tm 4 (.c (.int .i64 0)) .done))
 (.block 2 (.loop (.seq (.seq (.reg (tm 12 (.t 4) (tq 13 (.faddr 0 (.t 1)) (tq 14 (.load 1 false (.t 13)) (tm 15 (.t 3) (tq 16 (.iaddr 1 (.t 14) (.t 15)) (tq 17 (.load 1 false (.t 16)) (tq 18 (.len (.t 17)) (tq 19 (.bin .lss (.t 12) (.t 18)) .done)))))))))
 (.cond (.t 19) .skip
 (.exit 2)))
 (.seq (.block 3 (.seq (.reg (tm 22 (.t 4) (tq 23 (.bin .gtr (.t 22) (.c (.int .i64 0))) (tm 24 (.t 23) (tg 25 24 true (.faddr 0 (.t 1)) (tg 26 24 true (.load 1 false (.t 25)) (tg 27 24 true (.mov (.t 3)) (tg 28 24 true (.iaddr 1 (.t 26) (.t 27)) (tg 29 24 true (.load 1 false (.t 28)) (tg 30 24 true (.mov (.t 4)) (tg 31 24 true (.bin .sub (.t 30) (.c (.int .i64 1))) (tg 32 24 true (.iaddr 2 (.t 29) (.t 31)) (tg 33 24 true (.faddr 0 (.t 32)) (tg 34 24 true (.load 1 false (.t 33)) (tg 35 24 true (.faddr 0 (.t 1)) (tg 36 24 true (.load 1 false (.t 35)) (tg 37 24 true (.mov (.t 3)) (tg 38 24 true (.iaddr 1 (.t 36) (.t 37)) (tg 39 24 true (.load 1 false (.t 38)) (tg 40 24 true (.mov (.t 4)) (tg 41 24 true (.iaddr 2 (.t 39) (.t 40)) (tg 42 24 true (.faddr 0 (.t 41)) (tg 43 24 true (.load 1 false (.t 42)) (tg 44 24 true (.bin .geq (.t 34) (.t 43)) (tq 45 (.pick (.t 24) (.t 44) (.c (.bool false))) .done)))))))))))))))))))))))))
 (.cut (.cond (.t 45) (.seq (.reg (tm 2 (.c (.bool false)) .done))
 .ret)
 .skip))))
 (.reg (tm 20 (.t 4) (tq 21 (.bin .add (.t 20) (.c (.int .i64 1))) (tm 4 (.t 21) .done))))))))))
 (.cut (.reg (tm 10 (.t 3) (tq 11 (.bin .add (.t 10) (.c (.int .i64 1))) (tm 3 (.t 11) .done))))))))))
 (.cut (.seq (.reg (tm 2 (.c (.bool true)) .done))
 .ret))))
theorem fc36 : fcomp Try.prog Try.f36 = some (c36.erase, [.mov (.t 2)], 46) := by kernel_rfl
def spec_l05Plain_L2 (x_447 : (List GRow)) : List GRow → Nat → Option (Fl Bool Unit)
  | [], k_469 =>
    some (.go ())
  | x_493 :: xs, k_469 =>
    ((if (decide ((k_469 : Int) > 0)) then
    (idx x_447 (w64 ((k_469 : Int) - 1))).bind fun x_502 =>
    some (decide (x_502.Id ≥ x_493.Id))
    else
    some false : Option Bool)).bind fun s45_499 =>
    if s45_499 then
    some (.ret false)
    else
    spec_l05Plain_L2 x_447 xs (k_469 + 1)

def spec_l05Plain_L1  : List (List GRow) → Option (Fl Bool Unit)
  | [] =>
    some (.go ())
  | x_447 :: xs =>
    (spec_l05Plain_L2 x_447 x_447 0).bind fun q => (match q with
    | .ret r => some (.ret r)
    | .go _ =>
    spec_l05Plain_L1 xs )

def spec_l05Plain (x_1 : GStore) : Option Bool :=
    (spec_l05Plain_L1 x_1.Tables ).bind fun q => (match q with
    | .ret r => some r
    | .go _ =>
    some true)
theorem w_spec_l05Plain (x_1 : GStore) (r : Bool) (hf : spec_l05Plain x_1 = some r) : CallOK Try.prog 36 .flat [(encGStore x_1)] (.bool r) := by
 refine CallOK.of_awp mixed Try.func36 fc36 nle ?_; rw [argT_eq]; unfold spec_l05Plain at hf; unfold c36; refine (show awp Try.prog false 0 _ (ofL [(0, (encGStore x_1))]) [] _ from ?_); refine awp_seq <| w_reg <| s_do (o_box (j := 0) (c := (.agg [(.lst 1 (x_1.Tables.map (encL 2 encGRow))), (.int .i64 x_1.Next)])) rfl trivial rfl rfl) <| s_mov (.bool false) rfl <| w_done <| k_seq <| awp_seq <| awp_seq <| w_reg <| s_mov (.int .i64 0) rfl <| w_done <| k_seq <| ?_
 obtain ⟨p440, hb1, hf⟩ := ob hf
 refine awp_cutx (X := {q : Unit // p440 = .go q}) (fun q => ([], [])) ?_ ?_
 ·refine awp_loop (X := {q : Nat // spec_l05Plain_L1 (x_1.Tables.drop q)  = some p440}) (fun q => ([(1, (.ptr 0 0 0)), (3, (.int .i64 (q.1 : Int)))], [.box 2 (.agg [(.lst 1 (x_1.Tables.map (encL 2 encGRow))), (.int .i64 x_1.Next)])])) (fun q => x_1.Tables.length - q.1) ⟨0, hb1⟩ ⟨[], [0], _, _, rfl, rfl, ⟨.refl _, ⟨.refl _, trivial⟩⟩, (.refl _)⟩ ?_
  rintro ⟨i_293, hc1⟩
  have hc1 : spec_l05Plain_L1 (x_1.Tables.drop i_293)  = some p440 := hc1
  refine (show awp Try.prog false 0 _ (ofL [(1, (.ptr 0 0 0)), (3, (.int .i64 (i_293 : Int)))]) [.box 2 (.agg [(.lst 1 (x_1.Tables.map (encL 2 encGRow))), (.int .i64 x_1.Next)])] _ from ?_)
  rcases dropc x_1.Tables i_293 with ⟨hie443, hd446⟩ | ⟨hlt441, x_447, hx442, hd446⟩
  ·rw [hd446, spec_l05Plain_L1.eq_1] at hc1
   have hq445 := dlf hie443
   refine awp_seq <| awp_seq <| w_reg <| s_mov (.int .i64 (i_293 : Int)) rfl <| s_q (.ptr 0 0 0) rfl trivial rfl <| s_q (.lst 1 (x_1.Tables.map (encL 2 encGRow))) rfl nle rfl <| s_dof (o_len (enc := (encL 2 encGRow)) rfl) fun hl448 => s_q (.bool (decide ((i_293 : Int) < (x_1.Tables.length : Int)))) rfl rfl rfl <| w_done <| k_seq <| w_condf rfl hq445 <| w_exit <| k_seqx <| k_loopx <| k_blkx <| ?_; obtain rfl := os hc1; exact k_cutn ⟨_, rfl⟩ ⟨[], [], _, _, rfl, rfl, trivial, (.refl _)⟩
  ·rw [hd446, spec_l05Plain_L1.eq_2] at hc1
   have hq445 := dlt hlt441
   refine awp_seq <| awp_seq <| w_reg <| s_mov (.int .i64 (i_293 : Int)) rfl <| s_q (.ptr 0 0 0) rfl trivial rfl <| s_q (.lst 1 (x_1.Tables.map (encL 2 encGRow))) rfl nle rfl <| s_dof (o_len (enc := (encL 2 encGRow)) rfl) fun hl449 => s_q (.bool (decide ((i_293 : Int) < (x_1.Tables.length : Int)))) rfl rfl rfl <| w_done <| k_seq <| w_condt rfl hq445 <| w_skip <| k_seq <| awp_seq <| w_blk <| awp_seq <| w_reg <| s_mov (.int .i64 0) rfl <| w_done <| k_seq <| ?_
   obtain ⟨p486, hb2, hc1⟩ := ob hc1
   refine awp_cutxb (X := {q : Unit // p486 = .go q}) (fun q => ([(1, (.ptr 0 0 0)), (3, (.int .i64 (i_293 : Int)))], [.box 2 (.agg [(.lst 1 (x_1.Tables.map (encL 2 encGRow))), (.int .i64 x_1.Next)])])) ?_ ?_
   ·refine awp_loop (X := {q : Nat // spec_l05Plain_L2 x_447 (x_447.drop q) q = some p486}) (fun q => ([(1, (.ptr 0 0 0)), (3, (.int .i64 (i_293 : Int))), (4, (.int .i64 (q.1 : Int)))], [.box 2 (.agg [(.lst 1 (x_1.Tables.map (encL 2 encGRow))), (.int .i64 x_1.Next)])])) (fun q => x_447.length - q.1) ⟨0, hb2⟩ ⟨[], [0], _, _, rfl, rfl, ⟨.refl _, ⟨.refl _, ⟨.refl _, trivial⟩⟩⟩, (.refl _)⟩ ?_
    rintro ⟨k_469, hc2⟩
    have hc2 : spec_l05Plain_L2 x_447 (x_447.drop k_469) k_469 = some p486 := hc2
    refine (show awp Try.prog false 0 _ (ofL [(1, (.ptr 0 0 0)), (3, (.int .i64 (i_293 : Int))), (4, (.int .i64 (k_469 : Int)))]) [.box 2 (.agg [(.lst 1 (x_1.Tables.map (encL 2 encGRow))), (.int .i64 x_1.Next)])] _ from ?_)
    rcases dropc x_447 k_469 with ⟨hie489, hd492⟩ | ⟨hlt487, x_493, hx488, hd492⟩
    ·rw [hd492, spec_l05Plain_L2.eq_1] at hc2
     have hq491 := dlf hie489
     refine awp_seq <| awp_seq <| w_reg <| s_mov (.int .i64 (k_469 : Int)) rfl <| s_q (.ptr 0 0 0) rfl trivial rfl <| s_q (.lst 1 (x_1.Tables.map (encL 2 encGRow))) rfl nle rfl <| s_mov (.int .i64 (i_293 : Int)) rfl <| s_do (o_iaddrn (enc := (encL 2 encGRow)) rfl rfl hx442) <| s_q (.lst 2 (x_447.map encGRow)) rfl ⟨rfl, rfl⟩ rfl <| s_dof (o_len (enc := encGRow) rfl) fun hl494 => s_q (.bool (decide ((k_469 : Int) < (x_447.length : Int)))) rfl rfl rfl <| w_done <| k_seq <| w_condf rfl hq491 <| w_exit <| k_seqx <| k_loopx <| k_blkx <| ?_; refine k_blk ?_; obtain rfl := os hc2; exact k_cutn ⟨_, rfl⟩ ⟨[], [0], _, _, rfl, rfl, ⟨.refl _, ⟨.refl _, trivial⟩⟩, (.refl _)⟩
    ·rw [hd492, spec_l05Plain_L2.eq_2] at hc2
     have hq491 := dlt hlt487
     refine awp_seq <| awp_seq <| w_reg <| s_mov (.int .i64 (k_469 : Int)) rfl <| s_q (.ptr 0 0 0) rfl trivial rfl <| s_q (.lst 1 (x_1.Tables.map (encL 2 encGRow))) rfl nle rfl <| s_mov (.int .i64 (i_293 : Int)) rfl <| s_do (o_iaddrn (enc := (encL 2 encGRow)) rfl rfl hx442) <| s_q (.lst 2 (x_447.map encGRow)) rfl ⟨rfl, rfl⟩ rfl <| s_dof (o_len (enc := encGRow) rfl) fun hl495 => s_q (.bool (decide ((k_469 : Int) < (x_447.length : Int)))) rfl rfl rfl <| w_done <| k_seq <| w_condt rfl hq491 <| w_skip <| k_seq <| awp_seq <| w_blk <| awp_seq <| ?_
     obtain ⟨s45_499, hb3, hc2⟩ := ob hc2
     refine awp_cut ([(1, (.ptr 0 0 0)), (3, (.int .i64 (i_293 : Int))), (4, (.int .i64 (k_469 : Int))), (45, (.bool s45_499))], [.box 2 (.agg [(.lst 1 (x_1.Tables.map (encL 2 encGRow))), (.int .i64 x_1.Next)])]) ?_ ?_
     ·refine w_reg <| s_mov (.int .i64 (k_469 : Int)) rfl <| s_q (.bool (decide ((k_469 : Int) > 0))) rfl rfl rfl <| s_mov (.bool (decide ((k_469 : Int) > 0))) rfl <| ?_
      rcases oi hb3 with ⟨c501, hb3⟩ | ⟨c501, hb3⟩
      ·refine s_lit (s := 24) (b := true) rfl c501 <| s_on rfl <| s_q (.ptr 0 0 0) rfl trivial rfl <| s_on rfl <| s_q (.lst 1 (x_1.Tables.map (encL 2 encGRow))) rfl nle rfl <| s_on rfl <| s_mov (.int .i64 (i_293 : Int)) rfl <| s_on rfl <| s_do (o_iaddrn (enc := (encL 2 encGRow)) rfl rfl hx442) <| s_on rfl <| s_q (.lst 2 (x_447.map encGRow)) rfl ⟨rfl, rfl⟩ rfl <| s_on rfl <| s_mov (.int .i64 (k_469 : Int)) rfl <| s_on rfl <| s_q (.int .i64 (w64 ((k_469 : Int) - 1))) rfl rfl rfl <| s_on rfl <| ?_
       obtain ⟨x_502, ex503, hb3⟩ := ob hb3
       refine s_do (o_iaddr (enc := encGRow) rfl rfl (idx0 ex503) (idx1 ex503)) <| s_on rfl <| s_q (.iptr (encGRow x_502) 0) rfl trivial rfl <| s_on rfl <| s_q (.int .i64 x_502.Id) rfl nle rfl <| s_on rfl <| s_q (.ptr 0 0 0) rfl trivial rfl <| s_on rfl <| s_q (.lst 1 (x_1.Tables.map (encL 2 encGRow))) rfl nle rfl <| s_on rfl <| s_mov (.int .i64 (i_293 : Int)) rfl <| s_on rfl <| s_do (o_iaddrn (enc := (encL 2 encGRow)) rfl rfl hx442) <| s_on rfl <| s_q (.lst 2 (x_447.map encGRow)) rfl ⟨rfl, rfl⟩ rfl <| s_on rfl <| s_mov (.int .i64 (k_469 : Int)) rfl <| s_on rfl <| s_do (o_iaddrn (enc := encGRow) rfl rfl hx488) <| s_on rfl <| s_q (.iptr (encGRow x_493) 0) rfl trivial rfl <| s_on rfl <| s_q (.int .i64 x_493.Id) rfl nle rfl <| ?_
       refine s_on rfl <| s_q (.bool (decide (x_502.Id ≥ x_493.Id))) rfl rfl rfl <| s_q (.bool (decide (x_502.Id ≥ x_493.Id))) rfl trivial rfl <| w_done <| ?_; obtain rfl := os hb3; exact ⟨[], [0], _, _, rfl, rfl, ⟨.refl _, ⟨.refl _, ⟨.refl _, ⟨.refl _, trivial⟩⟩⟩⟩, (.refl _)⟩
      ·refine s_lit (s := 24) (b := false) rfl (bf c501) <| s_off rfl rfl <| s_off rfl rfl <| s_off rfl rfl <| s_off rfl rfl <| s_off rfl rfl <| s_off rfl rfl <| s_off rfl rfl <| s_off rfl rfl <| s_off rfl rfl <| s_off rfl rfl <| s_off rfl rfl <| s_off rfl rfl <| s_off rfl rfl <| s_off rfl rfl <| s_off rfl rfl <| s_off rfl rfl <| s_off rfl rfl <| s_off rfl rfl <| s_off rfl rfl <| s_off rfl rfl <| s_q (.bool false) rfl trivial rfl <| w_done <| ?_; obtain rfl := os hb3; exact ⟨[], [0], _, _, rfl, rfl, ⟨.refl _, ⟨.refl _, ⟨.refl _, ⟨.refl _, trivial⟩⟩⟩⟩, (.refl _)⟩
     ·rcases oi hc2 with ⟨c504, hc2⟩ | ⟨c504, hc2⟩
      ·refine w_condt rfl c504 <| awp_seq <| w_reg <| s_mov (.bool false) rfl <| w_done <| k_seq <| w_ret <| ?_; obtain rfl := os hc2; obtain rfl := os hc1; obtain rfl := os hf; exact r_flat ⟨trivial, trivial⟩ rfl (.refl _)
      ·refine w_condf rfl (bf c504) <| w_skip <| k_blk <| k_seq <| w_reg <| s_mov (.int .i64 (k_469 : Int)) rfl <| s_q (.int .i64 (w64 ((k_469 : Int) + 1))) rfl rfl rfl <| s_mov (.int .i64 (w64 ((k_469 : Int) + 1))) rfl <| w_done <| ?_; exact k_loopn ⟨(k_469 + 1), hc2⟩ (mul hlt487) ⟨[], [0], _, _, rfl, rfl, ⟨.refl _, ⟨.refl _, ⟨.of_eq (congrArg (AV.int _) (w64_incr hlt487 hl495)), trivial⟩⟩⟩, (.refl _)⟩
   ·rintro ⟨_, rfl⟩
    refine w_reg <| s_mov (.int .i64 (i_293 : Int)) rfl <| s_q (.int .i64 (w64 ((i_293 : Int) + 1))) rfl rfl rfl <| s_mov (.int .i64 (w64 ((i_293 : Int) + 1))) rfl <| w_done <| ?_; exact k_loopn ⟨(i_293 + 1), hc1⟩ (mul hlt441) ⟨[], [0], _, _, rfl, rfl, ⟨.refl _, ⟨.of_eq (congrArg (AV.int _) (w64_incr hlt441 hl449)), trivial⟩⟩, (.refl _)⟩
 ·rintro ⟨_, rfl⟩
  refine awp_seq <| w_reg <| s_mov (.bool true) rfl <| w_done <| k_seq <| w_ret <| ?_; obtain rfl := os hf; exact r_flat ⟨trivial, trivial⟩ rfl (.refl _)

/- spec.l05OwnRow -/
def c73 : ACode :=
 (.seq (.reg (tq 1 (.box 2 (.t 0)) (tq 2 (.box 2 (.c (.agg [(.int .i64 0), .nil]))) .done)))
 (.seq (.reg (tq 5 (.faddr 0 (.t 1)) (tq 6 (.load 1 false (.t 5)) (tq 7 (.bslice 1 []) (tq 8 (.build [(.int .i64 0), .nil] [(0, 1, (.t 6)), (1, 1, (.t 7))]) (tq 3 (.box 2 (.c (.agg [(.int .i64 0), .nil]))) (.q ⟨none, none, .store 2 (.t 3) (.t 8)⟩
 .done)))))))
 (.seq (.seq (.reg (tm 4 (.c (.int .i64 0)) .done))
 (.block 0 (.loop (.seq (.seq (.reg (tm 9 (.t 4) (tq 10 (.faddr 1 (.t 1)) (tq 11 (.load 1 false (.t 10)) (tq 12 (.len (.t 11)) (tq 13 (.bin .lss (.t 9) (.t 12)) .done))))))
 (.cond (.t 13) .skip
 (.exit 0)))
 (.seq (.block 1 (.reg (tq 16 (.faddr 1 (.t 3)) (tq 17 (.load 1 false (.t 16)) (tq 19 (.faddr 1 (.t 1)) (tq 20 (.load 1 false (.t 19)) (tm 21 (.t 4) (tq 22 (.iaddr 1 (.t 20) (.t 21)) (tq 23 (.load 1 false (.t 22)) (.l ⟨(some 18), none, .bslice 3 []⟩ [⟨(some 23), none, .load 1 false (.t 22)⟩, ⟨(some 22), none, .iaddr 1 (.t 20) (.t 21)⟩, ⟨(some 20), none, .load 1 false (.t 19)⟩, ⟨(some 19), none, .faddr 1 (.t 1)⟩, ⟨(some 17), none, .load 1 false (.t 16)⟩, ⟨(some 16), none, .faddr 1 (.t 3)⟩]
 (.l ⟨(some 24), none, .append 3 32 (.t 18) (.t 23)⟩ [⟨(some 17), none, .load 1 false (.t 16)⟩, ⟨(some 16), none, .faddr 1 (.t 3)⟩]
 (.l ⟨(some 25), none, .bslice 1 [(.t 24)]⟩ [⟨(some 17), none, .load 1 false (.t 16)⟩, ⟨(some 16), none, .faddr 1 (.t 3)⟩]
 (.l ⟨(some 26), none, .append 1 24 (.t 17) (.t 25)⟩ []
 (tq 27 (.faddr 1 (.t 3)) (.l ⟨none, none, .store 1 (.t 27) (.t 26)⟩ []
 .done .non)) .non) .non) .non) .non))))))))))
 (.reg (tm 14 (.t 4) (tq 15 (.bin .add (.t 14) (.c (.int .i64 1))) (tm 4 (.t 15) .done)))))))))
 (.cut (.seq (.reg (tq 28 (.load 2 true (.t 3)) (.q ⟨none, none, .store 2 (.t 2) (.t 28)⟩
 .done)))
 .ret)))))
theorem fc73 : fcomp Try.prog Try.f73 = some (c73.erase, [.load 2 true (.t 2)], 29) := by kernel_rfl
def spec_l05OwnRow_L1  : List (List GAtom) → (List (List GAtom)) → Option (List (List GAtom))
  | [], x_17 =>
    some x_17
  | x_33 :: xs, x_17 =>
    if ([] ++ x_33).length ≤ 2 ^ 30 then
    if (x_17 ++ [[] ++ x_33]).length ≤ 2 ^ 30 then
    spec_l05OwnRow_L1 xs  (x_17 ++ [[] ++ x_33])
    else none
    else none

def spec_l05OwnRow (r_1 : GRow) : Option GRow :=
    (spec_l05OwnRow_L1 r_1.Cells []).bind fun x_25 =>
    some (⟨r_1.Id, x_25⟩ : GRow)
theorem w_spec_l05OwnRow (r_1 : GRow) (r : GRow) (hf : spec_l05OwnRow r_1 = some r) : CallOK Try.prog 73 .fresh [(encGRow r_1)] (encGRow r) := by
 refine CallOK.of_awp mixed Try.func73 fc73 nle ?_; rw [argT_eq]; unfold spec_l05OwnRow at hf; unfold c73; refine (show awp Try.prog true 0 _ (ofL [(0, (encGRow r_1))]) [] _ from ?_); refine awp_seq <| w_reg <| s_do (o_box (j := 0) (c := (.agg [(.int .i64 r_1.Id), (.lst 1 (r_1.Cells.map (encL 3 encGAtom)))])) rfl trivial rfl rfl) <| s_do (o_box (j := 1) (c := (.agg [(.int .i64 0), .nil])) rfl trivial rfl rfl) <| w_done <| k_seq <| awp_seq <| w_reg <| s_q (.ptr 0 0 0) rfl trivial rfl <| s_q (.int .i64 r_1.Id) rfl nle rfl <| ?_; refine s_do (o_bslice (j := 2) (as' := []) rfl (fun _ => by decide) trivial (.refl _) rfl rfl rfl) ?_; refine s_q (.agg [(.int .i64 r_1.Id), (.own 2 0 0)]) rfl ⟨⟨rfl, nle, trivial⟩, ⟨⟨rfl, nle, trivial⟩, trivial⟩⟩ rfl ?_
 refine s_do (o_box (j := 3) (c := (.agg [(.int .i64 0), .nil])) rfl trivial rfl rfl) <| s_do0 (o_storebox (v := (.agg [(.int .i64 r_1.Id), (.own 2 0 0)])) (y' := (.agg [(.int .i64 r_1.Id), (.own 2 0 0)])) rfl rfl rfl trivial ⟨rfl, nle⟩ ⟨⟨rfl, trivial⟩, ⟨⟨rfl, trivial⟩, trivial⟩⟩ rfl) <| w_done <| k_seq <| awp_seq <| awp_seq <| w_reg <| s_mov (.int .i64 0) rfl <| w_done <| k_seq <| ?_
 obtain ⟨x_25, hb1, hf⟩ := ob hf
 refine awp_cut ([(2, (.ptr 0 0 0)), (3, (.ptr 1 0 0))], [.box 2 (.agg [(.int .i64 0), .nil]), .box 2 (.agg [(.int .i64 r_1.Id), (.own 2 0 x_25.length)]), .row 1 (x_25.map (encL 3 encGAtom))]) ?_ ?_
 ·refine awp_loop (X := {q : (Nat × (List (List GAtom))) // spec_l05OwnRow_L1 (r_1.Cells.drop q.1) q.2 = some x_25}) (fun q => ([(1, (.ptr 0 0 0)), (2, (.ptr 1 0 0)), (3, (.ptr 2 0 0)), (4, (.int .i64 (q.1.1 : Int)))], [.box 2 (.agg [(.int .i64 r_1.Id), (.lst 1 (r_1.Cells.map (encL 3 encGAtom)))]), .box 2 (.agg [(.int .i64 0), .nil]), .box 2 (.agg [(.int .i64 r_1.Id), (.own 3 0 q.1.2.length)]), .row 1 (q.1.2.map (encL 3 encGAtom))])) (fun q => r_1.Cells.length - q.1.1) ⟨(0, []), hb1⟩ ⟨[], [0, 1, 3, 2], _, _, rfl, rfl, ⟨.refl _, ⟨.refl _, ⟨.refl _, ⟨.refl _, trivial⟩⟩⟩⟩, (.cons (.refl _) (.cons (.refl _) (.cons (.box (.agg (.cons (.refl _) (.cons (.of_eq (congrArg (AV.own _ 0) (by simp))) .nil)))) (.cons (.refl _) .nil))))⟩ ?_
  rintro ⟨⟨i_16, x_17⟩, hc1⟩
  have hc1 : spec_l05OwnRow_L1 (r_1.Cells.drop i_16) x_17 = some x_25 := hc1
  refine (show awp Try.prog true 0 _ (ofL [(1, (.ptr 0 0 0)), (2, (.ptr 1 0 0)), (3, (.ptr 2 0 0)), (4, (.int .i64 (i_16 : Int)))]) [.box 2 (.agg [(.int .i64 r_1.Id), (.lst 1 (r_1.Cells.map (encL 3 encGAtom)))]), .box 2 (.agg [(.int .i64 0), .nil]), .box 2 (.agg [(.int .i64 r_1.Id), (.own 3 0 x_17.length)]), .row 1 (x_17.map (encL 3 encGAtom))] _ from ?_)
  rcases dropc r_1.Cells i_16 with ⟨hie29, hd32⟩ | ⟨hlt27, x_33, hx28, hd32⟩
  ·rw [hd32, spec_l05OwnRow_L1.eq_1] at hc1
   have hq31 := dlf hie29
   refine awp_seq <| awp_seq <| w_reg <| s_mov (.int .i64 (i_16 : Int)) rfl <| s_q (.ptr 0 0 1) rfl trivial rfl <| s_q (.lst 1 (r_1.Cells.map (encL 3 encGAtom))) rfl nle rfl <| s_dof (o_len (enc := (encL 3 encGAtom)) rfl) fun hl34 => s_q (.bool (decide ((i_16 : Int) < (r_1.Cells.length : Int)))) rfl rfl rfl <| w_done <| k_seq <| w_condf rfl hq31 <| w_exit <| k_seqx <| k_loopx <| k_blkx <| ?_; obtain rfl := os hc1; exact ⟨[], [1, 2, 3], _, _, rfl, rfl, ⟨.refl _, ⟨.refl _, trivial⟩⟩, (.refl _)⟩
  ·rw [hd32, spec_l05OwnRow_L1.eq_2] at hc1
   have hq31 := dlt hlt27
   refine awp_seq <| awp_seq <| w_reg <| s_mov (.int .i64 (i_16 : Int)) rfl <| s_q (.ptr 0 0 1) rfl trivial rfl <| s_q (.lst 1 (r_1.Cells.map (encL 3 encGAtom))) rfl nle rfl <| s_dof (o_len (enc := (encL 3 encGAtom)) rfl) fun hl35 => s_q (.bool (decide ((i_16 : Int) < (r_1.Cells.length : Int)))) rfl rfl rfl <| w_done <| k_seq <| w_condt rfl hq31 <| w_skip <| k_seq <| awp_seq <| w_blk <| w_reg <| s_q (.ptr 2 0 1) rfl trivial rfl <| s_q (.own 3 0 x_17.length) rfl nle rfl <| s_q (.ptr 0 0 1) rfl trivial rfl <| s_q (.lst 1 (r_1.Cells.map (encL 3 encGAtom))) rfl nle rfl <| s_mov (.int .i64 (i_16 : Int)) rfl <| s_do (o_iaddrn (enc := (encL 3 encGAtom)) rfl rfl hx28) <| s_q (.lst 3 (x_33.map encGAtom)) rfl ⟨rfl, rfl⟩ rfl <| ?_
   refine s_dol (o_bslice (j := 4) (as' := []) rfl (fun _ => by decide) trivial (.refl _) rfl rfl rfl) (.inr ⟨⟨⟨rfl, rfl⟩, rfl⟩, ⟨(ag_iaddrn (enc := (encL 3 encGAtom)) rfl rfl hx28), ⟨⟨nle, rfl⟩, ⟨⟨trivial, rfl⟩, ⟨⟨nle, rfl⟩, ⟨⟨trivial, rfl⟩, trivial⟩⟩⟩⟩⟩⟩) trivial ?_
   obtain ⟨g36, hc1⟩ := og hc1
   refine s_dol (o_appendd (j := 5) (L := (([] ++ x_33).map encGAtom)) (len := ([] ++ x_33).length) rfl false rfl rfl (fun _ => flm (fun _ => rfl) _) (fun _ _ _ => flm (fun _ => rfl) _) (by decide) ((by simp)) (by simp <;> omega) g36 rfl rfl) (.inr ⟨⟨nle, rfl⟩, ⟨⟨trivial, rfl⟩, trivial⟩⟩) trivial ?_
   refine s_dol (o_bslice (j := 6) (as' := [(.lst 3 (([] ++ x_33).map encGAtom))]) rfl (fun _ => by decide) ⟨rfl, trivial⟩ (.cons (.of_eq (congrArg (AV.lst _) (tk (enc := encGAtom) ([] ++ x_33)))) .nil) rfl rfl rfl) (.inr ⟨⟨nle, rfl⟩, ⟨⟨trivial, rfl⟩, trivial⟩⟩) trivial ?_
   obtain ⟨g37, hc1⟩ := og hc1
   refine s_dol (o_appendd (j := 7) (L := ((x_17 ++ [[] ++ x_33]).map (encL 3 encGAtom))) (len := (x_17 ++ [[] ++ x_33]).length) rfl true rfl rfl (fun h => Bool.noConfusion h) (fun _ _ h => (ownl (show AV.own _ _ _ = AV.lst _ _ from h)).elim) (by decide) (apoc (enc := (encL 3 encGAtom)) x_17 [[] ++ x_33] _ (by rfl)) (by simp <;> omega) g37 rfl rfl) trivial trivial ?_
   refine s_q (.ptr 2 0 1) rfl trivial rfl <| s_dol0 (o_storebox (v := (.own 7 0 ((x_17 ++ [[] ++ x_33]).length))) (y' := (.agg [(.int .i64 r_1.Id), (.own 7 0 ((x_17 ++ [[] ++ x_33]).length))])) rfl rfl rfl trivial ⟨rfl, nle⟩ ⟨⟨rfl, trivial⟩, trivial⟩ rfl) trivial trivial <| w_done <| k_blk <| k_seq <| w_reg <| s_mov (.int .i64 (i_16 : Int)) rfl <| s_q (.int .i64 (w64 ((i_16 : Int) + 1))) rfl rfl rfl <| s_mov (.int .i64 (w64 ((i_16 : Int) + 1))) rfl <| w_done <| ?_; exact k_loopn ⟨((i_16 + 1), x_17 ++ [[] ++ x_33]), hc1⟩ (mul hlt27) ⟨[], [0, 1, 2, 7], _, _, rfl, rfl, ⟨.refl _, ⟨.refl _, ⟨.refl _, ⟨.of_eq (congrArg (AV.int _) (w64_incr hlt27 hl35)), trivial⟩⟩⟩⟩, (.refl _)⟩
 ·refine awp_seq <| w_reg <| s_q (.agg [(.int .i64 r_1.Id), (.own 2 0 x_25.length)]) rfl nle rfl <| s_do0 (o_storebox (v := (.agg [(.int .i64 r_1.Id), (.own 2 0 x_25.length)])) (y' := (.agg [(.int .i64 r_1.Id), (.own 2 0 x_25.length)])) rfl rfl rfl trivial ⟨rfl, nle⟩ ⟨⟨rfl, trivial⟩, ⟨⟨rfl, trivial⟩, trivial⟩⟩ rfl) <| w_done <| k_seq <| w_ret <| ?_; obtain rfl := os hf; exact r_fresh ⟨nle, trivial⟩ rfl (by decide) (.agg (.cons (.refl _) (.cons (.of_eq (congrArg (AV.lst _) (tk (enc := (encL 3 encGAtom)) x_25))) .nil)))

/- spec.l05Own -/
def c37 : ACode :=
 (.seq (.reg (tq 1 (.box 2 (.t 0)) (tq 2 (.box 2 (.c (.agg [.nil, (.int .i64 0)]))) .done)))
 (.seq (.reg (tq 7 (.bslice 1 []) (tq 8 (.faddr 1 (.t 1)) (tq 9 (.load 1 false (.t 8)) (tq 10 (.build [.nil, (.int .i64 0)] [(0, 1, (.t 7)), (1, 1, (.t 9))]) (tq 3 (.box 2 (.c (.agg [.nil, (.int .i64 0)]))) (.q ⟨none, none, .store 2 (.t 3) (.t 10)⟩
 .done)))))))
 (.seq (.seq (.reg (tm 4 (.c (.int .i64 0)) .done))
 (.block 0 (.loop (.seq (.seq (.reg (tm 11 (.t 4) (tq 12 (.faddr 0 (.t 1)) (tq 13 (.load 1 false (.t 12)) (tq 14 (.len (.t 13)) (tq 15 (.bin .lss (.t 11) (.t 14)) .done))))))
 (.cond (.t 15) .skip
 (.exit 0)))
 (.seq (.block 1 (.seq (.reg (tq 18 (.bslice 2 []) (tm 5 (.t 18) .done)))
 (.seq (.seq (.reg (tm 6 (.c (.int .i64 0)) .done))
 (.block 2 (.loop (.seq (.seq (.reg (tm 19 (.t 6) (tq 20 (.faddr 0 (.t 1)) (tq 21 (.load 1 false (.t 20)) (tm 22 (.t 4) (tq 23 (.iaddr 1 (.t 21) (.t 22)) (tq 24 (.load 1 false (.t 23)) (tq 25 (.len (.t 24)) (tq 26 (.bin .lss (.t 19) (.t 25)) .done)))))))))
 (.cond (.t 26) .skip
 (.exit 2)))
 (.seq (.block 3 (.reg (tm 29 (.t 5) (tq 30 (.faddr 0 (.t 1)) (tq 31 (.load 1 false (.t 30)) (tm 32 (.t 4) (tq 33 (.iaddr 1 (.t 31) (.t 32)) (tq 34 (.load 1 false (.t 33)) (tm 35 (.t 6) (tq 36 (.iaddr 2 (.t 34) (.t 35)) (tq 37 (.load 2 true (.t 36)) (tq 38 (.call 73 [(.t 37)]) (tq 39 (.bslice 2 [(.t 38)]) (tq 40 (.append 2 32 (.t 29) (.t 39)) (tm 5 (.t 40) .done)))))))))))))))
 (.reg (tm 27 (.t 6) (tq 28 (.bin .add (.t 27) (.c (.int .i64 1))) (tm 6 (.t 28) .done)))))))))
 (.cut (.reg (tq 41 (.faddr 0 (.t 3)) (tq 42 (.load 1 false (.t 41)) (tm 43 (.t 5) (tq 44 (.bslice 1 [(.t 43)]) (tq 45 (.append 1 24 (.t 42) (.t 44)) (tq 46 (.faddr 0 (.t 3)) (.q ⟨none, none, .store 1 (.t 46) (.t 45)⟩
 .done))))))))))))
 (.reg (tm 16 (.t 4) (tq 17 (.bin .add (.t 16) (.c (.int .i64 1))) (tm 4 (.t 17) .done)))))))))
 (.cut (.seq (.reg (tq 47 (.load 2 true (.t 3)) (.q ⟨none, none, .store 2 (.t 2) (.t 47)⟩
 .done)))
 .ret)))))
theorem fc37 : fcomp Try.prog Try.f37 = some (c37.erase, [.load 2 true (.t 2)], 48) := by kernel_rfl
def spec_l05Own_L2  : List GRow → (List GRow) → Option (List GRow)
  | [], rows_314 =>
    some rows_314
  | x_331 :: xs, rows_314 =>
    (spec_l05OwnRow x_331).bind fun r_334 =>
    if (rows_314 ++ [r_334]).length ≤ 2 ^ 30 then
    spec_l05Own_L2 xs  (rows_314 ++ [r_334])
    else none

def spec_l05Own_L1  : List (List GRow) → (List (List GRow)) → Option (List (List GRow))
  | [], x_191 =>
    some x_191
  | x_294 :: xs, x_191 =>
    (spec_l05Own_L2 x_294 []).bind fun rows_323 =>
    if (x_191 ++ [rows_323]).length ≤ 2 ^ 30 then
    spec_l05Own_L1 xs  (x_191 ++ [rows_323])
    else none

def spec_l05Own (x_1 : GStore) : Option GStore :=
    (spec_l05Own_L1 x_1.Tables []).bind fun x_286 =>
    some (⟨x_286, x_1.Next⟩ : GStore)
theorem w_spec_l05Own (x_1 : GStore) (r : GStore) (hf : spec_l05Own x_1 = some r) : CallOK Try.prog 37 .fresh [(encGStore x_1)] (encGStore r) := by
 refine CallOK.of_awp mixed Try.func37 fc37 nle ?_; rw [argT_eq]; unfold spec_l05Own at hf; unfold c37; refine (show awp Try.prog true 0 _ (ofL [(0, (encGStore x_1))]) [] _ from ?_); refine awp_seq <| w_reg <| s_do (o_box (j := 0) (c := (.agg [(.lst 1 (x_1.Tables.map (encL 2 encGRow))), (.int .i64 x_1.Next)])) rfl trivial rfl rfl) <| s_do (o_box (j := 1) (c := (.agg [.nil, (.int .i64 0)])) rfl trivial rfl rfl) <| w_done <| k_seq <| awp_seq <| w_reg <| ?_; refine s_do (o_bslice (j := 2) (as' := []) rfl (fun _ => by decide) trivial (.refl _) rfl rfl rfl) ?_; refine s_q (.ptr 0 0 1) rfl trivial rfl <| s_q (.int .i64 x_1.Next) rfl nle rfl <| s_q (.agg [(.own 2 0 0), (.int .i64 x_1.Next)]) rfl ⟨⟨rfl, nle, trivial⟩, ⟨⟨rfl, nle, trivial⟩, trivial⟩⟩ rfl <| ?_
 refine s_do (o_box (j := 3) (c := (.agg [.nil, (.int .i64 0)])) rfl trivial rfl rfl) <| s_do0 (o_storebox (v := (.agg [(.own 2 0 0), (.int .i64 x_1.Next)])) (y' := (.agg [(.own 2 0 0), (.int .i64 x_1.Next)])) rfl rfl rfl trivial ⟨rfl, nle⟩ ⟨⟨rfl, trivial⟩, ⟨⟨rfl, trivial⟩, trivial⟩⟩ rfl) <| w_done <| k_seq <| awp_seq <| awp_seq <| w_reg <| s_mov (.int .i64 0) rfl <| w_done <| k_seq <| ?_
 obtain ⟨x_286, hb1, hf⟩ := ob hf
 refine awp_cut ([(2, (.ptr 0 0 0)), (3, (.ptr 1 0 0))], [.box 2 (.agg [.nil, (.int .i64 0)]), .box 2 (.agg [(.own 2 0 x_286.length), (.int .i64 x_1.Next)]), .row 1 (x_286.map (encL 2 encGRow))]) ?_ ?_
 ·refine awp_loop (X := {q : (Nat × (List (List GRow))) // spec_l05Own_L1 (x_1.Tables.drop q.1) q.2 = some x_286}) (fun q => ([(1, (.ptr 0 0 0)), (2, (.ptr 1 0 0)), (3, (.ptr 2 0 0)), (4, (.int .i64 (q.1.1 : Int)))], [.box 2 (.agg [(.lst 1 (x_1.Tables.map (encL 2 encGRow))), (.int .i64 x_1.Next)]), .box 2 (.agg [.nil, (.int .i64 0)]), .box 2 (.agg [(.own 3 0 q.1.2.length), (.int .i64 x_1.Next)]), .row 1 (q.1.2.map (encL 2 encGRow))])) (fun q => x_1.Tables.length - q.1.1) ⟨(0, []), hb1⟩ ⟨[], [0, 1, 3, 2], _, _, rfl, rfl, ⟨.refl _, ⟨.refl _, ⟨.refl _, ⟨.refl _, trivial⟩⟩⟩⟩, (.cons (.refl _) (.cons (.refl _) (.cons (.box (.agg (.cons (.of_eq (congrArg (AV.own _ 0) (by simp))) (.cons (.refl _) .nil)))) (.cons (.refl _) .nil))))⟩ ?_
  rintro ⟨⟨i_190, x_191⟩, hc1⟩
  have hc1 : spec_l05Own_L1 (x_1.Tables.drop i_190) x_191 = some x_286 := hc1
  refine (show awp Try.prog true 0 _ (ofL [(1, (.ptr 0 0 0)), (2, (.ptr 1 0 0)), (3, (.ptr 2 0 0)), (4, (.int .i64 (i_190 : Int)))]) [.box 2 (.agg [(.lst 1 (x_1.Tables.map (encL 2 encGRow))), (.int .i64 x_1.Next)]), .box 2 (.agg [.nil, (.int .i64 0)]), .box 2 (.agg [(.own 3 0 x_191.length), (.int .i64 x_1.Next)]), .row 1 (x_191.map (encL 2 encGRow))] _ from ?_)
  rcases dropc x_1.Tables i_190 with ⟨hie290, hd293⟩ | ⟨hlt288, x_294, hx289, hd293⟩
  ·rw [hd293, spec_l05Own_L1.eq_1] at hc1
   have hq292 := dlf hie290
   refine awp_seq <| awp_seq <| w_reg <| s_mov (.int .i64 (i_190 : Int)) rfl <| s_q (.ptr 0 0 0) rfl trivial rfl <| s_q (.lst 1 (x_1.Tables.map (encL 2 encGRow))) rfl nle rfl <| s_dof (o_len (enc := (encL 2 encGRow)) rfl) fun hl295 => s_q (.bool (decide ((i_190 : Int) < (x_1.Tables.length : Int)))) rfl rfl rfl <| w_done <| k_seq <| w_condf rfl hq292 <| w_exit <| k_seqx <| k_loopx <| k_blkx <| ?_; obtain rfl := os hc1; exact ⟨[], [1, 2, 3], _, _, rfl, rfl, ⟨.refl _, ⟨.refl _, trivial⟩⟩, (.refl _)⟩
  ·rw [hd293, spec_l05Own_L1.eq_2] at hc1
   have hq292 := dlt hlt288
   refine awp_seq <| awp_seq <| w_reg <| s_mov (.int .i64 (i_190 : Int)) rfl <| s_q (.ptr 0 0 0) rfl trivial rfl <| s_q (.lst 1 (x_1.Tables.map (encL 2 encGRow))) rfl nle rfl <| s_dof (o_len (enc := (encL 2 encGRow)) rfl) fun hl296 => s_q (.bool (decide ((i_190 : Int) < (x_1.Tables.length : Int)))) rfl rfl rfl <| w_done <| k_seq <| w_condt rfl hq292 <| w_skip <| k_seq <| awp_seq <| w_blk <| awp_seq <| w_reg <| ?_; refine s_do (o_bslice (j := 4) (as' := []) rfl (fun _ => by decide) trivial (.refl _) rfl rfl rfl) ?_; refine s_mov (.own 4 0 0) rfl <| w_done <| k_seq <| awp_seq <| awp_seq <| w_reg <| s_mov (.int .i64 0) rfl <| w_done <| k_seq <| ?_
   obtain ⟨rows_323, hb2, hc1⟩ := ob hc1
   refine awp_cut ([(1, (.ptr 0 0 0)), (2, (.ptr 1 0 0)), (3, (.ptr 2 0 0)), (4, (.int .i64 (i_190 : Int))), (5, (.own 3 0 rows_323.length))], [.box 2 (.agg [(.lst 1 (x_1.Tables.map (encL 2 encGRow))), (.int .i64 x_1.Next)]), .box 2 (.agg [.nil, (.int .i64 0)]), .box 2 (.agg [(.own 4 0 x_191.length), (.int .i64 x_1.Next)]), .row 2 (rows_323.map encGRow), .row 1 (x_191.map (encL 2 encGRow))]) ?_ ?_
   ·refine awp_loop (X := {q : (Nat × (List GRow)) // spec_l05Own_L2 (x_294.drop q.1) q.2 = some rows_323}) (fun q => ([(1, (.ptr 0 0 0)), (2, (.ptr 1 0 0)), (3, (.ptr 2 0 0)), (4, (.int .i64 (i_190 : Int))), (5, (.own 3 0 q.1.2.length)), (6, (.int .i64 (q.1.1 : Int)))], [.box 2 (.agg [(.lst 1 (x_1.Tables.map (encL 2 encGRow))), (.int .i64 x_1.Next)]), .box 2 (.agg [.nil, (.int .i64 0)]), .box 2 (.agg [(.own 4 0 x_191.length), (.int .i64 x_1.Next)]), .row 2 (q.1.2.map encGRow), .row 1 (x_191.map (encL 2 encGRow))])) (fun q => x_294.length - q.1.1) ⟨(0, []), hb2⟩ ⟨[], [0, 1, 2, 4, 3], _, _, rfl, rfl, ⟨.refl _, ⟨.refl _, ⟨.refl _, ⟨.refl _, ⟨.of_eq (congrArg (AV.own _ 0) (by simp)), ⟨.refl _, trivial⟩⟩⟩⟩⟩⟩, (.refl _)⟩ ?_
    rintro ⟨⟨k_313, rows_314⟩, hc2⟩
    have hc2 : spec_l05Own_L2 (x_294.drop k_313) rows_314 = some rows_323 := hc2
    refine (show awp Try.prog true 0 _ (ofL [(1, (.ptr 0 0 0)), (2, (.ptr 1 0 0)), (3, (.ptr 2 0 0)), (4, (.int .i64 (i_190 : Int))), (5, (.own 3 0 rows_314.length)), (6, (.int .i64 (k_313 : Int)))]) [.box 2 (.agg [(.lst 1 (x_1.Tables.map (encL 2 encGRow))), (.int .i64 x_1.Next)]), .box 2 (.agg [.nil, (.int .i64 0)]), .box 2 (.agg [(.own 4 0 x_191.length), (.int .i64 x_1.Next)]), .row 2 (rows_314.map encGRow), .row 1 (x_191.map (encL 2 encGRow))] _ from ?_)
    rcases dropc x_294 k_313 with ⟨hie327, hd330⟩ | ⟨hlt325, x_331, hx326, hd330⟩
    ·rw [hd330, spec_l05Own_L2.eq_1] at hc2
     have hq329 := dlf hie327
     refine awp_seq <| awp_seq <| w_reg <| s_mov (.int .i64 (k_313 : Int)) rfl <| s_q (.ptr 0 0 0) rfl trivial rfl <| s_q (.lst 1 (x_1.Tables.map (encL 2 encGRow))) rfl nle rfl <| s_mov (.int .i64 (i_190 : Int)) rfl <| s_do (o_iaddrn (enc := (encL 2 encGRow)) rfl rfl hx289) <| s_q (.lst 2 (x_294.map encGRow)) rfl ⟨rfl, rfl⟩ rfl <| s_dof (o_len (enc := encGRow) rfl) fun hl332 => s_q (.bool (decide ((k_313 : Int) < (x_294.length : Int)))) rfl rfl rfl <| w_done <| k_seq <| w_condf rfl hq329 <| w_exit <| k_seqx <| k_loopx <| k_blkx <| ?_; obtain rfl := os hc2; exact ⟨[], [0, 1, 2, 3, 4], _, _, rfl, rfl, ⟨.refl _, ⟨.refl _, ⟨.refl _, ⟨.refl _, ⟨.refl _, trivial⟩⟩⟩⟩⟩, (.refl _)⟩
    ·rw [hd330, spec_l05Own_L2.eq_2] at hc2
     have hq329 := dlt hlt325
     refine awp_seq <| awp_seq <| w_reg <| s_mov (.int .i64 (k_313 : Int)) rfl <| s_q (.ptr 0 0 0) rfl trivial rfl <| s_q (.lst 1 (x_1.Tables.map (encL 2 encGRow))) rfl nle rfl <| s_mov (.int .i64 (i_190 : Int)) rfl <| s_do (o_iaddrn (enc := (encL 2 encGRow)) rfl rfl hx289) <| s_q (.lst 2 (x_294.map encGRow)) rfl ⟨rfl, rfl⟩ rfl <| s_dof (o_len (enc := encGRow) rfl) fun hl333 => s_q (.bool (decide ((k_313 : Int) < (x_294.length : Int)))) rfl rfl rfl <| w_done <| k_seq <| w_condt rfl hq329 <| w_skip <| k_seq <| awp_seq <| w_blk <| w_reg <| s_mov (.own 3 0 rows_314.length) rfl <| s_q (.ptr 0 0 0) rfl trivial rfl <| s_q (.lst 1 (x_1.Tables.map (encL 2 encGRow))) rfl nle rfl <| s_mov (.int .i64 (i_190 : Int)) rfl <| ?_
     refine s_do (o_iaddrn (enc := (encL 2 encGRow)) rfl rfl hx289) <| s_q (.lst 2 (x_294.map encGRow)) rfl ⟨rfl, rfl⟩ rfl <| s_mov (.int .i64 (k_313 : Int)) rfl <| s_do (o_iaddrn (enc := encGRow) rfl rfl hx326) <| s_q (encGRow x_331) rfl nle rfl <| ?_
     obtain ⟨r_334, er335, hc2⟩ := ob hc2
     refine s_do (o_callf (v := (.agg [(.int .i64 r_334.Id), (.own 5 0 r_334.Cells.length)])) (h' := [.row 1 (r_334.Cells.map (encL 3 encGAtom))]) (w_spec_l05OwnRow _ _ er335) rfl (.refl _) (by simp only [openV, openVs, List.length_map, encGRow_eq, List.nil_append, List.append_nil, List.cons_append]; rfl)) ?_; refine s_do (o_bslice (j := 6) (as' := [(encGRow r_334)]) rfl (fun _ => by decide) ⟨rfl, trivial⟩ (.cons (.agg (.cons (.refl _) (.cons (.of_eq (congrArg (AV.lst _) (tk (enc := (encL 3 encGAtom)) r_334.Cells))) .nil))) .nil) rfl rfl rfl) ?_
     obtain ⟨g336, hc2⟩ := og hc2
     refine s_do (o_appendd (j := 7) (L := ((rows_314 ++ [r_334]).map encGRow)) (len := (rows_314 ++ [r_334]).length) rfl true rfl rfl (fun h => Bool.noConfusion h) (fun _ _ h => (ownl (show AV.own _ _ _ = AV.lst _ _ from h)).elim) (by decide) (apoc (enc := encGRow) rows_314 [r_334] _ (by rfl)) (by simp <;> omega) g336 rfl rfl) ?_
     refine s_mov (.own 7 0 ((rows_314 ++ [r_334]).length)) rfl <| w_done <| k_blk <| k_seq <| w_reg <| s_mov (.int .i64 (k_313 : Int)) rfl <| s_q (.int .i64 (w64 ((k_313 : Int) + 1))) rfl rfl rfl <| s_mov (.int .i64 (w64 ((k_313 : Int) + 1))) rfl <| w_done <| ?_; exact k_loopn ⟨((k_313 + 1), rows_314 ++ [r_334]), hc2⟩ (mul hlt325) ⟨[], [0, 1, 2, 7, 4], _, _, rfl, rfl, ⟨.refl _, ⟨.refl _, ⟨.refl _, ⟨.refl _, ⟨.refl _, ⟨.of_eq (congrArg (AV.int _) (w64_incr hlt325 hl333)), trivial⟩⟩⟩⟩⟩⟩, (.refl _)⟩
   ·refine w_reg ?_
    obtain ⟨g337, hc1⟩ := og hc1
    refine s_q (.ptr 2 0 0) rfl trivial rfl <| s_q (.own 4 0 x_191.length) rfl nle rfl <| s_mov (.own 3 0 rows_323.length) rfl <| ?_; refine s_do (o_bslice (j := 5) (as' := [(.lst 2 (rows_323.map encGRow))]) rfl (fun _ => by decide) ⟨rfl, trivial⟩ (.cons (.of_eq (congrArg (AV.lst _) (tk (enc := encGRow) rows_323))) .nil) rfl rfl rfl) ?_
    refine s_do (o_appendd (j := 6) (L := ((x_191 ++ [rows_323]).map (encL 2 encGRow))) (len := (x_191 ++ [rows_323]).length) rfl true rfl rfl (fun h => Bool.noConfusion h) (fun _ _ h => (ownl (show AV.own _ _ _ = AV.lst _ _ from h)).elim) (by decide) (apoc (enc := (encL 2 encGRow)) x_191 [rows_323] _ (by rfl)) (by simp <;> omega) g337 rfl rfl) ?_
    refine s_q (.ptr 2 0 0) rfl trivial rfl <| s_do0 (o_storebox (v := (.own 6 0 ((x_191 ++ [rows_323]).length))) (y' := (.agg [(.own 6 0 ((x_191 ++ [rows_323]).length)), (.int .i64 x_1.Next)])) rfl rfl rfl trivial ⟨rfl, nle⟩ ⟨⟨rfl, trivial⟩, trivial⟩ rfl) <| w_done <| k_blk <| k_seq <| w_reg <| s_mov (.int .i64 (i_190 : Int)) rfl <| s_q (.int .i64 (w64 ((i_190 : Int) + 1))) rfl rfl rfl <| s_mov (.int .i64 (w64 ((i_190 : Int) + 1))) rfl <| w_done <| ?_; exact k_loopn ⟨((i_190 + 1), x_191 ++ [rows_323]), hc1⟩ (mul hlt288) ⟨[], [0, 1, 2, 6], _, _, rfl, rfl, ⟨.refl _, ⟨.refl _, ⟨.refl _, ⟨.of_eq (congrArg (AV.int _) (w64_incr hlt288 hl296)), trivial⟩⟩⟩⟩, (.refl _)⟩
 ·refine awp_seq <| w_reg <| s_q (.agg [(.own 2 0 x_286.length), (.int .i64 x_1.Next)]) rfl nle rfl <| s_do0 (o_storebox (v := (.agg [(.own 2 0 x_286.length), (.int .i64 x_1.Next)])) (y' := (.agg [(.own 2 0 x_286.length), (.int .i64 x_1.Next)])) rfl rfl rfl trivial ⟨rfl, nle⟩ ⟨⟨rfl, trivial⟩, ⟨⟨rfl, trivial⟩, trivial⟩⟩ rfl) <| w_done <| k_seq <| w_ret <| ?_; obtain rfl := os hf; exact r_fresh ⟨nle, trivial⟩ rfl (by decide) (.agg (.cons (.of_eq (congrArg (AV.lst _) (tk (enc := (encL 2 encGRow)) x_286))) (.cons (.refl _) .nil)))

/- spec.l10Kind -/
def c38 : ACode :=
 (.seq (.reg (tq 1 (.box 6 (.t 0)) (tm 2 (.c (.int .i64 0)) .done)))
 (.seq (.block 0 (.seq (.reg (tq 4 (.faddr 2 (.t 1)) (tq 5 (.faddr 0 (.t 4)) (tq 6 (.load 1 false (.t 5)) (tq 7 (.bin .eql (.t 6) (.c (.int .i64 0))) (tm 8 (.t 7) (tg 9 8 true (.faddr 4 (.t 1)) (tg 10 8 true (.faddr 0 (.t 9)) (tg 11 8 true (.load 1 false (.t 10)) (tg 12 8 true (.faddr 1 (.t 1)) (tg 13 8 true (.load 1 false (.t 12)) (tg 14 8 true (.bin .eql (.t 11) (.t 13)) (tq 15 (.pick (.t 8) (.t 14) (.c (.bool false))) (tm 3 (.t 15) .done))))))))))))))
 (.cut (.cond (.t 3) (.seq (.reg (tm 2 (.c (.int .i64 1)) .done))
 .ret)
 (.seq (.reg (tq 17 (.faddr 4 (.t 1)) (tq 18 (.faddr 0 (.t 17)) (tq 19 (.load 1 false (.t 18)) (tq 20 (.bin .eql (.t 19) (.c (.int .i64 0))) (tm 21 (.t 20) (tg 22 21 true (.faddr 2 (.t 1)) (tg 23 21 true (.faddr 0 (.t 22)) (tg 24 21 true (.load 1 false (.t 23)) (tg 25 21 true (.faddr 1 (.t 1)) (tg 26 21 true (.load 1 false (.t 25)) (tg 27 21 true (.bin .eql (.t 24) (.t 26)) (tq 28 (.pick (.t 21) (.t 27) (.c (.bool false))) (tm 16 (.t 28) .done))))))))))))))
 (.cut (.cond (.t 16) (.seq (.reg (tm 2 (.c (.int .i64 2)) .done))
 .ret)
 (.seq (.reg (tq 30 (.faddr 2 (.t 1)) (tq 31 (.faddr 0 (.t 30)) (tq 32 (.load 1 false (.t 31)) (tq 33 (.faddr 1 (.t 1)) (tq 34 (.load 1 false (.t 33)) (tq 35 (.bin .eql (.t 32) (.t 34)) (tm 36 (.t 35) (tg 37 36 true (.faddr 4 (.t 1)) (tg 38 36 true (.faddr 0 (.t 37)) (tg 39 36 true (.load 1 false (.t 38)) (tg 40 36 true (.faddr 1 (.t 1)) (tg 41 36 true (.load 1 false (.t 40)) (tg 42 36 true (.bin .eql (.t 39) (.t 41)) (tq 43 (.pick (.t 36) (.t 42) (.c (.bool false))) (tm 29 (.t 43) .done))))))))))))))))
 (.cut (.cond (.t 29) (.seq (.reg (tm 2 (.c (.int .i64 3)) .done))
 .ret)
 .skip))))))))))
 (.seq (.reg (tm 2 (.c (.int .i64 0)) .done))
 .ret)))
theorem fc38 : fcomp Try.prog Try.f38 = some (c38.erase, [.mov (.t 2)], 44) := by kernel_rfl
def spec_l10Kind (c_1 : GChange) : Option Int :=
    ((some () : Option Unit)).bind fun _ =>
    if (bif (c_1.Old.Id == 0) then (c_1.New.Id == c_1.Id) else false) then
    some 1
    else
    ((some () : Option Unit)).bind fun _ =>
    if (bif (c_1.New.Id == 0) then (c_1.Old.Id == c_1.Id) else false) then
    some 2
    else
    ((some () : Option Unit)).bind fun _ =>
    if (bif (c_1.Old.Id == c_1.Id) then (c_1.New.Id == c_1.Id) else false) then
    some 3
    else
    some 0
theorem w_spec_l10Kind (c_1 : GChange) (r : Int) (hf : spec_l10Kind c_1 = some r) : CallOK Try.prog 38 .flat [(encGChange c_1)] (.int .i64 r) := by
 refine CallOK.of_awp mixed Try.func38 fc38 nle ?_; rw [argT_eq]; unfold spec_l10Kind at hf; unfold c38; refine (show awp Try.prog false 0 _ (ofL [(0, (encGChange c_1))]) [] _ from ?_); refine awp_seq <| w_reg <| s_do (o_box (j := 0) (c := (.agg [(.int .i64 c_1.Table), (.int .i64 c_1.Id), (.int .i64 c_1.Old.Id), (.lst 1 (c_1.Old.Cells.map (encL 3 encGAtom))), (.int .i64 c_1.New.Id), (.lst 1 (c_1.New.Cells.map (encL 3 encGAtom)))])) rfl trivial rfl rfl) <| s_mov (.int .i64 0) rfl <| w_done <| k_seq <| awp_seq <| w_blk <| awp_seq <| ?_
 obtain ⟨p2, hb1, hf⟩ := ob hf
 refine awp_cut ([(1, (.ptr 0 0 0)), (3, (.bool (bif (c_1.Old.Id == 0) then (c_1.New.Id == c_1.Id) else false)))], [.box 6 (.agg [(.int .i64 c_1.Table), (.int .i64 c_1.Id), (.int .i64 c_1.Old.Id), (.lst 1 (c_1.Old.Cells.map (encL 3 encGAtom))), (.int .i64 c_1.New.Id), (.lst 1 (c_1.New.Cells.map (encL 3 encGAtom)))])]) ?_ ?_
 ·refine w_reg <| s_q (.ptr 0 0 2) rfl trivial rfl <| s_q (.ptr 0 0 2) rfl trivial rfl <| s_q (.int .i64 c_1.Old.Id) rfl nle rfl <| s_q (.bool (c_1.Old.Id == 0)) rfl rfl rfl <| s_mov (.bool (c_1.Old.Id == 0)) rfl <| ?_; refine s_g (v := (c_1.Old.Id == 0)) (.ptr 0 0 4) rfl (fun hv => by (try simp only [gs_on hv]); exact ⟨rfl, trivial, rfl⟩) ?_; refine s_g (v := (c_1.Old.Id == 0)) (.ptr 0 0 4) rfl (fun hv => by (try simp only [gs_on hv]); exact ⟨rfl, trivial, rfl⟩) ?_; refine s_g (v := (c_1.Old.Id == 0)) (.int .i64 c_1.New.Id) rfl (fun hv => by (try simp only [gs_on hv]); exact ⟨rfl, nle, rfl⟩) ?_; refine s_g (v := (c_1.Old.Id == 0)) (.ptr 0 0 1) rfl (fun hv => by (try simp only [gs_on hv]); exact ⟨rfl, trivial, rfl⟩) ?_
  refine s_g (v := (c_1.Old.Id == 0)) (.int .i64 c_1.Id) rfl (fun hv => by (try simp only [gs_on hv]); exact ⟨rfl, nle, rfl⟩) ?_; refine s_g (v := (c_1.Old.Id == 0)) (.bool (c_1.New.Id == c_1.Id)) rfl (fun hv => by (try simp only [gs_on hv]); exact ⟨rfl, rfl, rfl⟩) ?_; refine s_pick (x := (c_1.New.Id == c_1.Id)) (y := false) rfl (fun hv => by (try simp only [gs_on hv]); rfl) (fun hv => by (try simp only [gs_on hv]); rfl) ?_; refine s_mov (.bool (bif (c_1.Old.Id == 0) then (c_1.New.Id == c_1.Id) else false)) rfl <| w_done <| ?_; obtain rfl := os hb1; exact ⟨[], [0], _, _, rfl, rfl, ⟨.refl _, ⟨.refl _, trivial⟩⟩, (.refl _)⟩
 ·rcases oi hf with ⟨c3, hf⟩ | ⟨c3, hf⟩
  ·refine w_condt rfl c3 <| awp_seq <| w_reg <| s_mov (.int .i64 1) rfl <| w_done <| k_seq <| w_ret <| ?_; obtain rfl := os hf; exact r_flat ⟨trivial, trivial⟩ rfl (.refl _)
  ·refine w_condf rfl (bf c3) <| awp_seq <| ?_
   obtain ⟨p4, hb1, hf⟩ := ob hf
   refine awp_cut ([(1, (.ptr 0 0 0)), (16, (.bool (bif (c_1.New.Id == 0) then (c_1.Old.Id == c_1.Id) else false)))], [.box 6 (.agg [(.int .i64 c_1.Table), (.int .i64 c_1.Id), (.int .i64 c_1.Old.Id), (.lst 1 (c_1.Old.Cells.map (encL 3 encGAtom))), (.int .i64 c_1.New.Id), (.lst 1 (c_1.New.Cells.map (encL 3 encGAtom)))])]) ?_ ?_
   ·refine w_reg <| s_q (.ptr 0 0 4) rfl trivial rfl <| s_q (.ptr 0 0 4) rfl trivial rfl <| s_q (.int .i64 c_1.New.Id) rfl nle rfl <| s_q (.bool (c_1.New.Id == 0)) rfl rfl rfl <| s_mov (.bool (c_1.New.Id == 0)) rfl <| ?_; refine s_g (v := (c_1.New.Id == 0)) (.ptr 0 0 2) rfl (fun hv => by (try simp only [gs_on hv]); exact ⟨rfl, trivial, rfl⟩) ?_; refine s_g (v := (c_1.New.Id == 0)) (.ptr 0 0 2) rfl (fun hv => by (try simp only [gs_on hv]); exact ⟨rfl, trivial, rfl⟩) ?_; refine s_g (v := (c_1.New.Id == 0)) (.int .i64 c_1.Old.Id) rfl (fun hv => by (try simp only [gs_on hv]); exact ⟨rfl, nle, rfl⟩) ?_; refine s_g (v := (c_1.New.Id == 0)) (.ptr 0 0 1) rfl (fun hv => by (try simp only [gs_on hv]); exact ⟨rfl, trivial, rfl⟩) ?_
    refine s_g (v := (c_1.New.Id == 0)) (.int .i64 c_1.Id) rfl (fun hv => by (try simp only [gs_on hv]); exact ⟨rfl, nle, rfl⟩) ?_; refine s_g (v := (c_1.New.Id == 0)) (.bool (c_1.Old.Id == c_1.Id)) rfl (fun hv => by (try simp only [gs_on hv]); exact ⟨rfl, rfl, rfl⟩) ?_; refine s_pick (x := (c_1.Old.Id == c_1.Id)) (y := false) rfl (fun hv => by (try simp only [gs_on hv]); rfl) (fun hv => by (try simp only [gs_on hv]); rfl) ?_; refine s_mov (.bool (bif (c_1.New.Id == 0) then (c_1.Old.Id == c_1.Id) else false)) rfl <| w_done <| ?_; obtain rfl := os hb1; exact ⟨[], [0], _, _, rfl, rfl, ⟨.refl _, ⟨.refl _, trivial⟩⟩, (.refl _)⟩
   ·rcases oi hf with ⟨c5, hf⟩ | ⟨c5, hf⟩
    ·refine w_condt rfl c5 <| awp_seq <| w_reg <| s_mov (.int .i64 2) rfl <| w_done <| k_seq <| w_ret <| ?_; obtain rfl := os hf; exact r_flat ⟨trivial, trivial⟩ rfl (.refl _)
    ·refine w_condf rfl (bf c5) <| awp_seq <| ?_
     obtain ⟨p6, hb1, hf⟩ := ob hf
     refine awp_cut ([(29, (.bool (bif (c_1.Old.Id == c_1.Id) then (c_1.New.Id == c_1.Id) else false)))], []) ?_ ?_
     ·refine w_reg <| s_q (.ptr 0 0 2) rfl trivial rfl <| s_q (.ptr 0 0 2) rfl trivial rfl <| s_q (.int .i64 c_1.Old.Id) rfl nle rfl <| s_q (.ptr 0 0 1) rfl trivial rfl <| s_q (.int .i64 c_1.Id) rfl nle rfl <| s_q (.bool (c_1.Old.Id == c_1.Id)) rfl rfl rfl <| s_mov (.bool (c_1.Old.Id == c_1.Id)) rfl <| ?_; refine s_g (v := (c_1.Old.Id == c_1.Id)) (.ptr 0 0 4) rfl (fun hv => by (try simp only [gs_on hv]); exact ⟨rfl, trivial, rfl⟩) ?_; refine s_g (v := (c_1.Old.Id == c_1.Id)) (.ptr 0 0 4) rfl (fun hv => by (try simp only [gs_on hv]); exact ⟨rfl, trivial, rfl⟩) ?_; refine s_g (v := (c_1.Old.Id == c_1.Id)) (.int .i64 c_1.New.Id) rfl (fun hv => by (try simp only [gs_on hv]); exact ⟨rfl, nle, rfl⟩) ?_; refine s_g (v := (c_1.Old.Id == c_1.Id)) (.ptr 0 0 1) rfl (fun hv => by (try simp only [gs_on hv]); exact ⟨rfl, trivial, rfl⟩) ?_
      refine s_g (v := (c_1.Old.Id == c_1.Id)) (.int .i64 c_1.Id) rfl (fun hv => by (try simp only [gs_on hv]); exact ⟨rfl, nle, rfl⟩) ?_; refine s_g (v := (c_1.Old.Id == c_1.Id)) (.bool (c_1.New.Id == c_1.Id)) rfl (fun hv => by (try simp only [gs_on hv]); exact ⟨rfl, rfl, rfl⟩) ?_; refine s_pick (x := (c_1.New.Id == c_1.Id)) (y := false) rfl (fun hv => by (try simp only [gs_on hv]); rfl) (fun hv => by (try simp only [gs_on hv]); rfl) ?_; refine s_mov (.bool (bif (c_1.Old.Id == c_1.Id) then (c_1.New.Id == c_1.Id) else false)) rfl <| w_done <| ?_; obtain rfl := os hb1; exact ⟨[], [], _, _, rfl, rfl, ⟨.refl _, trivial⟩, (.refl _)⟩
     ·rcases oi hf with ⟨c7, hf⟩ | ⟨c7, hf⟩
      ·refine w_condt rfl c7 <| awp_seq <| w_reg <| s_mov (.int .i64 3) rfl <| w_done <| k_seq <| w_ret <| ?_; obtain rfl := os hf; exact r_flat ⟨trivial, trivial⟩ rfl (.refl _)
      ·refine w_condf rfl (bf c7) <| w_skip <| k_blk <| k_seq <| awp_seq <| w_reg <| s_mov (.int .i64 0) rfl <| w_done <| k_seq <| w_ret <| ?_; obtain rfl := os hf; exact r_flat ⟨trivial, trivial⟩ rfl (.refl _)

/- spec.l05Place -/
def c42 : ACode :=
 (.seq (.reg (tm 4 (.c (.int .i64 0)) .done))
 (.seq (.seq (.reg (tm 5 (.c (.int .i64 0)) .done))
 (.block 0 (.loop (.seq (.seq (.reg (tm 6 (.t 5) (tm 7 (.t 0) (tq 8 (.len (.t 7)) (tq 9 (.bin .lss (.t 6) (.t 8)) .done)))))
 (.cond (.t 9) .skip
 (.exit 0)))
 (.seq (.block 1 (.seq (.reg (tm 12 (.t 0) (tm 13 (.t 5) (tq 14 (.iaddr 2 (.t 12) (.t 13)) (tq 15 (.faddr 0 (.t 14)) (tq 16 (.load 1 false (.t 15)) (tm 17 (.t 1) (tq 18 (.bin .eql (.t 16) (.t 17)) .done))))))))
 (.cond (.t 18) (.seq (.reg (tm 19 (.t 5) (tm 4 (.t 19) .done)))
 .ret)
 .skip)))
 (.reg (tm 10 (.t 5) (tq 11 (.bin .add (.t 10) (.c (.int .i64 1))) (tm 5 (.t 11) .done)))))))))
 (.cut (.seq (.reg (tq 4 (.mov (.c (.int .i64 (-1)))) .done))
 .ret))))
theorem fc42 : fcomp Try.prog Try.f42 = some (c42.erase, [.mov (.t 4)], 20) := by kernel_rfl
def spec_l05Place_L1 (id_2 : Int) : List GRow → Nat → Option (Fl Int Unit)
  | [], i_14 =>
    some (.go ())
  | x_28 :: xs, i_14 =>
    if (x_28.Id == id_2) then
    some (.ret (i_14 : Int))
    else
    spec_l05Place_L1 id_2 xs (i_14 + 1)

def spec_l05Place (rows_1 : (List GRow)) (id_2 : Int) : Option Int :=
    (spec_l05Place_L1 id_2 rows_1 0).bind fun q => (match q with
    | .ret r => some r
    | .go _ =>
    some (-1))
theorem w_spec_l05Place (rows_1 : (List GRow)) (id_2 : Int) (r : Int) (hf : spec_l05Place rows_1 id_2 = some r) : CallOK Try.prog 42 .flat [(.lst 2 (rows_1.map encGRow)), (.int .i64 id_2)] (.int .i64 r) := by
 refine CallOK.of_awp mixed Try.func42 fc42 nle ?_; rw [argT_eq]; unfold spec_l05Place at hf; unfold c42; refine (show awp Try.prog false 0 _ (ofL [(0, (.lst 2 (rows_1.map encGRow))), (1, (.int .i64 id_2))]) [] _ from ?_); refine awp_seq <| w_reg <| s_mov (.int .i64 0) rfl <| w_done <| k_seq <| awp_seq <| awp_seq <| w_reg <| s_mov (.int .i64 0) rfl <| w_done <| k_seq <| ?_
 obtain ⟨p21, hb1, hf⟩ := ob hf
 refine awp_cutx (X := {q : Unit // p21 = .go q}) (fun q => ([], [])) ?_ ?_
 ·refine awp_loop (X := {q : Nat // spec_l05Place_L1 id_2 (rows_1.drop q) q = some p21}) (fun q => ([(0, (.lst 2 (rows_1.map encGRow))), (1, (.int .i64 id_2)), (5, (.int .i64 (q.1 : Int)))], [])) (fun q => rows_1.length - q.1) ⟨0, hb1⟩ ⟨[], [], _, _, rfl, rfl, ⟨.refl _, ⟨.refl _, ⟨.refl _, trivial⟩⟩⟩, (.refl _)⟩ ?_
  rintro ⟨i_14, hc1⟩
  have hc1 : spec_l05Place_L1 id_2 (rows_1.drop i_14) i_14 = some p21 := hc1
  refine (show awp Try.prog false 0 _ (ofL [(0, (.lst 2 (rows_1.map encGRow))), (1, (.int .i64 id_2)), (5, (.int .i64 (i_14 : Int)))]) [] _ from ?_)
  rcases dropc rows_1 i_14 with ⟨hie24, hd27⟩ | ⟨hlt22, x_28, hx23, hd27⟩
  ·rw [hd27, spec_l05Place_L1.eq_1] at hc1
   have hq26 := dlf hie24
   refine awp_seq <| awp_seq <| w_reg <| s_mov (.int .i64 (i_14 : Int)) rfl <| s_mov (.lst 2 (rows_1.map encGRow)) rfl <| s_dof (o_len (enc := encGRow) rfl) fun hl29 => s_q (.bool (decide ((i_14 : Int) < (rows_1.length : Int)))) rfl rfl rfl <| w_done <| k_seq <| w_condf rfl hq26 <| w_exit <| k_seqx <| k_loopx <| k_blkx <| ?_; obtain rfl := os hc1; exact k_cutn ⟨_, rfl⟩ ⟨[], [], _, _, rfl, rfl, trivial, (.refl _)⟩
  ·rw [hd27, spec_l05Place_L1.eq_2] at hc1
   have hq26 := dlt hlt22
   refine awp_seq <| awp_seq <| w_reg <| s_mov (.int .i64 (i_14 : Int)) rfl <| s_mov (.lst 2 (rows_1.map encGRow)) rfl <| s_dof (o_len (enc := encGRow) rfl) fun hl30 => s_q (.bool (decide ((i_14 : Int) < (rows_1.length : Int)))) rfl rfl rfl <| w_done <| k_seq <| w_condt rfl hq26 <| w_skip <| k_seq <| awp_seq <| w_blk <| awp_seq <| w_reg <| s_mov (.lst 2 (rows_1.map encGRow)) rfl <| s_mov (.int .i64 (i_14 : Int)) rfl <| s_do (o_iaddrn (enc := encGRow) rfl rfl hx23) <| s_q (.iptr (encGRow x_28) 0) rfl trivial rfl <| s_q (.int .i64 x_28.Id) rfl nle rfl <| s_mov (.int .i64 id_2) rfl <| s_q (.bool (x_28.Id == id_2)) rfl rfl rfl <| w_done <| k_seq <| ?_
   rcases oi hc1 with ⟨c31, hc1⟩ | ⟨c31, hc1⟩
   ·refine w_condt rfl c31 <| awp_seq <| w_reg <| s_mov (.int .i64 (i_14 : Int)) rfl <| s_mov (.int .i64 (i_14 : Int)) rfl <| w_done <| k_seq <| w_ret <| ?_; obtain rfl := os hc1; obtain rfl := os hf; exact r_flat ⟨trivial, trivial⟩ rfl (.refl _)
   ·refine w_condf rfl (bf c31) <| w_skip <| k_blk <| k_seq <| w_reg <| s_mov (.int .i64 (i_14 : Int)) rfl <| s_q (.int .i64 (w64 ((i_14 : Int) + 1))) rfl rfl rfl <| s_mov (.int .i64 (w64 ((i_14 : Int) + 1))) rfl <| w_done <| ?_; exact k_loopn ⟨(i_14 + 1), hc1⟩ (mul hlt22) ⟨[], [], _, _, rfl, rfl, ⟨.refl _, ⟨.refl _, ⟨.of_eq (congrArg (AV.int _) (w64_incr hlt22 hl30)), trivial⟩⟩⟩, (.refl _)⟩
 ·rintro ⟨_, rfl⟩
  refine awp_seq <| w_reg <| s_mov (.int .i64 (-1)) rfl <| w_done <| k_seq <| w_ret <| ?_; obtain rfl := os hf; exact r_flat ⟨trivial, trivial⟩ rfl (.refl _)

/- spec.l10Row -/
def c40 : ACode :=
 (.seq (.reg (tq 4 (.box 2 (.c (.agg [(.int .i64 0), .nil]))) .done))
 (.seq (.reg (tm 6 (.t 0) (tm 7 (.t 1) (tq 8 (.call 42 [(.t 6), (.t 7)]) (tm 5 (.t 8) .done)))))
 (.seq (.seq (.reg (tm 9 (.t 5) (tq 10 (.bin .lss (.t 9) (.c (.int .i64 0))) .done)))
 (.cond (.t 10) (.seq (.reg (tq 11 (.bslice 1 []) (tq 12 (.build [(.int .i64 0), .nil] [(1, 1, (.t 11))]) (.q ⟨none, none, .store 2 (.t 4) (.t 12)⟩
 .done))))
 .ret)
 .skip))
 (.seq (.reg (tm 13 (.t 0) (tm 14 (.t 5) (tq 15 (.iaddr 2 (.t 13) (.t 14)) (tq 16 (.load 2 true (.t 15)) (tq 17 (.call 73 [(.t 16)]) (.q ⟨none, none, .store 2 (.t 4) (.t 17)⟩
 .done)))))))
 .ret))))
theorem fc40 : fcomp Try.prog Try.f40 = some (c40.erase, [.load 2 true (.t 4)], 18) := by kernel_rfl
def spec_l10Row (rows_1 : (List GRow)) (id_2 : Int) : Option GRow :=
    (spec_l05Place rows_1 id_2).bind fun r_3 =>
    if (decide (r_3 < 0)) then
    some (⟨0, []⟩ : GRow)
    else
    (idx rows_1 r_3).bind fun x_6 =>
    (spec_l05OwnRow x_6).bind fun r_8 =>
    some r_8
theorem w_spec_l10Row (rows_1 : (List GRow)) (id_2 : Int) (r : GRow) (hf : spec_l10Row rows_1 id_2 = some r) : CallOK Try.prog 40 .fresh [(.lst 2 (rows_1.map encGRow)), (.int .i64 id_2)] (encGRow r) := by
 refine CallOK.of_awp mixed Try.func40 fc40 nle ?_; rw [argT_eq]; unfold spec_l10Row at hf; unfold c40; refine (show awp Try.prog true 0 _ (ofL [(0, (.lst 2 (rows_1.map encGRow))), (1, (.int .i64 id_2))]) [] _ from ?_); refine awp_seq <| w_reg <| s_do (o_box (j := 0) (c := (.agg [(.int .i64 0), .nil])) rfl trivial rfl rfl) <| w_done <| k_seq <| awp_seq <| w_reg <| ?_
 obtain ⟨r_3, er4, hf⟩ := ob hf
 refine s_mov (.lst 2 (rows_1.map encGRow)) rfl <| s_mov (.int .i64 id_2) rfl <| s_do (o_call (w_spec_l05Place _ _ _ er4) rfl (.refl _) rfl) <| s_mov (.int .i64 r_3) rfl <| w_done <| k_seq <| awp_seq <| awp_seq <| w_reg <| s_mov (.int .i64 r_3) rfl <| s_q (.bool (decide (r_3 < 0))) rfl rfl rfl <| w_done <| k_seq <| ?_
 rcases oi hf with ⟨c5, hf⟩ | ⟨c5, hf⟩
 ·refine w_condt rfl c5 <| awp_seq <| w_reg <| ?_; refine s_do (o_bslice (j := 1) (as' := []) rfl (fun _ => by decide) trivial (.refl _) rfl rfl rfl) ?_; refine s_q (.agg [(.int .i64 0), (.own 1 0 0)]) rfl ⟨⟨rfl, nle, trivial⟩, trivial⟩ rfl <| s_do0 (o_storebox (v := (.agg [(.int .i64 0), (.own 1 0 0)])) (y' := (.agg [(.int .i64 0), (.own 1 0 0)])) rfl rfl rfl trivial ⟨rfl, nle⟩ ⟨⟨rfl, trivial⟩, ⟨⟨rfl, trivial⟩, trivial⟩⟩ rfl) <| w_done <| k_seq <| w_ret <| ?_; obtain rfl := os hf; exact r_fresh ⟨nle, trivial⟩ rfl (by decide) (.refl _)
 ·refine w_condf rfl (bf c5) <| w_skip <| k_seq <| awp_seq <| w_reg <| ?_
  obtain ⟨x_6, ex7, hf⟩ := ob hf
  obtain ⟨r_8, er9, hf⟩ := ob hf
  refine s_mov (.lst 2 (rows_1.map encGRow)) rfl <| s_mov (.int .i64 r_3) rfl <| s_do (o_iaddr (enc := encGRow) rfl rfl (idx0 ex7) (idx1 ex7)) <| s_q (encGRow x_6) rfl nle rfl <| s_do (o_callf (v := (.agg [(.int .i64 r_8.Id), (.own 1 0 r_8.Cells.length)])) (h' := [.row 1 (r_8.Cells.map (encL 3 encGAtom))]) (w_spec_l05OwnRow _ _ er9) rfl (.refl _) (by simp only [openV, openVs, List.length_map, encGRow_eq, List.nil_append, List.append_nil, List.cons_append]; rfl)) <| s_do0 (o_storebox (v := (.agg [(.int .i64 r_8.Id), (.own 1 0 r_8.Cells.length)])) (y' := (.agg [(.int .i64 r_8.Id), (.own 1 0 r_8.Cells.length)])) rfl rfl rfl trivial ⟨rfl, nle⟩ ⟨⟨rfl, trivial⟩, ⟨⟨rfl, trivial⟩, trivial⟩⟩ rfl) <| w_done <| k_seq <| ?_
  refine w_ret ?_; obtain rfl := os hf; exact r_fresh ⟨nle, trivial⟩ rfl (by decide) (.agg (.cons (.refl _) (.cons (.of_eq (congrArg (AV.lst _) (tk (enc := (encL 3 encGAtom)) r_8.Cells))) .nil)))

/- spec.l03Same -/
def c74 : ACode :=
 (.seq (.reg (tm 4 (.c (.bool false)) .done))
 (.seq (.seq (.reg (tm 6 (.t 0) (tq 7 (.len (.t 6)) (tm 8 (.t 1) (tq 9 (.len (.t 8)) (tq 10 (.bin .neq (.t 7) (.t 9)) .done))))))
 (.cond (.t 10) (.seq (.reg (tm 4 (.c (.bool false)) .done))
 .ret)
 .skip))
 (.seq (.seq (.reg (tm 5 (.c (.int .i64 0)) .done))
 (.block 0 (.loop (.seq (.seq (.reg (tm 11 (.t 5) (tm 12 (.t 0) (tq 13 (.len (.t 12)) (tq 14 (.bin .lss (.t 11) (.t 13)) .done)))))
 (.cond (.t 14) .skip
 (.exit 0)))
 (.seq (.block 1 (.seq (.reg (tm 17 (.t 0) (tm 18 (.t 5) (tq 19 (.iaddr 3 (.t 17) (.t 18)) (tq 20 (.load 3 true (.t 19)) (tm 21 (.t 1) (tm 22 (.t 5) (tq 23 (.iaddr 3 (.t 21) (.t 22)) (tq 24 (.load 3 true (.t 23)) (tq 25 (.eqs true [0, 0, 2] (.t 20) (.t 24)) .done))))))))))
 (.cond (.t 25) (.seq (.reg (tm 4 (.c (.bool false)) .done))
 .ret)
 .skip)))
 (.reg (tm 15 (.t 5) (tq 16 (.bin .add (.t 15) (.c (.int .i64 1))) (tm 5 (.t 16) .done)))))))))
 (.cut (.seq (.reg (tm 4 (.c (.bool true)) .done))
 .ret)))))
theorem fc74 : fcomp Try.prog Try.f74 = some (c74.erase, [.mov (.t 4)], 26) := by kernel_rfl
def spec_l03Same_L1 (b_2 : (List GAtom)) : List GAtom → Nat → Option (Fl Bool Unit)
  | [], i_21 =>
    some (.go ())
  | x_37 :: xs, i_21 =>
    (idx b_2 (i_21 : Int)).bind fun x_40 =>
    if (!(x_37.Kind == x_40.Kind && (x_37.N == x_40.N && (x_37.T == x_40.T && true)))) then
    some (.ret false)
    else
    spec_l03Same_L1 b_2 xs (i_21 + 1)

def spec_l03Same (a_1 : (List GAtom)) (b_2 : (List GAtom)) : Option Bool :=
    if ((a_1.length : Int) != (b_2.length : Int)) then
    some false
    else
    (spec_l03Same_L1 b_2 a_1 0).bind fun q => (match q with
    | .ret r => some r
    | .go _ =>
    some true)
theorem w_spec_l03Same (a_1 : (List GAtom)) (b_2 : (List GAtom)) (r : Bool) (hf : spec_l03Same a_1 b_2 = some r) : CallOK Try.prog 74 .flat [(.lst 3 (a_1.map encGAtom)), (.lst 3 (b_2.map encGAtom))] (.bool r) := by
 refine CallOK.of_awp mixed Try.func74 fc74 nle ?_; rw [argT_eq]; unfold spec_l03Same at hf; unfold c74; refine (show awp Try.prog false 0 _ (ofL [(0, (.lst 3 (a_1.map encGAtom))), (1, (.lst 3 (b_2.map encGAtom)))]) [] _ from ?_); refine awp_seq <| w_reg <| s_mov (.bool false) rfl <| w_done <| k_seq <| awp_seq <| awp_seq <| w_reg <| s_mov (.lst 3 (a_1.map encGAtom)) rfl <| s_dof (o_len (enc := encGAtom) rfl) fun hl3 => s_mov (.lst 3 (b_2.map encGAtom)) rfl <| s_dof (o_len (enc := encGAtom) rfl) fun hl4 => s_q (.bool ((a_1.length : Int) != (b_2.length : Int))) rfl rfl rfl <| w_done <| k_seq <| ?_
 rcases oi hf with ⟨c5, hf⟩ | ⟨c5, hf⟩
 ·refine w_condt rfl c5 <| awp_seq <| w_reg <| s_mov (.bool false) rfl <| w_done <| k_seq <| w_ret <| ?_; obtain rfl := os hf; exact r_flat ⟨trivial, trivial⟩ rfl (.refl _)
 ·refine w_condf rfl (bf c5) <| w_skip <| k_seq <| awp_seq <| awp_seq <| w_reg <| s_mov (.int .i64 0) rfl <| w_done <| k_seq <| ?_
  obtain ⟨p30, hb1, hf⟩ := ob hf
  refine awp_cutx (X := {q : Unit // p30 = .go q}) (fun q => ([], [])) ?_ ?_
  ·refine awp_loop (X := {q : Nat // spec_l03Same_L1 b_2 (a_1.drop q) q = some p30}) (fun q => ([(0, (.lst 3 (a_1.map encGAtom))), (1, (.lst 3 (b_2.map encGAtom))), (5, (.int .i64 (q.1 : Int)))], [])) (fun q => a_1.length - q.1) ⟨0, hb1⟩ ⟨[], [], _, _, rfl, rfl, ⟨.refl _, ⟨.refl _, ⟨.refl _, trivial⟩⟩⟩, (.refl _)⟩ ?_
   rintro ⟨i_21, hc1⟩
   have hc1 : spec_l03Same_L1 b_2 (a_1.drop i_21) i_21 = some p30 := hc1
   refine (show awp Try.prog false 0 _ (ofL [(0, (.lst 3 (a_1.map encGAtom))), (1, (.lst 3 (b_2.map encGAtom))), (5, (.int .i64 (i_21 : Int)))]) [] _ from ?_)
   rcases dropc a_1 i_21 with ⟨hie33, hd36⟩ | ⟨hlt31, x_37, hx32, hd36⟩
   ·rw [hd36, spec_l03Same_L1.eq_1] at hc1
    have hq35 := dlf hie33
    refine awp_seq <| awp_seq <| w_reg <| s_mov (.int .i64 (i_21 : Int)) rfl <| s_mov (.lst 3 (a_1.map encGAtom)) rfl <| s_dof (o_len (enc := encGAtom) rfl) fun hl38 => s_q (.bool (decide ((i_21 : Int) < (a_1.length : Int)))) rfl rfl rfl <| w_done <| k_seq <| w_condf rfl hq35 <| w_exit <| k_seqx <| k_loopx <| k_blkx <| ?_; obtain rfl := os hc1; exact k_cutn ⟨_, rfl⟩ ⟨[], [], _, _, rfl, rfl, trivial, (.refl _)⟩
   ·rw [hd36, spec_l03Same_L1.eq_2] at hc1
    have hq35 := dlt hlt31
    refine awp_seq <| awp_seq <| w_reg <| s_mov (.int .i64 (i_21 : Int)) rfl <| s_mov (.lst 3 (a_1.map encGAtom)) rfl <| s_dof (o_len (enc := encGAtom) rfl) fun hl39 => s_q (.bool (decide ((i_21 : Int) < (a_1.length : Int)))) rfl rfl rfl <| w_done <| k_seq <| w_condt rfl hq35 <| w_skip <| k_seq <| awp_seq <| w_blk <| awp_seq <| w_reg <| ?_
    obtain ⟨x_40, ex41, hc1⟩ := ob hc1
    refine s_mov (.lst 3 (a_1.map encGAtom)) rfl <| s_mov (.int .i64 (i_21 : Int)) rfl <| s_do (o_iaddrn (enc := encGAtom) rfl rfl hx32) <| s_q (encGAtom x_37) rfl nle rfl <| s_mov (.lst 3 (b_2.map encGAtom)) rfl <| s_mov (.int .i64 (i_21 : Int)) rfl <| s_do (o_iaddr (enc := encGAtom) rfl rfl (idx0 ex41) (idx1 ex41)) <| s_q (encGAtom x_40) rfl nle rfl <| s_q (.bool (!(x_37.Kind == x_40.Kind && (x_37.N == x_40.N && (x_37.T == x_40.T && true))))) rfl ⟨⟨rfl, rfl⟩, ⟨⟨rfl, rfl⟩, ⟨rfl, trivial⟩⟩⟩ rfl <| w_done <| k_seq <| ?_
    rcases oi hc1 with ⟨c42, hc1⟩ | ⟨c42, hc1⟩
    ·refine w_condt rfl c42 <| awp_seq <| w_reg <| s_mov (.bool false) rfl <| w_done <| k_seq <| w_ret <| ?_; obtain rfl := os hc1; obtain rfl := os hf; exact r_flat ⟨trivial, trivial⟩ rfl (.refl _)
    ·refine w_condf rfl (bf c42) <| w_skip <| k_blk <| k_seq <| w_reg <| s_mov (.int .i64 (i_21 : Int)) rfl <| s_q (.int .i64 (w64 ((i_21 : Int) + 1))) rfl rfl rfl <| s_mov (.int .i64 (w64 ((i_21 : Int) + 1))) rfl <| w_done <| ?_; exact k_loopn ⟨(i_21 + 1), hc1⟩ (mul hlt31) ⟨[], [], _, _, rfl, rfl, ⟨.refl _, ⟨.refl _, ⟨.of_eq (congrArg (AV.int _) (w64_incr hlt31 hl39)), trivial⟩⟩⟩, (.refl _)⟩
  ·rintro ⟨_, rfl⟩
   refine awp_seq <| w_reg <| s_mov (.bool true) rfl <| w_done <| k_seq <| w_ret <| ?_; obtain rfl := os hf; exact r_flat ⟨trivial, trivial⟩ rfl (.refl _)

/- spec.l05SameRow -/
def c39 : ACode :=
 (.seq (.reg (tq 2 (.box 2 (.t 0)) (tq 3 (.box 2 (.t 1)) (tm 4 (.c (.bool false)) .done))))
 (.seq (.seq (.reg (tq 6 (.faddr 0 (.t 2)) (tq 7 (.load 1 false (.t 6)) (tq 8 (.faddr 0 (.t 3)) (tq 9 (.load 1 false (.t 8)) (tq 10 (.bin .neq (.t 7) (.t 9)) (tm 11 (.t 10) (tg 12 11 false (.faddr 1 (.t 2)) (tg 13 11 false (.load 1 false (.t 12)) (tg 14 11 false (.len (.t 13)) (tg 15 11 false (.faddr 1 (.t 3)) (tg 16 11 false (.load 1 false (.t 15)) (tg 17 11 false (.len (.t 16)) (tg 18 11 false (.bin .neq (.t 14) (.t 17)) (tq 19 (.pick (.t 11) (.c (.bool true)) (.t 18)) .done)))))))))))))))
 (.cut (.cond (.t 19) (.seq (.reg (tm 4 (.c (.bool false)) .done))
 .ret)
 .skip)))
 (.seq (.seq (.reg (tm 5 (.c (.int .i64 0)) .done))
 (.block 0 (.loop (.seq (.seq (.reg (tm 20 (.t 5) (tq 21 (.faddr 1 (.t 2)) (tq 22 (.load 1 false (.t 21)) (tq 23 (.len (.t 22)) (tq 24 (.bin .lss (.t 20) (.t 23)) .done))))))
 (.cond (.t 24) .skip
 (.exit 0)))
 (.seq (.block 1 (.seq (.reg (tq 27 (.faddr 1 (.t 2)) (tq 28 (.load 1 false (.t 27)) (tm 29 (.t 5) (tq 30 (.iaddr 1 (.t 28) (.t 29)) (tq 31 (.load 1 false (.t 30)) (tq 32 (.faddr 1 (.t 3)) (tq 33 (.load 1 false (.t 32)) (tm 34 (.t 5) (tq 35 (.iaddr 1 (.t 33) (.t 34)) (tq 36 (.load 1 false (.t 35)) (.l ⟨(some 37), none, .call 74 [(.t 31), (.t 36)]⟩ []
 (tq 38 (.not (.t 37)) .done) .non))))))))))))
 (.cond (.t 38) (.seq (.reg (tm 4 (.c (.bool false)) .done))
 .ret)
 .skip)))
 (.reg (tm 25 (.t 5) (tq 26 (.bin .add (.t 25) (.c (.int .i64 1))) (tm 5 (.t 26) .done)))))))))
 (.cut (.seq (.reg (tm 4 (.c (.bool true)) .done))
 .ret)))))
theorem fc39 : fcomp Try.prog Try.f39 = some (c39.erase, [.mov (.t 4)], 39) := by kernel_rfl
def spec_l05SameRow_L1 (b_2 : GRow) : List (List GAtom) → Nat → Option (Fl Bool Unit)
  | [], i_28 =>
    some (.go ())
  | x_46 :: xs, i_28 =>
    (idx b_2.Cells (i_28 : Int)).bind fun x_49 =>
    (spec_l03Same x_46 x_49).bind fun r_51 =>
    if (!r_51) then
    some (.ret false)
    else
    spec_l05SameRow_L1 b_2 xs (i_28 + 1)

def spec_l05SameRow (a_1 : GRow) (b_2 : GRow) : Option Bool :=
    ((some () : Option Unit)).bind fun _ =>
    if (bif (a_1.Id != b_2.Id) then true else ((a_1.Cells.length : Int) != (b_2.Cells.length : Int))) then
    some false
    else
    (spec_l05SameRow_L1 b_2 a_1.Cells 0).bind fun q => (match q with
    | .ret r => some r
    | .go _ =>
    some true)
theorem w_spec_l05SameRow (a_1 : GRow) (b_2 : GRow) (r : Bool) (hf : spec_l05SameRow a_1 b_2 = some r) : CallOK Try.prog 39 .flat [(encGRow a_1), (encGRow b_2)] (.bool r) := by
 refine CallOK.of_awp mixed Try.func39 fc39 nle ?_; rw [argT_eq]; unfold spec_l05SameRow at hf; unfold c39; refine (show awp Try.prog false 0 _ (ofL [(0, (encGRow a_1)), (1, (encGRow b_2))]) [] _ from ?_); refine awp_seq <| w_reg <| s_do (o_box (j := 0) (c := (.agg [(.int .i64 a_1.Id), (.lst 1 (a_1.Cells.map (encL 3 encGAtom)))])) rfl trivial rfl rfl) <| s_do (o_box (j := 1) (c := (.agg [(.int .i64 b_2.Id), (.lst 1 (b_2.Cells.map (encL 3 encGAtom)))])) rfl trivial rfl rfl) <| s_mov (.bool false) rfl <| w_done <| k_seq <| awp_seq <| awp_seq <| ?_
 obtain ⟨p5, hb1, hf⟩ := ob hf
 refine awp_cut ([(2, (.ptr 0 0 0)), (3, (.ptr 1 0 0)), (19, (.bool (bif (a_1.Id != b_2.Id) then true else ((a_1.Cells.length : Int) != (b_2.Cells.length : Int)))))], [.box 2 (.agg [(.int .i64 a_1.Id), (.lst 1 (a_1.Cells.map (encL 3 encGAtom)))]), .box 2 (.agg [(.int .i64 b_2.Id), (.lst 1 (b_2.Cells.map (encL 3 encGAtom)))])]) ?_ ?_
 ·refine w_reg <| s_q (.ptr 0 0 0) rfl trivial rfl <| s_q (.int .i64 a_1.Id) rfl nle rfl <| s_q (.ptr 1 0 0) rfl trivial rfl <| s_q (.int .i64 b_2.Id) rfl nle rfl <| s_q (.bool (a_1.Id != b_2.Id)) rfl rfl rfl <| s_mov (.bool (a_1.Id != b_2.Id)) rfl <| ?_; refine s_g (v := (a_1.Id != b_2.Id)) (.ptr 0 0 1) rfl (fun hv => by (try simp only [gs_on hv]); exact ⟨rfl, trivial, rfl⟩) ?_; refine s_g (v := (a_1.Id != b_2.Id)) (.lst 1 (a_1.Cells.map (encL 3 encGAtom))) rfl (fun hv => by (try simp only [gs_on hv]); exact ⟨rfl, nle, rfl⟩) ?_; refine s_g (v := (a_1.Id != b_2.Id)) (.int .i64 (a_1.Cells.length : Int)) rfl (fun hv => by (try simp only [gs_on hv]); exact ⟨rfl, trivial, lenV _ _⟩) ?_; refine s_g (v := (a_1.Id != b_2.Id)) (.ptr 1 0 1) rfl (fun hv => by (try simp only [gs_on hv]); exact ⟨rfl, trivial, rfl⟩) ?_
  refine s_g (v := (a_1.Id != b_2.Id)) (.lst 1 (b_2.Cells.map (encL 3 encGAtom))) rfl (fun hv => by (try simp only [gs_on hv]); exact ⟨rfl, nle, rfl⟩) ?_; refine s_g (v := (a_1.Id != b_2.Id)) (.int .i64 (b_2.Cells.length : Int)) rfl (fun hv => by (try simp only [gs_on hv]); exact ⟨rfl, trivial, lenV _ _⟩) ?_; refine s_g (v := (a_1.Id != b_2.Id)) (.bool ((a_1.Cells.length : Int) != (b_2.Cells.length : Int))) rfl (fun hv => by (try simp only [gs_on hv]); exact ⟨rfl, rfl, rfl⟩) ?_; refine s_pick (x := true) (y := ((a_1.Cells.length : Int) != (b_2.Cells.length : Int))) rfl (fun hv => by (try simp only [gs_on hv]); rfl) (fun hv => by (try simp only [gs_on hv]); rfl) ?_; refine w_done ?_; obtain rfl := os hb1; exact ⟨[], [0, 1], _, _, rfl, rfl, ⟨.refl _, ⟨.refl _, ⟨.refl _, trivial⟩⟩⟩, (.refl _)⟩
 ·rcases oi hf with ⟨c8, hf⟩ | ⟨c8, hf⟩
  ·refine w_condt rfl c8 <| awp_seq <| w_reg <| s_mov (.bool false) rfl <| w_done <| k_seq <| w_ret <| ?_; obtain rfl := os hf; exact r_flat ⟨trivial, trivial⟩ rfl (.refl _)
  ·refine w_condf rfl (bf c8) <| w_skip <| k_seq <| awp_seq <| awp_seq <| w_reg <| s_mov (.int .i64 0) rfl <| w_done <| k_seq <| ?_
   obtain ⟨p39, hb1, hf⟩ := ob hf
   refine awp_cutx (X := {q : Unit // p39 = .go q}) (fun q => ([], [])) ?_ ?_
   ·refine awp_loop (X := {q : Nat // spec_l05SameRow_L1 b_2 (a_1.Cells.drop q) q = some p39}) (fun q => ([(2, (.ptr 0 0 0)), (3, (.ptr 1 0 0)), (5, (.int .i64 (q.1 : Int)))], [.box 2 (.agg [(.int .i64 a_1.Id), (.lst 1 (a_1.Cells.map (encL 3 encGAtom)))]), .box 2 (.agg [(.int .i64 b_2.Id), (.lst 1 (b_2.Cells.map (encL 3 encGAtom)))])])) (fun q => a_1.Cells.length - q.1) ⟨0, hb1⟩ ⟨[], [0, 1], _, _, rfl, rfl, ⟨.refl _, ⟨.refl _, ⟨.refl _, trivial⟩⟩⟩, (.refl _)⟩ ?_
    rintro ⟨i_28, hc1⟩
    have hc1 : spec_l05SameRow_L1 b_2 (a_1.Cells.drop i_28) i_28 = some p39 := hc1
    refine (show awp Try.prog false 0 _ (ofL [(2, (.ptr 0 0 0)), (3, (.ptr 1 0 0)), (5, (.int .i64 (i_28 : Int)))]) [.box 2 (.agg [(.int .i64 a_1.Id), (.lst 1 (a_1.Cells.map (encL 3 encGAtom)))]), .box 2 (.agg [(.int .i64 b_2.Id), (.lst 1 (b_2.Cells.map (encL 3 encGAtom)))])] _ from ?_)
    rcases dropc a_1.Cells i_28 with ⟨hie42, hd45⟩ | ⟨hlt40, x_46, hx41, hd45⟩
    ·rw [hd45, spec_l05SameRow_L1.eq_1] at hc1
     have hq44 := dlf hie42
     refine awp_seq <| awp_seq <| w_reg <| s_mov (.int .i64 (i_28 : Int)) rfl <| s_q (.ptr 0 0 1) rfl trivial rfl <| s_q (.lst 1 (a_1.Cells.map (encL 3 encGAtom))) rfl nle rfl <| s_dof (o_len (enc := (encL 3 encGAtom)) rfl) fun hl47 => s_q (.bool (decide ((i_28 : Int) < (a_1.Cells.length : Int)))) rfl rfl rfl <| w_done <| k_seq <| w_condf rfl hq44 <| w_exit <| k_seqx <| k_loopx <| k_blkx <| ?_; obtain rfl := os hc1; exact k_cutn ⟨_, rfl⟩ ⟨[], [], _, _, rfl, rfl, trivial, (.refl _)⟩
    ·rw [hd45, spec_l05SameRow_L1.eq_2] at hc1
     have hq44 := dlt hlt40
     refine awp_seq <| awp_seq <| w_reg <| s_mov (.int .i64 (i_28 : Int)) rfl <| s_q (.ptr 0 0 1) rfl trivial rfl <| s_q (.lst 1 (a_1.Cells.map (encL 3 encGAtom))) rfl nle rfl <| s_dof (o_len (enc := (encL 3 encGAtom)) rfl) fun hl48 => s_q (.bool (decide ((i_28 : Int) < (a_1.Cells.length : Int)))) rfl rfl rfl <| w_done <| k_seq <| w_condt rfl hq44 <| w_skip <| k_seq <| awp_seq <| w_blk <| awp_seq <| w_reg <| ?_
     obtain ⟨x_49, ex50, hc1⟩ := ob hc1
     obtain ⟨r_51, er52, hc1⟩ := ob hc1
     refine s_q (.ptr 0 0 1) rfl trivial rfl <| s_q (.lst 1 (a_1.Cells.map (encL 3 encGAtom))) rfl nle rfl <| s_mov (.int .i64 (i_28 : Int)) rfl <| s_do (o_iaddrn (enc := (encL 3 encGAtom)) rfl rfl hx41) <| s_q (.lst 3 (x_46.map encGAtom)) rfl ⟨rfl, rfl⟩ rfl <| s_q (.ptr 1 0 1) rfl trivial rfl <| s_q (.lst 1 (b_2.Cells.map (encL 3 encGAtom))) rfl nle rfl <| s_mov (.int .i64 (i_28 : Int)) rfl <| s_do (o_iaddr (enc := (encL 3 encGAtom)) rfl rfl (idx0 ex50) (idx1 ex50)) <| s_q (.lst 3 (x_49.map encGAtom)) rfl ⟨rfl, rfl⟩ rfl <| s_dol (o_call (w_spec_l03Same _ _ _ er52) rfl (.refl _) rfl) a_same trivial <| s_q (.bool (!r_51)) rfl trivial rfl <| w_done <| k_seq <| ?_
     rcases oi hc1 with ⟨c53, hc1⟩ | ⟨c53, hc1⟩
     ·refine w_condt rfl c53 <| awp_seq <| w_reg <| s_mov (.bool false) rfl <| w_done <| k_seq <| w_ret <| ?_; obtain rfl := os hc1; obtain rfl := os hf; exact r_flat ⟨trivial, trivial⟩ rfl (.refl _)
     ·refine w_condf rfl (bf c53) <| w_skip <| k_blk <| k_seq <| w_reg <| s_mov (.int .i64 (i_28 : Int)) rfl <| s_q (.int .i64 (w64 ((i_28 : Int) + 1))) rfl rfl rfl <| s_mov (.int .i64 (w64 ((i_28 : Int) + 1))) rfl <| w_done <| ?_; exact k_loopn ⟨(i_28 + 1), hc1⟩ (mul hlt40) ⟨[], [0, 1], _, _, rfl, rfl, ⟨.refl _, ⟨.refl _, ⟨.of_eq (congrArg (AV.int _) (w64_incr hlt40 hl48)), trivial⟩⟩⟩, (.refl _)⟩
   ·rintro ⟨_, rfl⟩
    refine awp_seq <| w_reg <| s_mov (.bool true) rfl <| w_done <| k_seq <| w_ret <| ?_; obtain rfl := os hf; exact r_flat ⟨trivial, trivial⟩ rfl (.refl _)

/- spec.l05Drop -/
def c41 : ACode :=
 (.seq (.reg (tq 3 (.box 2 (.t 0)) (tq 6 (.box 2 (.c (.agg [.nil, (.int .i64 0)]))) .done)))
 (.seq (.reg (tq 7 (.load 2 true (.t 3)) (tq 8 (.call 37 [(.t 7)]) (.q ⟨none, none, .store 2 (.t 3) (.t 8)⟩
 .done))))
 (.seq (.reg (tq 9 (.faddr 0 (.t 3)) (tq 10 (.load 1 false (.t 9)) (tm 11 (.t 1) (tq 13 (.faddr 0 (.t 3)) (tq 14 (.load 1 false (.t 13)) (tm 15 (.t 1) (tq 16 (.iaddr 1 (.t 14) (.t 15)) (tq 17 (.load 1 false (.t 16)) (tm 18 (.t 2) (tq 19 (.slice 2 (.t 17) none (some (.t 18))) (tq 21 (.faddr 0 (.t 3)) (tq 22 (.load 1 false (.t 21)) (tm 23 (.t 1) (tq 24 (.iaddr 1 (.t 22) (.t 23)) (tq 25 (.load 1 false (.t 24)) (tm 26 (.t 2) (tq 27 (.bin .add (.t 26) (.c (.int .i64 1))) (tq 28 (.slice 2 (.t 25) (some (.t 27)) none) (.l ⟨(some 12), none, .bslice 2 []⟩ [⟨(some 28), none, .slice 2 (.t 25) (some (.t 27)) none⟩, ⟨(some 25), none, .load 1 false (.t 24)⟩, ⟨(some 24), none, .iaddr 1 (.t 22) (.t 23)⟩, ⟨(some 22), none, .load 1 false (.t 21)⟩, ⟨(some 21), none, .faddr 0 (.t 3)⟩, ⟨(some 19), none, .slice 2 (.t 17) none (some (.t 18))⟩, ⟨(some 17), none, .load 1 false (.t 16)⟩, ⟨(some 16), none, .iaddr 1 (.t 14) (.t 15)⟩, ⟨(some 14), none, .load 1 false (.t 13)⟩, ⟨(some 13), none, .faddr 0 (.t 3)⟩, ⟨(some 10), none, .load 1 false (.t 9)⟩, ⟨(some 9), none, .faddr 0 (.t 3)⟩]
 (.l ⟨(some 20), none, .append 2 32 (.t 12) (.t 19)⟩ [⟨(some 28), none, .slice 2 (.t 25) (some (.t 27)) none⟩, ⟨(some 25), none, .load 1 false (.t 24)⟩, ⟨(some 24), none, .iaddr 1 (.t 22) (.t 23)⟩, ⟨(some 22), none, .load 1 false (.t 21)⟩, ⟨(some 21), none, .faddr 0 (.t 3)⟩, ⟨(some 10), none, .load 1 false (.t 9)⟩, ⟨(some 9), none, .faddr 0 (.t 3)⟩]
 (.l ⟨(some 29), none, .append 2 32 (.t 20) (.t 28)⟩ [⟨(some 10), none, .load 1 false (.t 9)⟩, ⟨(some 9), none, .faddr 0 (.t 3)⟩]
 (tq 30 (.iaddr 1 (.t 10) (.t 11)) (.l ⟨none, none, .store 1 (.t 30) (.t 29)⟩ []
 .done .non)) .non) .non) .non))))))))))))))))))))
 (.seq (.reg (tq 31 (.load 2 true (.t 3)) (.q ⟨none, none, .store 2 (.t 6) (.t 31)⟩
 .done)))
 .ret))))
theorem fc41 : fcomp Try.prog Try.f41 = some (c41.erase, [.load 2 true (.t 6)], 32) := by kernel_rfl
def spec_l05Drop (x_1 : GStore) (table_2 : Int) (k_3 : Int) : Option GStore :=
    (spec_l05Own x_1).bind fun r_4 =>
    if (0 : Int) ≤ table_2 ∧ table_2 < (r_4.Tables.length : Int) then
    (r_4.Tables[(0 + table_2.toNat)]?).bind fun x_7 =>
    if (0 : Int) ≤ k_3 ∧ k_3 ≤ (x_7.length : Int) then
    if (0 : Int) ≤ table_2 ∧ table_2 < (r_4.Tables.length : Int) then
    if (0 : Int) ≤ w64 (k_3 + 1) ∧ w64 (k_3 + 1) ≤ (x_7.length : Int) then
    if ([] ++ (x_7.take k_3.toNat)).length ≤ 2 ^ 30 then
    if (([] ++ (x_7.take k_3.toNat)) ++ (x_7.drop ((w64 (k_3 + 1)).toNat))).length ≤ 2 ^ 30 then
    if (0 : Int) ≤ table_2 ∧ table_2 < (r_4.Tables.length : Int) then
    some (⟨r_4.Tables.set (0 + table_2.toNat) (([] ++ (x_7.take k_3.toNat)) ++ (x_7.drop ((w64 (k_3 + 1)).toNat))), r_4.Next⟩ : GStore)
    else none
    else none
    else none
    else none
    else none
    else none
    else none
theorem w_spec_l05Drop (x_1 : GStore) (table_2 : Int) (k_3 : Int) (r : GStore) (hf : spec_l05Drop x_1 table_2 k_3 = some r) : CallOK Try.prog 41 .weak [(encGStore x_1), (.int .i64 table_2), (.int .i64 k_3)] (encGStore r) := by
 refine CallOK.of_awp mixed Try.func41 fc41 nle ?_; rw [argT_eq]; unfold spec_l05Drop at hf; unfold c41; refine (show awp Try.prog false 0 _ (ofL [(0, (encGStore x_1)), (1, (.int .i64 table_2)), (2, (.int .i64 k_3))]) [] _ from ?_); refine awp_seq <| w_reg <| s_do (o_box (j := 0) (c := (.agg [(.lst 1 (x_1.Tables.map (encL 2 encGRow))), (.int .i64 x_1.Next)])) rfl trivial rfl rfl) <| s_do (o_box (j := 1) (c := (.agg [.nil, (.int .i64 0)])) rfl trivial rfl rfl) <| w_done <| k_seq <| awp_seq <| w_reg <| ?_
 obtain ⟨r_4, er5, hf⟩ := ob hf
 refine s_q (.agg [(.lst 1 (x_1.Tables.map (encL 2 encGRow))), (.int .i64 x_1.Next)]) rfl nle rfl <| s_do (o_callf (v := (.agg [(.own 2 0 r_4.Tables.length), (.int .i64 r_4.Next)])) (h' := [.row 1 (r_4.Tables.map (encL 2 encGRow))]) (w_spec_l05Own _ _ er5) rfl (.refl _) (by simp only [openV, openVs, List.length_map, encGStore_eq, List.nil_append, List.append_nil, List.cons_append]; rfl)) <| s_do0 (o_storebox (v := (.agg [(.own 2 0 r_4.Tables.length), (.int .i64 r_4.Next)])) (y' := (.agg [(.own 2 0 r_4.Tables.length), (.int .i64 r_4.Next)])) rfl rfl rfl trivial ⟨rfl, nle⟩ ⟨⟨rfl, trivial⟩, ⟨⟨rfl, trivial⟩, trivial⟩⟩ rfl) <| w_done <| k_seq <| awp_seq <| w_reg <| s_q (.ptr 0 0 0) rfl trivial rfl <| s_q (.own 2 0 r_4.Tables.length) rfl nle rfl <| ?_
 refine s_mov (.int .i64 table_2) rfl <| s_q (.ptr 0 0 0) rfl trivial rfl <| s_q (.own 2 0 r_4.Tables.length) rfl nle rfl <| s_mov (.int .i64 table_2) rfl <| ?_
 obtain ⟨g6, hf⟩ := og hf
 refine s_do (o_iaddrown rfl rfl g6.1 g6.2 rfl rfl) ?_
 obtain ⟨x_7, ex8, hf⟩ := ob hf
 refine s_do (o_loadrow (enc := (encL 2 encGRow)) (v := (.lst 2 (x_7.map encGRow))) rfl rfl ex8 ⟨rfl, rfl⟩ rfl) <| s_mov (.int .i64 k_3) rfl <| ?_
 obtain ⟨g9, hf⟩ := og hf
 refine s_do (o_slt (enc := encGRow) rfl rfl g9.1 g9.2) <| s_q (.ptr 0 0 0) rfl trivial rfl <| s_q (.own 2 0 r_4.Tables.length) rfl nle rfl <| s_mov (.int .i64 table_2) rfl <| ?_
 obtain ⟨g10, hf⟩ := og hf
 refine s_do (o_iaddrown rfl rfl g10.1 g10.2 rfl rfl) <| s_do (o_loadrow (enc := (encL 2 encGRow)) (v := (.lst 2 (x_7.map encGRow))) rfl rfl ex8 ⟨rfl, rfl⟩ rfl) <| s_mov (.int .i64 k_3) rfl <| s_q (.int .i64 (w64 (k_3 + 1))) rfl rfl rfl <| ?_
 obtain ⟨g11, hf⟩ := og hf
 refine s_do (o_sld (enc := encGRow) rfl rfl g11.1 g11.2) ?_; refine s_dol (o_bslice (j := 3) (as' := []) rfl (fun _ => by decide) trivial (.refl _) rfl rfl rfl) (.inr ⟨(ag_sld (enc := encGRow) rfl rfl g11.1 g11.2), ⟨(ag_loadrow (enc := (encL 2 encGRow)) (v := (.lst 2 (x_7.map encGRow))) rfl rfl ex8 ⟨rfl, rfl⟩ rfl), ⟨(ag_iaddrown rfl rfl g10.1 g10.2 rfl rfl), ⟨⟨nle, rfl⟩, ⟨⟨trivial, rfl⟩, ⟨(ag_slt (enc := encGRow) rfl rfl g9.1 g9.2), ⟨(ag_loadrow (enc := (encL 2 encGRow)) (v := (.lst 2 (x_7.map encGRow))) rfl rfl ex8 ⟨rfl, rfl⟩ rfl), ⟨(ag_iaddrown rfl rfl g6.1 g6.2 rfl rfl), ⟨⟨nle, rfl⟩, ⟨⟨trivial, rfl⟩, ⟨⟨nle, rfl⟩, ⟨⟨trivial, rfl⟩, trivial⟩⟩⟩⟩⟩⟩⟩⟩⟩⟩⟩⟩) trivial ?_
 obtain ⟨g12, hf⟩ := og hf
 refine s_dol (o_appendw (j := 4) (L := (([] ++ (x_7.take k_3.toNat)).map encGRow)) (len := ([] ++ (x_7.take k_3.toNat)).length) rfl rfl ((by simp)) (by simp <;> omega) g12 rfl rfl) (.inr ⟨(ag_sld (enc := encGRow) rfl rfl g11.1 g11.2), ⟨(ag_loadrow (enc := (encL 2 encGRow)) (v := (.lst 2 (x_7.map encGRow))) rfl rfl ex8 ⟨rfl, rfl⟩ rfl), ⟨(ag_iaddrown rfl rfl g10.1 g10.2 rfl rfl), ⟨⟨nle, rfl⟩, ⟨⟨trivial, rfl⟩, ⟨⟨nle, rfl⟩, ⟨⟨trivial, rfl⟩, trivial⟩⟩⟩⟩⟩⟩⟩) trivial ?_
 obtain ⟨g13, hf⟩ := og hf
 refine s_dol (o_appendw (j := 5) (L := ((([] ++ (x_7.take k_3.toNat)) ++ (x_7.drop ((w64 (k_3 + 1)).toNat))).map encGRow)) (len := (([] ++ (x_7.take k_3.toNat)) ++ (x_7.drop ((w64 (k_3 + 1)).toNat))).length) rfl rfl (apl (enc := encGRow) ([] ++ (x_7.take k_3.toNat)) (x_7.drop ((w64 (k_3 + 1)).toNat))) (by simp <;> omega) g13 rfl rfl) (.inr ⟨⟨nle, rfl⟩, ⟨⟨trivial, rfl⟩, trivial⟩⟩) trivial ?_
 obtain ⟨g14, hf⟩ := og hf
 refine s_do (o_iaddrown rfl rfl g14.1 g14.2 rfl rfl) ?_
 refine s_dol0 (o_storerow (v' := (.lst 2 ((([] ++ (x_7.take k_3.toNat)) ++ (x_7.drop ((w64 (k_3 + 1)).toNat))).map encGRow))) (e' := ([] ++ (x_7.take k_3.toNat)) ++ (x_7.drop ((w64 (k_3 + 1)).toNat))) rfl rfl ex8 rfl rfl (by first | (simp only [tk, tko, List.take_length]; done) | rfl | simp) (by decide) (fun _ => by decide) ⟨rfl, rfl, rfl⟩ (.refl _) rfl) trivial trivial ?_
 refine w_done <| k_seq <| awp_seq <| w_reg <| s_q (.agg [(.own 2 0 r_4.Tables.length), (.int .i64 r_4.Next)]) rfl nle rfl <| s_do0 (o_storebox (v := (.agg [(.own 2 0 r_4.Tables.length), (.int .i64 r_4.Next)])) (y' := (.agg [(.own 2 0 r_4.Tables.length), (.int .i64 r_4.Next)])) rfl rfl rfl trivial ⟨rfl, nle⟩ ⟨⟨rfl, trivial⟩, ⟨⟨rfl, trivial⟩, trivial⟩⟩ rfl) <| w_done <| k_seq <| w_ret <| ?_; obtain rfl := os hf
 exact r_weak ⟨nle, trivial⟩ rfl (.agg (.cons (.of_eq (congrArg (AV.lst _) (tkon (enc := (encL 2 encGRow)) (a := r_4.Tables.set (0 + table_2.toNat) (([] ++ (x_7.take k_3.toNat)) ++ (x_7.drop ((w64 (k_3 + 1)).toNat)))) (by first | (simp; done) | (simp <;> omega))))) (.cons (.refl _) .nil)))

/- spec.l05Put -/
def c43 : ACode :=
 (.seq (.reg (tq 3 (.box 2 (.t 0)) (tq 5 (.box 2 (.t 2)) (tq 6 (.box 2 (.c (.agg [.nil, (.int .i64 0)]))) .done))))
 (.seq (.reg (tq 10 (.load 2 true (.t 3)) (tq 11 (.call 37 [(.t 10)]) (.q ⟨none, none, .store 2 (.t 3) (.t 11)⟩
 .done))))
 (.seq (.reg (tq 12 (.faddr 0 (.t 3)) (tq 13 (.load 1 false (.t 12)) (tm 14 (.t 1) (tq 15 (.iaddr 1 (.t 13) (.t 14)) (tq 16 (.load 1 false (.t 15)) (tm 7 (.t 16) .done)))))))
 (.seq (.reg (tm 8 (.c (.int .i64 0)) .done))
 (.seq (.block 0 (.loop (.seq (.seq (.reg (tm 17 (.t 8) (tm 18 (.t 7) (tq 19 (.len (.t 18)) (tq 20 (.bin .lss (.t 17) (.t 19)) (tm 21 (.t 20) (tg 22 21 true (.mov (.t 7)) (tg 23 21 true (.mov (.t 8)) (tg 24 21 true (.iaddr 2 (.t 22) (.t 23)) (tg 25 21 true (.faddr 0 (.t 24)) (tg 26 21 true (.load 1 false (.t 25)) (tg 27 21 true (.faddr 0 (.t 5)) (tg 28 21 true (.load 1 false (.t 27)) (tg 29 21 true (.bin .lss (.t 26) (.t 28)) (tq 30 (.pick (.t 21) (.t 29) (.c (.bool false))) .done)))))))))))))))
 (.cut (.cond (.t 30) .skip
 (.exit 0))))
 (.block 1 (.reg (tm 31 (.t 8) (tq 32 (.bin .add (.t 31) (.c (.int .i64 1))) (tm 8 (.t 32) .done))))))))
 (.cut (.seq (.reg (tm 33 (.t 7) (tm 34 (.t 8) (tq 35 (.slice 2 (.t 33) (some (.t 34)) none) (tm 9 (.t 35) .done)))))
 (.seq (.seq (.reg (tm 36 (.t 8) (tm 37 (.t 7) (tq 38 (.len (.t 37)) (tq 39 (.bin .lss (.t 36) (.t 38)) (tm 40 (.t 39) (tg 41 40 true (.mov (.t 7)) (tg 42 40 true (.mov (.t 8)) (tg 43 40 true (.iaddr 2 (.t 41) (.t 42)) (tg 44 40 true (.faddr 0 (.t 43)) (tg 45 40 true (.load 1 false (.t 44)) (tg 46 40 true (.faddr 0 (.t 5)) (tg 47 40 true (.load 1 false (.t 46)) (tg 48 40 true (.bin .eql (.t 45) (.t 47)) (tq 49 (.pick (.t 40) (.t 48) (.c (.bool false))) .done)))))))))))))))
 (.cut (.cond (.t 49) (.reg (tm 50 (.t 7) (tm 51 (.t 8) (tq 52 (.bin .add (.t 51) (.c (.int .i64 1))) (tq 53 (.slice 2 (.t 50) (some (.t 52)) none) (tm 9 (.t 53) .done))))))
 .skip)))
 (.cut (.seq (.reg (tq 54 (.faddr 0 (.t 3)) (tq 55 (.load 1 false (.t 54)) (tm 56 (.t 1) (tm 58 (.t 7) (tm 59 (.t 8) (tq 60 (.slice 2 (.t 58) none (some (.t 59))) (tq 62 (.load 2 true (.t 5)) (tm 66 (.t 9) (.l ⟨(some 57), none, .bslice 2 []⟩ [⟨(some 62), none, .load 2 true (.t 5)⟩, ⟨(some 60), none, .slice 2 (.t 58) none (some (.t 59))⟩, ⟨(some 55), none, .load 1 false (.t 54)⟩, ⟨(some 54), none, .faddr 0 (.t 3)⟩]
 (.l ⟨(some 61), none, .append 2 32 (.t 57) (.t 60)⟩ [⟨(some 62), none, .load 2 true (.t 5)⟩, ⟨(some 55), none, .load 1 false (.t 54)⟩, ⟨(some 54), none, .faddr 0 (.t 3)⟩]
 (.l ⟨(some 63), none, .call 73 [(.t 62)]⟩ [⟨(some 55), none, .load 1 false (.t 54)⟩, ⟨(some 54), none, .faddr 0 (.t 3)⟩]
 (.l ⟨(some 64), none, .bslice 2 [(.t 63)]⟩ [⟨(some 55), none, .load 1 false (.t 54)⟩, ⟨(some 54), none, .faddr 0 (.t 3)⟩]
 (.l ⟨(some 65), none, .append 2 32 (.t 61) (.t 64)⟩ [⟨(some 55), none, .load 1 false (.t 54)⟩, ⟨(some 54), none, .faddr 0 (.t 3)⟩]
 (.l ⟨(some 67), none, .append 2 32 (.t 65) (.t 66)⟩ [⟨(some 55), none, .load 1 false (.t 54)⟩, ⟨(some 54), none, .faddr 0 (.t 3)⟩]
 (tq 68 (.iaddr 1 (.t 55) (.t 56)) (.l ⟨none, none, .store 1 (.t 68) (.t 67)⟩ []
 .done .non)) .non) .non) .non) .non) .non) .non))))))))))
 (.seq (.reg (tq 69 (.load 2 true (.t 3)) (.q ⟨none, none, .store 2 (.t 6) (.t 69)⟩
 .done)))
 .ret)))))))))))
theorem fc43 : fcomp Try.prog Try.f43 = some (c43.erase, [.load 2 true (.t 6)], 70) := by kernel_rfl
def spec_l05Put_L1 (x_7 : (List GRow)) (r_3 : GRow) : Nat → Int → Option Int
  | 0, _ => none
  | k + 1, k_32 =>
    ((if (decide (k_32 < (x_7.length : Int))) then
    (idx x_7 k_32).bind fun x_54 =>
    some (decide (x_54.Id < r_3.Id))
    else
    some false : Option Bool)).bind fun s30_50 =>
    if s30_50 then
    spec_l05Put_L1 x_7 r_3 k (w64 (k_32 + 1))
    else
    some k_32

def spec_l05Put (x_1 : GStore) (table_2 : Int) (r_3 : GRow) : Option GStore :=
    (spec_l05Own x_1).bind fun r_4 =>
    if (0 : Int) ≤ table_2 ∧ table_2 < (r_4.Tables.length : Int) then
    (r_4.Tables[(0 + table_2.toNat)]?).bind fun x_7 =>
    (spec_l05Put_L1 x_7 r_3 FUEL 0).bind fun k_44 =>
    if (0 : Int) ≤ k_44 ∧ k_44 ≤ (x_7.length : Int) then
    ((((if (decide (k_44 < (x_7.length : Int))) then
    (idx x_7 k_44).bind fun x_80 =>
    some (x_80.Id == r_3.Id)
    else
    some false : Option Bool)).bind fun s49_76 =>
    if s49_76 then
    if (0 : Int) ≤ w64 (k_44 + 1) ∧ w64 (k_44 + 1) ≤ (x_7.length : Int) then
    some (x_7.drop ((w64 (k_44 + 1)).toNat))
    else none
    else
    some (x_7.drop k_44.toNat) : Option (List GRow))).bind fun tail_70 =>
    if (0 : Int) ≤ k_44 ∧ k_44 ≤ (x_7.length : Int) then
    if ([] ++ (x_7.take k_44.toNat)).length ≤ 2 ^ 30 then
    (spec_l05OwnRow r_3).bind fun r_86 =>
    if (([] ++ (x_7.take k_44.toNat)) ++ [r_86]).length ≤ 2 ^ 30 then
    if ((([] ++ (x_7.take k_44.toNat)) ++ [r_86]) ++ tail_70).length ≤ 2 ^ 30 then
    if (0 : Int) ≤ table_2 ∧ table_2 < (r_4.Tables.length : Int) then
    some (⟨r_4.Tables.set (0 + table_2.toNat) ((([] ++ (x_7.take k_44.toNat)) ++ [r_86]) ++ tail_70), r_4.Next⟩ : GStore)
    else none
    else none
    else none
    else none
    else none
    else none
    else none
theorem w_spec_l05Put (x_1 : GStore) (table_2 : Int) (r_3 : GRow) (r : GStore) (hf : spec_l05Put x_1 table_2 r_3 = some r) : CallOK Try.prog 43 .weak [(encGStore x_1), (.int .i64 table_2), (encGRow r_3)] (encGStore r) := by
 refine CallOK.of_awp mixed Try.func43 fc43 nle ?_; rw [argT_eq]; unfold spec_l05Put at hf; unfold c43; refine (show awp Try.prog false 0 _ (ofL [(0, (encGStore x_1)), (1, (.int .i64 table_2)), (2, (encGRow r_3))]) [] _ from ?_); refine awp_seq <| w_reg <| s_do (o_box (j := 0) (c := (.agg [(.lst 1 (x_1.Tables.map (encL 2 encGRow))), (.int .i64 x_1.Next)])) rfl trivial rfl rfl) <| s_do (o_box (j := 1) (c := (.agg [(.int .i64 r_3.Id), (.lst 1 (r_3.Cells.map (encL 3 encGAtom)))])) rfl trivial rfl rfl) <| s_do (o_box (j := 2) (c := (.agg [.nil, (.int .i64 0)])) rfl trivial rfl rfl) <| w_done <| k_seq <| awp_seq <| w_reg <| ?_
 obtain ⟨r_4, er5, hf⟩ := ob hf
 refine s_q (.agg [(.lst 1 (x_1.Tables.map (encL 2 encGRow))), (.int .i64 x_1.Next)]) rfl nle rfl <| s_do (o_callf (v := (.agg [(.own 3 0 r_4.Tables.length), (.int .i64 r_4.Next)])) (h' := [.row 1 (r_4.Tables.map (encL 2 encGRow))]) (w_spec_l05Own _ _ er5) rfl (.refl _) (by simp only [openV, openVs, List.length_map, encGStore_eq, List.nil_append, List.append_nil, List.cons_append]; rfl)) <| s_do0 (o_storebox (v := (.agg [(.own 3 0 r_4.Tables.length), (.int .i64 r_4.Next)])) (y' := (.agg [(.own 3 0 r_4.Tables.length), (.int .i64 r_4.Next)])) rfl rfl rfl trivial ⟨rfl, nle⟩ ⟨⟨rfl, trivial⟩, ⟨⟨rfl, trivial⟩, trivial⟩⟩ rfl) <| w_done <| k_seq <| awp_seq <| w_reg <| ?_
 obtain ⟨g6, hf⟩ := og hf
 obtain ⟨x_7, ex8, hf⟩ := ob hf
 refine s_q (.ptr 0 0 0) rfl trivial rfl <| s_q (.own 3 0 r_4.Tables.length) rfl nle rfl <| s_mov (.int .i64 table_2) rfl <| s_do (o_iaddrown rfl rfl g6.1 g6.2 rfl rfl) <| s_do (o_loadrow (enc := (encL 2 encGRow)) (v := (.lst 2 (x_7.map encGRow))) rfl rfl ex8 ⟨rfl, rfl⟩ rfl) <| s_mov (.lst 2 (x_7.map encGRow)) rfl <| w_done <| k_seq <| awp_seq <| w_reg <| s_mov (.int .i64 0) rfl <| w_done <| k_seq <| awp_seq <| ?_
 obtain ⟨k_44, hb1, hf⟩ := ob hf
 refine awp_cut ([(1, (.int .i64 table_2)), (3, (.ptr 0 0 0)), (5, (.ptr 1 0 0)), (6, (.ptr 2 0 0)), (7, (.lst 2 (x_7.map encGRow))), (8, (.int .i64 k_44))], [.box 2 (.agg [(.own 3 0 r_4.Tables.length), (.int .i64 r_4.Next)]), .box 2 (.agg [(.int .i64 r_3.Id), (.lst 1 (r_3.Cells.map (encL 3 encGAtom)))]), .box 2 (.agg [.nil, (.int .i64 0)]), .row 1 (r_4.Tables.map (encL 2 encGRow))]) ?_ ?_
 ·refine awp_loop (X := {q : (Nat × Int) // spec_l05Put_L1 x_7 r_3 q.1 q.2 = some k_44}) (fun q => ([(1, (.int .i64 table_2)), (3, (.ptr 0 0 0)), (5, (.ptr 1 0 0)), (6, (.ptr 2 0 0)), (7, (.lst 2 (x_7.map encGRow))), (8, (.int .i64 q.1.2))], [.box 2 (.agg [(.own 3 0 r_4.Tables.length), (.int .i64 r_4.Next)]), .box 2 (.agg [(.int .i64 r_3.Id), (.lst 1 (r_3.Cells.map (encL 3 encGAtom)))]), .box 2 (.agg [.nil, (.int .i64 0)]), .row 1 (r_4.Tables.map (encL 2 encGRow))])) (fun q => q.1.1) ⟨(FUEL, 0), hb1⟩ ⟨[], [0, 1, 2, 3], _, _, rfl, rfl, ⟨.refl _, ⟨.refl _, ⟨.refl _, ⟨.refl _, ⟨.refl _, ⟨.refl _, trivial⟩⟩⟩⟩⟩⟩, (.refl _)⟩ ?_
  rintro ⟨⟨k, k_32⟩, hc1⟩
  have hc1 : spec_l05Put_L1 x_7 r_3 k k_32 = some k_44 := hc1
  refine (show awp Try.prog false 0 _ (ofL [(1, (.int .i64 table_2)), (3, (.ptr 0 0 0)), (5, (.ptr 1 0 0)), (6, (.ptr 2 0 0)), (7, (.lst 2 (x_7.map encGRow))), (8, (.int .i64 k_32))]) [.box 2 (.agg [(.own 3 0 r_4.Tables.length), (.int .i64 r_4.Next)]), .box 2 (.agg [(.int .i64 r_3.Id), (.lst 1 (r_3.Cells.map (encL 3 encGAtom)))]), .box 2 (.agg [.nil, (.int .i64 0)]), .row 1 (r_4.Tables.map (encL 2 encGRow))] _ from ?_)
  rcases k with _ | k
  ·rw [spec_l05Put_L1.eq_1] at hc1
   cases hc1
  ·rw [spec_l05Put_L1.eq_2] at hc1; refine awp_seq <| awp_seq <| ?_
   obtain ⟨s30_50, hb2, hc1⟩ := ob hc1
   refine awp_cut ([(1, (.int .i64 table_2)), (3, (.ptr 0 0 0)), (5, (.ptr 1 0 0)), (6, (.ptr 2 0 0)), (7, (.lst 2 (x_7.map encGRow))), (8, (.int .i64 k_32)), (30, (.bool s30_50))], [.box 2 (.agg [(.own 3 0 r_4.Tables.length), (.int .i64 r_4.Next)]), .box 2 (.agg [(.int .i64 r_3.Id), (.lst 1 (r_3.Cells.map (encL 3 encGAtom)))]), .box 2 (.agg [.nil, (.int .i64 0)]), .row 1 (r_4.Tables.map (encL 2 encGRow))]) ?_ ?_
   ·refine w_reg <| s_mov (.int .i64 k_32) rfl <| s_mov (.lst 2 (x_7.map encGRow)) rfl <| s_dof (o_len (enc := encGRow) rfl) fun hl52 => s_q (.bool (decide (k_32 < (x_7.length : Int)))) rfl rfl rfl <| s_mov (.bool (decide (k_32 < (x_7.length : Int)))) rfl <| ?_
    rcases oi hb2 with ⟨c53, hb2⟩ | ⟨c53, hb2⟩
    ·refine s_lit (s := 21) (b := true) rfl c53 <| s_on rfl <| s_mov (.lst 2 (x_7.map encGRow)) rfl <| s_on rfl <| s_mov (.int .i64 k_32) rfl <| s_on rfl <| ?_
     obtain ⟨x_54, ex55, hb2⟩ := ob hb2
     refine s_do (o_iaddr (enc := encGRow) rfl rfl (idx0 ex55) (idx1 ex55)) <| s_on rfl <| s_q (.iptr (encGRow x_54) 0) rfl trivial rfl <| s_on rfl <| s_q (.int .i64 x_54.Id) rfl nle rfl <| s_on rfl <| s_q (.ptr 1 0 0) rfl trivial rfl <| s_on rfl <| s_q (.int .i64 r_3.Id) rfl nle rfl <| s_on rfl <| s_q (.bool (decide (x_54.Id < r_3.Id))) rfl rfl rfl <| s_q (.bool (decide (x_54.Id < r_3.Id))) rfl trivial rfl <| w_done <| ?_; obtain rfl := os hb2; exact ⟨[], [0, 1, 2, 3], _, _, rfl, rfl, ⟨.refl _, ⟨.refl _, ⟨.refl _, ⟨.refl _, ⟨.refl _, ⟨.refl _, ⟨.refl _, trivial⟩⟩⟩⟩⟩⟩⟩, (.refl _)⟩
    ·refine s_lit (s := 21) (b := false) rfl (bf c53) <| s_off rfl rfl <| s_off rfl rfl <| s_off rfl rfl <| s_off rfl rfl <| s_off rfl rfl <| s_off rfl rfl <| s_off rfl rfl <| s_off rfl rfl <| s_q (.bool false) rfl trivial rfl <| w_done <| ?_; obtain rfl := os hb2; exact ⟨[], [0, 1, 2, 3], _, _, rfl, rfl, ⟨.refl _, ⟨.refl _, ⟨.refl _, ⟨.refl _, ⟨.refl _, ⟨.refl _, ⟨.refl _, trivial⟩⟩⟩⟩⟩⟩⟩, (.refl _)⟩
   ·rcases oi hc1 with ⟨c56, hc1⟩ | ⟨c56, hc1⟩
    ·refine w_condt rfl c56 <| w_skip <| k_seq <| w_blk <| w_reg <| s_mov (.int .i64 k_32) rfl <| s_q (.int .i64 (w64 (k_32 + 1))) rfl rfl rfl <| s_mov (.int .i64 (w64 (k_32 + 1))) rfl <| w_done <| k_blk <| ?_; exact k_loopn ⟨(k, w64 (k_32 + 1)), hc1⟩ (Nat.lt_succ_self _) ⟨[], [0, 1, 2, 3], _, _, rfl, rfl, ⟨.refl _, ⟨.refl _, ⟨.refl _, ⟨.refl _, ⟨.refl _, ⟨.refl _, trivial⟩⟩⟩⟩⟩⟩, (.refl _)⟩
    ·refine w_condf rfl (bf c56) <| w_exit <| k_seqx <| k_loopx <| k_blkx <| ?_; obtain rfl := os hc1; exact ⟨[], [0, 1, 2, 3], _, _, rfl, rfl, ⟨.refl _, ⟨.refl _, ⟨.refl _, ⟨.refl _, ⟨.refl _, ⟨.refl _, trivial⟩⟩⟩⟩⟩⟩, (.refl _)⟩
 ·refine awp_seq <| w_reg <| ?_
  obtain ⟨g57, hf⟩ := og hf
  refine s_mov (.lst 2 (x_7.map encGRow)) rfl <| s_mov (.int .i64 k_44) rfl <| s_do (o_sld (enc := encGRow) rfl rfl g57.1 g57.2) <| s_mov (.lst 2 ((x_7.drop k_44.toNat).map encGRow)) rfl <| w_done <| k_seq <| awp_seq <| ?_
  obtain ⟨tail_70, hb1, hf⟩ := ob hf
  refine awp_cut ([(1, (.int .i64 table_2)), (3, (.ptr 0 0 0)), (5, (.ptr 1 0 0)), (6, (.ptr 2 0 0)), (7, (.lst 2 (x_7.map encGRow))), (8, (.int .i64 k_44)), (9, (.lst 2 (tail_70.map encGRow)))], [.box 2 (.agg [(.own 3 0 r_4.Tables.length), (.int .i64 r_4.Next)]), .box 2 (.agg [(.int .i64 r_3.Id), (.lst 1 (r_3.Cells.map (encL 3 encGAtom)))]), .box 2 (.agg [.nil, (.int .i64 0)]), .row 1 (r_4.Tables.map (encL 2 encGRow))]) ?_ ?_
  ·refine awp_seq ?_
   obtain ⟨s49_76, hb2, hb1⟩ := ob hb1
   refine awp_cut ([(1, (.int .i64 table_2)), (3, (.ptr 0 0 0)), (5, (.ptr 1 0 0)), (6, (.ptr 2 0 0)), (7, (.lst 2 (x_7.map encGRow))), (8, (.int .i64 k_44)), (9, (.lst 2 ((x_7.drop k_44.toNat).map encGRow))), (49, (.bool s49_76))], [.box 2 (.agg [(.own 3 0 r_4.Tables.length), (.int .i64 r_4.Next)]), .box 2 (.agg [(.int .i64 r_3.Id), (.lst 1 (r_3.Cells.map (encL 3 encGAtom)))]), .box 2 (.agg [.nil, (.int .i64 0)]), .row 1 (r_4.Tables.map (encL 2 encGRow))]) ?_ ?_
   ·refine w_reg <| s_mov (.int .i64 k_44) rfl <| s_mov (.lst 2 (x_7.map encGRow)) rfl <| s_dof (o_len (enc := encGRow) rfl) fun hl78 => s_q (.bool (decide (k_44 < (x_7.length : Int)))) rfl rfl rfl <| s_mov (.bool (decide (k_44 < (x_7.length : Int)))) rfl <| ?_
    rcases oi hb2 with ⟨c79, hb2⟩ | ⟨c79, hb2⟩
    ·refine s_lit (s := 40) (b := true) rfl c79 <| s_on rfl <| s_mov (.lst 2 (x_7.map encGRow)) rfl <| s_on rfl <| s_mov (.int .i64 k_44) rfl <| s_on rfl <| ?_
     obtain ⟨x_80, ex81, hb2⟩ := ob hb2
     refine s_do (o_iaddr (enc := encGRow) rfl rfl (idx0 ex81) (idx1 ex81)) <| s_on rfl <| s_q (.iptr (encGRow x_80) 0) rfl trivial rfl <| s_on rfl <| s_q (.int .i64 x_80.Id) rfl nle rfl <| s_on rfl <| s_q (.ptr 1 0 0) rfl trivial rfl <| s_on rfl <| s_q (.int .i64 r_3.Id) rfl nle rfl <| s_on rfl <| s_q (.bool (x_80.Id == r_3.Id)) rfl rfl rfl <| s_q (.bool (x_80.Id == r_3.Id)) rfl trivial rfl <| w_done <| ?_; obtain rfl := os hb2; exact ⟨[], [0, 1, 2, 3], _, _, rfl, rfl, ⟨.refl _, ⟨.refl _, ⟨.refl _, ⟨.refl _, ⟨.refl _, ⟨.refl _, ⟨.refl _, ⟨.refl _, trivial⟩⟩⟩⟩⟩⟩⟩⟩, (.refl _)⟩
    ·refine s_lit (s := 40) (b := false) rfl (bf c79) <| s_off rfl rfl <| s_off rfl rfl <| s_off rfl rfl <| s_off rfl rfl <| s_off rfl rfl <| s_off rfl rfl <| s_off rfl rfl <| s_off rfl rfl <| s_q (.bool false) rfl trivial rfl <| w_done <| ?_; obtain rfl := os hb2; exact ⟨[], [0, 1, 2, 3], _, _, rfl, rfl, ⟨.refl _, ⟨.refl _, ⟨.refl _, ⟨.refl _, ⟨.refl _, ⟨.refl _, ⟨.refl _, ⟨.refl _, trivial⟩⟩⟩⟩⟩⟩⟩⟩, (.refl _)⟩
   ·rcases oi hb1 with ⟨c82, hb1⟩ | ⟨c82, hb1⟩
    ·refine w_condt rfl c82 <| w_reg <| ?_
     obtain ⟨g83, hb1⟩ := og hb1
     refine s_mov (.lst 2 (x_7.map encGRow)) rfl <| s_mov (.int .i64 k_44) rfl <| s_q (.int .i64 (w64 (k_44 + 1))) rfl rfl rfl <| s_do (o_sld (enc := encGRow) rfl rfl g83.1 g83.2) <| s_mov (.lst 2 ((x_7.drop ((w64 (k_44 + 1)).toNat)).map encGRow)) rfl <| w_done <| ?_; obtain rfl := os hb1; exact ⟨[], [0, 1, 2, 3], _, _, rfl, rfl, ⟨.refl _, ⟨.refl _, ⟨.refl _, ⟨.refl _, ⟨.refl _, ⟨.refl _, ⟨.refl _, trivial⟩⟩⟩⟩⟩⟩⟩, (.refl _)⟩
    ·refine w_condf rfl (bf c82) <| w_skip <| ?_; obtain rfl := os hb1; exact ⟨[], [0, 1, 2, 3], _, _, rfl, rfl, ⟨.refl _, ⟨.refl _, ⟨.refl _, ⟨.refl _, ⟨.refl _, ⟨.refl _, ⟨.refl _, trivial⟩⟩⟩⟩⟩⟩⟩, (.refl _)⟩
  ·refine awp_seq <| w_reg <| s_q (.ptr 0 0 0) rfl trivial rfl <| s_q (.own 3 0 r_4.Tables.length) rfl nle rfl <| s_mov (.int .i64 table_2) rfl <| s_mov (.lst 2 (x_7.map encGRow)) rfl <| s_mov (.int .i64 k_44) rfl <| ?_
   obtain ⟨g84, hf⟩ := og hf
   refine s_do (o_slt (enc := encGRow) rfl rfl g84.1 g84.2) <| s_q (.agg [(.int .i64 r_3.Id), (.lst 1 (r_3.Cells.map (encL 3 encGAtom)))]) rfl nle rfl <| s_mov (.lst 2 (tail_70.map encGRow)) rfl <| ?_; refine s_dol (o_bslice (j := 4) (as' := []) rfl (fun _ => by decide) trivial (.refl _) rfl rfl rfl) (.inr ⟨⟨nle, rfl⟩, ⟨(ag_slt (enc := encGRow) rfl rfl g84.1 g84.2), ⟨⟨nle, rfl⟩, ⟨⟨trivial, rfl⟩, trivial⟩⟩⟩⟩) trivial ?_
   obtain ⟨g85, hf⟩ := og hf
   refine s_dol (o_appendw (j := 5) (L := (([] ++ (x_7.take k_44.toNat)).map encGRow)) (len := ([] ++ (x_7.take k_44.toNat)).length) rfl rfl ((by simp)) (by simp <;> omega) g85 rfl rfl) (.inr ⟨⟨nle, rfl⟩, ⟨⟨nle, rfl⟩, ⟨⟨trivial, rfl⟩, trivial⟩⟩⟩) trivial ?_
   obtain ⟨r_86, er87, hf⟩ := ob hf
   refine s_dol (o_callf (v := (.agg [(.int .i64 r_86.Id), (.own 6 0 r_86.Cells.length)])) (h' := [.row 1 (r_86.Cells.map (encL 3 encGAtom))]) (w_spec_l05OwnRow _ _ er87) rfl (.refl _) (by simp only [openV, openVs, List.length_map, encGRow_eq, List.nil_append, List.append_nil, List.cons_append]; rfl)) (.inr ⟨⟨nle, rfl⟩, ⟨⟨trivial, rfl⟩, trivial⟩⟩) trivial ?_; refine s_dol (o_bslice (j := 7) (as' := [(encGRow r_86)]) rfl (fun _ => by decide) ⟨rfl, trivial⟩ (.cons (.agg (.cons (.refl _) (.cons (.of_eq (congrArg (AV.lst _) (tko (enc := (encL 3 encGAtom)) r_86.Cells))) .nil))) .nil) rfl rfl rfl) (.inr ⟨⟨nle, rfl⟩, ⟨⟨trivial, rfl⟩, trivial⟩⟩) trivial ?_
   obtain ⟨g88, hf⟩ := og hf
   refine s_dol (o_appendw (j := 8) (L := ((([] ++ (x_7.take k_44.toNat)) ++ [r_86]).map encGRow)) (len := (([] ++ (x_7.take k_44.toNat)) ++ [r_86]).length) rfl rfl (apoc (enc := encGRow) ([] ++ (x_7.take k_44.toNat)) [r_86] _ (by rfl)) (by simp <;> omega) g88 rfl rfl) (.inr ⟨⟨nle, rfl⟩, ⟨⟨trivial, rfl⟩, trivial⟩⟩) trivial ?_
   obtain ⟨g89, hf⟩ := og hf
   refine s_dol (o_appendw (j := 9) (L := (((([] ++ (x_7.take k_44.toNat)) ++ [r_86]) ++ tail_70).map encGRow)) (len := ((([] ++ (x_7.take k_44.toNat)) ++ [r_86]) ++ tail_70).length) rfl rfl (apl (enc := encGRow) (([] ++ (x_7.take k_44.toNat)) ++ [r_86]) tail_70) (by simp <;> omega) g89 rfl rfl) (.inr ⟨⟨nle, rfl⟩, ⟨⟨trivial, rfl⟩, trivial⟩⟩) trivial ?_
   obtain ⟨g90, hf⟩ := og hf
   refine s_do (o_iaddrown rfl rfl g90.1 g90.2 rfl rfl) ?_
   refine s_dol0 (o_storerow (v' := (.lst 2 (((([] ++ (x_7.take k_44.toNat)) ++ [r_86]) ++ tail_70).map encGRow))) (e' := (([] ++ (x_7.take k_44.toNat)) ++ [r_86]) ++ tail_70) rfl rfl ex8 rfl rfl (by first | (simp only [tk, tko, List.take_length]; done) | rfl | simp) (by decide) (fun _ => by decide) ⟨rfl, rfl, rfl⟩ (.refl _) rfl) trivial trivial ?_
   refine w_done <| k_seq <| awp_seq <| w_reg <| s_q (.agg [(.own 3 0 r_4.Tables.length), (.int .i64 r_4.Next)]) rfl nle rfl <| s_do0 (o_storebox (v := (.agg [(.own 3 0 r_4.Tables.length), (.int .i64 r_4.Next)])) (y' := (.agg [(.own 3 0 r_4.Tables.length), (.int .i64 r_4.Next)])) rfl rfl rfl trivial ⟨rfl, nle⟩ ⟨⟨rfl, trivial⟩, ⟨⟨rfl, trivial⟩, trivial⟩⟩ rfl) <| w_done <| k_seq <| w_ret <| ?_; obtain rfl := os hf
   exact r_weak ⟨nle, trivial⟩ rfl (.agg (.cons (.of_eq (congrArg (AV.lst _) (tkon (enc := (encL 2 encGRow)) (a := r_4.Tables.set (0 + table_2.toNat) ((([] ++ (x_7.take k_44.toNat)) ++ [r_86]) ++ tail_70)) (by first | (simp; done) | (simp <;> omega))))) (.cons (.refl _) .nil)))

/- spec.ApplyUpdates -/
def c9 : ACode :=
 (.seq (.reg (tm 4 (.c .nil) (tm 5 (.c (.int .i64 0)) .done)))
 (.seq (.seq (.reg (tm 10 (.t 0) (tq 11 (.len (.t 10)) (tq 12 (.bin .gtr (.t 11) (.c (.int .i64 4096))) (tm 13 (.t 12) (tg 14 13 false (.mov (.t 1)) (tg 15 13 false (.len (.t 14)) (tg 16 13 false (.bin .gtr (.t 15) (.c (.int .i64 4096))) (tq 17 (.pick (.t 13) (.c (.bool true)) (.t 16)) .done)))))))))
 (.cut (.cond (.t 17) (.seq (.reg (tq 18 (.bslice 2 []) (tm 4 (.t 18) (tm 5 (.c (.int .i64 2)) .done))))
 .ret)
 .skip)))
 (.seq (.reg (tm 19 (.t 0) (tq 20 (.bslice 1 [(.t 19)]) (tq 21 (.build [.nil, (.int .i64 0)] [(0, 1, (.t 20))]) (tq 6 (.box 2 (.c (.agg [.nil, (.int .i64 0)]))) (.q ⟨none, none, .store 2 (.t 6) (.t 21)⟩
 .done))))))
 (.seq (.seq (.reg (tq 22 (.load 2 true (.t 6)) (tq 23 (.call 36 [(.t 22)]) (tq 24 (.not (.t 23)) .done))))
 (.cond (.t 24) (.seq (.reg (tq 25 (.bslice 2 []) (tm 4 (.t 25) (tm 5 (.c (.int .i64 1)) .done))))
 .ret)
 .skip))
 (.seq (.reg (tq 26 (.load 2 true (.t 6)) (tq 27 (.call 37 [(.t 26)]) (.q ⟨none, none, .store 2 (.t 6) (.t 27)⟩
 .done))))
 (.seq (.seq (.reg (tm 7 (.c (.int .i64 0)) .done))
 (.block 0 (.loop (.seq (.seq (.reg (tm 28 (.t 7) (tm 29 (.t 1) (tq 30 (.len (.t 29)) (tq 31 (.bin .lss (.t 28) (.t 30)) .done)))))
 (.cond (.t 31) .skip
 (.exit 0)))
 (.seq (.block 1 (.seq (.reg (tm 34 (.t 1) (tm 35 (.t 7) (tq 36 (.iaddr 5 (.t 34) (.t 35)) (tq 37 (.load 5 true (.t 36)) (tq 8 (.box 5 (.c (.agg [(.int .i64 0), (.int .i64 0), .nil, (.int .i64 0), .nil]))) (.q ⟨none, none, .store 5 (.t 8) (.t 37)⟩
 .done)))))))
 (.seq (.reg (tq 38 (.faddr 0 (.t 8)) (tq 39 (.load 1 false (.t 38)) (tq 40 (.faddr 1 (.t 8)) (tq 41 (.load 2 true (.t 40)) (tq 42 (.faddr 3 (.t 8)) (tq 43 (.load 2 true (.t 42)) (tq 44 (.build [(.int .i64 0), (.int .i64 0), (.int .i64 0), .nil, (.int .i64 0), .nil] [(1, 1, (.t 39)), (2, 2, (.t 41)), (4, 2, (.t 43))]) (tq 9 (.box 6 (.c (.agg [(.int .i64 0), (.int .i64 0), (.int .i64 0), .nil, (.int .i64 0), .nil]))) (.q ⟨none, none, .store 6 (.t 9) (.t 44)⟩
 .done))))))))))
 (.seq (.seq (.reg (tq 45 (.faddr 0 (.t 8)) (tq 46 (.load 1 false (.t 45)) (tq 47 (.bin .lss (.t 46) (.c (.int .i64 1))) (tm 48 (.t 47) (tg 49 48 false (.load 6 true (.t 9)) (tg 50 48 false (.call 38 [(.t 49)]) (tg 51 48 false (.bin .eql (.t 50) (.c (.int .i64 0))) (tq 52 (.pick (.t 48) (.c (.bool true)) (.t 51)) .done)))))))))
 (.cut (.cond (.t 52) (.seq (.reg (tq 53 (.faddr 0 (.t 6)) (tq 54 (.load 1 false (.t 53)) (tq 55 (.iaddr 1 (.t 54) (.c (.int .i64 0))) (tq 56 (.load 1 false (.t 55)) (tm 4 (.t 56) (tm 5 (.c (.int .i64 1)) .done)))))))
 .ret)
 .skip)))
 (.seq (.seq (.reg (tq 57 (.faddr 0 (.t 6)) (tq 58 (.load 1 false (.t 57)) (tq 59 (.iaddr 1 (.t 58) (.c (.int .i64 0))) (tq 60 (.load 1 false (.t 59)) (tq 61 (.faddr 0 (.t 8)) (tq 62 (.load 1 false (.t 61)) (tq 64 (.faddr 1 (.t 8)) (tq 65 (.load 2 true (.t 64)) (.l ⟨(some 63), none, .call 40 [(.t 60), (.t 62)]⟩ [⟨(some 65), none, .load 2 true (.t 64)⟩, ⟨(some 64), none, .faddr 1 (.t 8)⟩]
 (.l ⟨(some 66), none, .call 39 [(.t 63), (.t 65)]⟩ []
 (tq 67 (.not (.t 66)) .done) .non) .non))))))))))
 (.cond (.t 67) (.seq (.reg (tq 68 (.faddr 0 (.t 6)) (tq 69 (.load 1 false (.t 68)) (tq 70 (.iaddr 1 (.t 69) (.c (.int .i64 0))) (tq 71 (.load 1 false (.t 70)) (tm 4 (.t 71) (tm 5 (.c (.int .i64 13)) .done)))))))
 .ret)
 .skip))
 (.seq (.reg (tq 72 (.faddr 3 (.t 8)) (tq 73 (.faddr 0 (.t 72)) (tq 74 (.load 1 false (.t 73)) (tq 75 (.bin .eql (.t 74) (.c (.int .i64 0))) .done)))))
 (.cond (.t 75) (.reg (tq 76 (.load 2 true (.t 6)) (tq 77 (.faddr 0 (.t 6)) (tq 78 (.load 1 false (.t 77)) (tq 79 (.iaddr 1 (.t 78) (.c (.int .i64 0))) (tq 80 (.load 1 false (.t 79)) (tq 81 (.faddr 0 (.t 8)) (tq 82 (.load 1 false (.t 81)) (.l ⟨(some 83), none, .call 42 [(.t 80), (.t 82)]⟩ [⟨(some 76), none, .load 2 true (.t 6)⟩]
 (.l ⟨(some 84), none, .call 41 [(.t 76), (.c (.int .i64 0)), (.t 83)]⟩ []
 (.l ⟨none, none, .store 2 (.t 6) (.t 84)⟩ []
 .done .non) .non) .non)))))))))
 (.reg (tq 85 (.load 2 true (.t 6)) (tq 86 (.faddr 3 (.t 8)) (tq 87 (.load 2 true (.t 86)) (tq 88 (.call 43 [(.t 85), (.c (.int .i64 0)), (.t 87)]) (.q ⟨none, none, .store 2 (.t 6) (.t 88)⟩
 .done)))))))))))))
 (.reg (tm 32 (.t 7) (tq 33 (.bin .add (.t 32) (.c (.int .i64 1))) (tm 7 (.t 33) .done)))))))))
 (.cut (.seq (.reg (tq 89 (.faddr 0 (.t 6)) (tq 90 (.load 1 false (.t 89)) (tq 91 (.iaddr 1 (.t 90) (.c (.int .i64 0))) (tq 92 (.load 1 false (.t 91)) (tm 4 (.t 92) (tm 5 (.c (.int .i64 0)) .done)))))))
 .ret))))))))
theorem fc9 : fcomp Try.prog Try.f9 = some (c9.erase, [.mov (.t 4), .mov (.t 5)], 93) := by kernel_rfl
def spec_ApplyUpdates_L1  : List GUpdate → (List (List GRow)) → Int → Option (Fl ((List GRow) × Int) ((List (List GRow)) × Int))
  | [], x_87, x_88 =>
    some (.go (x_87, x_88))
  | x_132 :: xs, x_87, x_88 =>
    ((if (decide (x_132.Id < 1)) then
    some true
    else
    (spec_l10Kind (⟨0, x_132.Id, x_132.Old, x_132.New⟩ : GChange)).bind fun r_141 =>
    some (r_141 == 0) : Option Bool)).bind fun s52_138 =>
    if s52_138 then
    (idx x_87 0).bind fun x_144 =>
    some (.ret (x_144, 1))
    else
    (idx x_87 0).bind fun x_146 =>
    (spec_l10Row x_146 x_132.Id).bind fun r_148 =>
    (spec_l05SameRow r_148 x_132.Old).bind fun r_150 =>
    if (!r_150) then
    (idx x_87 0).bind fun x_153 =>
    some (.ret (x_153, 13))
    else
    if (x_132.New.Id == 0) then
    (idx x_87 0).bind fun x_156 =>
    (spec_l05Place x_156 x_132.Id).bind fun r_158 =>
    (spec_l05Drop (⟨x_87, x_88⟩ : GStore) 0 r_158).bind fun r_160 =>
    spec_ApplyUpdates_L1 xs  r_160.Tables r_160.Next
    else
    (spec_l05Put (⟨x_87, x_88⟩ : GStore) 0 x_132.New).bind fun r_162 =>
    spec_ApplyUpdates_L1 xs  r_162.Tables r_162.Next

def spec_ApplyUpdates (rows_1 : (List GRow)) (list_2 : (List GUpdate)) : Option ((List GRow) × Int) :=
    ((if (decide ((rows_1.length : Int) > 4096)) then
    some true
    else
    some (decide ((list_2.length : Int) > 4096)) : Option Bool)).bind fun s17_6 =>
    if s17_6 then
    some ([], 2)
    else
    (spec_l05Plain (⟨[rows_1], 0⟩ : GStore)).bind fun r_12 =>
    if (!r_12) then
    some ([], 1)
    else
    (spec_l05Own (⟨[rows_1], 0⟩ : GStore)).bind fun r_15 =>
    (spec_ApplyUpdates_L1 list_2 r_15.Tables r_15.Next).bind fun q => (match q with
    | .ret r => some r
    | .go (x_123, x_124) =>
    (idx x_123 0).bind fun x_164 =>
    some (x_164, 0))
theorem w_spec_ApplyUpdates (rows_1 : (List GRow)) (list_2 : (List GUpdate)) (r : ((List GRow) × Int)) (hf : spec_ApplyUpdates rows_1 list_2 = some r) : CallOK Try.prog 9 .weak [(.lst 2 (rows_1.map encGRow)), (.lst 5 (list_2.map encGUpdate))] (.tup [(.lst 2 (r.1.map encGRow)), (.int .i64 r.2)]) := by
 refine CallOK.of_awp mixed Try.func9 fc9 nle ?_; rw [argT_eq]; unfold spec_ApplyUpdates at hf; unfold c9; refine (show awp Try.prog false 0 _ (ofL [(0, (.lst 2 (rows_1.map encGRow))), (1, (.lst 5 (list_2.map encGUpdate)))]) [] _ from ?_); refine awp_seq <| w_reg <| s_mov .nil rfl <| s_mov (.int .i64 0) rfl <| w_done <| k_seq <| awp_seq <| awp_seq <| ?_
 obtain ⟨s17_6, hb1, hf⟩ := ob hf
 refine awp_cut ([(0, (.lst 2 (rows_1.map encGRow))), (1, (.lst 5 (list_2.map encGUpdate))), (17, (.bool s17_6))], []) ?_ ?_
 ·refine w_reg ?_
  rcases oi hb1 with ⟨c9, hb1⟩ | ⟨c9, hb1⟩
  ·refine s_mov (.lst 2 (rows_1.map encGRow)) rfl <| s_dof (o_len (enc := encGRow) rfl) fun hl8 => s_q (.bool (decide ((rows_1.length : Int) > 4096))) rfl rfl rfl <| s_mov (.bool (decide ((rows_1.length : Int) > 4096))) rfl <| s_lit (s := 13) (b := true) rfl c9 <| s_off rfl rfl <| s_off rfl rfl <| s_off rfl rfl <| s_q (.bool true) rfl trivial rfl <| w_done <| ?_; obtain rfl := os hb1; exact ⟨[], [], _, _, rfl, rfl, ⟨.refl _, ⟨.refl _, ⟨.refl _, trivial⟩⟩⟩, (.refl _)⟩
  ·refine s_mov (.lst 2 (rows_1.map encGRow)) rfl <| s_dof (o_len (enc := encGRow) rfl) fun hl8 => s_q (.bool (decide ((rows_1.length : Int) > 4096))) rfl rfl rfl <| s_mov (.bool (decide ((rows_1.length : Int) > 4096))) rfl <| s_lit (s := 13) (b := false) rfl (bf c9) <| s_on rfl <| s_mov (.lst 5 (list_2.map encGUpdate)) rfl <| s_on rfl <| s_dof (o_len (enc := encGUpdate) rfl) fun hl10 => s_on rfl <| s_q (.bool (decide ((list_2.length : Int) > 4096))) rfl rfl rfl <| s_q (.bool (decide ((list_2.length : Int) > 4096))) rfl trivial rfl <| w_done <| ?_; obtain rfl := os hb1; exact ⟨[], [], _, _, rfl, rfl, ⟨.refl _, ⟨.refl _, ⟨.refl _, trivial⟩⟩⟩, (.refl _)⟩
 ·rcases oi hf with ⟨c11, hf⟩ | ⟨c11, hf⟩
  ·refine w_condt rfl c11 <| awp_seq <| w_reg <| ?_; refine s_do (o_bslice (j := 0) (as' := []) rfl (fun _ => by decide) trivial (.refl _) rfl rfl rfl) ?_; refine s_mov (.own 0 0 0) rfl <| s_mov (.int .i64 2) rfl <| w_done <| k_seq <| w_ret <| ?_; obtain rfl := os hf; exact r_weak ⟨trivial, ⟨trivial, trivial⟩⟩ rfl (.refl _)
  ·refine w_condf rfl (bf c11) <| w_skip <| k_seq <| awp_seq <| w_reg <| s_mov (.lst 2 (rows_1.map encGRow)) rfl <| ?_; refine s_do (o_bslice (j := 0) (as' := [(.lst 2 (rows_1.map encGRow))]) rfl (fun _ => by decide) ⟨rfl, trivial⟩ (.refl _) rfl rfl rfl) ?_; refine s_q (.agg [(.own 0 0 1), (.int .i64 0)]) rfl ⟨⟨rfl, nle, trivial⟩, trivial⟩ rfl <| s_do (o_box (j := 1) (c := (.agg [.nil, (.int .i64 0)])) rfl trivial rfl rfl) <| s_do0 (o_storebox (v := (.agg [(.own 0 0 1), (.int .i64 0)])) (y' := (.agg [(.own 0 0 1), (.int .i64 0)])) rfl rfl rfl trivial ⟨rfl, nle⟩ ⟨⟨rfl, trivial⟩, ⟨⟨rfl, trivial⟩, trivial⟩⟩ rfl) <| w_done <| k_seq <| awp_seq <| awp_seq <| w_reg <| ?_
   obtain ⟨r_12, er13, hf⟩ := ob hf
   refine s_q (.agg [(.own 0 0 1), (.int .i64 0)]) rfl nle rfl <| s_do (o_call (w_spec_l05Plain _ _ er13) rfl (.refl _) rfl) <| s_q (.bool (!r_12)) rfl trivial rfl <| w_done <| k_seq <| ?_
   rcases oi hf with ⟨c14, hf⟩ | ⟨c14, hf⟩
   ·refine w_condt rfl c14 <| awp_seq <| w_reg <| ?_; refine s_do (o_bslice (j := 2) (as' := []) rfl (fun _ => by decide) trivial (.refl _) rfl rfl rfl) ?_; refine s_mov (.own 2 0 0) rfl <| s_mov (.int .i64 1) rfl <| w_done <| k_seq <| w_ret <| ?_; obtain rfl := os hf; exact r_weak ⟨trivial, ⟨trivial, trivial⟩⟩ rfl (.refl _)
   ·refine w_condf rfl (bf c14) <| w_skip <| k_seq <| awp_seq <| w_reg <| ?_
    obtain ⟨r_15, er16, hf⟩ := ob hf
    refine s_q (.agg [(.own 0 0 1), (.int .i64 0)]) rfl nle rfl <| s_do (o_callc rfl (w_spec_l05Own _ _ er16) rfl (.refl _) rfl) <| s_do0 (o_storebox (v := (.agg [(.lst 1 (r_15.Tables.map (encL 2 encGRow))), (.int .i64 r_15.Next)])) (y' := (.agg [(.lst 1 (r_15.Tables.map (encL 2 encGRow))), (.int .i64 r_15.Next)])) rfl rfl rfl trivial ⟨rfl, nle⟩ ⟨⟨rfl, trivial⟩, ⟨⟨rfl, trivial⟩, trivial⟩⟩ rfl) <| w_done <| k_seq <| awp_seq <| awp_seq <| w_reg <| s_mov (.int .i64 0) rfl <| w_done <| k_seq <| ?_
    obtain ⟨p125, hb1, hf⟩ := ob hf
    refine awp_cutx (X := {q : ((List (List GRow)) × Int) // p125 = .go q}) (fun q => ([(6, (.ptr 0 0 0))], [.box 2 (.agg [(.lst 1 (q.1.1.map (encL 2 encGRow))), (.int .i64 q.1.2)])])) ?_ ?_
    ·refine awp_loop (X := {q : (Nat × (List (List GRow)) × Int) // spec_ApplyUpdates_L1 (list_2.drop q.1) q.2.1 q.2.2 = some p125}) (fun q => ([(1, (.lst 5 (list_2.map encGUpdate))), (6, (.ptr 0 0 0)), (7, (.int .i64 (q.1.1 : Int)))], [.box 2 (.agg [(.lst 1 (q.1.2.1.map (encL 2 encGRow))), (.int .i64 q.1.2.2)])])) (fun q => list_2.length - q.1.1) ⟨(0, r_15.Tables, r_15.Next), hb1⟩ ⟨[], [1], _, _, rfl, rfl, ⟨.refl _, ⟨.refl _, ⟨.refl _, trivial⟩⟩⟩, (.refl _)⟩ ?_
     rintro ⟨⟨i_86, x_87, x_88⟩, hc1⟩
     have hc1 : spec_ApplyUpdates_L1 (list_2.drop i_86) x_87 x_88 = some p125 := hc1
     refine (show awp Try.prog false 0 _ (ofL [(1, (.lst 5 (list_2.map encGUpdate))), (6, (.ptr 0 0 0)), (7, (.int .i64 (i_86 : Int)))]) [.box 2 (.agg [(.lst 1 (x_87.map (encL 2 encGRow))), (.int .i64 x_88)])] _ from ?_)
     rcases dropc list_2 i_86 with ⟨hie128, hd131⟩ | ⟨hlt126, x_132, hx127, hd131⟩
     ·rw [hd131, spec_ApplyUpdates_L1.eq_1] at hc1
      have hq130 := dlf hie128
      refine awp_seq <| awp_seq <| w_reg <| s_mov (.int .i64 (i_86 : Int)) rfl <| s_mov (.lst 5 (list_2.map encGUpdate)) rfl <| s_dof (o_len (enc := encGUpdate) rfl) fun hl133 => s_q (.bool (decide ((i_86 : Int) < (list_2.length : Int)))) rfl rfl rfl <| w_done <| k_seq <| w_condf rfl hq130 <| w_exit <| k_seqx <| k_loopx <| k_blkx <| ?_; obtain rfl := os hc1; exact k_cutn ⟨_, rfl⟩ ⟨[], [0], _, _, rfl, rfl, ⟨.refl _, trivial⟩, (.refl _)⟩
     ·rw [hd131, spec_ApplyUpdates_L1.eq_2] at hc1
      have hq130 := dlt hlt126
      refine awp_seq <| awp_seq <| w_reg <| s_mov (.int .i64 (i_86 : Int)) rfl <| s_mov (.lst 5 (list_2.map encGUpdate)) rfl <| s_dof (o_len (enc := encGUpdate) rfl) fun hl134 => s_q (.bool (decide ((i_86 : Int) < (list_2.length : Int)))) rfl rfl rfl <| w_done <| k_seq <| w_condt rfl hq130 <| w_skip <| k_seq <| awp_seq <| w_blk <| awp_seq <| w_reg <| s_mov (.lst 5 (list_2.map encGUpdate)) rfl <| s_mov (.int .i64 (i_86 : Int)) rfl <| s_do (o_iaddrn (enc := encGUpdate) rfl rfl hx127) <| s_q (encGUpdate x_132) rfl nle rfl <| s_do (o_box (j := 1) (c := (.agg [(.int .i64 0), (.int .i64 0), .nil, (.int .i64 0), .nil])) rfl trivial rfl rfl) <| s_do0 (o_storebox (v := (.agg [(.int .i64 x_132.Id), (.int .i64 x_132.Old.Id), (.lst 1 (x_132.Old.Cells.map (encL 3 encGAtom))), (.int .i64 x_132.New.Id), (.lst 1 (x_132.New.Cells.map (encL 3 encGAtom)))])) (y' := (.agg [(.int .i64 x_132.Id), (.int .i64 x_132.Old.Id), (.lst 1 (x_132.Old.Cells.map (encL 3 encGAtom))), (.int .i64 x_132.New.Id), (.lst 1 (x_132.New.Cells.map (encL 3 encGAtom)))])) rfl rfl rfl trivial ⟨rfl, nle⟩ ⟨⟨rfl, trivial⟩, ⟨⟨rfl, trivial⟩, ⟨⟨rfl, trivial⟩, ⟨⟨rfl, trivial⟩, ⟨⟨rfl, trivial⟩, trivial⟩⟩⟩⟩⟩ rfl) <| ?_
      refine w_done <| k_seq <| awp_seq <| w_reg <| s_q (.ptr 1 0 0) rfl trivial rfl <| s_q (.int .i64 x_132.Id) rfl nle rfl <| s_q (.ptr 1 0 1) rfl trivial rfl <| s_q (.agg [(.int .i64 x_132.Old.Id), (.lst 1 (x_132.Old.Cells.map (encL 3 encGAtom)))]) rfl nle rfl <| s_q (.ptr 1 0 3) rfl trivial rfl <| s_q (.agg [(.int .i64 x_132.New.Id), (.lst 1 (x_132.New.Cells.map (encL 3 encGAtom)))]) rfl nle rfl <| s_q (.agg [(.int .i64 0), (.int .i64 x_132.Id), (.int .i64 x_132.Old.Id), (.lst 1 (x_132.Old.Cells.map (encL 3 encGAtom))), (.int .i64 x_132.New.Id), (.lst 1 (x_132.New.Cells.map (encL 3 encGAtom)))]) rfl ⟨⟨rfl, nle, trivial⟩, ⟨⟨rfl, nle, trivial⟩, ⟨⟨rfl, nle, trivial⟩, trivial⟩⟩⟩ rfl <| s_do (o_box (j := 2) (c := (.agg [(.int .i64 0), (.int .i64 0), (.int .i64 0), .nil, (.int .i64 0), .nil])) rfl trivial rfl rfl) <| ?_
      refine s_do0 (o_storebox (v := (.agg [(.int .i64 0), (.int .i64 x_132.Id), (.int .i64 x_132.Old.Id), (.lst 1 (x_132.Old.Cells.map (encL 3 encGAtom))), (.int .i64 x_132.New.Id), (.lst 1 (x_132.New.Cells.map (encL 3 encGAtom)))])) (y' := (.agg [(.int .i64 0), (.int .i64 x_132.Id), (.int .i64 x_132.Old.Id), (.lst 1 (x_132.Old.Cells.map (encL 3 encGAtom))), (.int .i64 x_132.New.Id), (.lst 1 (x_132.New.Cells.map (encL 3 encGAtom)))])) rfl rfl rfl trivial ⟨rfl, nle⟩ ⟨⟨rfl, trivial⟩, ⟨⟨rfl, trivial⟩, ⟨⟨rfl, trivial⟩, ⟨⟨rfl, trivial⟩, ⟨⟨rfl, trivial⟩, ⟨⟨rfl, trivial⟩, trivial⟩⟩⟩⟩⟩⟩ rfl) <| w_done <| k_seq <| awp_seq <| awp_seq <| ?_
      obtain ⟨s52_138, hb2, hc1⟩ := ob hc1
      refine awp_cut ([(1, (.lst 5 (list_2.map encGUpdate))), (6, (.ptr 0 0 0)), (7, (.int .i64 (i_86 : Int))), (8, (.ptr 1 0 0)), (52, (.bool s52_138))], [.box 2 (.agg [(.lst 1 (x_87.map (encL 2 encGRow))), (.int .i64 x_88)]), .box 5 (.agg [(.int .i64 x_132.Id), (.int .i64 x_132.Old.Id), (.lst 1 (x_132.Old.Cells.map (encL 3 encGAtom))), (.int .i64 x_132.New.Id), (.lst 1 (x_132.New.Cells.map (encL 3 encGAtom)))])]) ?_ ?_
      ·refine w_reg ?_
       rcases oi hb2 with ⟨c140, hb2⟩ | ⟨c140, hb2⟩
       ·refine s_q (.ptr 1 0 0) rfl trivial rfl <| s_q (.int .i64 x_132.Id) rfl nle rfl <| s_q (.bool (decide (x_132.Id < 1))) rfl rfl rfl <| s_mov (.bool (decide (x_132.Id < 1))) rfl <| s_lit (s := 48) (b := true) rfl c140 <| s_off rfl rfl <| s_off rfl rfl <| s_off rfl rfl <| s_q (.bool true) rfl trivial rfl <| w_done <| ?_; obtain rfl := os hb2; exact ⟨[], [0, 1], _, _, rfl, rfl, ⟨.refl _, ⟨.refl _, ⟨.refl _, ⟨.refl _, ⟨.refl _, trivial⟩⟩⟩⟩⟩, (.refl _)⟩
       ·obtain ⟨r_141, er142, hb2⟩ := ob hb2
        refine s_q (.ptr 1 0 0) rfl trivial rfl <| s_q (.int .i64 x_132.Id) rfl nle rfl <| s_q (.bool (decide (x_132.Id < 1))) rfl rfl rfl <| s_mov (.bool (decide (x_132.Id < 1))) rfl <| s_lit (s := 48) (b := false) rfl (bf c140) <| s_on rfl <| s_q (.agg [(.int .i64 0), (.int .i64 x_132.Id), (.int .i64 x_132.Old.Id), (.lst 1 (x_132.Old.Cells.map (encL 3 encGAtom))), (.int .i64 x_132.New.Id), (.lst 1 (x_132.New.Cells.map (encL 3 encGAtom)))]) rfl nle rfl <| s_on rfl <| s_do (o_call (w_spec_l10Kind _ _ er142) rfl (.refl _) rfl) <| s_on rfl <| s_q (.bool (r_141 == 0)) rfl rfl rfl <| s_q (.bool (r_141 == 0)) rfl trivial rfl <| w_done <| ?_; obtain rfl := os hb2; exact ⟨[], [0, 1], _, _, rfl, rfl, ⟨.refl _, ⟨.refl _, ⟨.refl _, ⟨.refl _, ⟨.refl _, trivial⟩⟩⟩⟩⟩, (.refl _)⟩
      ·rcases oi hc1 with ⟨c143, hc1⟩ | ⟨c143, hc1⟩
       ·refine w_condt rfl c143 <| awp_seq <| w_reg <| ?_
        obtain ⟨x_144, ex145, hc1⟩ := ob hc1
        refine s_q (.ptr 0 0 0) rfl trivial rfl <| s_q (.lst 1 (x_87.map (encL 2 encGRow))) rfl nle rfl <| s_do (o_iaddr (enc := (encL 2 encGRow)) rfl rfl (idx0 ex145) (idx1 ex145)) <| s_q (.lst 2 (x_144.map encGRow)) rfl ⟨rfl, rfl⟩ rfl <| s_mov (.lst 2 (x_144.map encGRow)) rfl <| s_mov (.int .i64 1) rfl <| w_done <| k_seq <| w_ret <| ?_; obtain rfl := os hc1; obtain rfl := os hf; exact r_weak ⟨trivial, ⟨trivial, trivial⟩⟩ rfl (.refl _)
       ·refine w_condf rfl (bf c143) <| w_skip <| k_seq <| awp_seq <| awp_seq <| w_reg <| ?_
        obtain ⟨x_146, ex147, hc1⟩ := ob hc1
        obtain ⟨r_148, er149, hc1⟩ := ob hc1
        obtain ⟨r_150, er151, hc1⟩ := ob hc1
        refine s_q (.ptr 0 0 0) rfl trivial rfl <| s_q (.lst 1 (x_87.map (encL 2 encGRow))) rfl nle rfl <| s_do (o_iaddr (enc := (encL 2 encGRow)) rfl rfl (idx0 ex147) (idx1 ex147)) <| s_q (.lst 2 (x_146.map encGRow)) rfl ⟨rfl, rfl⟩ rfl <| s_q (.ptr 1 0 0) rfl trivial rfl <| s_q (.int .i64 x_132.Id) rfl nle rfl <| s_q (.ptr 1 0 1) rfl trivial rfl <| s_q (.agg [(.int .i64 x_132.Old.Id), (.lst 1 (x_132.Old.Cells.map (encL 3 encGAtom)))]) rfl nle rfl <| s_dol (o_callc rfl (w_spec_l10Row _ _ _ er149) rfl (.refl _) rfl) a_same trivial <| s_dol (o_call (w_spec_l05SameRow _ _ _ er151) rfl (.refl _) rfl) a_same trivial <| s_q (.bool (!r_150)) rfl trivial rfl <| w_done <| k_seq <| ?_
        rcases oi hc1 with ⟨c152, hc1⟩ | ⟨c152, hc1⟩
        ·refine w_condt rfl c152 <| awp_seq <| w_reg <| ?_
         obtain ⟨x_153, ex154, hc1⟩ := ob hc1
         refine s_q (.ptr 0 0 0) rfl trivial rfl <| s_q (.lst 1 (x_87.map (encL 2 encGRow))) rfl nle rfl <| s_do (o_iaddr (enc := (encL 2 encGRow)) rfl rfl (idx0 ex154) (idx1 ex154)) <| s_q (.lst 2 (x_153.map encGRow)) rfl ⟨rfl, rfl⟩ rfl <| s_mov (.lst 2 (x_153.map encGRow)) rfl <| s_mov (.int .i64 13) rfl <| w_done <| k_seq <| w_ret <| ?_; obtain rfl := os hc1; obtain rfl := os hf; exact r_weak ⟨trivial, ⟨trivial, trivial⟩⟩ rfl (.refl _)
        ·refine w_condf rfl (bf c152) <| w_skip <| k_seq <| awp_seq <| w_reg <| s_q (.ptr 1 0 3) rfl trivial rfl <| s_q (.ptr 1 0 3) rfl trivial rfl <| s_q (.int .i64 x_132.New.Id) rfl nle rfl <| s_q (.bool (x_132.New.Id == 0)) rfl rfl rfl <| w_done <| k_seq <| ?_
         rcases oi hc1 with ⟨c155, hc1⟩ | ⟨c155, hc1⟩
         ·refine w_condt rfl c155 <| w_reg <| ?_
          obtain ⟨x_156, ex157, hc1⟩ := ob hc1
          obtain ⟨r_158, er159, hc1⟩ := ob hc1
          obtain ⟨r_160, er161, hc1⟩ := ob hc1
          refine s_q (.agg [(.lst 1 (x_87.map (encL 2 encGRow))), (.int .i64 x_88)]) rfl nle rfl <| s_q (.ptr 0 0 0) rfl trivial rfl <| s_q (.lst 1 (x_87.map (encL 2 encGRow))) rfl nle rfl <| s_do (o_iaddr (enc := (encL 2 encGRow)) rfl rfl (idx0 ex157) (idx1 ex157)) <| s_q (.lst 2 (x_156.map encGRow)) rfl ⟨rfl, rfl⟩ rfl <| s_q (.ptr 1 0 0) rfl trivial rfl <| s_q (.int .i64 x_132.Id) rfl nle rfl <| s_dol (o_call (w_spec_l05Place _ _ _ er159) rfl (.refl _) rfl) a_same trivial <| s_dol (o_callw rfl (w_spec_l05Drop _ _ _ _ er161) rfl (.refl _) rfl rfl) a_same trivial <| s_dol0 (o_storebox (v := (.agg [(.lst 1 (r_160.Tables.map (encL 2 encGRow))), (.int .i64 r_160.Next)])) (y' := (.agg [(.lst 1 (r_160.Tables.map (encL 2 encGRow))), (.int .i64 r_160.Next)])) rfl rfl rfl trivial ⟨rfl, nle⟩ ⟨⟨rfl, trivial⟩, ⟨⟨rfl, trivial⟩, trivial⟩⟩ rfl) trivial trivial <| ?_
          refine w_done <| k_blk <| k_seq <| w_reg <| s_mov (.int .i64 (i_86 : Int)) rfl <| s_q (.int .i64 (w64 ((i_86 : Int) + 1))) rfl rfl rfl <| s_mov (.int .i64 (w64 ((i_86 : Int) + 1))) rfl <| w_done <| ?_; exact k_loopn ⟨((i_86 + 1), r_160.Tables, r_160.Next), hc1⟩ (mul hlt126) ⟨[], [0], _, _, rfl, rfl, ⟨.refl _, ⟨.refl _, ⟨.of_eq (congrArg (AV.int _) (w64_incr hlt126 hl134)), trivial⟩⟩⟩, (.refl _)⟩
         ·refine w_condf rfl (bf c155) <| w_reg <| ?_
          obtain ⟨r_162, er163, hc1⟩ := ob hc1
          refine s_q (.agg [(.lst 1 (x_87.map (encL 2 encGRow))), (.int .i64 x_88)]) rfl nle rfl <| s_q (.ptr 1 0 3) rfl trivial rfl <| s_q (.agg [(.int .i64 x_132.New.Id), (.lst 1 (x_132.New.Cells.map (encL 3 encGAtom)))]) rfl nle rfl <| s_do (o_callw rfl (w_spec_l05Put _ _ _ _ er163) rfl (.refl _) rfl rfl) <| s_do0 (o_storebox (v := (.agg [(.lst 1 (r_162.Tables.map (encL 2 encGRow))), (.int .i64 r_162.Next)])) (y' := (.agg [(.lst 1 (r_162.Tables.map (encL 2 encGRow))), (.int .i64 r_162.Next)])) rfl rfl rfl trivial ⟨rfl, nle⟩ ⟨⟨rfl, trivial⟩, ⟨⟨rfl, trivial⟩, trivial⟩⟩ rfl) <| w_done <| k_blk <| k_seq <| w_reg <| s_mov (.int .i64 (i_86 : Int)) rfl <| s_q (.int .i64 (w64 ((i_86 : Int) + 1))) rfl rfl rfl <| s_mov (.int .i64 (w64 ((i_86 : Int) + 1))) rfl <| ?_
          refine w_done ?_; exact k_loopn ⟨((i_86 + 1), r_162.Tables, r_162.Next), hc1⟩ (mul hlt126) ⟨[], [0], _, _, rfl, rfl, ⟨.refl _, ⟨.refl _, ⟨.of_eq (congrArg (AV.int _) (w64_incr hlt126 hl134)), trivial⟩⟩⟩, (.refl _)⟩
    ·rintro ⟨⟨x_123, x_124⟩, rfl⟩
     refine awp_seq <| w_reg <| ?_
     obtain ⟨x_164, ex165, hf⟩ := ob hf
     refine s_q (.ptr 0 0 0) rfl trivial rfl <| s_q (.lst 1 (x_123.map (encL 2 encGRow))) rfl nle rfl <| s_do (o_iaddr (enc := (encL 2 encGRow)) rfl rfl (idx0 ex165) (idx1 ex165)) <| s_q (.lst 2 (x_164.map encGRow)) rfl ⟨rfl, rfl⟩ rfl <| s_mov (.lst 2 (x_164.map encGRow)) rfl <| s_mov (.int .i64 0) rfl <| w_done <| k_seq <| w_ret <| ?_; obtain rfl := os hf; exact r_weak ⟨trivial, ⟨trivial, trivial⟩⟩ rfl (.refl _)

/- impl.isList[impl.Row] -/
def c46 : ACode :=
 (.seq (.reg (tm 2 (.c (.bool false)) .done))
 (.seq (.reg (tm 3 (.t 0) (tq 4 (.len (.t 3)) (tq 5 (.bin .leq (.t 4) (.c (.int .i64 4096))) (tm 2 (.t 5) .done)))))
 .ret))
theorem fc46 : fcomp Try.prog Try.f46 = some (c46.erase, [.mov (.t 2)], 6) := by kernel_rfl
def impl_isList_impl_Row (list_1 : (List GRow)) : Option Bool :=
    some (decide ((list_1.length : Int) ≤ 4096))
theorem w_impl_isList_impl_Row (list_1 : (List GRow)) (r : Bool) (hf : impl_isList_impl_Row list_1 = some r) : CallOK Try.prog 46 .flat [(.lst 2 (list_1.map encGRow))] (.bool r) := by
  refine CallOK.of_awp mixed Try.func46 fc46 nle ?_
  rw [argT_eq]
  unfold impl_isList_impl_Row at hf
  unfold c46
  refine (show awp Try.prog false 0 _ (ofL [(0, (.lst 2 (list_1.map encGRow)))]) [] _ from ?_)
  refine awp_seq ?_
  refine w_reg ?_
  refine s_do (o_mov (.bool false) rfl) ?_
  refine w_done ?_
  refine k_seq ?_
  refine awp_seq ?_
  refine w_reg ?_
  refine s_do (o_mov (.lst 2 (list_1.map encGRow)) rfl) ?_
  refine s_dof (o_len (enc := encGRow) rfl) fun hl2 => ?_
  refine s_do (o_q (.bool (decide ((list_1.length : Int) ≤ 4096))) rfl rfl rfl) ?_
  refine s_do (o_mov (.bool (decide ((list_1.length : Int) ≤ 4096))) rfl) ?_
  refine w_done ?_
  refine k_seq ?_
  refine w_ret ?_
  obtain rfl := os hf
  exact r_flat ⟨trivial, trivial⟩ rfl (.refl _)

/- impl.isList[impl.Update] -/
def c47 : ACode :=
 (.seq (.reg (tm 2 (.c (.bool false)) .done))
 (.seq (.reg (tm 3 (.t 0) (tq 4 (.len (.t 3)) (tq 5 (.bin .leq (.t 4) (.c (.int .i64 4096))) (tm 2 (.t 5) .done)))))
 .ret))
theorem fc47 : fcomp Try.prog Try.f47 = some (c47.erase, [.mov (.t 2)], 6) := by kernel_rfl
def impl_isList_impl_Update (list_1 : (List GUpdate)) : Option Bool :=
    some (decide ((list_1.length : Int) ≤ 4096))
theorem w_impl_isList_impl_Update (list_1 : (List GUpdate)) (r : Bool) (hf : impl_isList_impl_Update list_1 = some r) : CallOK Try.prog 47 .flat [(.lst 5 (list_1.map encGUpdate))] (.bool r) := by
  refine CallOK.of_awp mixed Try.func47 fc47 nle ?_
  rw [argT_eq]
  unfold impl_isList_impl_Update at hf
  unfold c47
  refine (show awp Try.prog false 0 _ (ofL [(0, (.lst 5 (list_1.map encGUpdate)))]) [] _ from ?_)
  refine awp_seq ?_
  refine w_reg ?_
  refine s_do (o_mov (.bool false) rfl) ?_
  refine w_done ?_
  refine k_seq ?_
  refine awp_seq ?_
  refine w_reg ?_
  refine s_do (o_mov (.lst 5 (list_1.map encGUpdate)) rfl) ?_
  refine s_dof (o_len (enc := encGUpdate) rfl) fun hl2 => ?_
  refine s_do (o_q (.bool (decide ((list_1.length : Int) ≤ 4096))) rfl rfl rfl) ?_
  refine s_do (o_mov (.bool (decide ((list_1.length : Int) ≤ 4096))) rfl) ?_
  refine w_done ?_
  refine k_seq ?_
  refine w_ret ?_
  obtain rfl := os hf
  exact r_flat ⟨trivial, trivial⟩ rfl (.refl _)

/- impl.areRising -/
def c48 : ACode :=
 (.seq (.reg (tm 2 (.c (.bool false)) .done))
 (.seq (.seq (.reg (tm 3 (.c (.int .i64 1)) .done))
 (.block 0 (.loop (.seq (.seq (.reg (tm 4 (.t 3) (tm 5 (.t 0) (tq 6 (.len (.t 5)) (tq 7 (.bin .lss (.t 4) (.t 6)) .done)))))
 (.cond (.t 7) .skip
 (.exit 0)))
 (.seq (.block 1 (.seq (.reg (tm 10 (.t 0) (tm 11 (.t 3) (tq 12 (.bin .sub (.t 11) (.c (.int .i64 1))) (tq 13 (.iaddr 2 (.t 10) (.t 12)) (tq 14 (.faddr 0 (.t 13)) (tq 15 (.load 1 false (.t 14)) (tm 16 (.t 0) (tm 17 (.t 3) (tq 18 (.iaddr 2 (.t 16) (.t 17)) (tq 19 (.faddr 0 (.t 18)) (tq 20 (.load 1 false (.t 19)) (tq 21 (.bin .geq (.t 15) (.t 20)) .done)))))))))))))
 (.cond (.t 21) (.seq (.reg (tm 2 (.c (.bool false)) .done))
 .ret)
 .skip)))
 (.reg (tm 8 (.t 3) (tq 9 (.bin .add (.t 8) (.c (.int .i64 1))) (tm 3 (.t 9) .done)))))))))
 (.cut (.seq (.reg (tm 2 (.c (.bool true)) .done))
 .ret))))
theorem fc48 : fcomp Try.prog Try.f48 = some (c48.erase, [.mov (.t 2)], 22) := by kernel_rfl
def impl_areRising_L1 (rows_1 : (List GRow)) : List GRow → Nat → Option (Fl Bool Unit)
  | [], i_17 =>
    some (.go ())
  | x_33 :: xs, i_17 =>
    (idx rows_1 (w64 ((i_17 : Int) - 1))).bind fun x_36 =>
    if (decide (x_36.Id ≥ x_33.Id)) then
    some (.ret false)
    else
    impl_areRising_L1 rows_1 xs (i_17 + 1)

def impl_areRising (rows_1 : (List GRow)) : Option Bool :=
    (impl_areRising_L1 rows_1 (rows_1.drop 1) 1).bind fun q => (match q with
    | .ret r => some r
    | .go _ =>
    some true)
theorem w_impl_areRising (rows_1 : (List GRow)) (r : Bool) (hf : impl_areRising rows_1 = some r) : CallOK Try.prog 48 .flat [(.lst 2 (rows_1.map encGRow))] (.bool r) := by
 refine CallOK.of_awp mixed Try.func48 fc48 nle ?_; rw [argT_eq]; unfold impl_areRising at hf; unfold c48; refine (show awp Try.prog false 0 _ (ofL [(0, (.lst 2 (rows_1.map encGRow)))]) [] _ from ?_); refine awp_seq <| w_reg <| s_mov (.bool false) rfl <| w_done <| k_seq <| awp_seq <| awp_seq <| w_reg <| s_mov (.int .i64 1) rfl <| w_done <| k_seq <| ?_
 obtain ⟨p26, hb1, hf⟩ := ob hf
 refine awp_cutx (X := {q : Unit // p26 = .go q}) (fun q => ([], [])) ?_ ?_
 ·refine awp_loop (X := {q : Nat // impl_areRising_L1 rows_1 (rows_1.drop q) q = some p26}) (fun q => ([(0, (.lst 2 (rows_1.map encGRow))), (3, (.int .i64 (q.1 : Int)))], [])) (fun q => rows_1.length - q.1) ⟨1, hb1⟩ ⟨[], [], _, _, rfl, rfl, ⟨.refl _, ⟨.refl _, trivial⟩⟩, (.refl _)⟩ ?_
  rintro ⟨i_17, hc1⟩
  have hc1 : impl_areRising_L1 rows_1 (rows_1.drop i_17) i_17 = some p26 := hc1
  refine (show awp Try.prog false 0 _ (ofL [(0, (.lst 2 (rows_1.map encGRow))), (3, (.int .i64 (i_17 : Int)))]) [] _ from ?_)
  rcases dropc rows_1 i_17 with ⟨hie29, hd32⟩ | ⟨hlt27, x_33, hx28, hd32⟩
  ·rw [hd32, impl_areRising_L1.eq_1] at hc1
   have hq31 := dlf hie29
   refine awp_seq <| awp_seq <| w_reg <| s_mov (.int .i64 (i_17 : Int)) rfl <| s_mov (.lst 2 (rows_1.map encGRow)) rfl <| s_dof (o_len (enc := encGRow) rfl) fun hl34 => s_q (.bool (decide ((i_17 : Int) < (rows_1.length : Int)))) rfl rfl rfl <| w_done <| k_seq <| w_condf rfl hq31 <| w_exit <| k_seqx <| k_loopx <| k_blkx <| ?_; obtain rfl := os hc1; exact k_cutn ⟨_, rfl⟩ ⟨[], [], _, _, rfl, rfl, trivial, (.refl _)⟩
  ·rw [hd32, impl_areRising_L1.eq_2] at hc1
   have hq31 := dlt hlt27
   refine awp_seq <| awp_seq <| w_reg <| s_mov (.int .i64 (i_17 : Int)) rfl <| s_mov (.lst 2 (rows_1.map encGRow)) rfl <| s_dof (o_len (enc := encGRow) rfl) fun hl35 => s_q (.bool (decide ((i_17 : Int) < (rows_1.length : Int)))) rfl rfl rfl <| w_done <| k_seq <| w_condt rfl hq31 <| w_skip <| k_seq <| awp_seq <| w_blk <| awp_seq <| w_reg <| ?_
   obtain ⟨x_36, ex37, hc1⟩ := ob hc1
   refine s_mov (.lst 2 (rows_1.map encGRow)) rfl <| s_mov (.int .i64 (i_17 : Int)) rfl <| s_q (.int .i64 (w64 ((i_17 : Int) - 1))) rfl rfl rfl <| s_do (o_iaddr (enc := encGRow) rfl rfl (idx0 ex37) (idx1 ex37)) <| s_q (.iptr (encGRow x_36) 0) rfl trivial rfl <| s_q (.int .i64 x_36.Id) rfl nle rfl <| s_mov (.lst 2 (rows_1.map encGRow)) rfl <| s_mov (.int .i64 (i_17 : Int)) rfl <| s_do (o_iaddrn (enc := encGRow) rfl rfl hx28) <| s_q (.iptr (encGRow x_33) 0) rfl trivial rfl <| s_q (.int .i64 x_33.Id) rfl nle rfl <| s_q (.bool (decide (x_36.Id ≥ x_33.Id))) rfl rfl rfl <| w_done <| k_seq <| ?_
   rcases oi hc1 with ⟨c38, hc1⟩ | ⟨c38, hc1⟩
   ·refine w_condt rfl c38 <| awp_seq <| w_reg <| s_mov (.bool false) rfl <| w_done <| k_seq <| w_ret <| ?_; obtain rfl := os hc1; obtain rfl := os hf; exact r_flat ⟨trivial, trivial⟩ rfl (.refl _)
   ·refine w_condf rfl (bf c38) <| w_skip <| k_blk <| k_seq <| w_reg <| s_mov (.int .i64 (i_17 : Int)) rfl <| s_q (.int .i64 (w64 ((i_17 : Int) + 1))) rfl rfl rfl <| s_mov (.int .i64 (w64 ((i_17 : Int) + 1))) rfl <| w_done <| ?_; exact k_loopn ⟨(i_17 + 1), hc1⟩ (mul hlt27) ⟨[], [], _, _, rfl, rfl, ⟨.refl _, ⟨.of_eq (congrArg (AV.int _) (w64_incr hlt27 hl35)), trivial⟩⟩, (.refl _)⟩
 ·rintro ⟨_, rfl⟩
  refine awp_seq <| w_reg <| s_mov (.bool true) rfl <| w_done <| k_seq <| w_ret <| ?_; obtain rfl := os hf; exact r_flat ⟨trivial, trivial⟩ rfl (.refl _)

/- slices.Clone[[]impl.Atom,impl.Atom] -/
def c97 : ACode :=
 (.seq (.reg (tm 2 (.c .nil) .done))
 (.seq (.seq (.reg (tm 3 (.t 0) (tq 4 (.isnil false (.t 3)) .done)))
 (.cond (.t 4) (.seq (.reg (tm 2 (.c .nil) .done))
 .ret)
 .skip))
 (.seq (.reg (tq 5 (.bslice 3 []) (tm 6 (.t 0) (tq 7 (.append 3 32 (.t 5) (.t 6)) (tm 2 (.t 7) .done)))))
 .ret)))
theorem fc97 : fcomp Try.prog Try.f97 = some (c97.erase, [.mov (.t 2)], 8) := by kernel_rfl
def slices_Clone_impl_Atom_impl_Atom (s_1 : (List GAtom)) : Option (List GAtom) :=
    if ([] ++ s_1).length ≤ 2 ^ 30 then
    some ([] ++ s_1)
    else none
theorem w_slices_Clone_impl_Atom_impl_Atom (s_1 : (List GAtom)) (r : (List GAtom)) (hf : slices_Clone_impl_Atom_impl_Atom s_1 = some r) : CallOK Try.prog 97 .fresh [(.lst 3 (s_1.map encGAtom))] (.lst 3 (r.map encGAtom)) := by
 refine CallOK.of_awp mixed Try.func97 fc97 nle ?_; rw [argT_eq]; unfold slices_Clone_impl_Atom_impl_Atom at hf; unfold c97; refine (show awp Try.prog true 0 _ (ofL [(0, (.lst 3 (s_1.map encGAtom)))]) [] _ from ?_); refine awp_seq <| w_reg <| s_mov .nil rfl <| w_done <| k_seq <| awp_seq <| awp_seq <| w_reg <| s_mov (.lst 3 (s_1.map encGAtom)) rfl <| s_isn (l := s_1.map encGAtom) rfl <| ?_
 intro b hb3
 rcases b with _ | _
 ·refine w_done <| k_seq <| w_condf rfl rfl <| w_skip <| k_seq <| awp_seq <| w_reg <| ?_
  obtain ⟨g2, hf⟩ := og hf
  refine s_do (o_bslice (j := 0) (as' := []) rfl (fun _ => by decide) trivial (.refl _) rfl rfl rfl) ?_; refine s_mov (.lst 3 (s_1.map encGAtom)) rfl ?_
  refine s_do (o_appendd (j := 1) (L := (([] ++ s_1).map encGAtom)) (len := ([] ++ s_1).length) rfl false rfl rfl (fun _ => flm (fun _ => rfl) _) (fun _ _ _ => flm (fun _ => rfl) _) (by decide) ((by simp)) (by simp <;> omega) g2 rfl rfl) ?_
  refine s_mov (.own 1 0 (([] ++ s_1).length)) rfl <| w_done <| k_seq <| w_ret <| ?_; obtain rfl := os hf; exact r_fresh ⟨trivial, trivial⟩ rfl (by decide) (.of_eq (congrArg (AV.lst _) (tk (enc := encGAtom) ([] ++ s_1))))
 ·have he4 : s_1 = [] := mapnil (hb3 rfl)
  have hE : (if ([] ++ s_1).length ≤ 2 ^ 30 then some ([] ++ s_1) else none) = (some []) := by simp [he4]
  rw [hE] at hf; refine w_done <| k_seq <| w_condt rfl rfl <| awp_seq <| w_reg <| s_mov .nil rfl <| w_done <| k_seq <| w_ret <| ?_; obtain rfl := os hf; exact r_fresh ⟨trivial, trivial⟩ rfl (by decide) (.nil _)

end Go.R
