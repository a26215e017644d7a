/- Walks. -/
import Derived.Test.YtdnjjfoooagphaaDJT
set_option linter.all false
namespace Go.R
open Go Go.Proofs
set_option linter.unusedVariables false
set_option linter.unusedSimpArgs false
set_option maxHeartbeats 8000000
/- laws.szAtom -/
def c79 : ACode :=
 (.seq (.reg (tq 2 (.box 3 (.t 0)) (tm 4 (.c (.int .i64 0)) .done)))
 (.seq (.reg (tm 5 (.t 1) (tq 6 (.faddr 2 (.t 2)) (tq 7 (.load 1 false (.t 6)) (tq 8 (.lenS (.t 7)) (tq 9 (.bin .sub (.t 5) (.t 8)) (tm 1 (.t 9) .done)))))))
 (.seq (.seq (.reg (tm 10 (.t 1) (tq 11 (.bin .lss (.t 10) (.c (.int .i64 0))) .done)))
 (.cond (.t 11) (.seq (.reg (tq 4 (.mov (.c (.int .i64 (-1)))) .done))
 .ret)
 .skip))
 (.seq (.reg (tm 12 (.t 1) (tm 4 (.t 12) .done)))
 .ret))))
theorem fc79 : fcomp Try.prog Try.f79 = some (c79.erase, [.mov (.t 4)], 13) := by kernel_rfl
def laws_szAtom (a_1 : GAtom) (left_2 : Int) : Option Int :=
    if (decide (w64 (left_2 - (a_1.T.length : Int)) < 0)) then
    some (-1)
    else
    some (w64 (left_2 - (a_1.T.length : Int)))
theorem w_laws_szAtom (a_1 : GAtom) (left_2 : Int) (r : Int) (hf : laws_szAtom a_1 left_2 = some r) : CallOK Try.prog 79 .flat [(encGAtom a_1), (.int .i64 left_2)] (.int .i64 r) := by
 refine CallOK.of_awp mixed Try.func79 fc79 nle ?_; rw [argT_eq]; unfold laws_szAtom at hf; unfold c79; refine (show awp Try.prog false 0 _ (ofL [(0, (encGAtom a_1)), (1, (.int .i64 left_2))]) [] _ from ?_); refine awp_seq <| w_reg <| s_do (o_box (j := 0) (c := (.agg [(.int .i64 a_1.Kind), (.int .i64 a_1.N), (.str a_1.T)])) rfl trivial rfl rfl) <| s_mov (.int .i64 0) rfl <| w_done <| k_seq <| awp_seq <| w_reg <| s_mov (.int .i64 left_2) rfl <| s_q (.ptr 0 0 2) rfl trivial rfl <| s_q (.str a_1.T) rfl nle rfl <| s_dof (o_lenS rfl) fun hl3 => s_q (.int .i64 (w64 (left_2 - (a_1.T.length : Int)))) rfl rfl rfl <| s_mov (.int .i64 (w64 (left_2 - (a_1.T.length : Int)))) rfl <| w_done <| k_seq <| awp_seq <| awp_seq <| w_reg <| s_mov (.int .i64 (w64 (left_2 - (a_1.T.length : Int)))) rfl <| ?_
 refine s_q (.bool (decide (w64 (left_2 - (a_1.T.length : Int)) < 0))) rfl rfl rfl <| w_done <| k_seq <| ?_
 rcases oi hf with ⟨c4, hf⟩ | ⟨c4, hf⟩
 ·refine w_condt rfl c4 <| awp_seq <| w_reg <| s_mov (.int .i64 (-1)) rfl <| w_done <| k_seq <| w_ret <| ?_; obtain rfl := os hf; exact r_flat ⟨trivial, trivial⟩ rfl (.refl _)
 ·refine w_condf rfl (bf c4) <| w_skip <| k_seq <| awp_seq <| w_reg <| s_mov (.int .i64 (w64 (left_2 - (a_1.T.length : Int)))) rfl <| s_mov (.int .i64 (w64 (left_2 - (a_1.T.length : Int)))) rfl <| w_done <| k_seq <| w_ret <| ?_; obtain rfl := os hf; exact r_flat ⟨trivial, trivial⟩ rfl (.refl _)

/- laws.szAtomS -/
def c15 : ACode :=
 (.seq (.reg (tm 4 (.c (.int .i64 0)) .done))
 (.seq (.reg (tm 6 (.t 1) (tm 7 (.t 0) (tq 8 (.len (.t 7)) (tq 9 (.bin .sub (.t 6) (.t 8)) (tm 1 (.t 9) .done))))))
 (.seq (.seq (.reg (tm 10 (.t 1) (tq 11 (.bin .lss (.t 10) (.c (.int .i64 0))) .done)))
 (.cond (.t 11) (.seq (.reg (tq 4 (.mov (.c (.int .i64 (-1)))) .done))
 .ret)
 .skip))
 (.seq (.seq (.reg (tm 5 (.c (.int .i64 0)) .done))
 (.block 0 (.loop (.seq (.seq (.reg (tm 12 (.t 5) (tm 13 (.t 0) (tq 14 (.len (.t 13)) (tq 15 (.bin .lss (.t 12) (.t 14)) .done)))))
 (.cond (.t 15) .skip
 (.exit 0)))
 (.seq (.block 1 (.seq (.reg (tm 18 (.t 0) (tm 19 (.t 5) (tq 20 (.iaddr 3 (.t 18) (.t 19)) (tq 21 (.load 3 true (.t 20)) (tm 22 (.t 1) (tq 23 (.call 79 [(.t 21), (.t 22)]) (tm 1 (.t 23) .done))))))))
 (.seq (.reg (tm 24 (.t 1) (tq 25 (.bin .lss (.t 24) (.c (.int .i64 0))) .done)))
 (.cond (.t 25) (.seq (.reg (tq 4 (.mov (.c (.int .i64 (-1)))) .done))
 .ret)
 .skip))))
 (.reg (tm 16 (.t 5) (tq 17 (.bin .add (.t 16) (.c (.int .i64 1))) (tm 5 (.t 17) .done)))))))))
 (.cut (.seq (.reg (tm 26 (.t 1) (tm 4 (.t 26) .done)))
 .ret))))))
theorem fc15 : fcomp Try.prog Try.f15 = some (c15.erase, [.mov (.t 4)], 27) := by kernel_rfl
def laws_szAtomS_L1  : List GAtom → Int → Option (Fl Int Int)
  | [], left_21 =>
    some (.go left_21)
  | x_39 :: xs, left_21 =>
    (laws_szAtom x_39 left_21).bind fun r_42 =>
    if (decide (r_42 < 0)) then
    some (.ret (-1))
    else
    laws_szAtomS_L1 xs r_42 

def laws_szAtomS (a_1 : (List GAtom)) (left_2 : Int) : Option Int :=
    if (decide (w64 (left_2 - (a_1.length : Int)) < 0)) then
    some (-1)
    else
    (laws_szAtomS_L1 a_1 (w64 (left_2 - (a_1.length : Int)))).bind fun q => (match q with
    | .ret r => some r
    | .go left_31 =>
    some left_31)
theorem w_laws_szAtomS (a_1 : (List GAtom)) (left_2 : Int) (r : Int) (hf : laws_szAtomS a_1 left_2 = some r) : CallOK Try.prog 15 .flat [(.lst 3 (a_1.map encGAtom)), (.int .i64 left_2)] (.int .i64 r) := by
 refine CallOK.of_awp mixed Try.func15 fc15 nle ?_; rw [argT_eq]; unfold laws_szAtomS at hf; unfold c15; refine (show awp Try.prog false 0 _ (ofL [(0, (.lst 3 (a_1.map encGAtom))), (1, (.int .i64 left_2))]) [] _ from ?_); refine awp_seq <| w_reg <| s_mov (.int .i64 0) rfl <| w_done <| k_seq <| awp_seq <| w_reg <| s_mov (.int .i64 left_2) rfl <| s_mov (.lst 3 (a_1.map encGAtom)) rfl <| s_dof (o_len (enc := encGAtom) rfl) fun hl3 => s_q (.int .i64 (w64 (left_2 - (a_1.length : Int)))) rfl rfl rfl <| s_mov (.int .i64 (w64 (left_2 - (a_1.length : Int)))) rfl <| w_done <| k_seq <| awp_seq <| awp_seq <| w_reg <| s_mov (.int .i64 (w64 (left_2 - (a_1.length : Int)))) rfl <| s_q (.bool (decide (w64 (left_2 - (a_1.length : Int)) < 0))) rfl rfl rfl <| ?_
 refine w_done <| k_seq <| ?_
 rcases oi hf with ⟨c4, hf⟩ | ⟨c4, hf⟩
 ·refine w_condt rfl c4 <| awp_seq <| w_reg <| s_mov (.int .i64 (-1)) rfl <| w_done <| k_seq <| w_ret <| ?_; obtain rfl := os hf; exact r_flat ⟨trivial, trivial⟩ rfl (.refl _)
 ·refine w_condf rfl (bf c4) <| w_skip <| k_seq <| awp_seq <| awp_seq <| w_reg <| s_mov (.int .i64 0) rfl <| w_done <| k_seq <| ?_
  obtain ⟨p32, hb1, hf⟩ := ob hf
  refine awp_cutx (X := {q : Int // p32 = .go q}) (fun q => ([(1, (.int .i64 q.1))], [])) ?_ ?_
  ·refine awp_loop (X := {q : (Int × Nat) // laws_szAtomS_L1 (a_1.drop q.2) q.1 = some p32}) (fun q => ([(0, (.lst 3 (a_1.map encGAtom))), (1, (.int .i64 q.1.1)), (5, (.int .i64 (q.1.2 : Int)))], [])) (fun q => a_1.length - q.1.2) ⟨(w64 (left_2 - (a_1.length : Int)), 0), hb1⟩ ⟨[], [], _, _, rfl, rfl, ⟨.refl _, ⟨.refl _, ⟨.refl _, trivial⟩⟩⟩, (.refl _)⟩ ?_
   rintro ⟨⟨left_21, i_22⟩, hc1⟩
   have hc1 : laws_szAtomS_L1 (a_1.drop i_22) left_21 = some p32 := hc1
   refine (show awp Try.prog false 0 _ (ofL [(0, (.lst 3 (a_1.map encGAtom))), (1, (.int .i64 left_21)), (5, (.int .i64 (i_22 : Int)))]) [] _ from ?_)
   rcases dropc a_1 i_22 with ⟨hie35, hd38⟩ | ⟨hlt33, x_39, hx34, hd38⟩
   ·rw [hd38, laws_szAtomS_L1.eq_1] at hc1
    have hq37 := dlf hie35
    refine awp_seq <| awp_seq <| w_reg <| s_mov (.int .i64 (i_22 : Int)) rfl <| s_mov (.lst 3 (a_1.map encGAtom)) rfl <| s_dof (o_len (enc := encGAtom) rfl) fun hl40 => s_q (.bool (decide ((i_22 : Int) < (a_1.length : Int)))) rfl rfl rfl <| w_done <| k_seq <| w_condf rfl hq37 <| w_exit <| k_seqx <| k_loopx <| k_blkx <| ?_; obtain rfl := os hc1; exact k_cutn ⟨_, rfl⟩ ⟨[], [], _, _, rfl, rfl, ⟨.refl _, trivial⟩, (.refl _)⟩
   ·rw [hd38, laws_szAtomS_L1.eq_2] at hc1
    have hq37 := dlt hlt33
    refine awp_seq <| awp_seq <| w_reg <| s_mov (.int .i64 (i_22 : Int)) rfl <| s_mov (.lst 3 (a_1.map encGAtom)) rfl <| s_dof (o_len (enc := encGAtom) rfl) fun hl41 => s_q (.bool (decide ((i_22 : Int) < (a_1.length : Int)))) rfl rfl rfl <| w_done <| k_seq <| w_condt rfl hq37 <| w_skip <| k_seq <| awp_seq <| w_blk <| awp_seq <| w_reg <| ?_
    obtain ⟨r_42, er43, hc1⟩ := ob hc1
    refine s_mov (.lst 3 (a_1.map encGAtom)) rfl <| s_mov (.int .i64 (i_22 : Int)) rfl <| s_do (o_iaddrn (enc := encGAtom) rfl rfl hx34) <| s_q (encGAtom x_39) rfl nle rfl <| s_mov (.int .i64 left_21) rfl <| s_do (o_call (w_laws_szAtom _ _ _ er43) rfl (.refl _) rfl) <| s_mov (.int .i64 r_42) rfl <| w_done <| k_seq <| awp_seq <| w_reg <| s_mov (.int .i64 r_42) rfl <| s_q (.bool (decide (r_42 < 0))) rfl rfl rfl <| w_done <| k_seq <| ?_
    rcases oi hc1 with ⟨c44, hc1⟩ | ⟨c44, hc1⟩
    ·refine w_condt rfl c44 <| awp_seq <| w_reg <| s_mov (.int .i64 (-1)) rfl <| w_done <| k_seq <| w_ret <| ?_; obtain rfl := os hc1; obtain rfl := os hf; exact r_flat ⟨trivial, trivial⟩ rfl (.refl _)
    ·refine w_condf rfl (bf c44) <| w_skip <| k_blk <| k_seq <| w_reg <| s_mov (.int .i64 (i_22 : Int)) rfl <| s_q (.int .i64 (w64 ((i_22 : Int) + 1))) rfl rfl rfl <| s_mov (.int .i64 (w64 ((i_22 : Int) + 1))) rfl <| w_done <| ?_; exact k_loopn ⟨(r_42, (i_22 + 1)), hc1⟩ (mul hlt33) ⟨[], [], _, _, rfl, rfl, ⟨.refl _, ⟨.refl _, ⟨.of_eq (congrArg (AV.int _) (w64_incr hlt33 hl41)), trivial⟩⟩⟩, (.refl _)⟩
  ·rintro ⟨left_31, rfl⟩
   refine awp_seq <| w_reg <| s_mov (.int .i64 left_31) rfl <| s_mov (.int .i64 left_31) rfl <| w_done <| k_seq <| w_ret <| ?_; obtain rfl := os hf; exact r_flat ⟨trivial, trivial⟩ rfl (.refl _)

/- laws.toAtom -/
def c83 : ACode :=
 (.seq (.reg (tq 1 (.box 3 (.t 0)) (tq 2 (.box 3 (.c (.agg [(.int .i64 0), (.int .i64 0), (.str [])]))) .done)))
 (.seq (.reg (tq 3 (.box 3 (.c (.agg [(.int .i64 0), (.int .i64 0), (.str [])]))) .done))
 (.seq (.reg (tq 4 (.faddr 0 (.t 1)) (tq 5 (.load 1 false (.t 4)) (tq 6 (.faddr 0 (.t 3)) (.q ⟨none, none, .store 1 (.t 6) (.t 5)⟩
 .done)))))
 (.seq (.reg (tq 7 (.faddr 1 (.t 1)) (tq 8 (.load 1 false (.t 7)) (tq 9 (.faddr 1 (.t 3)) (.q ⟨none, none, .store 1 (.t 9) (.t 8)⟩
 .done)))))
 (.seq (.reg (tq 10 (.faddr 2 (.t 1)) (tq 11 (.load 1 false (.t 10)) (tq 12 (.faddr 2 (.t 3)) (.q ⟨none, none, .store 1 (.t 12) (.t 11)⟩
 .done)))))
 (.seq (.reg (tq 13 (.load 3 true (.t 3)) (.q ⟨none, none, .store 3 (.t 2) (.t 13)⟩
 .done)))
 .ret))))))
theorem fc83 : fcomp Try.prog Try.f83 = some (c83.erase, [.load 3 true (.t 2)], 14) := by kernel_rfl
def laws_toAtom (a_1 : GAtom) : Option GAtom :=
    some a_1
theorem w_laws_toAtom (a_1 : GAtom) (r : GAtom) (hf : laws_toAtom a_1 = some r) : CallOK Try.prog 83 .flat [(encGAtom a_1)] (encGAtom r) := by
 refine CallOK.of_awp mixed Try.func83 fc83 nle ?_; rw [argT_eq]; unfold laws_toAtom at hf; unfold c83; refine (show awp Try.prog false 0 _ (ofL [(0, (encGAtom a_1))]) [] _ from ?_); refine awp_seq <| w_reg <| s_do (o_box (j := 0) (c := (.agg [(.int .i64 a_1.Kind), (.int .i64 a_1.N), (.str a_1.T)])) rfl trivial rfl rfl) <| s_do (o_box (j := 1) (c := (.agg [(.int .i64 0), (.int .i64 0), (.str [])])) rfl trivial rfl rfl) <| w_done <| k_seq <| awp_seq <| w_reg <| s_do (o_box (j := 2) (c := (.agg [(.int .i64 0), (.int .i64 0), (.str [])])) rfl trivial rfl rfl) <| w_done <| k_seq <| awp_seq <| w_reg <| s_q (.ptr 0 0 0) rfl trivial rfl <| s_q (.int .i64 a_1.Kind) rfl nle rfl <| s_q (.ptr 2 0 0) rfl trivial rfl <| s_do0 (o_storebox (v := (.int .i64 a_1.Kind)) (y' := (.agg [(.int .i64 a_1.Kind), (.int .i64 0), (.str [])])) rfl rfl rfl trivial ⟨rfl, nle⟩ ⟨⟨rfl, trivial⟩, trivial⟩ rfl) <| ?_
 refine w_done <| k_seq <| awp_seq <| w_reg <| s_q (.ptr 0 0 1) rfl trivial rfl <| s_q (.int .i64 a_1.N) rfl nle rfl <| s_q (.ptr 2 0 1) rfl trivial rfl <| s_do0 (o_storebox (v := (.int .i64 a_1.N)) (y' := (.agg [(.int .i64 a_1.Kind), (.int .i64 a_1.N), (.str [])])) rfl rfl rfl trivial ⟨rfl, nle⟩ ⟨⟨rfl, trivial⟩, trivial⟩ rfl) <| w_done <| k_seq <| awp_seq <| w_reg <| s_q (.ptr 0 0 2) rfl trivial rfl <| s_q (.str a_1.T) rfl nle rfl <| s_q (.ptr 2 0 2) rfl trivial rfl <| s_do0 (o_storebox (v := (.str a_1.T)) (y' := (.agg [(.int .i64 a_1.Kind), (.int .i64 a_1.N), (.str a_1.T)])) rfl rfl rfl trivial ⟨rfl, nle⟩ ⟨⟨rfl, trivial⟩, trivial⟩ rfl) <| w_done <| k_seq <| awp_seq <| w_reg <| s_q (.agg [(.int .i64 a_1.Kind), (.int .i64 a_1.N), (.str a_1.T)]) rfl nle rfl <| ?_
 refine s_do0 (o_storebox (v := (.agg [(.int .i64 a_1.Kind), (.int .i64 a_1.N), (.str a_1.T)])) (y' := (.agg [(.int .i64 a_1.Kind), (.int .i64 a_1.N), (.str a_1.T)])) rfl rfl rfl trivial ⟨rfl, nle⟩ ⟨⟨rfl, trivial⟩, ⟨⟨rfl, trivial⟩, ⟨⟨rfl, trivial⟩, trivial⟩⟩⟩ rfl) <| w_done <| k_seq <| w_ret <| ?_; obtain rfl := os hf; exact r_flat ⟨nle, trivial⟩ rfl (.refl _)

/- laws.toAtomS -/
def c17 : ACode :=
 (.seq (.reg (tm 2 (.c .nil) .done))
 (.seq (.reg (tm 5 (.t 0) (tq 6 (.len (.t 5)) (tq 7 (.mkslice 3 32 (.agg [(.int .i64 0), (.int .i64 0), (.str [])]) (.t 6) (.t 6)) (tm 3 (.t 7) .done)))))
 (.seq (.seq (.reg (tm 4 (.c (.int .i64 0)) .done))
 (.block 0 (.loop (.seq (.seq (.reg (tm 8 (.t 4) (tm 9 (.t 0) (tq 10 (.len (.t 9)) (tq 11 (.bin .lss (.t 8) (.t 10)) .done)))))
 (.cond (.t 11) .skip
 (.exit 0)))
 (.seq (.block 1 (.reg (tm 14 (.t 3) (tm 15 (.t 4) (tm 16 (.t 0) (tm 17 (.t 4) (tq 18 (.iaddr 3 (.t 16) (.t 17)) (tq 19 (.load 3 true (.t 18)) (tq 20 (.call 83 [(.t 19)]) (tq 21 (.iaddr 3 (.t 14) (.t 15)) (.q ⟨none, none, .store 3 (.t 21) (.t 20)⟩
 .done)))))))))))
 (.reg (tm 12 (.t 4) (tq 13 (.bin .add (.t 12) (.c (.int .i64 1))) (tm 4 (.t 13) .done)))))))))
 (.cut (.seq (.reg (tm 22 (.t 3) (tm 2 (.t 22) .done)))
 .ret)))))
theorem fc17 : fcomp Try.prog Try.f17 = some (c17.erase, [.mov (.t 2)], 23) := by kernel_rfl
def laws_toAtomS_L1  : List GAtom → Nat → (List GAtom) → Option (List GAtom)
  | [], i_24, out_25 =>
    some out_25
  | x_44 :: xs, i_24, out_25 =>
    (laws_toAtom x_44).bind fun r_47 =>
    if i_24 < out_25.length then
    (out_25[i_24]?).bind fun x_50 =>
    laws_toAtomS_L1 xs (i_24 + 1) (out_25.set i_24 r_47)
    else none

def laws_toAtomS (a_1 : (List GAtom)) : Option (List GAtom) :=
    if (a_1.length : Int) ≤ 2 ^ 30 then
    (laws_toAtomS_L1 a_1 0 (List.replicate a_1.length (⟨0, 0, []⟩ : GAtom))).bind fun out_36 =>
    some out_36
    else none
theorem w_laws_toAtomS (a_1 : (List GAtom)) (r : (List GAtom)) (hf : laws_toAtomS a_1 = some r) : CallOK Try.prog 17 .fresh [(.lst 3 (a_1.map encGAtom))] (.lst 3 (r.map encGAtom)) := by
 refine CallOK.of_awp mixed Try.func17 fc17 nle ?_; rw [argT_eq]; unfold laws_toAtomS at hf; unfold c17; refine (show awp Try.prog true 0 _ (ofL [(0, (.lst 3 (a_1.map encGAtom)))]) [] _ from ?_); refine awp_seq <| w_reg <| s_mov .nil rfl <| w_done <| k_seq <| awp_seq <| w_reg <| ?_
 obtain ⟨g3, hf⟩ := og hf
 refine s_mov (.lst 3 (a_1.map encGAtom)) rfl <| s_dof (o_len (enc := encGAtom) rfl) fun hl2 => s_do (o_mkslice (j := 0) (enc := encGAtom) (m := a_1.length) (⟨0, 0, []⟩ : GAtom) (.refl _) rfl rfl (Int.le_refl _) g3 rfl) <| s_mov (.own 0 0 a_1.length) rfl <| w_done <| k_seq <| awp_seq <| awp_seq <| w_reg <| s_mov (.int .i64 0) rfl <| w_done <| k_seq <| ?_
 obtain ⟨out_36, hb1, hf⟩ := ob hf
 refine awp_cut ([(3, (.own 0 0 out_36.length))], [.row 3 (out_36.map encGAtom)]) ?_ ?_
 ·refine awp_loop (X := {q : (Nat × (List GAtom)) // laws_toAtomS_L1 (a_1.drop q.1) q.1 q.2 = some out_36}) (fun q => ([(0, (.lst 3 (a_1.map encGAtom))), (3, (.own 0 0 q.1.2.length)), (4, (.int .i64 (q.1.1 : Int)))], [.row 3 (q.1.2.map encGAtom)])) (fun q => a_1.length - q.1.1) ⟨(0, List.replicate a_1.length (⟨0, 0, []⟩ : GAtom)), hb1⟩ ⟨[], [0], _, _, rfl, rfl, ⟨.refl _, ⟨.of_eq (congrArg (AV.own _ 0) (by simp)), ⟨.refl _, trivial⟩⟩⟩, (.refl _)⟩ ?_
  rintro ⟨⟨i_24, out_25⟩, hc1⟩
  have hc1 : laws_toAtomS_L1 (a_1.drop i_24) i_24 out_25 = some out_36 := hc1
  refine (show awp Try.prog true 0 _ (ofL [(0, (.lst 3 (a_1.map encGAtom))), (3, (.own 0 0 out_25.length)), (4, (.int .i64 (i_24 : Int)))]) [.row 3 (out_25.map encGAtom)] _ from ?_)
  rcases dropc a_1 i_24 with ⟨hie40, hd43⟩ | ⟨hlt38, x_44, hx39, hd43⟩
  ·rw [hd43, laws_toAtomS_L1.eq_1] at hc1
   have hq42 := dlf hie40
   refine awp_seq <| awp_seq <| w_reg <| s_mov (.int .i64 (i_24 : Int)) rfl <| s_mov (.lst 3 (a_1.map encGAtom)) rfl <| s_dof (o_len (enc := encGAtom) rfl) fun hl45 => s_q (.bool (decide ((i_24 : Int) < (a_1.length : Int)))) rfl rfl rfl <| w_done <| k_seq <| w_condf rfl hq42 <| w_exit <| k_seqx <| k_loopx <| k_blkx <| ?_; obtain rfl := os hc1; exact ⟨[], [0], _, _, rfl, rfl, ⟨.refl _, trivial⟩, (.refl _)⟩
  ·rw [hd43, laws_toAtomS_L1.eq_2] at hc1
   have hq42 := dlt hlt38
   refine awp_seq <| awp_seq <| w_reg <| s_mov (.int .i64 (i_24 : Int)) rfl <| s_mov (.lst 3 (a_1.map encGAtom)) rfl <| s_dof (o_len (enc := encGAtom) rfl) fun hl46 => s_q (.bool (decide ((i_24 : Int) < (a_1.length : Int)))) rfl rfl rfl <| w_done <| k_seq <| w_condt rfl hq42 <| w_skip <| k_seq <| awp_seq <| w_blk <| w_reg <| ?_
   obtain ⟨r_47, er48, hc1⟩ := ob hc1
   obtain ⟨g49, hc1⟩ := og hc1
   obtain ⟨x_50, ex51, hc1⟩ := ob hc1
   refine s_mov (.own 0 0 out_25.length) rfl <| s_mov (.int .i64 (i_24 : Int)) rfl <| s_mov (.lst 3 (a_1.map encGAtom)) rfl <| s_mov (.int .i64 (i_24 : Int)) rfl <| s_do (o_iaddrn (enc := encGAtom) rfl rfl hx39) <| s_q (encGAtom x_44) rfl nle rfl <| s_do (o_call (w_laws_toAtom _ _ er48) rfl (.refl _) rfl) <| s_do (o_iaddrownn rfl rfl g49 rfl rfl) <| ?_; refine s_do0 (o_storerow (v' := (encGAtom r_47)) (e' := r_47) rfl rfl ex51 rfl rfl rfl (by decide) (fun _ => by decide) ⟨rfl, nle⟩ (.refl _) rfl) ?_; refine w_done <| k_blk <| k_seq <| w_reg <| s_mov (.int .i64 (i_24 : Int)) rfl <| s_q (.int .i64 (w64 ((i_24 : Int) + 1))) rfl rfl rfl <| s_mov (.int .i64 (w64 ((i_24 : Int) + 1))) rfl <| w_done <| ?_; exact k_loopn ⟨((i_24 + 1), out_25.set i_24 r_47), hc1⟩ (mul hlt38) ⟨[], [0], _, _, rfl, rfl, ⟨.refl _, ⟨.of_eq (congrArg (AV.own _ 0) (by simp)), ⟨.of_eq (congrArg (AV.int _) (w64_incr hlt38 hl46)), trivial⟩⟩⟩, (.refl _)⟩
 ·refine awp_seq <| w_reg <| s_mov (.own 0 0 out_36.length) rfl <| s_mov (.own 0 0 out_36.length) rfl <| w_done <| k_seq <| w_ret <| ?_; obtain rfl := os hf; exact r_fresh ⟨trivial, trivial⟩ rfl (by decide) (.of_eq (congrArg (AV.lst _) (tk (enc := encGAtom) out_36)))

/- spec.l01In -/
def c230 : ACode :=
 (.seq (.reg (tm 6 (.c (.bool false)) .done))
 (.seq (.reg (tm 7 (.t 1) (tm 8 (.t 0) (tq 9 (.bin .leq (.t 7) (.t 8)) (tm 10 (.t 9) (tg 11 10 true (.mov (.t 0)) (tg 12 10 true (.mov (.t 2)) (tg 13 10 true (.bin .leq (.t 11) (.t 12)) (tq 14 (.pick (.t 10) (.t 13) (.c (.bool false))) (tm 6 (.t 14) .done))))))))))
 .ret))
theorem fc230 : fcomp Try.prog Try.f230 = some (c230.erase, [.mov (.t 6)], 15) := by kernel_rfl
def spec_l01In (n_1 : Int) (low_2 : Int) (high_3 : Int) : Option Bool :=
    if (decide (low_2 ≤ n_1)) then
    some (decide (n_1 ≤ high_3))
    else
    some false
theorem w_spec_l01In (n_1 : Int) (low_2 : Int) (high_3 : Int) (r : Bool) (hf : spec_l01In n_1 low_2 high_3 = some r) : CallOK Try.prog 230 .flat [(.int .i64 n_1), (.int .i64 low_2), (.int .i64 high_3)] (.bool r) := by
 refine CallOK.of_awp mixed Try.func230 fc230 nle ?_; rw [argT_eq]; unfold spec_l01In at hf; unfold c230; refine (show awp Try.prog false 0 _ (ofL [(0, (.int .i64 n_1)), (1, (.int .i64 low_2)), (2, (.int .i64 high_3))]) [] _ from ?_); refine awp_seq <| w_reg <| s_mov (.bool false) rfl <| w_done <| k_seq <| awp_seq <| w_reg <| ?_
 rcases oi hf with ⟨c4, hf⟩ | ⟨c4, hf⟩
 ·refine s_mov (.int .i64 low_2) rfl <| s_mov (.int .i64 n_1) rfl <| s_q (.bool (decide (low_2 ≤ n_1))) rfl rfl rfl <| s_mov (.bool (decide (low_2 ≤ n_1))) rfl <| s_lit (s := 10) (b := true) rfl c4 <| s_on rfl <| s_mov (.int .i64 n_1) rfl <| s_on rfl <| s_mov (.int .i64 high_3) rfl <| s_on rfl <| s_q (.bool (decide (n_1 ≤ high_3))) rfl rfl rfl <| s_q (.bool (decide (n_1 ≤ high_3))) rfl trivial rfl <| s_mov (.bool (decide (n_1 ≤ high_3))) rfl <| w_done <| k_seq <| w_ret <| ?_; obtain rfl := os hf; exact r_flat ⟨trivial, trivial⟩ rfl (.refl _)
 ·refine s_mov (.int .i64 low_2) rfl <| s_mov (.int .i64 n_1) rfl <| s_q (.bool (decide (low_2 ≤ n_1))) rfl rfl rfl <| s_mov (.bool (decide (low_2 ≤ n_1))) rfl <| s_lit (s := 10) (b := false) rfl (bf c4) <| s_off rfl rfl <| s_off rfl rfl <| s_off rfl rfl <| s_q (.bool false) rfl trivial rfl <| s_mov (.bool false) rfl <| w_done <| k_seq <| w_ret <| ?_; obtain rfl := os hf; exact r_flat ⟨trivial, trivial⟩ rfl (.refl _)

/- spec.l01Text -/
def c240 : ACode :=
 (.seq (.reg (tm 2 (.c (.bool false)) .done))
 (.seq (.seq (.reg (tm 3 (.c (.int .i64 0)) .done))
 (.block 0 (.loop (.seq (.seq (.reg (tm 4 (.t 3) (tm 5 (.t 0) (tq 6 (.lenS (.t 5)) (tq 7 (.bin .lss (.t 4) (.t 6)) .done)))))
 (.cond (.t 7) .skip
 (.exit 0)))
 (.seq (.block 1 (.seq (.reg (tm 10 (.t 0) (tm 11 (.t 3) (tq 12 (.idxs (.t 10) (.t 11)) (tq 13 (.bin .lss (.t 12) (.c (.int .u8 32))) (tm 14 (.t 13) (tg 15 14 false (.mov (.t 0)) (tg 16 14 false (.mov (.t 3)) (tg 17 14 false (.idxs (.t 15) (.t 16)) (tg 18 14 false (.bin .gtr (.t 17) (.c (.int .u8 126))) (tq 19 (.pick (.t 14) (.c (.bool true)) (.t 18)) .done)))))))))))
 (.cut (.cond (.t 19) (.seq (.reg (tm 2 (.c (.bool false)) .done))
 .ret)
 .skip))))
 (.reg (tm 8 (.t 3) (tq 9 (.bin .add (.t 8) (.c (.int .i64 1))) (tm 3 (.t 9) .done)))))))))
 (.cut (.seq (.reg (tm 20 (.t 0) (tq 21 (.lenS (.t 20)) (tq 22 (.bin .leq (.t 21) (.c (.int .i64 200))) (tm 2 (.t 22) .done)))))
 .ret))))
theorem fc240 : fcomp Try.prog Try.f240 = some (c240.erase, [.mov (.t 2)], 23) := by kernel_rfl
def spec_l01Text_L1  : List UInt8 → Option (Fl Bool Unit)
  | [] =>
    some (.go ())
  | x_57 :: xs =>
    ((if (decide ((x_57.toNat : Int) < 32)) then
    some true
    else
    some (decide ((x_57.toNat : Int) > 126)) : Option Bool)).bind fun s19_61 =>
    if s19_61 then
    some (.ret false)
    else
    spec_l01Text_L1 xs 

def spec_l01Text (t_1 : Str) : Option Bool :=
    (spec_l01Text_L1 t_1 ).bind fun q => (match q with
    | .ret r => some r
    | .go _ =>
    some (decide ((t_1.length : Int) ≤ 200)))
theorem w_spec_l01Text (t_1 : Str) (r : Bool) (hf : spec_l01Text t_1 = some r) : CallOK Try.prog 240 .flat [(.str t_1)] (.bool r) := by
 refine CallOK.of_awp mixed Try.func240 fc240 nle ?_; rw [argT_eq]; unfold spec_l01Text at hf; unfold c240; refine (show awp Try.prog false 0 _ (ofL [(0, (.str t_1))]) [] _ from ?_); refine awp_seq <| w_reg <| s_mov (.bool false) rfl <| w_done <| k_seq <| awp_seq <| awp_seq <| w_reg <| s_mov (.int .i64 0) rfl <| w_done <| k_seq <| ?_
 obtain ⟨p50, hb1, hf⟩ := ob hf
 refine awp_cutx (X := {q : Unit // p50 = .go q}) (fun q => ([(0, (.str t_1))], [])) ?_ ?_
 ·refine awp_loop (X := {q : Nat // spec_l01Text_L1 (t_1.drop q)  = some p50}) (fun q => ([(0, (.str t_1)), (3, (.int .i64 (q.1 : Int)))], [])) (fun q => t_1.length - q.1) ⟨0, hb1⟩ ⟨[], [], _, _, rfl, rfl, ⟨.refl _, ⟨.refl _, trivial⟩⟩, (.refl _)⟩ ?_
  rintro ⟨i_33, hc1⟩
  have hc1 : spec_l01Text_L1 (t_1.drop i_33)  = some p50 := hc1
  refine (show awp Try.prog false 0 _ (ofL [(0, (.str t_1)), (3, (.int .i64 (i_33 : Int)))]) [] _ from ?_)
  rcases dropc t_1 i_33 with ⟨hie53, hd56⟩ | ⟨hlt51, x_57, hx52, hd56⟩
  ·rw [hd56, spec_l01Text_L1.eq_1] at hc1
   have hq55 := dlf hie53
   refine awp_seq <| awp_seq <| w_reg <| s_mov (.int .i64 (i_33 : Int)) rfl <| s_mov (.str t_1) rfl <| s_dof (o_lenS rfl) fun hl58 => s_q (.bool (decide ((i_33 : Int) < (t_1.length : Int)))) rfl rfl rfl <| w_done <| k_seq <| w_condf rfl hq55 <| w_exit <| k_seqx <| k_loopx <| k_blkx <| ?_; obtain rfl := os hc1; exact k_cutn ⟨_, rfl⟩ ⟨[], [], _, _, rfl, rfl, ⟨.refl _, trivial⟩, (.refl _)⟩
  ·rw [hd56, spec_l01Text_L1.eq_2] at hc1
   have hq55 := dlt hlt51
   refine awp_seq <| awp_seq <| w_reg <| s_mov (.int .i64 (i_33 : Int)) rfl <| s_mov (.str t_1) rfl <| s_dof (o_lenS rfl) fun hl59 => s_q (.bool (decide ((i_33 : Int) < (t_1.length : Int)))) rfl rfl rfl <| w_done <| k_seq <| w_condt rfl hq55 <| w_skip <| k_seq <| awp_seq <| w_blk <| awp_seq <| ?_
   obtain ⟨s19_61, hb2, hc1⟩ := ob hc1
   refine awp_cut ([(0, (.str t_1)), (3, (.int .i64 (i_33 : Int))), (19, (.bool s19_61))], []) ?_ ?_
   ·refine w_reg ?_
    rcases oi hb2 with ⟨c63, hb2⟩ | ⟨c63, hb2⟩
    ·refine s_mov (.str t_1) rfl <| s_mov (.int .i64 (i_33 : Int)) rfl <| s_do (o_idxsn rfl rfl hx52) <| s_q (.bool (decide ((x_57.toNat : Int) < 32))) rfl rfl rfl <| s_mov (.bool (decide ((x_57.toNat : Int) < 32))) rfl <| s_lit (s := 14) (b := true) rfl c63 <| s_off rfl rfl <| s_off rfl rfl <| s_off rfl rfl <| s_off rfl rfl <| s_q (.bool true) rfl trivial rfl <| w_done <| ?_; obtain rfl := os hb2; exact ⟨[], [], _, _, rfl, rfl, ⟨.refl _, ⟨.refl _, ⟨.refl _, trivial⟩⟩⟩, (.refl _)⟩
    ·refine s_mov (.str t_1) rfl <| s_mov (.int .i64 (i_33 : Int)) rfl <| s_do (o_idxsn rfl rfl hx52) <| s_q (.bool (decide ((x_57.toNat : Int) < 32))) rfl rfl rfl <| s_mov (.bool (decide ((x_57.toNat : Int) < 32))) rfl <| s_lit (s := 14) (b := false) rfl (bf c63) <| s_on rfl <| s_mov (.str t_1) rfl <| s_on rfl <| s_mov (.int .i64 (i_33 : Int)) rfl <| s_on rfl <| s_do (o_idxsn rfl rfl hx52) <| s_on rfl <| s_q (.bool (decide ((x_57.toNat : Int) > 126))) rfl rfl rfl <| s_q (.bool (decide ((x_57.toNat : Int) > 126))) rfl trivial rfl <| w_done <| ?_; obtain rfl := os hb2; exact ⟨[], [], _, _, rfl, rfl, ⟨.refl _, ⟨.refl _, ⟨.refl _, trivial⟩⟩⟩, (.refl _)⟩
   ·rcases oi hc1 with ⟨c64, hc1⟩ | ⟨c64, hc1⟩
    ·refine w_condt rfl c64 <| awp_seq <| w_reg <| s_mov (.bool false) rfl <| w_done <| k_seq <| w_ret <| ?_; obtain rfl := os hc1; obtain rfl := os hf; exact r_flat ⟨trivial, trivial⟩ rfl (.refl _)
    ·refine w_condf rfl (bf c64) <| w_skip <| k_blk <| k_seq <| w_reg <| s_mov (.int .i64 (i_33 : Int)) rfl <| s_q (.int .i64 (w64 ((i_33 : Int) + 1))) rfl rfl rfl <| s_mov (.int .i64 (w64 ((i_33 : Int) + 1))) rfl <| w_done <| ?_; exact k_loopn ⟨(i_33 + 1), hc1⟩ (mul hlt51) ⟨[], [], _, _, rfl, rfl, ⟨.refl _, ⟨.of_eq (congrArg (AV.int _) (w64_incr hlt51 hl59)), trivial⟩⟩, (.refl _)⟩
 ·rintro ⟨_, rfl⟩
  refine awp_seq <| w_reg <| s_mov (.str t_1) rfl <| s_dof (o_lenS rfl) fun hl65 => s_q (.bool (decide ((t_1.length : Int) ≤ 200))) rfl rfl rfl <| s_mov (.bool (decide ((t_1.length : Int) ≤ 200))) rfl <| w_done <| k_seq <| w_ret <| ?_; obtain rfl := os hf; exact r_flat ⟨trivial, trivial⟩ rfl (.refl _)

/- spec.AtomOK -/
def c171 : ACode :=
 (.seq (.reg (tq 1 (.box 3 (.t 0)) (tm 2 (.c (.bool false)) .done)))
 (.seq (.seq (.reg (tq 3 (.faddr 0 (.t 1)) (tq 4 (.load 1 false (.t 3)) .done)))
 (.block 0 (.seq (.reg (tq 6 (.bin .eql (.t 4) (.c (.int .i64 1))) (tm 5 (.t 6) .done)))
 (.cond (.t 5) (.seq (.reg (tq 7 (.faddr 1 (.t 1)) (tq 8 (.load 1 false (.t 7)) (tq 9 (.call 230 [(.t 8), (.c (.int .i64 (-1000000000))), (.c (.int .i64 1000000000))]) (tm 10 (.t 9) (tg 11 10 true (.faddr 2 (.t 1)) (tg 12 10 true (.load 1 false (.t 11)) (tg 13 10 true (.bin .eql (.t 12) (.c (.str []))) (tq 14 (.pick (.t 10) (.t 13) (.c (.bool false))) (tm 2 (.t 14) .done))))))))))
 .ret)
 (.seq (.reg (tq 16 (.bin .eql (.t 4) (.c (.int .i64 2))) (tm 15 (.t 16) .done)))
 (.cond (.t 15) (.seq (.reg (tq 17 (.faddr 1 (.t 1)) (tq 18 (.load 1 false (.t 17)) (tq 19 (.bin .eql (.t 18) (.c (.int .i64 0))) (tm 20 (.t 19) (tg 21 20 true (.faddr 2 (.t 1)) (tg 22 20 true (.load 1 false (.t 21)) (tg 23 20 true (.call 240 [(.t 22)]) (tq 24 (.pick (.t 20) (.t 23) (.c (.bool false))) (tm 2 (.t 24) .done))))))))))
 .ret)
 (.seq (.reg (tq 26 (.bin .eql (.t 4) (.c (.int .i64 3))) (tm 25 (.t 26) .done)))
 (.cond (.t 25) (.seq (.reg (tq 27 (.faddr 1 (.t 1)) (tq 28 (.load 1 false (.t 27)) (tq 29 (.call 230 [(.t 28), (.c (.int .i64 0)), (.c (.int .i64 1))]) (tm 30 (.t 29) (tg 31 30 true (.faddr 2 (.t 1)) (tg 32 30 true (.load 1 false (.t 31)) (tg 33 30 true (.bin .eql (.t 32) (.c (.str []))) (tq 34 (.pick (.t 30) (.t 33) (.c (.bool false))) (tm 2 (.t 34) .done))))))))))
 .ret)
 (.seq (.reg (tq 36 (.bin .eql (.t 4) (.c (.int .i64 4))) (tm 35 (.t 36) .done)))
 (.cond (.t 35) (.seq (.reg (tq 37 (.faddr 1 (.t 1)) (tq 38 (.load 1 false (.t 37)) (tq 39 (.call 230 [(.t 38), (.c (.int .i64 1)), (.c (.int .i64 1000000))]) (tm 40 (.t 39) (tg 41 40 true (.faddr 2 (.t 1)) (tg 42 40 true (.load 1 false (.t 41)) (tg 43 40 true (.bin .eql (.t 42) (.c (.str []))) (tq 44 (.pick (.t 40) (.t 43) (.c (.bool false))) (tm 2 (.t 44) .done))))))))))
 .ret)
 .skip))))))))))
 (.seq (.reg (tm 2 (.c (.bool false)) .done))
 .ret)))
theorem fc171 : fcomp Try.prog Try.f171 = some (c171.erase, [.mov (.t 2)], 45) := by kernel_rfl
def spec_AtomOK (a_1 : GAtom) : Option Bool :=
    if (a_1.Kind == 1) then
    (spec_l01In a_1.N (-1000000000) 1000000000).bind fun r_3 =>
    if r_3 then
    some (a_1.T == [])
    else
    some false
    else
    if (a_1.Kind == 2) then
    if (a_1.N == 0) then
    (spec_l01Text a_1.T).bind fun r_8 =>
    some r_8
    else
    some false
    else
    if (a_1.Kind == 3) then
    (spec_l01In a_1.N 0 1).bind fun r_11 =>
    if r_11 then
    some (a_1.T == [])
    else
    some false
    else
    if (a_1.Kind == 4) then
    (spec_l01In a_1.N 1 1000000).bind fun r_15 =>
    if r_15 then
    some (a_1.T == [])
    else
    some false
    else
    some false
theorem w_spec_AtomOK (a_1 : GAtom) (r : Bool) (hf : spec_AtomOK a_1 = some r) : CallOK Try.prog 171 .flat [(encGAtom a_1)] (.bool r) := by
 refine CallOK.of_awp mixed Try.func171 fc171 nle ?_; rw [argT_eq]; unfold spec_AtomOK at hf; unfold c171; refine (show awp Try.prog false 0 _ (ofL [(0, (encGAtom a_1))]) [] _ from ?_); refine awp_seq <| w_reg <| s_do (o_box (j := 0) (c := (.agg [(.int .i64 a_1.Kind), (.int .i64 a_1.N), (.str a_1.T)])) rfl trivial rfl rfl) <| s_mov (.bool false) rfl <| w_done <| k_seq <| awp_seq <| awp_seq <| w_reg <| s_q (.ptr 0 0 0) rfl trivial rfl <| s_q (.int .i64 a_1.Kind) rfl nle rfl <| w_done <| k_seq <| w_blk <| awp_seq <| w_reg <| s_q (.bool (a_1.Kind == 1)) rfl rfl rfl <| s_mov (.bool (a_1.Kind == 1)) rfl <| w_done <| k_seq <| ?_
 rcases oi hf with ⟨c2, hf⟩ | ⟨c2, hf⟩
 ·refine w_condt rfl c2 <| awp_seq <| w_reg <| ?_
  obtain ⟨r_3, er4, hf⟩ := ob hf
  rcases oi hf with ⟨c5, hf⟩ | ⟨c5, hf⟩
  ·refine s_q (.ptr 0 0 1) rfl trivial rfl <| s_q (.int .i64 a_1.N) rfl nle rfl <| s_do (o_call (w_spec_l01In _ _ _ _ er4) rfl (.refl _) rfl) <| s_mov (.bool r_3) rfl <| s_lit (s := 10) (b := true) rfl c5 <| s_on rfl <| s_q (.ptr 0 0 2) rfl trivial rfl <| s_on rfl <| s_q (.str a_1.T) rfl nle rfl <| s_on rfl <| s_q (.bool (a_1.T == [])) rfl trivial rfl <| s_q (.bool (a_1.T == [])) rfl trivial rfl <| s_mov (.bool (a_1.T == [])) rfl <| w_done <| k_seq <| w_ret <| ?_; obtain rfl := os hf; exact r_flat ⟨trivial, trivial⟩ rfl (.refl _)
  ·refine s_q (.ptr 0 0 1) rfl trivial rfl <| s_q (.int .i64 a_1.N) rfl nle rfl <| s_do (o_call (w_spec_l01In _ _ _ _ er4) rfl (.refl _) rfl) <| s_mov (.bool r_3) rfl <| s_lit (s := 10) (b := false) rfl (bf c5) <| s_off rfl rfl <| s_off rfl rfl <| s_off rfl rfl <| s_q (.bool false) rfl trivial rfl <| s_mov (.bool false) rfl <| w_done <| k_seq <| w_ret <| ?_; obtain rfl := os hf; exact r_flat ⟨trivial, trivial⟩ rfl (.refl _)
 ·refine w_condf rfl (bf c2) <| awp_seq <| w_reg <| s_q (.bool (a_1.Kind == 2)) rfl rfl rfl <| s_mov (.bool (a_1.Kind == 2)) rfl <| w_done <| k_seq <| ?_
  rcases oi hf with ⟨c6, hf⟩ | ⟨c6, hf⟩
  ·refine w_condt rfl c6 <| awp_seq <| w_reg <| ?_
   rcases oi hf with ⟨c7, hf⟩ | ⟨c7, hf⟩
   ·obtain ⟨r_8, er9, hf⟩ := ob hf
    refine s_q (.ptr 0 0 1) rfl trivial rfl <| s_q (.int .i64 a_1.N) rfl nle rfl <| s_q (.bool (a_1.N == 0)) rfl rfl rfl <| s_mov (.bool (a_1.N == 0)) rfl <| s_lit (s := 20) (b := true) rfl c7 <| s_on rfl <| s_q (.ptr 0 0 2) rfl trivial rfl <| s_on rfl <| s_q (.str a_1.T) rfl nle rfl <| s_on rfl <| s_do (o_call (w_spec_l01Text _ _ er9) rfl (.refl _) rfl) <| s_q (.bool r_8) rfl trivial rfl <| s_mov (.bool r_8) rfl <| w_done <| k_seq <| w_ret <| ?_; obtain rfl := os hf; exact r_flat ⟨trivial, trivial⟩ rfl (.refl _)
   ·refine s_q (.ptr 0 0 1) rfl trivial rfl <| s_q (.int .i64 a_1.N) rfl nle rfl <| s_q (.bool (a_1.N == 0)) rfl rfl rfl <| s_mov (.bool (a_1.N == 0)) rfl <| s_lit (s := 20) (b := false) rfl (bf c7) <| s_off rfl rfl <| s_off rfl rfl <| s_off rfl rfl <| s_q (.bool false) rfl trivial rfl <| s_mov (.bool false) rfl <| w_done <| k_seq <| w_ret <| ?_; obtain rfl := os hf; exact r_flat ⟨trivial, trivial⟩ rfl (.refl _)
  ·refine w_condf rfl (bf c6) <| awp_seq <| w_reg <| s_q (.bool (a_1.Kind == 3)) rfl rfl rfl <| s_mov (.bool (a_1.Kind == 3)) rfl <| w_done <| k_seq <| ?_
   rcases oi hf with ⟨c10, hf⟩ | ⟨c10, hf⟩
   ·refine w_condt rfl c10 <| awp_seq <| w_reg <| ?_
    obtain ⟨r_11, er12, hf⟩ := ob hf
    rcases oi hf with ⟨c13, hf⟩ | ⟨c13, hf⟩
    ·refine s_q (.ptr 0 0 1) rfl trivial rfl <| s_q (.int .i64 a_1.N) rfl nle rfl <| s_do (o_call (w_spec_l01In _ _ _ _ er12) rfl (.refl _) rfl) <| s_mov (.bool r_11) rfl <| s_lit (s := 30) (b := true) rfl c13 <| s_on rfl <| s_q (.ptr 0 0 2) rfl trivial rfl <| s_on rfl <| s_q (.str a_1.T) rfl nle rfl <| s_on rfl <| s_q (.bool (a_1.T == [])) rfl trivial rfl <| s_q (.bool (a_1.T == [])) rfl trivial rfl <| s_mov (.bool (a_1.T == [])) rfl <| w_done <| k_seq <| w_ret <| ?_; obtain rfl := os hf; exact r_flat ⟨trivial, trivial⟩ rfl (.refl _)
    ·refine s_q (.ptr 0 0 1) rfl trivial rfl <| s_q (.int .i64 a_1.N) rfl nle rfl <| s_do (o_call (w_spec_l01In _ _ _ _ er12) rfl (.refl _) rfl) <| s_mov (.bool r_11) rfl <| s_lit (s := 30) (b := false) rfl (bf c13) <| s_off rfl rfl <| s_off rfl rfl <| s_off rfl rfl <| s_q (.bool false) rfl trivial rfl <| s_mov (.bool false) rfl <| w_done <| k_seq <| w_ret <| ?_; obtain rfl := os hf; exact r_flat ⟨trivial, trivial⟩ rfl (.refl _)
   ·refine w_condf rfl (bf c10) <| awp_seq <| w_reg <| s_q (.bool (a_1.Kind == 4)) rfl rfl rfl <| s_mov (.bool (a_1.Kind == 4)) rfl <| w_done <| k_seq <| ?_
    rcases oi hf with ⟨c14, hf⟩ | ⟨c14, hf⟩
    ·refine w_condt rfl c14 <| awp_seq <| w_reg <| ?_
     obtain ⟨r_15, er16, hf⟩ := ob hf
     rcases oi hf with ⟨c17, hf⟩ | ⟨c17, hf⟩
     ·refine s_q (.ptr 0 0 1) rfl trivial rfl <| s_q (.int .i64 a_1.N) rfl nle rfl <| s_do (o_call (w_spec_l01In _ _ _ _ er16) rfl (.refl _) rfl) <| s_mov (.bool r_15) rfl <| s_lit (s := 40) (b := true) rfl c17 <| s_on rfl <| s_q (.ptr 0 0 2) rfl trivial rfl <| s_on rfl <| s_q (.str a_1.T) rfl nle rfl <| s_on rfl <| s_q (.bool (a_1.T == [])) rfl trivial rfl <| s_q (.bool (a_1.T == [])) rfl trivial rfl <| s_mov (.bool (a_1.T == [])) rfl <| w_done <| k_seq <| w_ret <| ?_; obtain rfl := os hf; exact r_flat ⟨trivial, trivial⟩ rfl (.refl _)
     ·refine s_q (.ptr 0 0 1) rfl trivial rfl <| s_q (.int .i64 a_1.N) rfl nle rfl <| s_do (o_call (w_spec_l01In _ _ _ _ er16) rfl (.refl _) rfl) <| s_mov (.bool r_15) rfl <| s_lit (s := 40) (b := false) rfl (bf c17) <| s_off rfl rfl <| s_off rfl rfl <| s_off rfl rfl <| s_q (.bool false) rfl trivial rfl <| s_mov (.bool false) rfl <| w_done <| k_seq <| w_ret <| ?_; obtain rfl := os hf; exact r_flat ⟨trivial, trivial⟩ rfl (.refl _)
    ·refine w_condf rfl (bf c14) <| w_skip <| k_blk <| k_seq <| awp_seq <| w_reg <| s_mov (.bool false) rfl <| w_done <| k_seq <| w_ret <| ?_; obtain rfl := os hf; exact r_flat ⟨trivial, trivial⟩ rfl (.refl _)

/- spec.l01Bit -/
def c241 : ACode :=
 (.seq (.reg (tm 2 (.c (.int .i64 0)) .done))
 (.seq (.seq (.reg (tm 3 (.t 0) .done))
 (.cond (.t 3) (.seq (.reg (tm 2 (.c (.int .i64 1)) .done))
 .ret)
 .skip))
 (.seq (.reg (tm 2 (.c (.int .i64 0)) .done))
 .ret)))
theorem fc241 : fcomp Try.prog Try.f241 = some (c241.erase, [.mov (.t 2)], 4) := by kernel_rfl
def spec_l01Bit (b_1 : Bool) : Option Int :=
    if b_1 then
    some 1
    else
    some 0
theorem w_spec_l01Bit (b_1 : Bool) (r : Int) (hf : spec_l01Bit b_1 = some r) : CallOK Try.prog 241 .flat [(.bool b_1)] (.int .i64 r) := by
  refine CallOK.of_awp mixed Try.func241 fc241 nle ?_
  rw [argT_eq]
  unfold spec_l01Bit at hf
  unfold c241
  refine (show awp Try.prog false 0 _ (ofL [(0, (.bool b_1))]) [] _ from ?_)
  refine awp_seq ?_
  refine w_reg ?_
  refine s_do (o_mov (.int .i64 0) rfl) ?_
  refine w_done ?_
  refine k_seq ?_
  refine awp_seq ?_
  refine awp_seq ?_
  refine w_reg ?_
  refine s_do (o_mov (.bool b_1) rfl) ?_
  refine w_done ?_
  refine k_seq ?_
  rcases oi hf with ⟨c2, hf⟩ | ⟨c2, hf⟩
  · refine w_condt rfl c2 ?_
    refine awp_seq ?_
    refine w_reg ?_
    refine s_do (o_mov (.int .i64 1) rfl) ?_
    refine w_done ?_
    refine k_seq ?_
    refine w_ret ?_
    obtain rfl := os hf
    exact r_flat ⟨trivial, trivial⟩ rfl (.refl _)
  · refine w_condf rfl (bf c2) ?_
    refine w_skip ?_
    refine k_seq ?_
    refine awp_seq ?_
    refine w_reg ?_
    refine s_do (o_mov (.int .i64 0) rfl) ?_
    refine w_done ?_
    refine k_seq ?_
    refine w_ret ?_
    obtain rfl := os hf
    exact r_flat ⟨trivial, trivial⟩ rfl (.refl _)

/- spec.l03Order -/
def c172 : ACode :=
 (.seq (.reg (tq 2 (.box 3 (.t 0)) (tq 3 (.box 3 (.t 1)) (tm 4 (.c (.int .i64 0)) .done))))
 (.seq (.block 0 (.seq (.reg (tq 6 (.faddr 0 (.t 2)) (tq 7 (.load 1 false (.t 6)) (tq 8 (.faddr 0 (.t 3)) (tq 9 (.load 1 false (.t 8)) (tq 10 (.bin .neq (.t 7) (.t 9)) (tm 5 (.t 10) .done)))))))
 (.cond (.t 5) (.seq (.reg (tq 11 (.faddr 0 (.t 2)) (tq 12 (.load 1 false (.t 11)) (tq 13 (.faddr 0 (.t 3)) (tq 14 (.load 1 false (.t 13)) (tq 15 (.bin .lss (.t 12) (.t 14)) (tq 16 (.call 241 [(.t 15)]) (tq 17 (.bin .mul (.c (.int .i64 2)) (.t 16)) (tq 18 (.bin .sub (.c (.int .i64 1)) (.t 17)) (tm 4 (.t 18) .done))))))))))
 .ret)
 (.seq (.reg (tq 20 (.faddr 1 (.t 2)) (tq 21 (.load 1 false (.t 20)) (tq 22 (.faddr 1 (.t 3)) (tq 23 (.load 1 false (.t 22)) (tq 24 (.bin .neq (.t 21) (.t 23)) (tm 19 (.t 24) .done)))))))
 (.cond (.t 19) (.seq (.reg (tq 25 (.faddr 1 (.t 2)) (tq 26 (.load 1 false (.t 25)) (tq 27 (.faddr 1 (.t 3)) (tq 28 (.load 1 false (.t 27)) (tq 29 (.bin .lss (.t 26) (.t 28)) (tq 30 (.call 241 [(.t 29)]) (tq 31 (.bin .mul (.c (.int .i64 2)) (.t 30)) (tq 32 (.bin .sub (.c (.int .i64 1)) (.t 31)) (tm 4 (.t 32) .done))))))))))
 .ret)
 (.seq (.reg (tq 34 (.faddr 2 (.t 2)) (tq 35 (.load 1 false (.t 34)) (tq 36 (.faddr 2 (.t 3)) (tq 37 (.load 1 false (.t 36)) (tq 38 (.bin .neq (.t 35) (.t 37)) (tm 33 (.t 38) .done)))))))
 (.cond (.t 33) (.seq (.reg (tq 39 (.faddr 2 (.t 2)) (tq 40 (.load 1 false (.t 39)) (tq 41 (.faddr 2 (.t 3)) (tq 42 (.load 1 false (.t 41)) (tq 43 (.bin .lss (.t 40) (.t 42)) (tq 44 (.call 241 [(.t 43)]) (tq 45 (.bin .mul (.c (.int .i64 2)) (.t 44)) (tq 46 (.bin .sub (.c (.int .i64 1)) (.t 45)) (tm 4 (.t 46) .done))))))))))
 .ret)
 .skip)))))))
 (.seq (.reg (tm 4 (.c (.int .i64 0)) .done))
 .ret)))
theorem fc172 : fcomp Try.prog Try.f172 = some (c172.erase, [.mov (.t 4)], 47) := by kernel_rfl
def spec_l03Order (a_1 : GAtom) (b_2 : GAtom) : Option Int :=
    if (a_1.Kind != b_2.Kind) then
    (spec_l01Bit (decide (a_1.Kind < b_2.Kind))).bind fun r_4 =>
    some (w64 (1 - (w64 (2 * r_4))))
    else
    if (a_1.N != b_2.N) then
    (spec_l01Bit (decide (a_1.N < b_2.N))).bind fun r_7 =>
    some (w64 (1 - (w64 (2 * r_7))))
    else
    if (!(a_1.T == b_2.T)) then
    (spec_l01Bit (Op.bytesLess a_1.T b_2.T)).bind fun r_10 =>
    some (w64 (1 - (w64 (2 * r_10))))
    else
    some 0
theorem w_spec_l03Order (a_1 : GAtom) (b_2 : GAtom) (r : Int) (hf : spec_l03Order a_1 b_2 = some r) : CallOK Try.prog 172 .flat [(encGAtom a_1), (encGAtom b_2)] (.int .i64 r) := by
 refine CallOK.of_awp mixed Try.func172 fc172 nle ?_; rw [argT_eq]; unfold spec_l03Order at hf; unfold c172; refine (show awp Try.prog false 0 _ (ofL [(0, (encGAtom a_1)), (1, (encGAtom b_2))]) [] _ from ?_); refine awp_seq <| w_reg <| s_do (o_box (j := 0) (c := (.agg [(.int .i64 a_1.Kind), (.int .i64 a_1.N), (.str a_1.T)])) rfl trivial rfl rfl) <| s_do (o_box (j := 1) (c := (.agg [(.int .i64 b_2.Kind), (.int .i64 b_2.N), (.str b_2.T)])) rfl trivial rfl rfl) <| s_mov (.int .i64 0) rfl <| w_done <| k_seq <| awp_seq <| w_blk <| awp_seq <| w_reg <| s_q (.ptr 0 0 0) rfl trivial rfl <| s_q (.int .i64 a_1.Kind) rfl nle rfl <| s_q (.ptr 1 0 0) rfl trivial rfl <| s_q (.int .i64 b_2.Kind) rfl nle rfl <| s_q (.bool (a_1.Kind != b_2.Kind)) rfl rfl rfl <| ?_
 refine s_mov (.bool (a_1.Kind != b_2.Kind)) rfl <| w_done <| k_seq <| ?_
 rcases oi hf with ⟨c3, hf⟩ | ⟨c3, hf⟩
 ·refine w_condt rfl c3 <| awp_seq <| w_reg <| ?_
  obtain ⟨r_4, er5, hf⟩ := ob hf
  refine s_q (.ptr 0 0 0) rfl trivial rfl <| s_q (.int .i64 a_1.Kind) rfl nle rfl <| s_q (.ptr 1 0 0) rfl trivial rfl <| s_q (.int .i64 b_2.Kind) rfl nle rfl <| s_q (.bool (decide (a_1.Kind < b_2.Kind))) rfl rfl rfl <| s_do (o_call (w_spec_l01Bit _ _ er5) rfl (.refl _) rfl) <| s_q (.int .i64 (w64 (2 * r_4))) rfl rfl rfl <| s_q (.int .i64 (w64 (1 - (w64 (2 * r_4))))) rfl rfl rfl <| s_mov (.int .i64 (w64 (1 - (w64 (2 * r_4))))) rfl <| w_done <| k_seq <| w_ret <| ?_; obtain rfl := os hf; exact r_flat ⟨trivial, trivial⟩ rfl (.refl _)
 ·refine w_condf rfl (bf c3) <| awp_seq <| w_reg <| s_q (.ptr 0 0 1) rfl trivial rfl <| s_q (.int .i64 a_1.N) rfl nle rfl <| s_q (.ptr 1 0 1) rfl trivial rfl <| s_q (.int .i64 b_2.N) rfl nle rfl <| s_q (.bool (a_1.N != b_2.N)) rfl rfl rfl <| s_mov (.bool (a_1.N != b_2.N)) rfl <| w_done <| k_seq <| ?_
  rcases oi hf with ⟨c6, hf⟩ | ⟨c6, hf⟩
  ·refine w_condt rfl c6 <| awp_seq <| w_reg <| ?_
   obtain ⟨r_7, er8, hf⟩ := ob hf
   refine s_q (.ptr 0 0 1) rfl trivial rfl <| s_q (.int .i64 a_1.N) rfl nle rfl <| s_q (.ptr 1 0 1) rfl trivial rfl <| s_q (.int .i64 b_2.N) rfl nle rfl <| s_q (.bool (decide (a_1.N < b_2.N))) rfl rfl rfl <| s_do (o_call (w_spec_l01Bit _ _ er8) rfl (.refl _) rfl) <| s_q (.int .i64 (w64 (2 * r_7))) rfl rfl rfl <| s_q (.int .i64 (w64 (1 - (w64 (2 * r_7))))) rfl rfl rfl <| s_mov (.int .i64 (w64 (1 - (w64 (2 * r_7))))) rfl <| w_done <| k_seq <| w_ret <| ?_; obtain rfl := os hf; exact r_flat ⟨trivial, trivial⟩ rfl (.refl _)
  ·refine w_condf rfl (bf c6) <| awp_seq <| w_reg <| s_q (.ptr 0 0 2) rfl trivial rfl <| s_q (.str a_1.T) rfl nle rfl <| s_q (.ptr 1 0 2) rfl trivial rfl <| s_q (.str b_2.T) rfl nle rfl <| s_q (.bool (!(a_1.T == b_2.T))) rfl trivial rfl <| s_mov (.bool (!(a_1.T == b_2.T))) rfl <| w_done <| k_seq <| ?_
   rcases oi hf with ⟨c9, hf⟩ | ⟨c9, hf⟩
   ·refine w_condt rfl c9 <| awp_seq <| w_reg <| ?_
    obtain ⟨r_10, er11, hf⟩ := ob hf
    refine s_q (.ptr 0 0 2) rfl trivial rfl <| s_q (.str a_1.T) rfl nle rfl <| s_q (.ptr 1 0 2) rfl trivial rfl <| s_q (.str b_2.T) rfl nle rfl <| s_q (.bool (Op.bytesLess a_1.T b_2.T)) rfl trivial rfl <| s_do (o_call (w_spec_l01Bit _ _ er11) rfl (.refl _) rfl) <| s_q (.int .i64 (w64 (2 * r_10))) rfl rfl rfl <| s_q (.int .i64 (w64 (1 - (w64 (2 * r_10))))) rfl rfl rfl <| s_mov (.int .i64 (w64 (1 - (w64 (2 * r_10))))) rfl <| w_done <| k_seq <| w_ret <| ?_; obtain rfl := os hf; exact r_flat ⟨trivial, trivial⟩ rfl (.refl _)
   ·refine w_condf rfl (bf c9) <| w_skip <| k_blk <| k_seq <| awp_seq <| w_reg <| s_mov (.int .i64 0) rfl <| w_done <| k_seq <| w_ret <| ?_; obtain rfl := os hf; exact r_flat ⟨trivial, trivial⟩ rfl (.refl _)

/- spec.DatumOK -/
def c80 : ACode :=
 (.seq (.reg (tm 2 (.c (.bool false)) .done))
 (.seq (.seq (.reg (tm 4 (.t 0) (tq 5 (.len (.t 4)) (tq 6 (.bin .gtr (.t 5) (.c (.int .i64 4096))) .done))))
 (.cond (.t 6) (.seq (.reg (tm 2 (.c (.bool false)) .done))
 .ret)
 .skip))
 (.seq (.seq (.reg (tm 3 (.c (.int .i64 0)) .done))
 (.block 0 (.loop (.seq (.seq (.reg (tm 7 (.t 3) (tm 8 (.t 0) (tq 9 (.len (.t 8)) (tq 10 (.bin .lss (.t 7) (.t 9)) .done)))))
 (.cond (.t 10) .skip
 (.exit 0)))
 (.seq (.block 1 (.seq (.reg (tm 13 (.t 0) (tm 14 (.t 3) (tq 15 (.iaddr 3 (.t 13) (.t 14)) (tq 16 (.load 3 true (.t 15)) (.l ⟨(some 17), none, .call 171 [(.t 16)]⟩ []
 (tq 18 (.not (.t 17)) (tm 19 (.t 18) (tg 20 19 false (.mov (.t 0)) (tg 21 19 false (.mov (.t 3)) (tg 22 19 false (.iaddr 3 (.t 20) (.t 21)) (tg 23 19 false (.faddr 0 (.t 22)) (tg 24 19 false (.load 1 false (.t 23)) (tg 25 19 false (.mov (.t 0)) (tg 26 19 false (.iaddr 3 (.t 25) (.c (.int .i64 0))) (tg 27 19 false (.faddr 0 (.t 26)) (tg 28 19 false (.load 1 false (.t 27)) (tg 29 19 false (.bin .neq (.t 24) (.t 28)) (tq 30 (.pick (.t 19) (.c (.bool true)) (.t 29)) (tm 31 (.t 30) (tg 32 31 false (.mov (.t 3)) (tg 33 31 false (.bin .gtr (.t 32) (.c (.int .i64 0))) (tg 34 31 false (.mov (.t 33)) (tg 35 34 true (.mov (.t 0)) (tg 36 34 true (.mov (.t 3)) (tg 37 34 true (.bin .sub (.t 36) (.c (.int .i64 1))) (tg 38 34 true (.iaddr 3 (.t 35) (.t 37)) (tg 39 34 true (.load 3 true (.t 38)) (tg 40 34 true (.mov (.t 0)) (tg 41 34 true (.mov (.t 3)) (tg 42 34 true (.iaddr 3 (.t 40) (.t 41)) (tg 43 34 true (.load 3 true (.t 42)) (.l ⟨(some 44), (some (34, true)), .call 172 [(.t 39), (.t 43)]⟩ []
 (tg 45 34 true (.bin .geq (.t 44) (.c (.int .i64 0))) (tg 46 31 false (.pick (.t 34) (.t 45) (.c (.bool false))) (tq 47 (.pick (.t 31) (.c (.bool true)) (.t 46)) .done))) .non))))))))))))))))))))))))))) .non))))))
 (.cut (.cond (.t 47) (.seq (.reg (tm 2 (.c (.bool false)) .done))
 .ret)
 .skip))))
 (.reg (tm 11 (.t 3) (tq 12 (.bin .add (.t 11) (.c (.int .i64 1))) (tm 3 (.t 12) .done)))))))))
 (.cut (.seq (.reg (tm 48 (.t 0) (tq 49 (.len (.t 48)) (tq 50 (.bin .leq (.t 49) (.c (.int .i64 8))) (tm 2 (.t 50) .done)))))
 .ret)))))
theorem fc80 : fcomp Try.prog Try.f80 = some (c80.erase, [.mov (.t 2)], 51) := by kernel_rfl
def spec_DatumOK_L1 (d_1 : (List GAtom)) : List GAtom → Nat → Option (Fl Bool Unit)
  | [], i_83 =>
    some (.go ())
  | x_131 :: xs, i_83 =>
    (((spec_AtomOK x_131).bind fun r_147 =>
    if (!r_147) then
    some true
    else
    (idx d_1 0).bind fun x_150 =>
    if (x_131.Kind != x_150.Kind) then
    some true
    else
    if (decide ((i_83 : Int) > 0)) then
    (idx d_1 (w64 ((i_83 : Int) - 1))).bind fun x_154 =>
    (spec_l03Order x_154 x_131).bind fun r_156 =>
    some (decide (r_156 ≥ 0))
    else
    some false : Option Bool)).bind fun s47_145 =>
    if s47_145 then
    some (.ret false)
    else
    spec_DatumOK_L1 d_1 xs (i_83 + 1)

def spec_DatumOK (d_1 : (List GAtom)) : Option Bool :=
    if (decide ((d_1.length : Int) > 4096)) then
    some false
    else
    (spec_DatumOK_L1 d_1 d_1 0).bind fun q => (match q with
    | .ret r => some r
    | .go _ =>
    some (decide ((d_1.length : Int) ≤ 8)))
theorem w_spec_DatumOK (d_1 : (List GAtom)) (r : Bool) (hf : spec_DatumOK d_1 = some r) : CallOK Try.prog 80 .flat [(.lst 3 (d_1.map encGAtom))] (.bool r) := by
 refine CallOK.of_awp mixed Try.func80 fc80 nle ?_; rw [argT_eq]; unfold spec_DatumOK at hf; unfold c80; refine (show awp Try.prog false 0 _ (ofL [(0, (.lst 3 (d_1.map encGAtom)))]) [] _ from ?_); refine awp_seq <| w_reg <| s_mov (.bool false) rfl <| w_done <| k_seq <| awp_seq <| awp_seq <| w_reg <| s_mov (.lst 3 (d_1.map encGAtom)) rfl <| s_dof (o_len (enc := encGAtom) rfl) fun hl2 => s_q (.bool (decide ((d_1.length : Int) > 4096))) rfl rfl rfl <| w_done <| k_seq <| ?_
 rcases oi hf with ⟨c3, hf⟩ | ⟨c3, hf⟩
 ·refine w_condt rfl c3 <| awp_seq <| w_reg <| s_mov (.bool false) rfl <| w_done <| k_seq <| w_ret <| ?_; obtain rfl := os hf; exact r_flat ⟨trivial, trivial⟩ rfl (.refl _)
 ·refine w_condf rfl (bf c3) <| w_skip <| k_seq <| awp_seq <| awp_seq <| w_reg <| s_mov (.int .i64 0) rfl <| w_done <| k_seq <| ?_
  obtain ⟨p124, hb1, hf⟩ := ob hf
  refine awp_cutx (X := {q : Unit // p124 = .go q}) (fun q => ([(0, (.lst 3 (d_1.map encGAtom)))], [])) ?_ ?_
  ·refine awp_loop (X := {q : Nat // spec_DatumOK_L1 d_1 (d_1.drop q) q = some p124}) (fun q => ([(0, (.lst 3 (d_1.map encGAtom))), (3, (.int .i64 (q.1 : Int)))], [])) (fun q => d_1.length - q.1) ⟨0, hb1⟩ ⟨[], [], _, _, rfl, rfl, ⟨.refl _, ⟨.refl _, trivial⟩⟩, (.refl _)⟩ ?_
   rintro ⟨i_83, hc1⟩
   have hc1 : spec_DatumOK_L1 d_1 (d_1.drop i_83) i_83 = some p124 := hc1
   refine (show awp Try.prog false 0 _ (ofL [(0, (.lst 3 (d_1.map encGAtom))), (3, (.int .i64 (i_83 : Int)))]) [] _ from ?_)
   rcases dropc d_1 i_83 with ⟨hie127, hd130⟩ | ⟨hlt125, x_131, hx126, hd130⟩
   ·rw [hd130, spec_DatumOK_L1.eq_1] at hc1
    have hq129 := dlf hie127
    refine awp_seq <| awp_seq <| w_reg <| s_mov (.int .i64 (i_83 : Int)) rfl <| s_mov (.lst 3 (d_1.map encGAtom)) rfl <| s_dof (o_len (enc := encGAtom) rfl) fun hl132 => s_q (.bool (decide ((i_83 : Int) < (d_1.length : Int)))) rfl rfl rfl <| w_done <| k_seq <| w_condf rfl hq129 <| w_exit <| k_seqx <| k_loopx <| k_blkx <| ?_; obtain rfl := os hc1; exact k_cutn ⟨_, rfl⟩ ⟨[], [], _, _, rfl, rfl, ⟨.refl _, trivial⟩, (.refl _)⟩
   ·rw [hd130, spec_DatumOK_L1.eq_2] at hc1
    have hq129 := dlt hlt125
    refine awp_seq <| awp_seq <| w_reg <| s_mov (.int .i64 (i_83 : Int)) rfl <| s_mov (.lst 3 (d_1.map encGAtom)) rfl <| s_dof (o_len (enc := encGAtom) rfl) fun hl133 => s_q (.bool (decide ((i_83 : Int) < (d_1.length : Int)))) rfl rfl rfl <| w_done <| k_seq <| w_condt rfl hq129 <| w_skip <| k_seq <| awp_seq <| w_blk <| awp_seq <| ?_
    obtain ⟨s47_145, hb2, hc1⟩ := ob hc1
    refine awp_cut ([(0, (.lst 3 (d_1.map encGAtom))), (3, (.int .i64 (i_83 : Int))), (47, (.bool s47_145))], []) ?_ ?_
    ·refine w_reg <| s_mov (.lst 3 (d_1.map encGAtom)) rfl <| s_mov (.int .i64 (i_83 : Int)) rfl <| s_do (o_iaddrn (enc := encGAtom) rfl rfl hx126) <| s_q (encGAtom x_131) rfl nle rfl <| ?_
     obtain ⟨r_147, er148, hb2⟩ := ob hb2
     refine s_dol (o_call (w_spec_AtomOK _ _ er148) rfl (.refl _) rfl) a_same trivial <| s_q (.bool (!r_147)) rfl trivial rfl <| s_mov (.bool (!r_147)) rfl <| ?_
     rcases oi hb2 with ⟨c149, hb2⟩ | ⟨c149, hb2⟩
     ·refine s_lit (s := 19) (b := true) rfl c149 <| s_off rfl rfl <| s_off rfl rfl <| s_off rfl rfl <| s_off rfl rfl <| s_off rfl rfl <| s_off rfl rfl <| s_off rfl rfl <| s_off rfl rfl <| s_off rfl rfl <| s_off rfl rfl <| s_q (.bool true) rfl trivial rfl <| s_mov (.bool true) rfl <| s_off rfl rfl <| s_off rfl rfl <| s_off rfl rfl <| s_offs rfl <| s_offs rfl <| s_offs rfl <| s_offs rfl <| s_offs rfl <| s_offs rfl <| s_offs rfl <| s_offs rfl <| s_offs rfl <| s_offsl rfl trivial <| s_offs rfl <| s_off rfl rfl <| s_q (.bool true) rfl trivial rfl <| w_done <| ?_; obtain rfl := os hb2; exact ⟨[], [], _, _, rfl, rfl, ⟨.refl _, ⟨.refl _, ⟨.refl _, trivial⟩⟩⟩, (.refl _)⟩
     ·refine s_lit (s := 19) (b := false) rfl (bf c149) <| s_on rfl <| s_mov (.lst 3 (d_1.map encGAtom)) rfl <| s_on rfl <| s_mov (.int .i64 (i_83 : Int)) rfl <| s_on rfl <| s_do (o_iaddrn (enc := encGAtom) rfl rfl hx126) <| s_on rfl <| s_q (.iptr (encGAtom x_131) 0) rfl trivial rfl <| s_on rfl <| s_q (.int .i64 x_131.Kind) rfl nle rfl <| s_on rfl <| s_mov (.lst 3 (d_1.map encGAtom)) rfl <| s_on rfl <| ?_
      obtain ⟨x_150, ex151, hb2⟩ := ob hb2
      refine s_do (o_iaddr (enc := encGAtom) rfl rfl (idx0 ex151) (idx1 ex151)) <| s_on rfl <| s_q (.iptr (encGAtom x_150) 0) rfl trivial rfl <| s_on rfl <| s_q (.int .i64 x_150.Kind) rfl nle rfl <| s_on rfl <| s_q (.bool (x_131.Kind != x_150.Kind)) rfl rfl rfl <| s_q (.bool (x_131.Kind != x_150.Kind)) rfl trivial rfl <| s_mov (.bool (x_131.Kind != x_150.Kind)) rfl <| ?_
      rcases oi hb2 with ⟨c152, hb2⟩ | ⟨c152, hb2⟩
      ·refine s_lit (s := 31) (b := true) rfl c152 <| s_off rfl rfl <| s_off rfl rfl <| s_off rfl rfl <| s_offs rfl <| s_offs rfl <| s_offs rfl <| s_offs rfl <| s_offs rfl <| s_offs rfl <| s_offs rfl <| s_offs rfl <| s_offs rfl <| s_offsl rfl trivial <| s_offs rfl <| s_off rfl rfl <| s_q (.bool true) rfl trivial rfl <| w_done <| ?_; obtain rfl := os hb2; exact ⟨[], [], _, _, rfl, rfl, ⟨.refl _, ⟨.refl _, ⟨.refl _, trivial⟩⟩⟩, (.refl _)⟩
      ·refine s_lit (s := 31) (b := false) rfl (bf c152) <| s_on rfl <| s_mov (.int .i64 (i_83 : Int)) rfl <| s_on rfl <| s_q (.bool (decide ((i_83 : Int) > 0))) rfl rfl rfl <| s_on rfl <| s_mov (.bool (decide ((i_83 : Int) > 0))) rfl <| ?_
       rcases oi hb2 with ⟨c153, hb2⟩ | ⟨c153, hb2⟩
       ·refine s_lit (s := 34) (b := true) rfl c153 <| s_on rfl <| s_mov (.lst 3 (d_1.map encGAtom)) rfl <| s_on rfl <| s_mov (.int .i64 (i_83 : Int)) rfl <| s_on rfl <| s_q (.int .i64 (w64 ((i_83 : Int) - 1))) rfl rfl rfl <| s_on rfl <| ?_
        obtain ⟨x_154, ex155, hb2⟩ := ob hb2
        refine s_do (o_iaddr (enc := encGAtom) rfl rfl (idx0 ex155) (idx1 ex155)) <| s_on rfl <| s_q (encGAtom x_154) rfl nle rfl <| s_on rfl <| s_mov (.lst 3 (d_1.map encGAtom)) rfl <| s_on rfl <| s_mov (.int .i64 (i_83 : Int)) rfl <| s_on rfl <| s_do (o_iaddrn (enc := encGAtom) rfl rfl hx126) <| s_on rfl <| s_q (encGAtom x_131) rfl nle rfl <| s_onl rfl <| ?_
        obtain ⟨r_156, er157, hb2⟩ := ob hb2
        refine s_dol (o_call (w_spec_l03Order _ _ _ er157) rfl (.refl _) rfl) a_same trivial <| s_on rfl <| s_q (.bool (decide (r_156 ≥ 0))) rfl rfl rfl <| s_on rfl <| s_q (.bool (decide (r_156 ≥ 0))) rfl trivial rfl <| s_q (.bool (decide (r_156 ≥ 0))) rfl trivial rfl <| w_done <| ?_; obtain rfl := os hb2; exact ⟨[], [], _, _, rfl, rfl, ⟨.refl _, ⟨.refl _, ⟨.refl _, trivial⟩⟩⟩, (.refl _)⟩
       ·refine s_lit (s := 34) (b := false) rfl (bf c153) <| s_off rfl rfl <| s_off rfl rfl <| s_off rfl rfl <| s_off rfl rfl <| s_off rfl rfl <| s_off rfl rfl <| s_off rfl rfl <| s_off rfl rfl <| s_off rfl rfl <| s_offl rfl rfl trivial <| s_off rfl rfl <| s_on rfl <| s_q (.bool false) rfl trivial rfl <| s_q (.bool false) rfl trivial rfl <| w_done <| ?_; obtain rfl := os hb2; exact ⟨[], [], _, _, rfl, rfl, ⟨.refl _, ⟨.refl _, ⟨.refl _, trivial⟩⟩⟩, (.refl _)⟩
    ·rcases oi hc1 with ⟨c158, hc1⟩ | ⟨c158, hc1⟩
     ·refine w_condt rfl c158 <| awp_seq <| w_reg <| s_mov (.bool false) rfl <| w_done <| k_seq <| w_ret <| ?_; obtain rfl := os hc1; obtain rfl := os hf; exact r_flat ⟨trivial, trivial⟩ rfl (.refl _)
     ·refine w_condf rfl (bf c158) <| w_skip <| k_blk <| k_seq <| w_reg <| s_mov (.int .i64 (i_83 : Int)) rfl <| s_q (.int .i64 (w64 ((i_83 : Int) + 1))) rfl rfl rfl <| s_mov (.int .i64 (w64 ((i_83 : Int) + 1))) rfl <| w_done <| ?_; exact k_loopn ⟨(i_83 + 1), hc1⟩ (mul hlt125) ⟨[], [], _, _, rfl, rfl, ⟨.refl _, ⟨.of_eq (congrArg (AV.int _) (w64_incr hlt125 hl133)), trivial⟩⟩, (.refl _)⟩
  ·rintro ⟨_, rfl⟩
   refine awp_seq <| w_reg <| s_mov (.lst 3 (d_1.map encGAtom)) rfl <| s_dof (o_len (enc := encGAtom) rfl) fun hl159 => s_q (.bool (decide ((d_1.length : Int) ≤ 8))) rfl rfl rfl <| s_mov (.bool (decide ((d_1.length : Int) ≤ 8))) rfl <| w_done <| k_seq <| w_ret <| ?_; obtain rfl := os hf; exact r_flat ⟨trivial, trivial⟩ rfl (.refl _)

/- spec.l13N -/
def c242 : ACode :=
 (.seq (.reg (tq 2 (.box 5 (.c (.agg [(.int .i64 0), (.int .i64 0), (.str []), .nil, .nil]))) .done))
 (.seq (.reg (tm 3 (.t 0) (tq 4 (.build [(.int .i64 0), (.int .i64 0), (.str []), .nil, .nil] [(0, 1, (.c (.int .i64 2))), (1, 1, (.t 3))]) (.q ⟨none, none, .store 5 (.t 2) (.t 4)⟩
 .done))))
 .ret))
theorem fc242 : fcomp Try.prog Try.f242 = some (c242.erase, [.load 5 true (.t 2)], 5) := by kernel_rfl
def spec_l13N (n_1 : Int) : Option GJson :=
    some (⟨2, n_1, [], [], []⟩ : GJson)
theorem w_spec_l13N (n_1 : Int) (r : GJson) (hf : spec_l13N n_1 = some r) : CallOK Try.prog 242 .fresh [(.int .i64 n_1)] (encGJson r) := by
  refine CallOK.of_awp mixed Try.func242 fc242 nle ?_
  rw [argT_eq]
  unfold spec_l13N at hf
  unfold c242
  refine (show awp Try.prog true 0 _ (ofL [(0, (.int .i64 n_1))]) [] _ from ?_)
  refine awp_seq ?_
  refine w_reg ?_
  refine s_do (o_box (j := 0) (c := (.agg [(.int .i64 0), (.int .i64 0), (.str []), .nil, .nil])) rfl trivial rfl rfl) ?_
  refine w_done ?_
  refine k_seq ?_
  refine awp_seq ?_
  refine w_reg ?_
  refine s_do (o_mov (.int .i64 n_1) rfl) ?_
  refine s_do (o_q (.agg [(.int .i64 2), (.int .i64 n_1), (.str []), .nil, .nil]) rfl ⟨⟨rfl, nle, trivial⟩, ⟨⟨rfl, nle, trivial⟩, trivial⟩⟩ rfl) ?_
  refine s_do0 (o_storebox (v := (.agg [(.int .i64 2), (.int .i64 n_1), (.str []), .nil, .nil])) (y' := (.agg [(.int .i64 2), (.int .i64 n_1), (.str []), .nil, .nil])) rfl rfl rfl trivial ⟨rfl, nle⟩ ⟨⟨rfl, trivial⟩, ⟨⟨rfl, trivial⟩, ⟨⟨rfl, trivial⟩, ⟨⟨rfl, trivial⟩, ⟨⟨rfl, trivial⟩, trivial⟩⟩⟩⟩⟩ rfl) ?_
  refine w_done ?_
  refine k_seq ?_
  refine w_ret ?_
  obtain rfl := os hf
  exact r_fresh ⟨nle, trivial⟩ rfl (by decide) (leJ (x := (⟨2, n_1, [], [], []⟩ : GJson)) (.agg (.cons (.refl _) (.cons (.refl _) (.cons (.refl _) (.cons (.nil _) (.cons (.nil _) .nil)))))))

/- spec.l13T -/
def c175 : ACode :=
 (.seq (.reg (tq 2 (.box 5 (.c (.agg [(.int .i64 0), (.int .i64 0), (.str []), .nil, .nil]))) .done))
 (.seq (.reg (tm 3 (.t 0) (tq 4 (.build [(.int .i64 0), (.int .i64 0), (.str []), .nil, .nil] [(0, 1, (.c (.int .i64 3))), (2, 1, (.t 3))]) (.q ⟨none, none, .store 5 (.t 2) (.t 4)⟩
 .done))))
 .ret))
theorem fc175 : fcomp Try.prog Try.f175 = some (c175.erase, [.load 5 true (.t 2)], 5) := by kernel_rfl
def spec_l13T (t_1 : Str) : Option GJson :=
    some (⟨3, 0, t_1, [], []⟩ : GJson)
theorem w_spec_l13T (t_1 : Str) (r : GJson) (hf : spec_l13T t_1 = some r) : CallOK Try.prog 175 .fresh [(.str t_1)] (encGJson r) := by
  refine CallOK.of_awp mixed Try.func175 fc175 nle ?_
  rw [argT_eq]
  unfold spec_l13T at hf
  unfold c175
  refine (show awp Try.prog true 0 _ (ofL [(0, (.str t_1))]) [] _ from ?_)
  refine awp_seq ?_
  refine w_reg ?_
  refine s_do (o_box (j := 0) (c := (.agg [(.int .i64 0), (.int .i64 0), (.str []), .nil, .nil])) rfl trivial rfl rfl) ?_
  refine w_done ?_
  refine k_seq ?_
  refine awp_seq ?_
  refine w_reg ?_
  refine s_do (o_mov (.str t_1) rfl) ?_
  refine s_do (o_q (.agg [(.int .i64 3), (.int .i64 0), (.str t_1), .nil, .nil]) rfl ⟨⟨rfl, nle, trivial⟩, ⟨⟨rfl, nle, trivial⟩, trivial⟩⟩ rfl) ?_
  refine s_do0 (o_storebox (v := (.agg [(.int .i64 3), (.int .i64 0), (.str t_1), .nil, .nil])) (y' := (.agg [(.int .i64 3), (.int .i64 0), (.str t_1), .nil, .nil])) rfl rfl rfl trivial ⟨rfl, nle⟩ ⟨⟨rfl, trivial⟩, ⟨⟨rfl, trivial⟩, ⟨⟨rfl, trivial⟩, ⟨⟨rfl, trivial⟩, ⟨⟨rfl, trivial⟩, trivial⟩⟩⟩⟩⟩ rfl) ?_
  refine w_done ?_
  refine k_seq ?_
  refine w_ret ?_
  obtain rfl := os hf
  exact r_fresh ⟨nle, trivial⟩ rfl (by decide) (leJ (x := (⟨3, 0, t_1, [], []⟩ : GJson)) (.agg (.cons (.refl _) (.cons (.refl _) (.cons (.refl _) (.cons (.nil _) (.cons (.nil _) .nil)))))))

/- spec.l13B -/
def c243 : ACode :=
 (.seq (.reg (tq 2 (.box 5 (.c (.agg [(.int .i64 0), (.int .i64 0), (.str []), .nil, .nil]))) .done))
 (.seq (.reg (tm 3 (.t 0) (tq 4 (.call 241 [(.t 3)]) (tq 5 (.build [(.int .i64 0), (.int .i64 0), (.str []), .nil, .nil] [(0, 1, (.c (.int .i64 1))), (1, 1, (.t 4))]) (.q ⟨none, none, .store 5 (.t 2) (.t 5)⟩
 .done)))))
 .ret))
theorem fc243 : fcomp Try.prog Try.f243 = some (c243.erase, [.load 5 true (.t 2)], 6) := by kernel_rfl
def spec_l13B (b_1 : Bool) : Option GJson :=
    (spec_l01Bit b_1).bind fun r_2 =>
    some (⟨1, r_2, [], [], []⟩ : GJson)
theorem w_spec_l13B (b_1 : Bool) (r : GJson) (hf : spec_l13B b_1 = some r) : CallOK Try.prog 243 .fresh [(.bool b_1)] (encGJson r) := by
  refine CallOK.of_awp mixed Try.func243 fc243 nle ?_
  rw [argT_eq]
  unfold spec_l13B at hf
  unfold c243
  refine (show awp Try.prog true 0 _ (ofL [(0, (.bool b_1))]) [] _ from ?_)
  refine awp_seq ?_
  refine w_reg ?_
  refine s_do (o_box (j := 0) (c := (.agg [(.int .i64 0), (.int .i64 0), (.str []), .nil, .nil])) rfl trivial rfl rfl) ?_
  refine w_done ?_
  refine k_seq ?_
  refine awp_seq ?_
  refine w_reg ?_
  obtain ⟨r_2, er3, hf⟩ := ob hf
  refine s_do (o_mov (.bool b_1) rfl) ?_
  refine s_do (o_call (w_spec_l01Bit _ _ er3) rfl (.refl _) rfl) ?_
  refine s_do (o_q (.agg [(.int .i64 1), (.int .i64 r_2), (.str []), .nil, .nil]) rfl ⟨⟨rfl, nle, trivial⟩, ⟨⟨rfl, nle, trivial⟩, trivial⟩⟩ rfl) ?_
  refine s_do0 (o_storebox (v := (.agg [(.int .i64 1), (.int .i64 r_2), (.str []), .nil, .nil])) (y' := (.agg [(.int .i64 1), (.int .i64 r_2), (.str []), .nil, .nil])) rfl rfl rfl trivial ⟨rfl, nle⟩ ⟨⟨rfl, trivial⟩, ⟨⟨rfl, trivial⟩, ⟨⟨rfl, trivial⟩, ⟨⟨rfl, trivial⟩, ⟨⟨rfl, trivial⟩, trivial⟩⟩⟩⟩⟩ rfl) ?_
  refine w_done ?_
  refine k_seq ?_
  refine w_ret ?_
  obtain rfl := os hf
  exact r_fresh ⟨nle, trivial⟩ rfl (by decide) (leJ (x := (⟨1, r_2, [], [], []⟩ : GJson)) (.agg (.cons (.refl _) (.cons (.refl _) (.cons (.refl _) (.cons (.nil _) (.cons (.nil _) .nil)))))))

/- spec.l13L -/
def c174_h0 : ACode :=
 (.seq (.reg (tq 2 (.box 5 (.c (.agg [(.int .i64 0), (.int .i64 0), (.str []), .nil, .nil]))) .done))
 (.seq (.reg (tq 3 (.bslice 5 []) (tm 4 (.t 0) (tq 5 (.append 5 80 (.t 3) (.t 4)) (tq 6 (.build [(.int .i64 0), (.int .i64 0), (.str []), .nil, .nil] [(0, 1, (.c (.int .i64 4))), (4, 1, (.t 5))]) (.q ⟨none, none, .store 5 (.t 2) (.t 6)⟩
 .done))))))
 .ret))
theorem fc174_h0 : fcomp Try.prog Try.f174 = some (c174_h0.erase, [.load 5 true (.t 2)], 7) := by kernel_rfl
def spec_l13L_h0 (list_1 : (List GJson)) : Option GJson :=
    if ([] ++ list_1).length ≤ 2 ^ 30 then
    some (⟨4, 0, [], [], [] ++ list_1⟩ : GJson)
    else none
theorem w_spec_l13L_h0 (list_1 : (List GJson)) (r : GJson) (hf : spec_l13L_h0 list_1 = some r) : CallHeap Try.prog true 174 [(.own 0 0 list_1.length)] [.row 5 (list_1.map encGJson)] (.agg [(.int .i64 r.Kind), (.int .i64 r.N), (.str r.T), (.own 1 0 r.Keys.length), (.own 2 0 r.Items.length)]) [.dead, .row 1 (r.Keys.map AV.str), .row 5 (r.Items.map encGJson)] := by
 refine CallHeap.of_awp mixed Try.func174 fc174_h0 nle ?_; rw [argT_eq]; unfold spec_l13L_h0 at hf; unfold c174_h0; refine (show awp Try.prog true 1 _ (ofL [(0, (.own 0 0 list_1.length))]) [.row 5 (list_1.map encGJson)] _ from ?_); refine awp_seq <| w_reg <| s_do (o_box (j := 1) (c := (.agg [(.int .i64 0), (.int .i64 0), (.str []), .nil, .nil])) rfl trivial rfl rfl) <| w_done <| k_seq <| awp_seq <| w_reg <| ?_
 obtain ⟨g2, hf⟩ := og hf
 refine s_do (o_bslice (j := 2) (as' := []) rfl (fun _ => by decide) trivial (.refl _) rfl rfl rfl) ?_; refine s_mov (.own 0 0 list_1.length) rfl ?_
 refine s_do (o_appendd (j := 3) (L := (([] ++ list_1).map encGJson)) (len := ([] ++ list_1).length) rfl true rfl rfl (fun h => Bool.noConfusion h) (fun _ _ h => (ownl (show AV.own _ _ _ = AV.lst _ _ from h)).elim) (by decide) ((by simp [← List.map_take])) (by simp <;> omega) g2 rfl rfl) ?_
 refine s_q (.agg [(.int .i64 4), (.int .i64 0), (.str []), .nil, (.own 3 0 (([] ++ list_1).length))]) rfl ⟨⟨rfl, nle, trivial⟩, ⟨⟨rfl, nle, trivial⟩, trivial⟩⟩ rfl <| s_do0 (o_storebox (v := (.agg [(.int .i64 4), (.int .i64 0), (.str []), .nil, (.own 3 0 (([] ++ list_1).length))])) (y' := (.agg [(.int .i64 4), (.int .i64 0), (.str []), .nil, (.own 3 0 (([] ++ list_1).length))])) rfl rfl rfl trivial ⟨rfl, nle⟩ ⟨⟨rfl, trivial⟩, ⟨⟨rfl, trivial⟩, ⟨⟨rfl, trivial⟩, ⟨⟨rfl, trivial⟩, ⟨⟨rfl, trivial⟩, trivial⟩⟩⟩⟩⟩ rfl) <| w_done <| k_seq <| w_ret <| ?_; obtain rfl := os hf; exact r_heap [.nilC 1 3 1] [0, 4, 3] rfl ⟨nle, trivial⟩ rfl (.refl _) (.refl _)

/- spec.l13Atom -/
def c173 : ACode :=
 (.seq (.reg (tq 1 (.box 3 (.t 0)) (tq 2 (.box 5 (.c (.agg [(.int .i64 0), (.int .i64 0), (.str []), .nil, .nil]))) .done)))
 (.seq (.seq (.reg (tq 3 (.faddr 0 (.t 1)) (tq 4 (.load 1 false (.t 3)) .done)))
 (.block 0 (.seq (.reg (tq 6 (.bin .eql (.t 4) (.c (.int .i64 1))) (tm 5 (.t 6) .done)))
 (.cond (.t 5) (.seq (.reg (tq 7 (.faddr 1 (.t 1)) (tq 8 (.load 1 false (.t 7)) (tq 9 (.call 242 [(.t 8)]) (.q ⟨none, none, .store 5 (.t 2) (.t 9)⟩
 .done)))))
 .ret)
 (.seq (.reg (tq 11 (.bin .eql (.t 4) (.c (.int .i64 2))) (tm 10 (.t 11) .done)))
 (.cond (.t 10) (.seq (.reg (tq 12 (.faddr 2 (.t 1)) (tq 13 (.load 1 false (.t 12)) (tq 14 (.call 175 [(.t 13)]) (.q ⟨none, none, .store 5 (.t 2) (.t 14)⟩
 .done)))))
 .ret)
 (.seq (.reg (tq 16 (.bin .eql (.t 4) (.c (.int .i64 3))) (tm 15 (.t 16) .done)))
 (.cond (.t 15) (.seq (.reg (tq 17 (.faddr 1 (.t 1)) (tq 18 (.load 1 false (.t 17)) (tq 19 (.bin .eql (.t 18) (.c (.int .i64 1))) (tq 20 (.call 243 [(.t 19)]) (.q ⟨none, none, .store 5 (.t 2) (.t 20)⟩
 .done))))))
 .ret)
 .skip))))))))
 (.seq (.reg (tq 22 (.faddr 1 (.t 1)) (tq 23 (.load 1 false (.t 22)) (.l ⟨(some 21), none, .call 175 [(.c (.str [117, 117, 105, 100]))]⟩ [⟨(some 23), none, .load 1 false (.t 22)⟩, ⟨(some 22), none, .faddr 1 (.t 1)⟩]
 (.l ⟨(some 24), none, .call 242 [(.t 23)]⟩ []
 (.l ⟨(some 25), none, .bslice 5 [(.t 21), (.t 24)]⟩ []
 (.l ⟨(some 26), none, .call 174 [(.t 25)]⟩ []
 (.l ⟨none, none, .store 5 (.t 2) (.t 26)⟩ []
 .done .non) .non) .non) .non) .non))))
 .ret)))
theorem fc173 : fcomp Try.prog Try.f173 = some (c173.erase, [.load 5 true (.t 2)], 27) := by kernel_rfl
def spec_l13Atom (a_1 : GAtom) : Option GJson :=
    if (a_1.Kind == 1) then
    (spec_l13N a_1.N).bind fun r_3 =>
    some r_3
    else
    if (a_1.Kind == 2) then
    (spec_l13T a_1.T).bind fun r_6 =>
    some r_6
    else
    if (a_1.Kind == 3) then
    (spec_l13B (a_1.N == 1)).bind fun r_9 =>
    some r_9
    else
    (spec_l13T [117, 117, 105, 100]).bind fun r_11 =>
    (spec_l13N a_1.N).bind fun r_13 =>
    (spec_l13L_h0 [r_11, r_13]).bind fun r_15 =>
    some r_15
theorem w_spec_l13Atom (a_1 : GAtom) (r : GJson) (hf : spec_l13Atom a_1 = some r) : CallOK Try.prog 173 .fresh [(encGAtom a_1)] (encGJson r) := by
 refine CallOK.of_awp mixed Try.func173 fc173 nle ?_; rw [argT_eq]; unfold spec_l13Atom at hf; unfold c173; refine (show awp Try.prog true 0 _ (ofL [(0, (encGAtom a_1))]) [] _ from ?_); refine awp_seq <| w_reg <| s_do (o_box (j := 0) (c := (.agg [(.int .i64 a_1.Kind), (.int .i64 a_1.N), (.str a_1.T)])) rfl trivial rfl rfl) <| s_do (o_box (j := 1) (c := (.agg [(.int .i64 0), (.int .i64 0), (.str []), .nil, .nil])) rfl trivial rfl rfl) <| w_done <| k_seq <| awp_seq <| awp_seq <| w_reg <| s_q (.ptr 0 0 0) rfl trivial rfl <| s_q (.int .i64 a_1.Kind) rfl nle rfl <| w_done <| k_seq <| w_blk <| awp_seq <| w_reg <| s_q (.bool (a_1.Kind == 1)) rfl rfl rfl <| s_mov (.bool (a_1.Kind == 1)) rfl <| w_done <| k_seq <| ?_
 rcases oi hf with ⟨c2, hf⟩ | ⟨c2, hf⟩
 ·refine w_condt rfl c2 <| awp_seq <| w_reg <| ?_
  obtain ⟨r_3, er4, hf⟩ := ob hf
  refine s_q (.ptr 0 0 1) rfl trivial rfl <| s_q (.int .i64 a_1.N) rfl nle rfl <| s_do (o_callf (v := (.agg [(.int .i64 r_3.Kind), (.int .i64 r_3.N), (.str r_3.T), (.own 2 0 r_3.Keys.length), (.own 3 0 r_3.Items.length)])) (h' := [.row 1 (r_3.Keys.map AV.str), .row 5 (r_3.Items.map encGJson)]) (w_spec_l13N _ _ er4) rfl (.refl _) (by simp only [openV, openVs, List.length_map, encGJson_eq, List.nil_append, List.append_nil, List.cons_append]; rfl)) <| s_do0 (o_storebox (v := (.agg [(.int .i64 r_3.Kind), (.int .i64 r_3.N), (.str r_3.T), (.own 2 0 r_3.Keys.length), (.own 3 0 r_3.Items.length)])) (y' := (.agg [(.int .i64 r_3.Kind), (.int .i64 r_3.N), (.str r_3.T), (.own 2 0 r_3.Keys.length), (.own 3 0 r_3.Items.length)])) rfl rfl rfl trivial ⟨rfl, nle⟩ ⟨⟨rfl, trivial⟩, ⟨⟨rfl, trivial⟩, ⟨⟨rfl, trivial⟩, ⟨⟨rfl, trivial⟩, ⟨⟨rfl, trivial⟩, trivial⟩⟩⟩⟩⟩ rfl) <| ?_
  refine w_done <| k_seq <| w_ret <| ?_; obtain rfl := os hf; exact r_fresh ⟨nle, trivial⟩ rfl (by decide) (leJ (x := r_3) (.agg (.cons (.refl _) (.cons (.refl _) (.cons (.refl _) (.cons (.of_eq (congrArg (AV.lst _) (tk (enc := AV.str) r_3.Keys))) (.cons (.of_eq (congrArg (AV.lst _) (tk (enc := encGJson) r_3.Items))) .nil)))))))
 ·refine w_condf rfl (bf c2) <| awp_seq <| w_reg <| s_q (.bool (a_1.Kind == 2)) rfl rfl rfl <| s_mov (.bool (a_1.Kind == 2)) rfl <| w_done <| k_seq <| ?_
  rcases oi hf with ⟨c5, hf⟩ | ⟨c5, hf⟩
  ·refine w_condt rfl c5 <| awp_seq <| w_reg <| ?_
   obtain ⟨r_6, er7, hf⟩ := ob hf
   refine s_q (.ptr 0 0 2) rfl trivial rfl <| s_q (.str a_1.T) rfl nle rfl <| s_do (o_callf (v := (.agg [(.int .i64 r_6.Kind), (.int .i64 r_6.N), (.str r_6.T), (.own 2 0 r_6.Keys.length), (.own 3 0 r_6.Items.length)])) (h' := [.row 1 (r_6.Keys.map AV.str), .row 5 (r_6.Items.map encGJson)]) (w_spec_l13T _ _ er7) rfl (.refl _) (by simp only [openV, openVs, List.length_map, encGJson_eq, List.nil_append, List.append_nil, List.cons_append]; rfl)) <| s_do0 (o_storebox (v := (.agg [(.int .i64 r_6.Kind), (.int .i64 r_6.N), (.str r_6.T), (.own 2 0 r_6.Keys.length), (.own 3 0 r_6.Items.length)])) (y' := (.agg [(.int .i64 r_6.Kind), (.int .i64 r_6.N), (.str r_6.T), (.own 2 0 r_6.Keys.length), (.own 3 0 r_6.Items.length)])) rfl rfl rfl trivial ⟨rfl, nle⟩ ⟨⟨rfl, trivial⟩, ⟨⟨rfl, trivial⟩, ⟨⟨rfl, trivial⟩, ⟨⟨rfl, trivial⟩, ⟨⟨rfl, trivial⟩, trivial⟩⟩⟩⟩⟩ rfl) <| ?_
   refine w_done <| k_seq <| w_ret <| ?_; obtain rfl := os hf; exact r_fresh ⟨nle, trivial⟩ rfl (by decide) (leJ (x := r_6) (.agg (.cons (.refl _) (.cons (.refl _) (.cons (.refl _) (.cons (.of_eq (congrArg (AV.lst _) (tk (enc := AV.str) r_6.Keys))) (.cons (.of_eq (congrArg (AV.lst _) (tk (enc := encGJson) r_6.Items))) .nil)))))))
  ·refine w_condf rfl (bf c5) <| awp_seq <| w_reg <| s_q (.bool (a_1.Kind == 3)) rfl rfl rfl <| s_mov (.bool (a_1.Kind == 3)) rfl <| w_done <| k_seq <| ?_
   rcases oi hf with ⟨c8, hf⟩ | ⟨c8, hf⟩
   ·refine w_condt rfl c8 <| awp_seq <| w_reg <| ?_
    obtain ⟨r_9, er10, hf⟩ := ob hf
    refine s_q (.ptr 0 0 1) rfl trivial rfl <| s_q (.int .i64 a_1.N) rfl nle rfl <| s_q (.bool (a_1.N == 1)) rfl rfl rfl <| s_do (o_callf (v := (.agg [(.int .i64 r_9.Kind), (.int .i64 r_9.N), (.str r_9.T), (.own 2 0 r_9.Keys.length), (.own 3 0 r_9.Items.length)])) (h' := [.row 1 (r_9.Keys.map AV.str), .row 5 (r_9.Items.map encGJson)]) (w_spec_l13B _ _ er10) rfl (.refl _) (by simp only [openV, openVs, List.length_map, encGJson_eq, List.nil_append, List.append_nil, List.cons_append]; rfl)) <| s_do0 (o_storebox (v := (.agg [(.int .i64 r_9.Kind), (.int .i64 r_9.N), (.str r_9.T), (.own 2 0 r_9.Keys.length), (.own 3 0 r_9.Items.length)])) (y' := (.agg [(.int .i64 r_9.Kind), (.int .i64 r_9.N), (.str r_9.T), (.own 2 0 r_9.Keys.length), (.own 3 0 r_9.Items.length)])) rfl rfl rfl trivial ⟨rfl, nle⟩ ⟨⟨rfl, trivial⟩, ⟨⟨rfl, trivial⟩, ⟨⟨rfl, trivial⟩, ⟨⟨rfl, trivial⟩, ⟨⟨rfl, trivial⟩, trivial⟩⟩⟩⟩⟩ rfl) <| ?_
    refine w_done <| k_seq <| w_ret <| ?_; obtain rfl := os hf; exact r_fresh ⟨nle, trivial⟩ rfl (by decide) (leJ (x := r_9) (.agg (.cons (.refl _) (.cons (.refl _) (.cons (.refl _) (.cons (.of_eq (congrArg (AV.lst _) (tk (enc := AV.str) r_9.Keys))) (.cons (.of_eq (congrArg (AV.lst _) (tk (enc := encGJson) r_9.Items))) .nil)))))))
   ·refine w_condf rfl (bf c8) <| w_skip <| k_blk <| k_seq <| awp_seq <| w_reg <| ?_
    obtain ⟨r_11, er12, hf⟩ := ob hf
    obtain ⟨r_13, er14, hf⟩ := ob hf
    obtain ⟨r_15, er16, hf⟩ := ob hf
    refine s_q (.ptr 0 0 1) rfl trivial rfl <| s_q (.int .i64 a_1.N) rfl nle rfl <| s_dol (o_callf (v := (.agg [(.int .i64 r_11.Kind), (.int .i64 r_11.N), (.str r_11.T), (.own 2 0 r_11.Keys.length), (.own 3 0 r_11.Items.length)])) (h' := [.row 1 (r_11.Keys.map AV.str), .row 5 (r_11.Items.map encGJson)]) (w_spec_l13T _ _ er12) rfl (.refl _) (by simp only [openV, openVs, List.length_map, encGJson_eq, List.nil_append, List.append_nil, List.cons_append]; rfl)) (.inr ⟨⟨nle, rfl⟩, ⟨⟨trivial, rfl⟩, trivial⟩⟩) trivial <| s_dol (o_callf (v := (.agg [(.int .i64 r_13.Kind), (.int .i64 r_13.N), (.str r_13.T), (.own 4 0 r_13.Keys.length), (.own 5 0 r_13.Items.length)])) (h' := [.row 1 (r_13.Keys.map AV.str), .row 5 (r_13.Items.map encGJson)]) (w_spec_l13N _ _ er14) rfl (.refl _) (by simp only [openV, openVs, List.length_map, encGJson_eq, List.nil_append, List.append_nil, List.cons_append]; rfl)) trivial trivial <| ?_
    refine s_dol (o_bslice (j := 6) (as' := [(encGJson r_11), (encGJson r_13)]) rfl (fun _ => by decide) ⟨rfl, ⟨rfl, trivial⟩⟩ (.cons (leJ (x := r_11) (.agg (.cons (.refl _) (.cons (.refl _) (.cons (.refl _) (.cons (.of_eq (congrArg (AV.lst _) (tk (enc := AV.str) r_11.Keys))) (.cons (.of_eq (congrArg (AV.lst _) (tk (enc := encGJson) r_11.Items))) .nil))))))) (.cons (leJ (x := r_13) (.agg (.cons (.refl _) (.cons (.refl _) (.cons (.refl _) (.cons (.of_eq (congrArg (AV.lst _) (tk (enc := AV.str) r_13.Keys))) (.cons (.of_eq (congrArg (AV.lst _) (tk (enc := encGJson) r_13.Items))) .nil))))))) .nil)) rfl rfl rfl) trivial trivial ?_; refine s_dol (o_callh (v := (.agg [(.int .i64 r_15.Kind), (.int .i64 r_15.N), (.str r_15.T), (.own 7 0 r_15.Keys.length), (.own 8 0 r_15.Items.length)])) (h2 := [.box 3 (.agg [(.int .i64 a_1.Kind), (.int .i64 a_1.N), (.str a_1.T)]), .box 5 (.agg [(.int .i64 0), (.int .i64 0), (.str []), .nil, .nil]), .dead, .dead, .dead, .dead, .dead, .row 1 (r_15.Keys.map AV.str), .row 5 (r_15.Items.map encGJson)]) [] [6] (fun _ => rfl) (w_spec_l13L_h0 _ _ er16) rfl (.cons (.of_eq (congrArg (AV.own _ 0) (by simp))) .nil) (.refl _) rfl rfl) trivial trivial ?_
    refine s_dol0 (o_storebox (v := (.agg [(.int .i64 r_15.Kind), (.int .i64 r_15.N), (.str r_15.T), (.own 7 0 r_15.Keys.length), (.own 8 0 r_15.Items.length)])) (y' := (.agg [(.int .i64 r_15.Kind), (.int .i64 r_15.N), (.str r_15.T), (.own 7 0 r_15.Keys.length), (.own 8 0 r_15.Items.length)])) rfl rfl rfl trivial ⟨rfl, nle⟩ ⟨⟨rfl, trivial⟩, ⟨⟨rfl, trivial⟩, ⟨⟨rfl, trivial⟩, ⟨⟨rfl, trivial⟩, ⟨⟨rfl, trivial⟩, trivial⟩⟩⟩⟩⟩ rfl) trivial trivial <| w_done <| k_seq <| w_ret <| ?_; obtain rfl := os hf; exact r_fresh ⟨nle, trivial⟩ rfl (by decide) (leJ (x := r_15) (.agg (.cons (.refl _) (.cons (.refl _) (.cons (.refl _) (.cons (.of_eq (congrArg (AV.lst _) (tk (enc := AV.str) r_15.Keys))) (.cons (.of_eq (congrArg (AV.lst _) (tk (enc := encGJson) r_15.Items))) .nil)))))))

/- spec.l13L -/
def c174_h1 : ACode :=
 (.seq (.reg (tq 2 (.box 5 (.c (.agg [(.int .i64 0), (.int .i64 0), (.str []), .nil, .nil]))) .done))
 (.seq (.reg (tq 3 (.bslice 5 []) (tm 4 (.t 0) (tq 5 (.append 5 80 (.t 3) (.t 4)) (tq 6 (.build [(.int .i64 0), (.int .i64 0), (.str []), .nil, .nil] [(0, 1, (.c (.int .i64 4))), (4, 1, (.t 5))]) (.q ⟨none, none, .store 5 (.t 2) (.t 6)⟩
 .done))))))
 .ret))
theorem fc174_h1 : fcomp Try.prog Try.f174 = some (c174_h1.erase, [.load 5 true (.t 2)], 7) := by kernel_rfl
def spec_l13L_h1  : Option GJson :=
    if ([] : List GJson).length ≤ 2 ^ 30 then
    some (⟨4, 0, [], [], ([] : List GJson)⟩ : GJson)
    else none
theorem w_spec_l13L_h1  (r : GJson) (hf : spec_l13L_h1 = some r) : CallHeap Try.prog true 174 [.nil] [] (.agg [(.int .i64 r.Kind), (.int .i64 r.N), (.str r.T), (.own 0 0 r.Keys.length), (.own 1 0 r.Items.length)]) [.row 1 (r.Keys.map AV.str), .row 5 (r.Items.map encGJson)] := by
 refine CallHeap.of_awp mixed Try.func174 fc174_h1 nle ?_; rw [argT_eq]; unfold spec_l13L_h1 at hf; unfold c174_h1; refine (show awp Try.prog true 0 _ (ofL [(0, .nil)]) [] _ from ?_); refine awp_seq <| w_reg <| s_do (o_box (j := 0) (c := (.agg [(.int .i64 0), (.int .i64 0), (.str []), .nil, .nil])) rfl trivial rfl rfl) <| w_done <| k_seq <| awp_seq <| w_reg <| ?_
 obtain ⟨g1, hf⟩ := og hf
 refine s_do (o_bslice (j := 1) (as' := []) rfl (fun _ => by decide) trivial (.refl _) rfl rfl rfl) ?_; refine s_mov .nil rfl ?_
 refine s_do (o_appendd (j := 2) (L := (([] : List GJson).map encGJson)) (len := ([] : List GJson).length) rfl false rfl rfl (fun _ => flnil) (fun _ _ h => (nill (show AV.nil = AV.lst _ _ from h)).elim) (by decide) ((by simp)) (by simp <;> omega) g1 rfl rfl) ?_
 refine s_q (.agg [(.int .i64 4), (.int .i64 0), (.str []), .nil, (.own 2 0 (([] : List GJson).length))]) rfl ⟨⟨rfl, nle, trivial⟩, ⟨⟨rfl, nle, trivial⟩, trivial⟩⟩ rfl <| s_do0 (o_storebox (v := (.agg [(.int .i64 4), (.int .i64 0), (.str []), .nil, (.own 2 0 (([] : List GJson).length))])) (y' := (.agg [(.int .i64 4), (.int .i64 0), (.str []), .nil, (.own 2 0 (([] : List GJson).length))])) rfl rfl rfl trivial ⟨rfl, nle⟩ ⟨⟨rfl, trivial⟩, ⟨⟨rfl, trivial⟩, ⟨⟨rfl, trivial⟩, ⟨⟨rfl, trivial⟩, ⟨⟨rfl, trivial⟩, trivial⟩⟩⟩⟩⟩ rfl) <| w_done <| k_seq <| w_ret <| ?_; obtain rfl := os hf; exact r_heap [.nilC 0 3 1] [3, 2] rfl ⟨nle, trivial⟩ rfl (.refl _) (.refl _)

/- spec.l13Datum -/
def c82 : ACode :=
 (.seq (.reg (tq 2 (.box 5 (.c (.agg [(.int .i64 0), (.int .i64 0), (.str []), .nil, .nil]))) .done))
 (.seq (.seq (.reg (tm 5 (.t 0) (tq 6 (.len (.t 5)) (tq 7 (.bin .eql (.t 6) (.c (.int .i64 1))) .done))))
 (.cond (.t 7) (.seq (.reg (tm 8 (.t 0) (tq 9 (.iaddr 3 (.t 8) (.c (.int .i64 0))) (tq 10 (.load 3 true (.t 9)) (tq 11 (.call 173 [(.t 10)]) (.q ⟨none, none, .store 5 (.t 2) (.t 11)⟩
 .done))))))
 .ret)
 .skip))
 (.seq (.reg (tq 12 (.call 174 [(.c .nil)]) (tq 3 (.box 5 (.c (.agg [(.int .i64 0), (.int .i64 0), (.str []), .nil, .nil]))) (.q ⟨none, none, .store 5 (.t 3) (.t 12)⟩
 .done))))
 (.seq (.seq (.reg (tm 4 (.c (.int .i64 0)) .done))
 (.block 0 (.loop (.seq (.seq (.reg (tm 13 (.t 4) (tm 14 (.t 0) (tq 15 (.len (.t 14)) (tq 16 (.bin .lss (.t 13) (.t 15)) .done)))))
 (.cond (.t 16) .skip
 (.exit 0)))
 (.seq (.block 1 (.reg (tq 19 (.faddr 4 (.t 3)) (tq 20 (.load 1 false (.t 19)) (tm 21 (.t 0) (tm 22 (.t 4) (tq 23 (.iaddr 3 (.t 21) (.t 22)) (tq 24 (.load 3 true (.t 23)) (.l ⟨(some 25), none, .call 173 [(.t 24)]⟩ [⟨(some 20), none, .load 1 false (.t 19)⟩, ⟨(some 19), none, .faddr 4 (.t 3)⟩]
 (.l ⟨(some 26), none, .bslice 5 [(.t 25)]⟩ [⟨(some 20), none, .load 1 false (.t 19)⟩, ⟨(some 19), none, .faddr 4 (.t 3)⟩]
 (.l ⟨(some 27), none, .append 5 80 (.t 20) (.t 26)⟩ []
 (tq 28 (.faddr 4 (.t 3)) (.l ⟨none, none, .store 1 (.t 28) (.t 27)⟩ []
 .done .non)) .non) .non) .non)))))))))
 (.reg (tm 17 (.t 4) (tq 18 (.bin .add (.t 17) (.c (.int .i64 1))) (tm 4 (.t 18) .done)))))))))
 (.cut (.seq (.reg (tq 30 (.load 5 true (.t 3)) (.l ⟨(some 29), none, .call 175 [(.c (.str [115, 101, 116]))]⟩ [⟨(some 30), none, .load 5 true (.t 3)⟩]
 (.l ⟨(some 31), none, .bslice 5 [(.t 29), (.t 30)]⟩ []
 (.l ⟨(some 32), none, .call 174 [(.t 31)]⟩ []
 (.l ⟨none, none, .store 5 (.t 2) (.t 32)⟩ []
 .done .non) .non) .non) .non)))
 .ret))))))
theorem fc82 : fcomp Try.prog Try.f82 = some (c82.erase, [.load 5 true (.t 2)], 33) := by kernel_rfl
def spec_l13Datum_L1  : List GAtom → (List GJson) → Option (List GJson)
  | [], x_27 =>
    some x_27
  | x_44 :: xs, x_27 =>
    (spec_l13Atom x_44).bind fun r_47 =>
    if (x_27 ++ [r_47]).length ≤ 2 ^ 30 then
    spec_l13Datum_L1 xs  (x_27 ++ [r_47])
    else none

def spec_l13Datum (d_1 : (List GAtom)) : Option GJson :=
    if ((d_1.length : Int) == 1) then
    (idx d_1 0).bind fun x_4 =>
    (spec_l13Atom x_4).bind fun r_6 =>
    some r_6
    else
    (spec_l13L_h1).bind fun r_8 =>
    (spec_l13Datum_L1 d_1 r_8.Items).bind fun x_36 =>
    (spec_l13T [115, 101, 116]).bind fun r_50 =>
    (spec_l13L_h0 [r_50, (⟨r_8.Kind, r_8.N, r_8.T, r_8.Keys, x_36⟩ : GJson)]).bind fun r_52 =>
    some r_52
theorem w_spec_l13Datum (d_1 : (List GAtom)) (r : GJson) (hf : spec_l13Datum d_1 = some r) : CallOK Try.prog 82 .fresh [(.lst 3 (d_1.map encGAtom))] (encGJson r) := by
 refine CallOK.of_awp mixed Try.func82 fc82 nle ?_; rw [argT_eq]; unfold spec_l13Datum at hf; unfold c82; refine (show awp Try.prog true 0 _ (ofL [(0, (.lst 3 (d_1.map encGAtom)))]) [] _ from ?_); refine awp_seq <| w_reg <| s_do (o_box (j := 0) (c := (.agg [(.int .i64 0), (.int .i64 0), (.str []), .nil, .nil])) rfl trivial rfl rfl) <| w_done <| k_seq <| awp_seq <| awp_seq <| w_reg <| s_mov (.lst 3 (d_1.map encGAtom)) rfl <| s_dof (o_len (enc := encGAtom) rfl) fun hl2 => s_q (.bool ((d_1.length : Int) == 1)) rfl rfl rfl <| w_done <| k_seq <| ?_
 rcases oi hf with ⟨c3, hf⟩ | ⟨c3, hf⟩
 ·refine w_condt rfl c3 <| awp_seq <| w_reg <| ?_
  obtain ⟨x_4, ex5, hf⟩ := ob hf
  obtain ⟨r_6, er7, hf⟩ := ob hf
  refine s_mov (.lst 3 (d_1.map encGAtom)) rfl <| s_do (o_iaddr (enc := encGAtom) rfl rfl (idx0 ex5) (idx1 ex5)) <| s_q (encGAtom x_4) rfl nle rfl <| s_do (o_callf (v := (.agg [(.int .i64 r_6.Kind), (.int .i64 r_6.N), (.str r_6.T), (.own 1 0 r_6.Keys.length), (.own 2 0 r_6.Items.length)])) (h' := [.row 1 (r_6.Keys.map AV.str), .row 5 (r_6.Items.map encGJson)]) (w_spec_l13Atom _ _ er7) rfl (.refl _) (by simp only [openV, openVs, List.length_map, encGJson_eq, List.nil_append, List.append_nil, List.cons_append]; rfl)) <| s_do0 (o_storebox (v := (.agg [(.int .i64 r_6.Kind), (.int .i64 r_6.N), (.str r_6.T), (.own 1 0 r_6.Keys.length), (.own 2 0 r_6.Items.length)])) (y' := (.agg [(.int .i64 r_6.Kind), (.int .i64 r_6.N), (.str r_6.T), (.own 1 0 r_6.Keys.length), (.own 2 0 r_6.Items.length)])) rfl rfl rfl trivial ⟨rfl, nle⟩ ⟨⟨rfl, trivial⟩, ⟨⟨rfl, trivial⟩, ⟨⟨rfl, trivial⟩, ⟨⟨rfl, trivial⟩, ⟨⟨rfl, trivial⟩, trivial⟩⟩⟩⟩⟩ rfl) <| ?_
  refine w_done <| k_seq <| w_ret <| ?_; obtain rfl := os hf; exact r_fresh ⟨nle, trivial⟩ rfl (by decide) (leJ (x := r_6) (.agg (.cons (.refl _) (.cons (.refl _) (.cons (.refl _) (.cons (.of_eq (congrArg (AV.lst _) (tk (enc := AV.str) r_6.Keys))) (.cons (.of_eq (congrArg (AV.lst _) (tk (enc := encGJson) r_6.Items))) .nil)))))))
 ·refine w_condf rfl (bf c3) <| w_skip <| k_seq <| awp_seq <| w_reg <| ?_
  obtain ⟨r_8, er9, hf⟩ := ob hf
  refine s_do (o_callh (v := (.agg [(.int .i64 r_8.Kind), (.int .i64 r_8.N), (.str r_8.T), (.own 1 0 r_8.Keys.length), (.own 2 0 r_8.Items.length)])) (h2 := [.box 5 (.agg [(.int .i64 0), (.int .i64 0), (.str []), .nil, .nil]), .row 1 (r_8.Keys.map AV.str), .row 5 (r_8.Items.map encGJson)]) [] [] (fun _ => rfl) (w_spec_l13L_h1 _ er9) rfl (.refl _) (.refl _) rfl rfl) ?_; refine s_do (o_box (j := 3) (c := (.agg [(.int .i64 0), (.int .i64 0), (.str []), .nil, .nil])) rfl trivial rfl rfl) <| s_do0 (o_storebox (v := (.agg [(.int .i64 r_8.Kind), (.int .i64 r_8.N), (.str r_8.T), (.own 1 0 r_8.Keys.length), (.own 2 0 r_8.Items.length)])) (y' := (.agg [(.int .i64 r_8.Kind), (.int .i64 r_8.N), (.str r_8.T), (.own 1 0 r_8.Keys.length), (.own 2 0 r_8.Items.length)])) rfl rfl rfl trivial ⟨rfl, nle⟩ ⟨⟨rfl, trivial⟩, ⟨⟨rfl, trivial⟩, ⟨⟨rfl, trivial⟩, ⟨⟨rfl, trivial⟩, ⟨⟨rfl, trivial⟩, trivial⟩⟩⟩⟩⟩ rfl) <| ?_
  refine w_done <| k_seq <| awp_seq <| awp_seq <| w_reg <| s_mov (.int .i64 0) rfl <| w_done <| k_seq <| ?_
  obtain ⟨x_36, hb1, hf⟩ := ob hf
  refine awp_cut ([(2, (.ptr 0 0 0)), (3, (.ptr 1 0 0))], [.box 5 (.agg [(.int .i64 0), (.int .i64 0), (.str []), .nil, .nil]), .box 5 (.agg [(.int .i64 r_8.Kind), (.int .i64 r_8.N), (.str r_8.T), (.own 2 0 r_8.Keys.length), (.own 3 0 x_36.length)]), .row 1 (r_8.Keys.map AV.str), .row 5 (x_36.map encGJson)]) ?_ ?_
  ·refine awp_loop (X := {q : (Nat × (List GJson)) // spec_l13Datum_L1 (d_1.drop q.1) q.2 = some x_36}) (fun q => ([(0, (.lst 3 (d_1.map encGAtom))), (2, (.ptr 0 0 0)), (3, (.ptr 1 0 0)), (4, (.int .i64 (q.1.1 : Int)))], [.box 5 (.agg [(.int .i64 0), (.int .i64 0), (.str []), .nil, .nil]), .box 5 (.agg [(.int .i64 r_8.Kind), (.int .i64 r_8.N), (.str r_8.T), (.own 2 0 r_8.Keys.length), (.own 3 0 q.1.2.length)]), .row 1 (r_8.Keys.map AV.str), .row 5 (q.1.2.map encGJson)])) (fun q => d_1.length - q.1.1) ⟨(0, r_8.Items), hb1⟩ ⟨[], [0, 3, 1, 2], _, _, rfl, rfl, ⟨.refl _, ⟨.refl _, ⟨.refl _, ⟨.refl _, trivial⟩⟩⟩⟩, (.refl _)⟩ ?_
   rintro ⟨⟨i_26, x_27⟩, hc1⟩
   have hc1 : spec_l13Datum_L1 (d_1.drop i_26) x_27 = some x_36 := hc1
   refine (show awp Try.prog true 0 _ (ofL [(0, (.lst 3 (d_1.map encGAtom))), (2, (.ptr 0 0 0)), (3, (.ptr 1 0 0)), (4, (.int .i64 (i_26 : Int)))]) [.box 5 (.agg [(.int .i64 0), (.int .i64 0), (.str []), .nil, .nil]), .box 5 (.agg [(.int .i64 r_8.Kind), (.int .i64 r_8.N), (.str r_8.T), (.own 2 0 r_8.Keys.length), (.own 3 0 x_27.length)]), .row 1 (r_8.Keys.map AV.str), .row 5 (x_27.map encGJson)] _ from ?_)
   rcases dropc d_1 i_26 with ⟨hie40, hd43⟩ | ⟨hlt38, x_44, hx39, hd43⟩
   ·rw [hd43, spec_l13Datum_L1.eq_1] at hc1
    have hq42 := dlf hie40
    refine awp_seq <| awp_seq <| w_reg <| s_mov (.int .i64 (i_26 : Int)) rfl <| s_mov (.lst 3 (d_1.map encGAtom)) rfl <| s_dof (o_len (enc := encGAtom) rfl) fun hl45 => s_q (.bool (decide ((i_26 : Int) < (d_1.length : Int)))) rfl rfl rfl <| w_done <| k_seq <| w_condf rfl hq42 <| w_exit <| k_seqx <| k_loopx <| k_blkx <| ?_; obtain rfl := os hc1; exact ⟨[], [0, 1, 2, 3], _, _, rfl, rfl, ⟨.refl _, ⟨.refl _, trivial⟩⟩, (.refl _)⟩
   ·rw [hd43, spec_l13Datum_L1.eq_2] at hc1
    have hq42 := dlt hlt38
    refine awp_seq <| awp_seq <| w_reg <| s_mov (.int .i64 (i_26 : Int)) rfl <| s_mov (.lst 3 (d_1.map encGAtom)) rfl <| s_dof (o_len (enc := encGAtom) rfl) fun hl46 => s_q (.bool (decide ((i_26 : Int) < (d_1.length : Int)))) rfl rfl rfl <| w_done <| k_seq <| w_condt rfl hq42 <| w_skip <| k_seq <| awp_seq <| w_blk <| w_reg <| ?_
    obtain ⟨r_47, er48, hc1⟩ := ob hc1
    obtain ⟨g49, hc1⟩ := og hc1
    refine s_q (.ptr 1 0 4) rfl trivial rfl <| s_q (.own 3 0 x_27.length) rfl nle rfl <| s_mov (.lst 3 (d_1.map encGAtom)) rfl <| s_mov (.int .i64 (i_26 : Int)) rfl <| s_do (o_iaddrn (enc := encGAtom) rfl rfl hx39) <| s_q (encGAtom x_44) rfl nle rfl <| s_dol (o_callf (v := (.agg [(.int .i64 r_47.Kind), (.int .i64 r_47.N), (.str r_47.T), (.own 4 0 r_47.Keys.length), (.own 5 0 r_47.Items.length)])) (h' := [.row 1 (r_47.Keys.map AV.str), .row 5 (r_47.Items.map encGJson)]) (w_spec_l13Atom _ _ er48) rfl (.refl _) (by simp only [openV, openVs, List.length_map, encGJson_eq, List.nil_append, List.append_nil, List.cons_append]; rfl)) (.inr ⟨⟨nle, rfl⟩, ⟨⟨trivial, rfl⟩, trivial⟩⟩) trivial <| ?_; refine s_dol (o_bslice (j := 6) (as' := [(encGJson r_47)]) rfl (fun _ => by decide) ⟨rfl, trivial⟩ (.cons (leJ (x := r_47) (.agg (.cons (.refl _) (.cons (.refl _) (.cons (.refl _) (.cons (.of_eq (congrArg (AV.lst _) (tk (enc := AV.str) r_47.Keys))) (.cons (.of_eq (congrArg (AV.lst _) (tk (enc := encGJson) r_47.Items))) .nil))))))) .nil) rfl rfl rfl) (.inr ⟨⟨nle, rfl⟩, ⟨⟨trivial, rfl⟩, trivial⟩⟩) trivial ?_
    refine s_dol (o_appendd (j := 7) (L := ((x_27 ++ [r_47]).map encGJson)) (len := (x_27 ++ [r_47]).length) rfl true rfl rfl (fun h => Bool.noConfusion h) (fun _ _ h => (ownl (show AV.own _ _ _ = AV.lst _ _ from h)).elim) (by decide) (apoc (enc := encGJson) x_27 [r_47] _ (by rfl)) (by simp <;> omega) g49 rfl rfl) trivial trivial ?_
    refine s_q (.ptr 1 0 4) rfl trivial rfl <| s_dol0 (o_storebox (v := (.own 7 0 ((x_27 ++ [r_47]).length))) (y' := (.agg [(.int .i64 r_8.Kind), (.int .i64 r_8.N), (.str r_8.T), (.own 2 0 r_8.Keys.length), (.own 7 0 ((x_27 ++ [r_47]).length))])) rfl rfl rfl trivial ⟨rfl, nle⟩ ⟨⟨rfl, trivial⟩, trivial⟩ rfl) trivial trivial <| w_done <| k_blk <| k_seq <| w_reg <| s_mov (.int .i64 (i_26 : Int)) rfl <| s_q (.int .i64 (w64 ((i_26 : Int) + 1))) rfl rfl rfl <| s_mov (.int .i64 (w64 ((i_26 : Int) + 1))) rfl <| w_done <| ?_; exact k_loopn ⟨((i_26 + 1), x_27 ++ [r_47]), hc1⟩ (mul hlt38) ⟨[], [0, 1, 2, 7], _, _, rfl, rfl, ⟨.refl _, ⟨.refl _, ⟨.refl _, ⟨.of_eq (congrArg (AV.int _) (w64_incr hlt38 hl46)), trivial⟩⟩⟩⟩, (.refl _)⟩
  ·refine awp_seq <| w_reg <| ?_
   obtain ⟨r_50, er51, hf⟩ := ob hf
   obtain ⟨r_52, er53, hf⟩ := ob hf
   refine s_q (.agg [(.int .i64 r_8.Kind), (.int .i64 r_8.N), (.str r_8.T), (.own 2 0 r_8.Keys.length), (.own 3 0 x_36.length)]) rfl nle rfl <| s_dol (o_callf (v := (.agg [(.int .i64 r_50.Kind), (.int .i64 r_50.N), (.str r_50.T), (.own 4 0 r_50.Keys.length), (.own 5 0 r_50.Items.length)])) (h' := [.row 1 (r_50.Keys.map AV.str), .row 5 (r_50.Items.map encGJson)]) (w_spec_l13T _ _ er51) rfl (.refl _) (by simp only [openV, openVs, List.length_map, encGJson_eq, List.nil_append, List.append_nil, List.cons_append]; rfl)) (.inr ⟨⟨nle, rfl⟩, trivial⟩) trivial <| ?_; refine s_dol (o_bslice (j := 6) (as' := [(encGJson r_50), (encGJson (⟨r_8.Kind, r_8.N, r_8.T, r_8.Keys, x_36⟩ : GJson))]) rfl (fun _ => by decide) ⟨rfl, ⟨rfl, trivial⟩⟩ (.cons (leJ (x := r_50) (.agg (.cons (.refl _) (.cons (.refl _) (.cons (.refl _) (.cons (.of_eq (congrArg (AV.lst _) (tk (enc := AV.str) r_50.Keys))) (.cons (.of_eq (congrArg (AV.lst _) (tk (enc := encGJson) r_50.Items))) .nil))))))) (.cons (leJ (x := (⟨r_8.Kind, r_8.N, r_8.T, r_8.Keys, x_36⟩ : GJson)) (.agg (.cons (.refl _) (.cons (.refl _) (.cons (.refl _) (.cons (.of_eq (congrArg (AV.lst _) (tk (enc := AV.str) r_8.Keys))) (.cons (.of_eq (congrArg (AV.lst _) (tk (enc := encGJson) x_36))) .nil))))))) .nil)) rfl rfl rfl) trivial trivial ?_
   refine s_dol (o_callh (v := (.agg [(.int .i64 r_52.Kind), (.int .i64 r_52.N), (.str r_52.T), (.own 7 0 r_52.Keys.length), (.own 8 0 r_52.Items.length)])) (h2 := [.box 5 (.agg [(.int .i64 0), (.int .i64 0), (.str []), .nil, .nil]), .box 5 (.agg [(.int .i64 r_8.Kind), (.int .i64 r_8.N), (.str r_8.T), (.own 2 0 r_8.Keys.length), (.own 3 0 x_36.length)]), .dead, .dead, .dead, .dead, .dead, .row 1 (r_52.Keys.map AV.str), .row 5 (r_52.Items.map encGJson)]) [] [6] (fun _ => rfl) (w_spec_l13L_h0 _ _ er53) rfl (.cons (.of_eq (congrArg (AV.own _ 0) (by simp))) .nil) (.refl _) rfl rfl) trivial trivial ?_; refine s_dol0 (o_storebox (v := (.agg [(.int .i64 r_52.Kind), (.int .i64 r_52.N), (.str r_52.T), (.own 7 0 r_52.Keys.length), (.own 8 0 r_52.Items.length)])) (y' := (.agg [(.int .i64 r_52.Kind), (.int .i64 r_52.N), (.str r_52.T), (.own 7 0 r_52.Keys.length), (.own 8 0 r_52.Items.length)])) rfl rfl rfl trivial ⟨rfl, nle⟩ ⟨⟨rfl, trivial⟩, ⟨⟨rfl, trivial⟩, ⟨⟨rfl, trivial⟩, ⟨⟨rfl, trivial⟩, ⟨⟨rfl, trivial⟩, trivial⟩⟩⟩⟩⟩ rfl) trivial trivial ?_
   refine w_done <| k_seq <| w_ret <| ?_; obtain rfl := os hf; exact r_fresh ⟨nle, trivial⟩ rfl (by decide) (leJ (x := r_52) (.agg (.cons (.refl _) (.cons (.refl _) (.cons (.refl _) (.cons (.of_eq (congrArg (AV.lst _) (tk (enc := AV.str) r_52.Keys))) (.cons (.of_eq (congrArg (AV.lst _) (tk (enc := encGJson) r_52.Items))) .nil)))))))

/- spec.l01Own -/
def c81 : ACode :=
 (.seq (.reg (tq 1 (.box 5 (.t 0)) (tq 2 (.box 5 (.c (.agg [(.int .i64 0), (.int .i64 0), (.str []), .nil, .nil]))) .done)))
 (.seq (.reg (tq 5 (.faddr 0 (.t 1)) (tq 6 (.load 1 false (.t 5)) (tq 7 (.faddr 1 (.t 1)) (tq 8 (.load 1 false (.t 7)) (tq 9 (.faddr 2 (.t 1)) (tq 10 (.load 1 false (.t 9)) (tq 12 (.faddr 3 (.t 1)) (tq 13 (.load 1 false (.t 12)) (.l ⟨(some 11), none, .bslice 1 []⟩ [⟨(some 13), none, .load 1 false (.t 12)⟩, ⟨(some 12), none, .faddr 3 (.t 1)⟩, ⟨(some 10), none, .load 1 false (.t 9)⟩, ⟨(some 9), none, .faddr 2 (.t 1)⟩, ⟨(some 8), none, .load 1 false (.t 7)⟩, ⟨(some 7), none, .faddr 1 (.t 1)⟩, ⟨(some 6), none, .load 1 false (.t 5)⟩, ⟨(some 5), none, .faddr 0 (.t 1)⟩]
 (.l ⟨(some 14), none, .append 1 16 (.t 11) (.t 13)⟩ [⟨(some 10), none, .load 1 false (.t 9)⟩, ⟨(some 9), none, .faddr 2 (.t 1)⟩, ⟨(some 8), none, .load 1 false (.t 7)⟩, ⟨(some 7), none, .faddr 1 (.t 1)⟩, ⟨(some 6), none, .load 1 false (.t 5)⟩, ⟨(some 5), none, .faddr 0 (.t 1)⟩]
 (.l ⟨(some 15), none, .bslice 5 []⟩ [⟨(some 13), none, .load 1 false (.t 12)⟩, ⟨(some 12), none, .faddr 3 (.t 1)⟩, ⟨(some 10), none, .load 1 false (.t 9)⟩, ⟨(some 9), none, .faddr 2 (.t 1)⟩, ⟨(some 8), none, .load 1 false (.t 7)⟩, ⟨(some 7), none, .faddr 1 (.t 1)⟩, ⟨(some 6), none, .load 1 false (.t 5)⟩, ⟨(some 5), none, .faddr 0 (.t 1)⟩]
 (tq 16 (.build [(.int .i64 0), (.int .i64 0), (.str []), .nil, .nil] [(0, 1, (.t 6)), (1, 1, (.t 8)), (2, 1, (.t 10)), (3, 1, (.t 14)), (4, 1, (.t 15))]) (.l ⟨(some 3), none, .box 5 (.c (.agg [(.int .i64 0), (.int .i64 0), (.str []), .nil, .nil]))⟩ [⟨(some 16), none, .build [(.int .i64 0), (.int .i64 0), (.str []), .nil, .nil] [(0, 1, (.t 6)), (1, 1, (.t 8)), (2, 1, (.t 10)), (3, 1, (.t 14)), (4, 1, (.t 15))]⟩, ⟨(some 13), none, .load 1 false (.t 12)⟩, ⟨(some 12), none, .faddr 3 (.t 1)⟩, ⟨(some 10), none, .load 1 false (.t 9)⟩, ⟨(some 9), none, .faddr 2 (.t 1)⟩, ⟨(some 8), none, .load 1 false (.t 7)⟩, ⟨(some 7), none, .faddr 1 (.t 1)⟩, ⟨(some 6), none, .load 1 false (.t 5)⟩, ⟨(some 5), none, .faddr 0 (.t 1)⟩]
 (.l ⟨none, none, .store 5 (.t 3) (.t 16)⟩ []
 .done .non) .non)) (.l ⟨(some 3), none, .box 5 (.c (.agg [(.int .i64 0), (.int .i64 0), (.str []), .nil, .nil]))⟩ [⟨(some 13), none, .load 1 false (.t 12)⟩, ⟨(some 12), none, .faddr 3 (.t 1)⟩, ⟨(some 10), none, .load 1 false (.t 9)⟩, ⟨(some 9), none, .faddr 2 (.t 1)⟩, ⟨(some 8), none, .load 1 false (.t 7)⟩, ⟨(some 7), none, .faddr 1 (.t 1)⟩, ⟨(some 6), none, .load 1 false (.t 5)⟩, ⟨(some 5), none, .faddr 0 (.t 1)⟩]
 (.l ⟨(some 15), none, .bslice 5 []⟩ [⟨(some 13), none, .load 1 false (.t 12)⟩, ⟨(some 12), none, .faddr 3 (.t 1)⟩, ⟨(some 10), none, .load 1 false (.t 9)⟩, ⟨(some 9), none, .faddr 2 (.t 1)⟩, ⟨(some 8), none, .load 1 false (.t 7)⟩, ⟨(some 7), none, .faddr 1 (.t 1)⟩, ⟨(some 6), none, .load 1 false (.t 5)⟩, ⟨(some 5), none, .faddr 0 (.t 1)⟩]
 (tq 16 (.build [(.int .i64 0), (.int .i64 0), (.str []), .nil, .nil] [(0, 1, (.t 6)), (1, 1, (.t 8)), (2, 1, (.t 10)), (3, 1, (.t 14)), (4, 1, (.t 15))]) (.l ⟨none, none, .store 5 (.t 3) (.t 16)⟩ []
 .done .non)) .non) .non)) (.l ⟨(some 15), none, .bslice 5 []⟩ [⟨(some 13), none, .load 1 false (.t 12)⟩, ⟨(some 12), none, .faddr 3 (.t 1)⟩, ⟨(some 10), none, .load 1 false (.t 9)⟩, ⟨(some 9), none, .faddr 2 (.t 1)⟩, ⟨(some 8), none, .load 1 false (.t 7)⟩, ⟨(some 7), none, .faddr 1 (.t 1)⟩, ⟨(some 6), none, .load 1 false (.t 5)⟩, ⟨(some 5), none, .faddr 0 (.t 1)⟩]
 (.l ⟨(some 14), none, .append 1 16 (.t 11) (.t 13)⟩ [⟨(some 10), none, .load 1 false (.t 9)⟩, ⟨(some 9), none, .faddr 2 (.t 1)⟩, ⟨(some 8), none, .load 1 false (.t 7)⟩, ⟨(some 7), none, .faddr 1 (.t 1)⟩, ⟨(some 6), none, .load 1 false (.t 5)⟩, ⟨(some 5), none, .faddr 0 (.t 1)⟩]
 (tq 16 (.build [(.int .i64 0), (.int .i64 0), (.str []), .nil, .nil] [(0, 1, (.t 6)), (1, 1, (.t 8)), (2, 1, (.t 10)), (3, 1, (.t 14)), (4, 1, (.t 15))]) (.l ⟨(some 3), none, .box 5 (.c (.agg [(.int .i64 0), (.int .i64 0), (.str []), .nil, .nil]))⟩ [⟨(some 16), none, .build [(.int .i64 0), (.int .i64 0), (.str []), .nil, .nil] [(0, 1, (.t 6)), (1, 1, (.t 8)), (2, 1, (.t 10)), (3, 1, (.t 14)), (4, 1, (.t 15))]⟩, ⟨(some 13), none, .load 1 false (.t 12)⟩, ⟨(some 12), none, .faddr 3 (.t 1)⟩, ⟨(some 10), none, .load 1 false (.t 9)⟩, ⟨(some 9), none, .faddr 2 (.t 1)⟩, ⟨(some 8), none, .load 1 false (.t 7)⟩, ⟨(some 7), none, .faddr 1 (.t 1)⟩, ⟨(some 6), none, .load 1 false (.t 5)⟩, ⟨(some 5), none, .faddr 0 (.t 1)⟩]
 (.l ⟨none, none, .store 5 (.t 3) (.t 16)⟩ []
 .done .non) .non)) (.l ⟨(some 3), none, .box 5 (.c (.agg [(.int .i64 0), (.int .i64 0), (.str []), .nil, .nil]))⟩ [⟨(some 13), none, .load 1 false (.t 12)⟩, ⟨(some 12), none, .faddr 3 (.t 1)⟩, ⟨(some 10), none, .load 1 false (.t 9)⟩, ⟨(some 9), none, .faddr 2 (.t 1)⟩, ⟨(some 8), none, .load 1 false (.t 7)⟩, ⟨(some 7), none, .faddr 1 (.t 1)⟩, ⟨(some 6), none, .load 1 false (.t 5)⟩, ⟨(some 5), none, .faddr 0 (.t 1)⟩]
 (.l ⟨(some 14), none, .append 1 16 (.t 11) (.t 13)⟩ [⟨(some 10), none, .load 1 false (.t 9)⟩, ⟨(some 9), none, .faddr 2 (.t 1)⟩, ⟨(some 8), none, .load 1 false (.t 7)⟩, ⟨(some 7), none, .faddr 1 (.t 1)⟩, ⟨(some 6), none, .load 1 false (.t 5)⟩, ⟨(some 5), none, .faddr 0 (.t 1)⟩]
 (tq 16 (.build [(.int .i64 0), (.int .i64 0), (.str []), .nil, .nil] [(0, 1, (.t 6)), (1, 1, (.t 8)), (2, 1, (.t 10)), (3, 1, (.t 14)), (4, 1, (.t 15))]) (.l ⟨none, none, .store 5 (.t 3) (.t 16)⟩ []
 .done .non)) .non) .non)) (.l ⟨(some 3), none, .box 5 (.c (.agg [(.int .i64 0), (.int .i64 0), (.str []), .nil, .nil]))⟩ [⟨(some 13), none, .load 1 false (.t 12)⟩, ⟨(some 12), none, .faddr 3 (.t 1)⟩, ⟨(some 10), none, .load 1 false (.t 9)⟩, ⟨(some 9), none, .faddr 2 (.t 1)⟩, ⟨(some 8), none, .load 1 false (.t 7)⟩, ⟨(some 7), none, .faddr 1 (.t 1)⟩, ⟨(some 6), none, .load 1 false (.t 5)⟩, ⟨(some 5), none, .faddr 0 (.t 1)⟩]
 (.l ⟨(some 14), none, .append 1 16 (.t 11) (.t 13)⟩ [⟨(some 10), none, .load 1 false (.t 9)⟩, ⟨(some 9), none, .faddr 2 (.t 1)⟩, ⟨(some 8), none, .load 1 false (.t 7)⟩, ⟨(some 7), none, .faddr 1 (.t 1)⟩, ⟨(some 6), none, .load 1 false (.t 5)⟩, ⟨(some 5), none, .faddr 0 (.t 1)⟩]
 (.l ⟨(some 15), none, .bslice 5 []⟩ [⟨(some 13), none, .load 1 false (.t 12)⟩, ⟨(some 12), none, .faddr 3 (.t 1)⟩, ⟨(some 10), none, .load 1 false (.t 9)⟩, ⟨(some 9), none, .faddr 2 (.t 1)⟩, ⟨(some 8), none, .load 1 false (.t 7)⟩, ⟨(some 7), none, .faddr 1 (.t 1)⟩, ⟨(some 6), none, .load 1 false (.t 5)⟩, ⟨(some 5), none, .faddr 0 (.t 1)⟩]
 (tq 16 (.build [(.int .i64 0), (.int .i64 0), (.str []), .nil, .nil] [(0, 1, (.t 6)), (1, 1, (.t 8)), (2, 1, (.t 10)), (3, 1, (.t 14)), (4, 1, (.t 15))]) (.l ⟨none, none, .store 5 (.t 3) (.t 16)⟩ []
 .done .non)) .non) (.l ⟨(some 15), none, .bslice 5 []⟩ [⟨(some 13), none, .load 1 false (.t 12)⟩, ⟨(some 12), none, .faddr 3 (.t 1)⟩, ⟨(some 10), none, .load 1 false (.t 9)⟩, ⟨(some 9), none, .faddr 2 (.t 1)⟩, ⟨(some 8), none, .load 1 false (.t 7)⟩, ⟨(some 7), none, .faddr 1 (.t 1)⟩, ⟨(some 6), none, .load 1 false (.t 5)⟩, ⟨(some 5), none, .faddr 0 (.t 1)⟩]
 (.l ⟨(some 14), none, .append 1 16 (.t 11) (.t 13)⟩ [⟨(some 10), none, .load 1 false (.t 9)⟩, ⟨(some 9), none, .faddr 2 (.t 1)⟩, ⟨(some 8), none, .load 1 false (.t 7)⟩, ⟨(some 7), none, .faddr 1 (.t 1)⟩, ⟨(some 6), none, .load 1 false (.t 5)⟩, ⟨(some 5), none, .faddr 0 (.t 1)⟩]
 (tq 16 (.build [(.int .i64 0), (.int .i64 0), (.str []), .nil, .nil] [(0, 1, (.t 6)), (1, 1, (.t 8)), (2, 1, (.t 10)), (3, 1, (.t 14)), (4, 1, (.t 15))]) (.l ⟨none, none, .store 5 (.t 3) (.t 16)⟩ []
 .done .non)) .non) .non)) .non))) (.l ⟨(some 15), none, .bslice 5 []⟩ [⟨(some 13), none, .load 1 false (.t 12)⟩, ⟨(some 12), none, .faddr 3 (.t 1)⟩, ⟨(some 10), none, .load 1 false (.t 9)⟩, ⟨(some 9), none, .faddr 2 (.t 1)⟩, ⟨(some 8), none, .load 1 false (.t 7)⟩, ⟨(some 7), none, .faddr 1 (.t 1)⟩, ⟨(some 6), none, .load 1 false (.t 5)⟩, ⟨(some 5), none, .faddr 0 (.t 1)⟩]
 (.l ⟨(some 11), none, .bslice 1 []⟩ [⟨(some 13), none, .load 1 false (.t 12)⟩, ⟨(some 12), none, .faddr 3 (.t 1)⟩, ⟨(some 10), none, .load 1 false (.t 9)⟩, ⟨(some 9), none, .faddr 2 (.t 1)⟩, ⟨(some 8), none, .load 1 false (.t 7)⟩, ⟨(some 7), none, .faddr 1 (.t 1)⟩, ⟨(some 6), none, .load 1 false (.t 5)⟩, ⟨(some 5), none, .faddr 0 (.t 1)⟩]
 (.l ⟨(some 14), none, .append 1 16 (.t 11) (.t 13)⟩ [⟨(some 10), none, .load 1 false (.t 9)⟩, ⟨(some 9), none, .faddr 2 (.t 1)⟩, ⟨(some 8), none, .load 1 false (.t 7)⟩, ⟨(some 7), none, .faddr 1 (.t 1)⟩, ⟨(some 6), none, .load 1 false (.t 5)⟩, ⟨(some 5), none, .faddr 0 (.t 1)⟩]
 (tq 16 (.build [(.int .i64 0), (.int .i64 0), (.str []), .nil, .nil] [(0, 1, (.t 6)), (1, 1, (.t 8)), (2, 1, (.t 10)), (3, 1, (.t 14)), (4, 1, (.t 15))]) (.l ⟨(some 3), none, .box 5 (.c (.agg [(.int .i64 0), (.int .i64 0), (.str []), .nil, .nil]))⟩ [⟨(some 16), none, .build [(.int .i64 0), (.int .i64 0), (.str []), .nil, .nil] [(0, 1, (.t 6)), (1, 1, (.t 8)), (2, 1, (.t 10)), (3, 1, (.t 14)), (4, 1, (.t 15))]⟩, ⟨(some 13), none, .load 1 false (.t 12)⟩, ⟨(some 12), none, .faddr 3 (.t 1)⟩, ⟨(some 10), none, .load 1 false (.t 9)⟩, ⟨(some 9), none, .faddr 2 (.t 1)⟩, ⟨(some 8), none, .load 1 false (.t 7)⟩, ⟨(some 7), none, .faddr 1 (.t 1)⟩, ⟨(some 6), none, .load 1 false (.t 5)⟩, ⟨(some 5), none, .faddr 0 (.t 1)⟩]
 (.l ⟨none, none, .store 5 (.t 3) (.t 16)⟩ []
 .done .non) .non)) (.l ⟨(some 3), none, .box 5 (.c (.agg [(.int .i64 0), (.int .i64 0), (.str []), .nil, .nil]))⟩ [⟨(some 13), none, .load 1 false (.t 12)⟩, ⟨(some 12), none, .faddr 3 (.t 1)⟩, ⟨(some 10), none, .load 1 false (.t 9)⟩, ⟨(some 9), none, .faddr 2 (.t 1)⟩, ⟨(some 8), none, .load 1 false (.t 7)⟩, ⟨(some 7), none, .faddr 1 (.t 1)⟩, ⟨(some 6), none, .load 1 false (.t 5)⟩, ⟨(some 5), none, .faddr 0 (.t 1)⟩]
 (.l ⟨(some 14), none, .append 1 16 (.t 11) (.t 13)⟩ [⟨(some 10), none, .load 1 false (.t 9)⟩, ⟨(some 9), none, .faddr 2 (.t 1)⟩, ⟨(some 8), none, .load 1 false (.t 7)⟩, ⟨(some 7), none, .faddr 1 (.t 1)⟩, ⟨(some 6), none, .load 1 false (.t 5)⟩, ⟨(some 5), none, .faddr 0 (.t 1)⟩]
 (tq 16 (.build [(.int .i64 0), (.int .i64 0), (.str []), .nil, .nil] [(0, 1, (.t 6)), (1, 1, (.t 8)), (2, 1, (.t 10)), (3, 1, (.t 14)), (4, 1, (.t 15))]) (.l ⟨none, none, .store 5 (.t 3) (.t 16)⟩ []
 .done .non)) .non) .non)) (.l ⟨(some 3), none, .box 5 (.c (.agg [(.int .i64 0), (.int .i64 0), (.str []), .nil, .nil]))⟩ [⟨(some 13), none, .load 1 false (.t 12)⟩, ⟨(some 12), none, .faddr 3 (.t 1)⟩, ⟨(some 10), none, .load 1 false (.t 9)⟩, ⟨(some 9), none, .faddr 2 (.t 1)⟩, ⟨(some 8), none, .load 1 false (.t 7)⟩, ⟨(some 7), none, .faddr 1 (.t 1)⟩, ⟨(some 6), none, .load 1 false (.t 5)⟩, ⟨(some 5), none, .faddr 0 (.t 1)⟩]
 (.l ⟨(some 11), none, .bslice 1 []⟩ [⟨(some 13), none, .load 1 false (.t 12)⟩, ⟨(some 12), none, .faddr 3 (.t 1)⟩, ⟨(some 10), none, .load 1 false (.t 9)⟩, ⟨(some 9), none, .faddr 2 (.t 1)⟩, ⟨(some 8), none, .load 1 false (.t 7)⟩, ⟨(some 7), none, .faddr 1 (.t 1)⟩, ⟨(some 6), none, .load 1 false (.t 5)⟩, ⟨(some 5), none, .faddr 0 (.t 1)⟩]
 (.l ⟨(some 14), none, .append 1 16 (.t 11) (.t 13)⟩ [⟨(some 10), none, .load 1 false (.t 9)⟩, ⟨(some 9), none, .faddr 2 (.t 1)⟩, ⟨(some 8), none, .load 1 false (.t 7)⟩, ⟨(some 7), none, .faddr 1 (.t 1)⟩, ⟨(some 6), none, .load 1 false (.t 5)⟩, ⟨(some 5), none, .faddr 0 (.t 1)⟩]
 (tq 16 (.build [(.int .i64 0), (.int .i64 0), (.str []), .nil, .nil] [(0, 1, (.t 6)), (1, 1, (.t 8)), (2, 1, (.t 10)), (3, 1, (.t 14)), (4, 1, (.t 15))]) (.l ⟨none, none, .store 5 (.t 3) (.t 16)⟩ []
 .done .non)) .non) .non) .non)) (.l ⟨(some 3), none, .box 5 (.c (.agg [(.int .i64 0), (.int .i64 0), (.str []), .nil, .nil]))⟩ [⟨(some 13), none, .load 1 false (.t 12)⟩, ⟨(some 12), none, .faddr 3 (.t 1)⟩, ⟨(some 10), none, .load 1 false (.t 9)⟩, ⟨(some 9), none, .faddr 2 (.t 1)⟩, ⟨(some 8), none, .load 1 false (.t 7)⟩, ⟨(some 7), none, .faddr 1 (.t 1)⟩, ⟨(some 6), none, .load 1 false (.t 5)⟩, ⟨(some 5), none, .faddr 0 (.t 1)⟩]
 (.l ⟨(some 11), none, .bslice 1 []⟩ [⟨(some 13), none, .load 1 false (.t 12)⟩, ⟨(some 12), none, .faddr 3 (.t 1)⟩, ⟨(some 10), none, .load 1 false (.t 9)⟩, ⟨(some 9), none, .faddr 2 (.t 1)⟩, ⟨(some 8), none, .load 1 false (.t 7)⟩, ⟨(some 7), none, .faddr 1 (.t 1)⟩, ⟨(some 6), none, .load 1 false (.t 5)⟩, ⟨(some 5), none, .faddr 0 (.t 1)⟩]
 (.l ⟨(some 14), none, .append 1 16 (.t 11) (.t 13)⟩ [⟨(some 10), none, .load 1 false (.t 9)⟩, ⟨(some 9), none, .faddr 2 (.t 1)⟩, ⟨(some 8), none, .load 1 false (.t 7)⟩, ⟨(some 7), none, .faddr 1 (.t 1)⟩, ⟨(some 6), none, .load 1 false (.t 5)⟩, ⟨(some 5), none, .faddr 0 (.t 1)⟩]
 (.l ⟨(some 15), none, .bslice 5 []⟩ [⟨(some 13), none, .load 1 false (.t 12)⟩, ⟨(some 12), none, .faddr 3 (.t 1)⟩, ⟨(some 10), none, .load 1 false (.t 9)⟩, ⟨(some 9), none, .faddr 2 (.t 1)⟩, ⟨(some 8), none, .load 1 false (.t 7)⟩, ⟨(some 7), none, .faddr 1 (.t 1)⟩, ⟨(some 6), none, .load 1 false (.t 5)⟩, ⟨(some 5), none, .faddr 0 (.t 1)⟩]
 (tq 16 (.build [(.int .i64 0), (.int .i64 0), (.str []), .nil, .nil] [(0, 1, (.t 6)), (1, 1, (.t 8)), (2, 1, (.t 10)), (3, 1, (.t 14)), (4, 1, (.t 15))]) (.l ⟨none, none, .store 5 (.t 3) (.t 16)⟩ []
 .done .non)) .non) (.l ⟨(some 15), none, .bslice 5 []⟩ [⟨(some 13), none, .load 1 false (.t 12)⟩, ⟨(some 12), none, .faddr 3 (.t 1)⟩, ⟨(some 10), none, .load 1 false (.t 9)⟩, ⟨(some 9), none, .faddr 2 (.t 1)⟩, ⟨(some 8), none, .load 1 false (.t 7)⟩, ⟨(some 7), none, .faddr 1 (.t 1)⟩, ⟨(some 6), none, .load 1 false (.t 5)⟩, ⟨(some 5), none, .faddr 0 (.t 1)⟩]
 (.l ⟨(some 14), none, .append 1 16 (.t 11) (.t 13)⟩ [⟨(some 10), none, .load 1 false (.t 9)⟩, ⟨(some 9), none, .faddr 2 (.t 1)⟩, ⟨(some 8), none, .load 1 false (.t 7)⟩, ⟨(some 7), none, .faddr 1 (.t 1)⟩, ⟨(some 6), none, .load 1 false (.t 5)⟩, ⟨(some 5), none, .faddr 0 (.t 1)⟩]
 (tq 16 (.build [(.int .i64 0), (.int .i64 0), (.str []), .nil, .nil] [(0, 1, (.t 6)), (1, 1, (.t 8)), (2, 1, (.t 10)), (3, 1, (.t 14)), (4, 1, (.t 15))]) (.l ⟨none, none, .store 5 (.t 3) (.t 16)⟩ []
 .done .non)) .non) .non)) (.l ⟨(some 15), none, .bslice 5 []⟩ [⟨(some 13), none, .load 1 false (.t 12)⟩, ⟨(some 12), none, .faddr 3 (.t 1)⟩, ⟨(some 10), none, .load 1 false (.t 9)⟩, ⟨(some 9), none, .faddr 2 (.t 1)⟩, ⟨(some 8), none, .load 1 false (.t 7)⟩, ⟨(some 7), none, .faddr 1 (.t 1)⟩, ⟨(some 6), none, .load 1 false (.t 5)⟩, ⟨(some 5), none, .faddr 0 (.t 1)⟩]
 (.l ⟨(some 11), none, .bslice 1 []⟩ [⟨(some 13), none, .load 1 false (.t 12)⟩, ⟨(some 12), none, .faddr 3 (.t 1)⟩, ⟨(some 10), none, .load 1 false (.t 9)⟩, ⟨(some 9), none, .faddr 2 (.t 1)⟩, ⟨(some 8), none, .load 1 false (.t 7)⟩, ⟨(some 7), none, .faddr 1 (.t 1)⟩, ⟨(some 6), none, .load 1 false (.t 5)⟩, ⟨(some 5), none, .faddr 0 (.t 1)⟩]
 (.l ⟨(some 14), none, .append 1 16 (.t 11) (.t 13)⟩ [⟨(some 10), none, .load 1 false (.t 9)⟩, ⟨(some 9), none, .faddr 2 (.t 1)⟩, ⟨(some 8), none, .load 1 false (.t 7)⟩, ⟨(some 7), none, .faddr 1 (.t 1)⟩, ⟨(some 6), none, .load 1 false (.t 5)⟩, ⟨(some 5), none, .faddr 0 (.t 1)⟩]
 (tq 16 (.build [(.int .i64 0), (.int .i64 0), (.str []), .nil, .nil] [(0, 1, (.t 6)), (1, 1, (.t 8)), (2, 1, (.t 10)), (3, 1, (.t 14)), (4, 1, (.t 15))]) (.l ⟨none, none, .store 5 (.t 3) (.t 16)⟩ []
 .done .non)) .non) .non) .non)) .non))))))))))))
 (.cut (.seq (.seq (.reg (tm 4 (.c (.int .i64 0)) .done))
 (.block 0 (.loop (.seq (.seq (.reg (tm 17 (.t 4) (tq 18 (.faddr 4 (.t 1)) (tq 19 (.load 1 false (.t 18)) (tq 20 (.len (.t 19)) (tq 21 (.bin .lss (.t 17) (.t 20)) .done))))))
 (.cond (.t 21) .skip
 (.exit 0)))
 (.seq (.block 1 (.reg (tq 24 (.faddr 4 (.t 3)) (tq 25 (.load 1 false (.t 24)) (tq 26 (.faddr 4 (.t 1)) (tq 27 (.load 1 false (.t 26)) (tm 28 (.t 4) (tq 29 (.iaddr 5 (.t 27) (.t 28)) (tq 30 (.load 5 true (.t 29)) (.l ⟨(some 31), none, .call 81 [(.t 30)]⟩ [⟨(some 25), none, .load 1 false (.t 24)⟩, ⟨(some 24), none, .faddr 4 (.t 3)⟩]
 (.l ⟨(some 32), none, .bslice 5 [(.t 31)]⟩ [⟨(some 25), none, .load 1 false (.t 24)⟩, ⟨(some 24), none, .faddr 4 (.t 3)⟩]
 (.l ⟨(some 33), none, .append 5 80 (.t 25) (.t 32)⟩ []
 (tq 34 (.faddr 4 (.t 3)) (.l ⟨none, none, .store 1 (.t 34) (.t 33)⟩ []
 .done .non)) .non) .non) .non))))))))))
 (.reg (tm 22 (.t 4) (tq 23 (.bin .add (.t 22) (.c (.int .i64 1))) (tm 4 (.t 23) .done)))))))))
 (.cut (.seq (.reg (tq 35 (.load 5 true (.t 3)) (.q ⟨none, none, .store 5 (.t 2) (.t 35)⟩
 .done)))
 .ret))))))
theorem fc81 : fcomp Try.prog Try.f81 = some (c81.erase, [.load 5 true (.t 2)], 36) := by kernel_rfl
def spec_l01Own_B_L1 (rec : (GJson → Option GJson)) : List GJson → (List GJson) → Option (List GJson)
  | [], x_22 =>
    some x_22
  | x_39 :: xs, x_22 =>
    (rec x_39).bind fun r_42 =>
    if (x_22 ++ [r_42]).length ≤ 2 ^ 30 then
    spec_l01Own_B_L1 rec xs  (x_22 ++ [r_42])
    else none

def spec_l01Own_B (rec : (GJson → Option GJson)) (j_1 : GJson) : Option GJson :=
    ((if ([] ++ j_1.Keys).length ≤ 2 ^ 30 then
    some ()
    else none : Option Unit)).bind fun _ =>
    (spec_l01Own_B_L1 rec j_1.Items []).bind fun x_31 =>
    some (⟨j_1.Kind, j_1.N, j_1.T, [] ++ j_1.Keys, x_31⟩ : GJson)
theorem w_spec_l01Own_B (rec : (GJson → Option GJson)) (hrec : ∀ a0 r, rec a0 = some r → CallOK Try.prog 81 .fresh [(encGJson a0)] (encGJson r)) (j_1 : GJson) (r : GJson) (hf : spec_l01Own_B rec j_1 = some r) : CallOK Try.prog 81 .fresh [(encGJson j_1)] (encGJson r) := by
 refine CallOK.of_awp mixed Try.func81 fc81 nle ?_; rw [argT_eq]; rw [encGJson_eq j_1]; unfold spec_l01Own_B at hf; unfold c81; refine (show awp Try.prog true 0 _ (ofL [(0, (.agg [(.int .i64 j_1.Kind), (.int .i64 j_1.N), (.str j_1.T), (.lst 1 (j_1.Keys.map AV.str)), (.lst 5 (j_1.Items.map encGJson))]))]) [] _ from ?_); refine awp_seq <| w_reg <| s_do (o_box (j := 0) (c := (.agg [(.int .i64 j_1.Kind), (.int .i64 j_1.N), (.str j_1.T), (.lst 1 (j_1.Keys.map AV.str)), (.lst 5 (j_1.Items.map encGJson))])) rfl trivial rfl rfl) <| s_do (o_box (j := 1) (c := (.agg [(.int .i64 0), (.int .i64 0), (.str []), .nil, .nil])) rfl trivial rfl rfl) <| w_done <| k_seq <| awp_seq <| ?_
 obtain ⟨p3, hb1, hf⟩ := ob hf
 refine awp_cut ([(1, (.ptr 0 0 0)), (2, (.ptr 1 0 0)), (3, (.ptr 2 0 0))], [.box 5 (.agg [(.int .i64 j_1.Kind), (.int .i64 j_1.N), (.str j_1.T), (.lst 1 (j_1.Keys.map AV.str)), (.lst 5 (j_1.Items.map encGJson))]), .box 5 (.agg [(.int .i64 0), (.int .i64 0), (.str []), .nil, .nil]), .box 5 (.agg [(.int .i64 j_1.Kind), (.int .i64 j_1.N), (.str j_1.T), (.own 3 0 (([] ++ j_1.Keys).length)), (.own 4 0 0)]), .row 1 (([] ++ j_1.Keys).map AV.str), .row 5 ([].map encGJson)]) ?_ ?_
 ·refine w_reg ?_
  obtain ⟨g4, hb1⟩ := og hb1
  refine s_q (.ptr 0 0 0) rfl trivial rfl <| s_q (.int .i64 j_1.Kind) rfl nle rfl <| s_q (.ptr 0 0 1) rfl trivial rfl <| s_q (.int .i64 j_1.N) rfl nle rfl <| s_q (.ptr 0 0 2) rfl trivial rfl <| s_q (.str j_1.T) rfl nle rfl <| s_q (.ptr 0 0 3) rfl trivial rfl <| s_q (.lst 1 (j_1.Keys.map AV.str)) rfl nle rfl <| ?_; refine s_dol (o_bslice (j := 2) (as' := []) rfl (fun _ => by decide) trivial (.refl _) rfl rfl rfl) (.inr ⟨⟨nle, rfl⟩, ⟨⟨trivial, rfl⟩, ⟨⟨nle, rfl⟩, ⟨⟨trivial, rfl⟩, ⟨⟨nle, rfl⟩, ⟨⟨trivial, rfl⟩, ⟨⟨nle, rfl⟩, ⟨⟨trivial, rfl⟩, trivial⟩⟩⟩⟩⟩⟩⟩⟩) ?_ ?_
  ·refine s_dol (o_bslice (j := 2) (as' := []) rfl (fun _ => by decide) trivial (.refl _) rfl rfl rfl) (.inr ⟨⟨nle, rfl⟩, ⟨⟨trivial, rfl⟩, ⟨⟨nle, rfl⟩, ⟨⟨trivial, rfl⟩, ⟨⟨nle, rfl⟩, ⟨⟨trivial, rfl⟩, ⟨⟨nle, rfl⟩, ⟨⟨trivial, rfl⟩, trivial⟩⟩⟩⟩⟩⟩⟩⟩) ?_ ?_
   ·refine s_dol (o_box (j := 2) (c := (.agg [(.int .i64 0), (.int .i64 0), (.str []), .nil, .nil])) rfl trivial rfl rfl) (.inr ⟨⟨nle, rfl⟩, ⟨⟨trivial, rfl⟩, ⟨⟨nle, rfl⟩, ⟨⟨trivial, rfl⟩, ⟨⟨nle, rfl⟩, ⟨⟨trivial, rfl⟩, ⟨⟨nle, rfl⟩, ⟨⟨trivial, rfl⟩, trivial⟩⟩⟩⟩⟩⟩⟩⟩) trivial ?_; refine s_dol (o_bslice (j := 3) (as' := []) rfl (fun _ => by decide) trivial (.refl _) rfl rfl rfl) (.inr ⟨⟨nle, rfl⟩, ⟨⟨trivial, rfl⟩, ⟨⟨nle, rfl⟩, ⟨⟨trivial, rfl⟩, ⟨⟨nle, rfl⟩, ⟨⟨trivial, rfl⟩, ⟨⟨nle, rfl⟩, ⟨⟨trivial, rfl⟩, trivial⟩⟩⟩⟩⟩⟩⟩⟩) ?_ ?_
    ·refine s_dol (o_bslice (j := 3) (as' := []) rfl (fun _ => by decide) trivial (.refl _) rfl rfl rfl) (.inr ⟨⟨nle, rfl⟩, ⟨⟨trivial, rfl⟩, ⟨⟨nle, rfl⟩, ⟨⟨trivial, rfl⟩, ⟨⟨nle, rfl⟩, ⟨⟨trivial, rfl⟩, ⟨⟨nle, rfl⟩, ⟨⟨trivial, rfl⟩, trivial⟩⟩⟩⟩⟩⟩⟩⟩) trivial ?_; refine s_dol (o_bslice (j := 4) (as' := []) rfl (fun _ => by decide) trivial (.refl _) rfl rfl rfl) (.inr ⟨⟨nle, rfl⟩, ⟨⟨trivial, rfl⟩, ⟨⟨nle, rfl⟩, ⟨⟨trivial, rfl⟩, ⟨⟨nle, rfl⟩, ⟨⟨trivial, rfl⟩, ⟨⟨nle, rfl⟩, ⟨⟨trivial, rfl⟩, trivial⟩⟩⟩⟩⟩⟩⟩⟩) trivial ?_
     refine s_dol (o_appendd (j := 5) (L := (([] ++ j_1.Keys).map AV.str)) (len := ([] ++ j_1.Keys).length) rfl false rfl rfl (fun _ => flm (fun _ => rfl) _) (fun _ _ _ => flm (fun _ => rfl) _) (by decide) ((by simp)) (by simp <;> omega) g4 rfl rfl) (.inr ⟨⟨nle, rfl⟩, ⟨⟨trivial, rfl⟩, ⟨⟨nle, rfl⟩, ⟨⟨trivial, rfl⟩, ⟨⟨nle, rfl⟩, ⟨⟨trivial, rfl⟩, trivial⟩⟩⟩⟩⟩⟩) trivial ?_
     refine s_q (.agg [(.int .i64 j_1.Kind), (.int .i64 j_1.N), (.str j_1.T), (.own 5 0 (([] ++ j_1.Keys).length)), (.own 3 0 0)]) rfl ⟨⟨rfl, nle, trivial⟩, ⟨⟨rfl, nle, trivial⟩, ⟨⟨rfl, nle, trivial⟩, ⟨⟨rfl, nle, trivial⟩, ⟨⟨rfl, nle, trivial⟩, trivial⟩⟩⟩⟩⟩ rfl <| s_dol0 (o_storebox (v := (.agg [(.int .i64 j_1.Kind), (.int .i64 j_1.N), (.str j_1.T), (.own 5 0 (([] ++ j_1.Keys).length)), (.own 3 0 0)])) (y' := (.agg [(.int .i64 j_1.Kind), (.int .i64 j_1.N), (.str j_1.T), (.own 5 0 (([] ++ j_1.Keys).length)), (.own 3 0 0)])) rfl rfl rfl trivial ⟨rfl, nle⟩ ⟨⟨rfl, trivial⟩, ⟨⟨rfl, trivial⟩, ⟨⟨rfl, trivial⟩, ⟨⟨rfl, trivial⟩, ⟨⟨rfl, trivial⟩, trivial⟩⟩⟩⟩⟩ rfl) trivial trivial <| w_done <| ?_; obtain rfl := os hb1; exact ⟨[], [0, 1, 2, 5, 3], _, _, rfl, rfl, ⟨.refl _, ⟨.refl _, ⟨.refl _, trivial⟩⟩⟩, (.cons (.refl _) (.cons (.refl _) (.cons (.box (.agg (.cons (.refl _) (.cons (.refl _) (.cons (.refl _) (.cons (.refl _) (.cons (.of_eq (congrArg (AV.own _ 0) (by simp))) .nil))))))) (.cons (.refl _) (.cons (.refl _) .nil)))))⟩
    ·refine s_dol (o_appendd (j := 4) (L := (([] ++ j_1.Keys).map AV.str)) (len := ([] ++ j_1.Keys).length) rfl false rfl rfl (fun _ => flm (fun _ => rfl) _) (fun _ _ _ => flm (fun _ => rfl) _) (by decide) ((by simp)) (by simp <;> omega) g4 rfl rfl) (.inr ⟨⟨nle, rfl⟩, ⟨⟨trivial, rfl⟩, ⟨⟨nle, rfl⟩, ⟨⟨trivial, rfl⟩, ⟨⟨nle, rfl⟩, ⟨⟨trivial, rfl⟩, trivial⟩⟩⟩⟩⟩⟩) ?_ ?_
     ·refine s_dol (o_bslice (j := 4) (as' := []) rfl (fun _ => by decide) trivial (.refl _) rfl rfl rfl) (.inr ⟨⟨nle, rfl⟩, ⟨⟨trivial, rfl⟩, ⟨⟨nle, rfl⟩, ⟨⟨trivial, rfl⟩, ⟨⟨nle, rfl⟩, ⟨⟨trivial, rfl⟩, ⟨⟨nle, rfl⟩, ⟨⟨trivial, rfl⟩, trivial⟩⟩⟩⟩⟩⟩⟩⟩) trivial ?_
      refine s_dol (o_appendd (j := 5) (L := (([] ++ j_1.Keys).map AV.str)) (len := ([] ++ j_1.Keys).length) rfl false rfl rfl (fun _ => flm (fun _ => rfl) _) (fun _ _ _ => flm (fun _ => rfl) _) (by decide) ((by simp)) (by simp <;> omega) g4 rfl rfl) (.inr ⟨⟨nle, rfl⟩, ⟨⟨trivial, rfl⟩, ⟨⟨nle, rfl⟩, ⟨⟨trivial, rfl⟩, ⟨⟨nle, rfl⟩, ⟨⟨trivial, rfl⟩, trivial⟩⟩⟩⟩⟩⟩) trivial ?_
      refine s_q (.agg [(.int .i64 j_1.Kind), (.int .i64 j_1.N), (.str j_1.T), (.own 5 0 (([] ++ j_1.Keys).length)), (.own 4 0 0)]) rfl ⟨⟨rfl, nle, trivial⟩, ⟨⟨rfl, nle, trivial⟩, ⟨⟨rfl, nle, trivial⟩, ⟨⟨rfl, nle, trivial⟩, ⟨⟨rfl, nle, trivial⟩, trivial⟩⟩⟩⟩⟩ rfl <| s_dol0 (o_storebox (v := (.agg [(.int .i64 j_1.Kind), (.int .i64 j_1.N), (.str j_1.T), (.own 5 0 (([] ++ j_1.Keys).length)), (.own 4 0 0)])) (y' := (.agg [(.int .i64 j_1.Kind), (.int .i64 j_1.N), (.str j_1.T), (.own 5 0 (([] ++ j_1.Keys).length)), (.own 4 0 0)])) rfl rfl rfl trivial ⟨rfl, nle⟩ ⟨⟨rfl, trivial⟩, ⟨⟨rfl, trivial⟩, ⟨⟨rfl, trivial⟩, ⟨⟨rfl, trivial⟩, ⟨⟨rfl, trivial⟩, trivial⟩⟩⟩⟩⟩ rfl) trivial trivial <| w_done <| ?_; obtain rfl := os hb1; exact ⟨[], [0, 1, 2, 5, 4], _, _, rfl, rfl, ⟨.refl _, ⟨.refl _, ⟨.refl _, trivial⟩⟩⟩, (.cons (.refl _) (.cons (.refl _) (.cons (.box (.agg (.cons (.refl _) (.cons (.refl _) (.cons (.refl _) (.cons (.refl _) (.cons (.of_eq (congrArg (AV.own _ 0) (by simp))) .nil))))))) (.cons (.refl _) (.cons (.refl _) .nil)))))⟩
     ·refine s_dol (o_bslice (j := 5) (as' := []) rfl (fun _ => by decide) trivial (.refl _) rfl rfl rfl) (.inr ⟨⟨nle, rfl⟩, ⟨⟨trivial, rfl⟩, ⟨⟨nle, rfl⟩, ⟨⟨trivial, rfl⟩, ⟨⟨nle, rfl⟩, ⟨⟨trivial, rfl⟩, ⟨⟨nle, rfl⟩, ⟨⟨trivial, rfl⟩, trivial⟩⟩⟩⟩⟩⟩⟩⟩) trivial ?_; refine s_q (.agg [(.int .i64 j_1.Kind), (.int .i64 j_1.N), (.str j_1.T), (.own 4 0 (([] ++ j_1.Keys).length)), (.own 5 0 0)]) rfl ⟨⟨rfl, nle, trivial⟩, ⟨⟨rfl, nle, trivial⟩, ⟨⟨rfl, nle, trivial⟩, ⟨⟨rfl, nle, trivial⟩, ⟨⟨rfl, nle, trivial⟩, trivial⟩⟩⟩⟩⟩ rfl <| s_dol0 (o_storebox (v := (.agg [(.int .i64 j_1.Kind), (.int .i64 j_1.N), (.str j_1.T), (.own 4 0 (([] ++ j_1.Keys).length)), (.own 5 0 0)])) (y' := (.agg [(.int .i64 j_1.Kind), (.int .i64 j_1.N), (.str j_1.T), (.own 4 0 (([] ++ j_1.Keys).length)), (.own 5 0 0)])) rfl rfl rfl trivial ⟨rfl, nle⟩ ⟨⟨rfl, trivial⟩, ⟨⟨rfl, trivial⟩, ⟨⟨rfl, trivial⟩, ⟨⟨rfl, trivial⟩, ⟨⟨rfl, trivial⟩, trivial⟩⟩⟩⟩⟩ rfl) trivial trivial <| ?_
      refine w_done ?_; obtain rfl := os hb1; exact ⟨[], [0, 1, 2, 4, 5], _, _, rfl, rfl, ⟨.refl _, ⟨.refl _, ⟨.refl _, trivial⟩⟩⟩, (.cons (.refl _) (.cons (.refl _) (.cons (.box (.agg (.cons (.refl _) (.cons (.refl _) (.cons (.refl _) (.cons (.refl _) (.cons (.of_eq (congrArg (AV.own _ 0) (by simp))) .nil))))))) (.cons (.refl _) (.cons (.refl _) .nil)))))⟩
   ·refine s_dol (o_bslice (j := 3) (as' := []) rfl (fun _ => by decide) trivial (.refl _) rfl rfl rfl) (.inr ⟨⟨nle, rfl⟩, ⟨⟨trivial, rfl⟩, ⟨⟨nle, rfl⟩, ⟨⟨trivial, rfl⟩, ⟨⟨nle, rfl⟩, ⟨⟨trivial, rfl⟩, ⟨⟨nle, rfl⟩, ⟨⟨trivial, rfl⟩, trivial⟩⟩⟩⟩⟩⟩⟩⟩) ?_ ?_
    ·refine s_dol (o_box (j := 3) (c := (.agg [(.int .i64 0), (.int .i64 0), (.str []), .nil, .nil])) rfl trivial rfl rfl) (.inr ⟨⟨nle, rfl⟩, ⟨⟨trivial, rfl⟩, ⟨⟨nle, rfl⟩, ⟨⟨trivial, rfl⟩, ⟨⟨nle, rfl⟩, ⟨⟨trivial, rfl⟩, ⟨⟨nle, rfl⟩, ⟨⟨trivial, rfl⟩, trivial⟩⟩⟩⟩⟩⟩⟩⟩) trivial ?_; refine s_dol (o_bslice (j := 4) (as' := []) rfl (fun _ => by decide) trivial (.refl _) rfl rfl rfl) (.inr ⟨⟨nle, rfl⟩, ⟨⟨trivial, rfl⟩, ⟨⟨nle, rfl⟩, ⟨⟨trivial, rfl⟩, ⟨⟨nle, rfl⟩, ⟨⟨trivial, rfl⟩, ⟨⟨nle, rfl⟩, ⟨⟨trivial, rfl⟩, trivial⟩⟩⟩⟩⟩⟩⟩⟩) trivial ?_
     refine s_dol (o_appendd (j := 5) (L := (([] ++ j_1.Keys).map AV.str)) (len := ([] ++ j_1.Keys).length) rfl false rfl rfl (fun _ => flm (fun _ => rfl) _) (fun _ _ _ => flm (fun _ => rfl) _) (by decide) ((by simp)) (by simp <;> omega) g4 rfl rfl) (.inr ⟨⟨nle, rfl⟩, ⟨⟨trivial, rfl⟩, ⟨⟨nle, rfl⟩, ⟨⟨trivial, rfl⟩, ⟨⟨nle, rfl⟩, ⟨⟨trivial, rfl⟩, trivial⟩⟩⟩⟩⟩⟩) trivial ?_
     refine s_q (.agg [(.int .i64 j_1.Kind), (.int .i64 j_1.N), (.str j_1.T), (.own 5 0 (([] ++ j_1.Keys).length)), (.own 2 0 0)]) rfl ⟨⟨rfl, nle, trivial⟩, ⟨⟨rfl, nle, trivial⟩, ⟨⟨rfl, nle, trivial⟩, ⟨⟨rfl, nle, trivial⟩, ⟨⟨rfl, nle, trivial⟩, trivial⟩⟩⟩⟩⟩ rfl <| s_dol0 (o_storebox (v := (.agg [(.int .i64 j_1.Kind), (.int .i64 j_1.N), (.str j_1.T), (.own 5 0 (([] ++ j_1.Keys).length)), (.own 2 0 0)])) (y' := (.agg [(.int .i64 j_1.Kind), (.int .i64 j_1.N), (.str j_1.T), (.own 5 0 (([] ++ j_1.Keys).length)), (.own 2 0 0)])) rfl rfl rfl trivial ⟨rfl, nle⟩ ⟨⟨rfl, trivial⟩, ⟨⟨rfl, trivial⟩, ⟨⟨rfl, trivial⟩, ⟨⟨rfl, trivial⟩, ⟨⟨rfl, trivial⟩, trivial⟩⟩⟩⟩⟩ rfl) trivial trivial <| w_done <| ?_; obtain rfl := os hb1; exact ⟨[], [0, 1, 3, 5, 2], _, _, rfl, rfl, ⟨.refl _, ⟨.refl _, ⟨.refl _, trivial⟩⟩⟩, (.cons (.refl _) (.cons (.refl _) (.cons (.box (.agg (.cons (.refl _) (.cons (.refl _) (.cons (.refl _) (.cons (.refl _) (.cons (.of_eq (congrArg (AV.own _ 0) (by simp))) .nil))))))) (.cons (.refl _) (.cons (.refl _) .nil)))))⟩
    ·refine s_dol (o_appendd (j := 4) (L := (([] ++ j_1.Keys).map AV.str)) (len := ([] ++ j_1.Keys).length) rfl false rfl rfl (fun _ => flm (fun _ => rfl) _) (fun _ _ _ => flm (fun _ => rfl) _) (by decide) ((by simp)) (by simp <;> omega) g4 rfl rfl) (.inr ⟨⟨nle, rfl⟩, ⟨⟨trivial, rfl⟩, ⟨⟨nle, rfl⟩, ⟨⟨trivial, rfl⟩, ⟨⟨nle, rfl⟩, ⟨⟨trivial, rfl⟩, trivial⟩⟩⟩⟩⟩⟩) ?_ ?_
     ·refine s_dol (o_box (j := 4) (c := (.agg [(.int .i64 0), (.int .i64 0), (.str []), .nil, .nil])) rfl trivial rfl rfl) (.inr ⟨⟨nle, rfl⟩, ⟨⟨trivial, rfl⟩, ⟨⟨nle, rfl⟩, ⟨⟨trivial, rfl⟩, ⟨⟨nle, rfl⟩, ⟨⟨trivial, rfl⟩, ⟨⟨nle, rfl⟩, ⟨⟨trivial, rfl⟩, trivial⟩⟩⟩⟩⟩⟩⟩⟩) trivial ?_
      refine s_dol (o_appendd (j := 5) (L := (([] ++ j_1.Keys).map AV.str)) (len := ([] ++ j_1.Keys).length) rfl false rfl rfl (fun _ => flm (fun _ => rfl) _) (fun _ _ _ => flm (fun _ => rfl) _) (by decide) ((by simp)) (by simp <;> omega) g4 rfl rfl) (.inr ⟨⟨nle, rfl⟩, ⟨⟨trivial, rfl⟩, ⟨⟨nle, rfl⟩, ⟨⟨trivial, rfl⟩, ⟨⟨nle, rfl⟩, ⟨⟨trivial, rfl⟩, trivial⟩⟩⟩⟩⟩⟩) trivial ?_
      refine s_q (.agg [(.int .i64 j_1.Kind), (.int .i64 j_1.N), (.str j_1.T), (.own 5 0 (([] ++ j_1.Keys).length)), (.own 2 0 0)]) rfl ⟨⟨rfl, nle, trivial⟩, ⟨⟨rfl, nle, trivial⟩, ⟨⟨rfl, nle, trivial⟩, ⟨⟨rfl, nle, trivial⟩, ⟨⟨rfl, nle, trivial⟩, trivial⟩⟩⟩⟩⟩ rfl <| s_dol0 (o_storebox (v := (.agg [(.int .i64 j_1.Kind), (.int .i64 j_1.N), (.str j_1.T), (.own 5 0 (([] ++ j_1.Keys).length)), (.own 2 0 0)])) (y' := (.agg [(.int .i64 j_1.Kind), (.int .i64 j_1.N), (.str j_1.T), (.own 5 0 (([] ++ j_1.Keys).length)), (.own 2 0 0)])) rfl rfl rfl trivial ⟨rfl, nle⟩ ⟨⟨rfl, trivial⟩, ⟨⟨rfl, trivial⟩, ⟨⟨rfl, trivial⟩, ⟨⟨rfl, trivial⟩, ⟨⟨rfl, trivial⟩, trivial⟩⟩⟩⟩⟩ rfl) trivial trivial <| w_done <| ?_; obtain rfl := os hb1; exact ⟨[], [0, 1, 4, 5, 2], _, _, rfl, rfl, ⟨.refl _, ⟨.refl _, ⟨.refl _, trivial⟩⟩⟩, (.cons (.refl _) (.cons (.refl _) (.cons (.box (.agg (.cons (.refl _) (.cons (.refl _) (.cons (.refl _) (.cons (.refl _) (.cons (.of_eq (congrArg (AV.own _ 0) (by simp))) .nil))))))) (.cons (.refl _) (.cons (.refl _) .nil)))))⟩
     ·refine s_q (.agg [(.int .i64 j_1.Kind), (.int .i64 j_1.N), (.str j_1.T), (.own 4 0 (([] ++ j_1.Keys).length)), (.own 2 0 0)]) rfl ⟨⟨rfl, nle, trivial⟩, ⟨⟨rfl, nle, trivial⟩, ⟨⟨rfl, nle, trivial⟩, ⟨⟨rfl, nle, trivial⟩, ⟨⟨rfl, nle, trivial⟩, trivial⟩⟩⟩⟩⟩ rfl <| s_dol (o_box (j := 5) (c := (.agg [(.int .i64 0), (.int .i64 0), (.str []), .nil, .nil])) rfl trivial rfl rfl) (.inr ⟨⟨⟨⟨rfl, nle, trivial⟩, ⟨⟨rfl, nle, trivial⟩, ⟨⟨rfl, nle, trivial⟩, ⟨⟨rfl, nle, trivial⟩, ⟨⟨rfl, nle, trivial⟩, trivial⟩⟩⟩⟩⟩, rfl⟩, ⟨⟨nle, rfl⟩, ⟨⟨trivial, rfl⟩, ⟨⟨nle, rfl⟩, ⟨⟨trivial, rfl⟩, ⟨⟨nle, rfl⟩, ⟨⟨trivial, rfl⟩, ⟨⟨nle, rfl⟩, ⟨⟨trivial, rfl⟩, trivial⟩⟩⟩⟩⟩⟩⟩⟩⟩) trivial <| s_dol0 (o_storebox (v := (.agg [(.int .i64 j_1.Kind), (.int .i64 j_1.N), (.str j_1.T), (.own 4 0 (([] ++ j_1.Keys).length)), (.own 2 0 0)])) (y' := (.agg [(.int .i64 j_1.Kind), (.int .i64 j_1.N), (.str j_1.T), (.own 4 0 (([] ++ j_1.Keys).length)), (.own 2 0 0)])) rfl rfl rfl trivial ⟨rfl, nle⟩ ⟨⟨rfl, trivial⟩, ⟨⟨rfl, trivial⟩, ⟨⟨rfl, trivial⟩, ⟨⟨rfl, trivial⟩, ⟨⟨rfl, trivial⟩, trivial⟩⟩⟩⟩⟩ rfl) trivial trivial <| ?_
      refine w_done ?_; obtain rfl := os hb1; exact ⟨[], [0, 1, 5, 4, 2], _, _, rfl, rfl, ⟨.refl _, ⟨.refl _, ⟨.refl _, trivial⟩⟩⟩, (.cons (.refl _) (.cons (.refl _) (.cons (.box (.agg (.cons (.refl _) (.cons (.refl _) (.cons (.refl _) (.cons (.refl _) (.cons (.of_eq (congrArg (AV.own _ 0) (by simp))) .nil))))))) (.cons (.refl _) (.cons (.refl _) .nil)))))⟩
  ·refine s_dol (o_appendd (j := 3) (L := (([] ++ j_1.Keys).map AV.str)) (len := ([] ++ j_1.Keys).length) rfl false rfl rfl (fun _ => flm (fun _ => rfl) _) (fun _ _ _ => flm (fun _ => rfl) _) (by decide) ((by simp)) (by simp <;> omega) g4 rfl rfl) (.inr ⟨⟨nle, rfl⟩, ⟨⟨trivial, rfl⟩, ⟨⟨nle, rfl⟩, ⟨⟨trivial, rfl⟩, ⟨⟨nle, rfl⟩, ⟨⟨trivial, rfl⟩, trivial⟩⟩⟩⟩⟩⟩) ?_ ?_
   ·refine s_dol (o_bslice (j := 3) (as' := []) rfl (fun _ => by decide) trivial (.refl _) rfl rfl rfl) (.inr ⟨⟨nle, rfl⟩, ⟨⟨trivial, rfl⟩, ⟨⟨nle, rfl⟩, ⟨⟨trivial, rfl⟩, ⟨⟨nle, rfl⟩, ⟨⟨trivial, rfl⟩, ⟨⟨nle, rfl⟩, ⟨⟨trivial, rfl⟩, trivial⟩⟩⟩⟩⟩⟩⟩⟩) ?_ ?_
    ·refine s_dol (o_box (j := 3) (c := (.agg [(.int .i64 0), (.int .i64 0), (.str []), .nil, .nil])) rfl trivial rfl rfl) (.inr ⟨⟨nle, rfl⟩, ⟨⟨trivial, rfl⟩, ⟨⟨nle, rfl⟩, ⟨⟨trivial, rfl⟩, ⟨⟨nle, rfl⟩, ⟨⟨trivial, rfl⟩, ⟨⟨nle, rfl⟩, ⟨⟨trivial, rfl⟩, trivial⟩⟩⟩⟩⟩⟩⟩⟩) trivial ?_
     refine s_dol (o_appendd (j := 4) (L := (([] ++ j_1.Keys).map AV.str)) (len := ([] ++ j_1.Keys).length) rfl false rfl rfl (fun _ => flm (fun _ => rfl) _) (fun _ _ _ => flm (fun _ => rfl) _) (by decide) ((by simp)) (by simp <;> omega) g4 rfl rfl) (.inr ⟨⟨nle, rfl⟩, ⟨⟨trivial, rfl⟩, ⟨⟨nle, rfl⟩, ⟨⟨trivial, rfl⟩, ⟨⟨nle, rfl⟩, ⟨⟨trivial, rfl⟩, trivial⟩⟩⟩⟩⟩⟩) ?_ ?_
     ·refine s_dol (o_bslice (j := 4) (as' := []) rfl (fun _ => by decide) trivial (.refl _) rfl rfl rfl) (.inr ⟨⟨nle, rfl⟩, ⟨⟨trivial, rfl⟩, ⟨⟨nle, rfl⟩, ⟨⟨trivial, rfl⟩, ⟨⟨nle, rfl⟩, ⟨⟨trivial, rfl⟩, ⟨⟨nle, rfl⟩, ⟨⟨trivial, rfl⟩, trivial⟩⟩⟩⟩⟩⟩⟩⟩) trivial ?_
      refine s_dol (o_appendd (j := 5) (L := (([] ++ j_1.Keys).map AV.str)) (len := ([] ++ j_1.Keys).length) rfl false rfl rfl (fun _ => flm (fun _ => rfl) _) (fun _ _ _ => flm (fun _ => rfl) _) (by decide) ((by simp)) (by simp <;> omega) g4 rfl rfl) (.inr ⟨⟨nle, rfl⟩, ⟨⟨trivial, rfl⟩, ⟨⟨nle, rfl⟩, ⟨⟨trivial, rfl⟩, ⟨⟨nle, rfl⟩, ⟨⟨trivial, rfl⟩, trivial⟩⟩⟩⟩⟩⟩) trivial ?_
      refine s_q (.agg [(.int .i64 j_1.Kind), (.int .i64 j_1.N), (.str j_1.T), (.own 5 0 (([] ++ j_1.Keys).length)), (.own 4 0 0)]) rfl ⟨⟨rfl, nle, trivial⟩, ⟨⟨rfl, nle, trivial⟩, ⟨⟨rfl, nle, trivial⟩, ⟨⟨rfl, nle, trivial⟩, ⟨⟨rfl, nle, trivial⟩, trivial⟩⟩⟩⟩⟩ rfl <| s_dol0 (o_storebox (v := (.agg [(.int .i64 j_1.Kind), (.int .i64 j_1.N), (.str j_1.T), (.own 5 0 (([] ++ j_1.Keys).length)), (.own 4 0 0)])) (y' := (.agg [(.int .i64 j_1.Kind), (.int .i64 j_1.N), (.str j_1.T), (.own 5 0 (([] ++ j_1.Keys).length)), (.own 4 0 0)])) rfl rfl rfl trivial ⟨rfl, nle⟩ ⟨⟨rfl, trivial⟩, ⟨⟨rfl, trivial⟩, ⟨⟨rfl, trivial⟩, ⟨⟨rfl, trivial⟩, ⟨⟨rfl, trivial⟩, trivial⟩⟩⟩⟩⟩ rfl) trivial trivial <| w_done <| ?_; obtain rfl := os hb1; exact ⟨[], [0, 1, 3, 5, 4], _, _, rfl, rfl, ⟨.refl _, ⟨.refl _, ⟨.refl _, trivial⟩⟩⟩, (.cons (.refl _) (.cons (.refl _) (.cons (.box (.agg (.cons (.refl _) (.cons (.refl _) (.cons (.refl _) (.cons (.refl _) (.cons (.of_eq (congrArg (AV.own _ 0) (by simp))) .nil))))))) (.cons (.refl _) (.cons (.refl _) .nil)))))⟩
     ·refine s_dol (o_bslice (j := 5) (as' := []) rfl (fun _ => by decide) trivial (.refl _) rfl rfl rfl) (.inr ⟨⟨nle, rfl⟩, ⟨⟨trivial, rfl⟩, ⟨⟨nle, rfl⟩, ⟨⟨trivial, rfl⟩, ⟨⟨nle, rfl⟩, ⟨⟨trivial, rfl⟩, ⟨⟨nle, rfl⟩, ⟨⟨trivial, rfl⟩, trivial⟩⟩⟩⟩⟩⟩⟩⟩) trivial ?_; refine s_q (.agg [(.int .i64 j_1.Kind), (.int .i64 j_1.N), (.str j_1.T), (.own 4 0 (([] ++ j_1.Keys).length)), (.own 5 0 0)]) rfl ⟨⟨rfl, nle, trivial⟩, ⟨⟨rfl, nle, trivial⟩, ⟨⟨rfl, nle, trivial⟩, ⟨⟨rfl, nle, trivial⟩, ⟨⟨rfl, nle, trivial⟩, trivial⟩⟩⟩⟩⟩ rfl <| s_dol0 (o_storebox (v := (.agg [(.int .i64 j_1.Kind), (.int .i64 j_1.N), (.str j_1.T), (.own 4 0 (([] ++ j_1.Keys).length)), (.own 5 0 0)])) (y' := (.agg [(.int .i64 j_1.Kind), (.int .i64 j_1.N), (.str j_1.T), (.own 4 0 (([] ++ j_1.Keys).length)), (.own 5 0 0)])) rfl rfl rfl trivial ⟨rfl, nle⟩ ⟨⟨rfl, trivial⟩, ⟨⟨rfl, trivial⟩, ⟨⟨rfl, trivial⟩, ⟨⟨rfl, trivial⟩, ⟨⟨rfl, trivial⟩, trivial⟩⟩⟩⟩⟩ rfl) trivial trivial <| ?_
      refine w_done ?_; obtain rfl := os hb1; exact ⟨[], [0, 1, 3, 4, 5], _, _, rfl, rfl, ⟨.refl _, ⟨.refl _, ⟨.refl _, trivial⟩⟩⟩, (.cons (.refl _) (.cons (.refl _) (.cons (.box (.agg (.cons (.refl _) (.cons (.refl _) (.cons (.refl _) (.cons (.refl _) (.cons (.of_eq (congrArg (AV.own _ 0) (by simp))) .nil))))))) (.cons (.refl _) (.cons (.refl _) .nil)))))⟩
    ·refine s_dol (o_appendd (j := 4) (L := (([] ++ j_1.Keys).map AV.str)) (len := ([] ++ j_1.Keys).length) rfl false rfl rfl (fun _ => flm (fun _ => rfl) _) (fun _ _ _ => flm (fun _ => rfl) _) (by decide) ((by simp)) (by simp <;> omega) g4 rfl rfl) (.inr ⟨⟨nle, rfl⟩, ⟨⟨trivial, rfl⟩, ⟨⟨nle, rfl⟩, ⟨⟨trivial, rfl⟩, ⟨⟨nle, rfl⟩, ⟨⟨trivial, rfl⟩, trivial⟩⟩⟩⟩⟩⟩) ?_ ?_
     ·refine s_dol (o_box (j := 4) (c := (.agg [(.int .i64 0), (.int .i64 0), (.str []), .nil, .nil])) rfl trivial rfl rfl) (.inr ⟨⟨nle, rfl⟩, ⟨⟨trivial, rfl⟩, ⟨⟨nle, rfl⟩, ⟨⟨trivial, rfl⟩, ⟨⟨nle, rfl⟩, ⟨⟨trivial, rfl⟩, ⟨⟨nle, rfl⟩, ⟨⟨trivial, rfl⟩, trivial⟩⟩⟩⟩⟩⟩⟩⟩) trivial ?_
      refine s_dol (o_appendd (j := 5) (L := (([] ++ j_1.Keys).map AV.str)) (len := ([] ++ j_1.Keys).length) rfl false rfl rfl (fun _ => flm (fun _ => rfl) _) (fun _ _ _ => flm (fun _ => rfl) _) (by decide) ((by simp)) (by simp <;> omega) g4 rfl rfl) (.inr ⟨⟨nle, rfl⟩, ⟨⟨trivial, rfl⟩, ⟨⟨nle, rfl⟩, ⟨⟨trivial, rfl⟩, ⟨⟨nle, rfl⟩, ⟨⟨trivial, rfl⟩, trivial⟩⟩⟩⟩⟩⟩) trivial ?_
      refine s_q (.agg [(.int .i64 j_1.Kind), (.int .i64 j_1.N), (.str j_1.T), (.own 5 0 (([] ++ j_1.Keys).length)), (.own 3 0 0)]) rfl ⟨⟨rfl, nle, trivial⟩, ⟨⟨rfl, nle, trivial⟩, ⟨⟨rfl, nle, trivial⟩, ⟨⟨rfl, nle, trivial⟩, ⟨⟨rfl, nle, trivial⟩, trivial⟩⟩⟩⟩⟩ rfl <| s_dol0 (o_storebox (v := (.agg [(.int .i64 j_1.Kind), (.int .i64 j_1.N), (.str j_1.T), (.own 5 0 (([] ++ j_1.Keys).length)), (.own 3 0 0)])) (y' := (.agg [(.int .i64 j_1.Kind), (.int .i64 j_1.N), (.str j_1.T), (.own 5 0 (([] ++ j_1.Keys).length)), (.own 3 0 0)])) rfl rfl rfl trivial ⟨rfl, nle⟩ ⟨⟨rfl, trivial⟩, ⟨⟨rfl, trivial⟩, ⟨⟨rfl, trivial⟩, ⟨⟨rfl, trivial⟩, ⟨⟨rfl, trivial⟩, trivial⟩⟩⟩⟩⟩ rfl) trivial trivial <| w_done <| ?_; obtain rfl := os hb1; exact ⟨[], [0, 1, 4, 5, 3], _, _, rfl, rfl, ⟨.refl _, ⟨.refl _, ⟨.refl _, trivial⟩⟩⟩, (.cons (.refl _) (.cons (.refl _) (.cons (.box (.agg (.cons (.refl _) (.cons (.refl _) (.cons (.refl _) (.cons (.refl _) (.cons (.of_eq (congrArg (AV.own _ 0) (by simp))) .nil))))))) (.cons (.refl _) (.cons (.refl _) .nil)))))⟩
     ·refine s_q (.agg [(.int .i64 j_1.Kind), (.int .i64 j_1.N), (.str j_1.T), (.own 4 0 (([] ++ j_1.Keys).length)), (.own 3 0 0)]) rfl ⟨⟨rfl, nle, trivial⟩, ⟨⟨rfl, nle, trivial⟩, ⟨⟨rfl, nle, trivial⟩, ⟨⟨rfl, nle, trivial⟩, ⟨⟨rfl, nle, trivial⟩, trivial⟩⟩⟩⟩⟩ rfl <| s_dol (o_box (j := 5) (c := (.agg [(.int .i64 0), (.int .i64 0), (.str []), .nil, .nil])) rfl trivial rfl rfl) (.inr ⟨⟨⟨⟨rfl, nle, trivial⟩, ⟨⟨rfl, nle, trivial⟩, ⟨⟨rfl, nle, trivial⟩, ⟨⟨rfl, nle, trivial⟩, ⟨⟨rfl, nle, trivial⟩, trivial⟩⟩⟩⟩⟩, rfl⟩, ⟨⟨nle, rfl⟩, ⟨⟨trivial, rfl⟩, ⟨⟨nle, rfl⟩, ⟨⟨trivial, rfl⟩, ⟨⟨nle, rfl⟩, ⟨⟨trivial, rfl⟩, ⟨⟨nle, rfl⟩, ⟨⟨trivial, rfl⟩, trivial⟩⟩⟩⟩⟩⟩⟩⟩⟩) trivial <| s_dol0 (o_storebox (v := (.agg [(.int .i64 j_1.Kind), (.int .i64 j_1.N), (.str j_1.T), (.own 4 0 (([] ++ j_1.Keys).length)), (.own 3 0 0)])) (y' := (.agg [(.int .i64 j_1.Kind), (.int .i64 j_1.N), (.str j_1.T), (.own 4 0 (([] ++ j_1.Keys).length)), (.own 3 0 0)])) rfl rfl rfl trivial ⟨rfl, nle⟩ ⟨⟨rfl, trivial⟩, ⟨⟨rfl, trivial⟩, ⟨⟨rfl, trivial⟩, ⟨⟨rfl, trivial⟩, ⟨⟨rfl, trivial⟩, trivial⟩⟩⟩⟩⟩ rfl) trivial trivial <| ?_
      refine w_done ?_; obtain rfl := os hb1; exact ⟨[], [0, 1, 5, 4, 3], _, _, rfl, rfl, ⟨.refl _, ⟨.refl _, ⟨.refl _, trivial⟩⟩⟩, (.cons (.refl _) (.cons (.refl _) (.cons (.box (.agg (.cons (.refl _) (.cons (.refl _) (.cons (.refl _) (.cons (.refl _) (.cons (.of_eq (congrArg (AV.own _ 0) (by simp))) .nil))))))) (.cons (.refl _) (.cons (.refl _) .nil)))))⟩
   ·refine s_dol (o_bslice (j := 4) (as' := []) rfl (fun _ => by decide) trivial (.refl _) rfl rfl rfl) (.inr ⟨⟨nle, rfl⟩, ⟨⟨trivial, rfl⟩, ⟨⟨nle, rfl⟩, ⟨⟨trivial, rfl⟩, ⟨⟨nle, rfl⟩, ⟨⟨trivial, rfl⟩, ⟨⟨nle, rfl⟩, ⟨⟨trivial, rfl⟩, trivial⟩⟩⟩⟩⟩⟩⟩⟩) ?_ ?_
    ·refine s_dol (o_box (j := 4) (c := (.agg [(.int .i64 0), (.int .i64 0), (.str []), .nil, .nil])) rfl trivial rfl rfl) (.inr ⟨⟨nle, rfl⟩, ⟨⟨trivial, rfl⟩, ⟨⟨nle, rfl⟩, ⟨⟨trivial, rfl⟩, ⟨⟨nle, rfl⟩, ⟨⟨trivial, rfl⟩, ⟨⟨nle, rfl⟩, ⟨⟨trivial, rfl⟩, trivial⟩⟩⟩⟩⟩⟩⟩⟩) trivial ?_; refine s_dol (o_bslice (j := 5) (as' := []) rfl (fun _ => by decide) trivial (.refl _) rfl rfl rfl) (.inr ⟨⟨nle, rfl⟩, ⟨⟨trivial, rfl⟩, ⟨⟨nle, rfl⟩, ⟨⟨trivial, rfl⟩, ⟨⟨nle, rfl⟩, ⟨⟨trivial, rfl⟩, ⟨⟨nle, rfl⟩, ⟨⟨trivial, rfl⟩, trivial⟩⟩⟩⟩⟩⟩⟩⟩) trivial ?_; refine s_q (.agg [(.int .i64 j_1.Kind), (.int .i64 j_1.N), (.str j_1.T), (.own 3 0 (([] ++ j_1.Keys).length)), (.own 5 0 0)]) rfl ⟨⟨rfl, nle, trivial⟩, ⟨⟨rfl, nle, trivial⟩, ⟨⟨rfl, nle, trivial⟩, ⟨⟨rfl, nle, trivial⟩, ⟨⟨rfl, nle, trivial⟩, trivial⟩⟩⟩⟩⟩ rfl ?_
     refine s_dol0 (o_storebox (v := (.agg [(.int .i64 j_1.Kind), (.int .i64 j_1.N), (.str j_1.T), (.own 3 0 (([] ++ j_1.Keys).length)), (.own 5 0 0)])) (y' := (.agg [(.int .i64 j_1.Kind), (.int .i64 j_1.N), (.str j_1.T), (.own 3 0 (([] ++ j_1.Keys).length)), (.own 5 0 0)])) rfl rfl rfl trivial ⟨rfl, nle⟩ ⟨⟨rfl, trivial⟩, ⟨⟨rfl, trivial⟩, ⟨⟨rfl, trivial⟩, ⟨⟨rfl, trivial⟩, ⟨⟨rfl, trivial⟩, trivial⟩⟩⟩⟩⟩ rfl) trivial trivial <| w_done <| ?_; obtain rfl := os hb1; exact ⟨[], [0, 1, 4, 3, 5], _, _, rfl, rfl, ⟨.refl _, ⟨.refl _, ⟨.refl _, trivial⟩⟩⟩, (.cons (.refl _) (.cons (.refl _) (.cons (.box (.agg (.cons (.refl _) (.cons (.refl _) (.cons (.refl _) (.cons (.refl _) (.cons (.of_eq (congrArg (AV.own _ 0) (by simp))) .nil))))))) (.cons (.refl _) (.cons (.refl _) .nil)))))⟩
    ·refine s_q (.agg [(.int .i64 j_1.Kind), (.int .i64 j_1.N), (.str j_1.T), (.own 3 0 (([] ++ j_1.Keys).length)), (.own 4 0 0)]) rfl ⟨⟨rfl, nle, trivial⟩, ⟨⟨rfl, nle, trivial⟩, ⟨⟨rfl, nle, trivial⟩, ⟨⟨rfl, nle, trivial⟩, ⟨⟨rfl, nle, trivial⟩, trivial⟩⟩⟩⟩⟩ rfl <| s_dol (o_box (j := 5) (c := (.agg [(.int .i64 0), (.int .i64 0), (.str []), .nil, .nil])) rfl trivial rfl rfl) (.inr ⟨⟨⟨⟨rfl, nle, trivial⟩, ⟨⟨rfl, nle, trivial⟩, ⟨⟨rfl, nle, trivial⟩, ⟨⟨rfl, nle, trivial⟩, ⟨⟨rfl, nle, trivial⟩, trivial⟩⟩⟩⟩⟩, rfl⟩, ⟨⟨nle, rfl⟩, ⟨⟨trivial, rfl⟩, ⟨⟨nle, rfl⟩, ⟨⟨trivial, rfl⟩, ⟨⟨nle, rfl⟩, ⟨⟨trivial, rfl⟩, ⟨⟨nle, rfl⟩, ⟨⟨trivial, rfl⟩, trivial⟩⟩⟩⟩⟩⟩⟩⟩⟩) trivial <| s_dol0 (o_storebox (v := (.agg [(.int .i64 j_1.Kind), (.int .i64 j_1.N), (.str j_1.T), (.own 3 0 (([] ++ j_1.Keys).length)), (.own 4 0 0)])) (y' := (.agg [(.int .i64 j_1.Kind), (.int .i64 j_1.N), (.str j_1.T), (.own 3 0 (([] ++ j_1.Keys).length)), (.own 4 0 0)])) rfl rfl rfl trivial ⟨rfl, nle⟩ ⟨⟨rfl, trivial⟩, ⟨⟨rfl, trivial⟩, ⟨⟨rfl, trivial⟩, ⟨⟨rfl, trivial⟩, ⟨⟨rfl, trivial⟩, trivial⟩⟩⟩⟩⟩ rfl) trivial trivial <| ?_
     refine w_done ?_; obtain rfl := os hb1; exact ⟨[], [0, 1, 5, 3, 4], _, _, rfl, rfl, ⟨.refl _, ⟨.refl _, ⟨.refl _, trivial⟩⟩⟩, (.cons (.refl _) (.cons (.refl _) (.cons (.box (.agg (.cons (.refl _) (.cons (.refl _) (.cons (.refl _) (.cons (.refl _) (.cons (.of_eq (congrArg (AV.own _ 0) (by simp))) .nil))))))) (.cons (.refl _) (.cons (.refl _) .nil)))))⟩
 ·refine awp_seq <| awp_seq <| w_reg <| s_mov (.int .i64 0) rfl <| w_done <| k_seq <| ?_
  obtain ⟨x_31, hb1, hf⟩ := ob hf
  refine awp_cut ([(2, (.ptr 0 0 0)), (3, (.ptr 1 0 0))], [.box 5 (.agg [(.int .i64 0), (.int .i64 0), (.str []), .nil, .nil]), .box 5 (.agg [(.int .i64 j_1.Kind), (.int .i64 j_1.N), (.str j_1.T), (.own 2 0 (([] ++ j_1.Keys).length)), (.own 3 0 x_31.length)]), .row 1 (([] ++ j_1.Keys).map AV.str), .row 5 (x_31.map encGJson)]) ?_ ?_
  ·refine awp_loop (X := {q : (Nat × (List GJson)) // spec_l01Own_B_L1 rec (j_1.Items.drop q.1) q.2 = some x_31}) (fun q => ([(1, (.ptr 0 0 0)), (2, (.ptr 1 0 0)), (3, (.ptr 2 0 0)), (4, (.int .i64 (q.1.1 : Int)))], [.box 5 (.agg [(.int .i64 j_1.Kind), (.int .i64 j_1.N), (.str j_1.T), (.lst 1 (j_1.Keys.map AV.str)), (.lst 5 (j_1.Items.map encGJson))]), .box 5 (.agg [(.int .i64 0), (.int .i64 0), (.str []), .nil, .nil]), .box 5 (.agg [(.int .i64 j_1.Kind), (.int .i64 j_1.N), (.str j_1.T), (.own 3 0 (([] ++ j_1.Keys).length)), (.own 4 0 q.1.2.length)]), .row 1 (([] ++ j_1.Keys).map AV.str), .row 5 (q.1.2.map encGJson)])) (fun q => j_1.Items.length - q.1.1) ⟨(0, []), hb1⟩ ⟨[], [0, 1, 2, 3, 4], _, _, rfl, rfl, ⟨.refl _, ⟨.refl _, ⟨.refl _, ⟨.refl _, trivial⟩⟩⟩⟩, (.refl _)⟩ ?_
   rintro ⟨⟨i_21, x_22⟩, hc1⟩
   have hc1 : spec_l01Own_B_L1 rec (j_1.Items.drop i_21) x_22 = some x_31 := hc1
   refine (show awp Try.prog true 0 _ (ofL [(1, (.ptr 0 0 0)), (2, (.ptr 1 0 0)), (3, (.ptr 2 0 0)), (4, (.int .i64 (i_21 : Int)))]) [.box 5 (.agg [(.int .i64 j_1.Kind), (.int .i64 j_1.N), (.str j_1.T), (.lst 1 (j_1.Keys.map AV.str)), (.lst 5 (j_1.Items.map encGJson))]), .box 5 (.agg [(.int .i64 0), (.int .i64 0), (.str []), .nil, .nil]), .box 5 (.agg [(.int .i64 j_1.Kind), (.int .i64 j_1.N), (.str j_1.T), (.own 3 0 (([] ++ j_1.Keys).length)), (.own 4 0 x_22.length)]), .row 1 (([] ++ j_1.Keys).map AV.str), .row 5 (x_22.map encGJson)] _ from ?_)
   rcases dropc j_1.Items i_21 with ⟨hie35, hd38⟩ | ⟨hlt33, x_39, hx34, hd38⟩
   ·rw [hd38, spec_l01Own_B_L1.eq_1] at hc1
    have hq37 := dlf hie35
    refine awp_seq <| awp_seq <| w_reg <| s_mov (.int .i64 (i_21 : Int)) rfl <| s_q (.ptr 0 0 4) rfl trivial rfl <| s_q (.lst 5 (j_1.Items.map encGJson)) rfl nle rfl <| s_dof (o_len (enc := encGJson) rfl) fun hl40 => s_q (.bool (decide ((i_21 : Int) < (j_1.Items.length : Int)))) rfl rfl rfl <| w_done <| k_seq <| w_condf rfl hq37 <| w_exit <| k_seqx <| k_loopx <| k_blkx <| ?_; obtain rfl := os hc1; exact ⟨[], [1, 2, 3, 4], _, _, rfl, rfl, ⟨.refl _, ⟨.refl _, trivial⟩⟩, (.refl _)⟩
   ·rw [hd38, spec_l01Own_B_L1.eq_2] at hc1
    have hq37 := dlt hlt33
    refine awp_seq <| awp_seq <| w_reg <| s_mov (.int .i64 (i_21 : Int)) rfl <| s_q (.ptr 0 0 4) rfl trivial rfl <| s_q (.lst 5 (j_1.Items.map encGJson)) rfl nle rfl <| s_dof (o_len (enc := encGJson) rfl) fun hl41 => s_q (.bool (decide ((i_21 : Int) < (j_1.Items.length : Int)))) rfl rfl rfl <| w_done <| k_seq <| w_condt rfl hq37 <| w_skip <| k_seq <| awp_seq <| w_blk <| w_reg <| ?_
    obtain ⟨r_42, er43, hc1⟩ := ob hc1
    obtain ⟨g44, hc1⟩ := og hc1
    refine s_q (.ptr 2 0 4) rfl trivial rfl <| s_q (.own 4 0 x_22.length) rfl nle rfl <| s_q (.ptr 0 0 4) rfl trivial rfl <| s_q (.lst 5 (j_1.Items.map encGJson)) rfl nle rfl <| s_mov (.int .i64 (i_21 : Int)) rfl <| s_do (o_iaddrn (enc := encGJson) rfl rfl hx34) <| s_do (o_loadeq (v := (.agg [(.int .i64 x_39.Kind), (.int .i64 x_39.N), (.str x_39.T), (.lst 1 (x_39.Keys.map AV.str)), (.lst 5 (x_39.Items.map encGJson))])) rfl (encGJson_eq _) nle rfl) <| s_dol (o_callf (v := (.agg [(.int .i64 r_42.Kind), (.int .i64 r_42.N), (.str r_42.T), (.own 5 0 r_42.Keys.length), (.own 6 0 r_42.Items.length)])) (h' := [.row 1 (r_42.Keys.map AV.str), .row 5 (r_42.Items.map encGJson)]) (hrec _ _ er43) rfl (.cons (.of_eq (encGJson_eq x_39).symm) .nil) (by simp only [openV, openVs, List.length_map, encGJson_eq, List.nil_append, List.append_nil, List.cons_append]; rfl)) (.inr ⟨⟨nle, rfl⟩, ⟨⟨trivial, rfl⟩, trivial⟩⟩) trivial <| ?_
    refine s_dol (o_bslice (j := 7) (as' := [(encGJson r_42)]) rfl (fun _ => by decide) ⟨rfl, trivial⟩ (.cons (leJ (x := r_42) (.agg (.cons (.refl _) (.cons (.refl _) (.cons (.refl _) (.cons (.of_eq (congrArg (AV.lst _) (tk (enc := AV.str) r_42.Keys))) (.cons (.of_eq (congrArg (AV.lst _) (tk (enc := encGJson) r_42.Items))) .nil))))))) .nil) rfl rfl rfl) (.inr ⟨⟨nle, rfl⟩, ⟨⟨trivial, rfl⟩, trivial⟩⟩) trivial ?_
    refine s_dol (o_appendd (j := 8) (L := ((x_22 ++ [r_42]).map encGJson)) (len := (x_22 ++ [r_42]).length) rfl true rfl rfl (fun h => Bool.noConfusion h) (fun _ _ h => (ownl (show AV.own _ _ _ = AV.lst _ _ from h)).elim) (by decide) (apoc (enc := encGJson) x_22 [r_42] _ (by rfl)) (by simp <;> omega) g44 rfl rfl) trivial trivial ?_
    refine s_q (.ptr 2 0 4) rfl trivial rfl <| s_dol0 (o_storebox (v := (.own 8 0 ((x_22 ++ [r_42]).length))) (y' := (.agg [(.int .i64 j_1.Kind), (.int .i64 j_1.N), (.str j_1.T), (.own 3 0 (([] ++ j_1.Keys).length)), (.own 8 0 ((x_22 ++ [r_42]).length))])) rfl rfl rfl trivial ⟨rfl, nle⟩ ⟨⟨rfl, trivial⟩, trivial⟩ rfl) trivial trivial <| w_done <| k_blk <| k_seq <| w_reg <| s_mov (.int .i64 (i_21 : Int)) rfl <| s_q (.int .i64 (w64 ((i_21 : Int) + 1))) rfl rfl rfl <| s_mov (.int .i64 (w64 ((i_21 : Int) + 1))) rfl <| w_done <| ?_; exact k_loopn ⟨((i_21 + 1), x_22 ++ [r_42]), hc1⟩ (mul hlt33) ⟨[], [0, 1, 2, 3, 8], _, _, rfl, rfl, ⟨.refl _, ⟨.refl _, ⟨.refl _, ⟨.of_eq (congrArg (AV.int _) (w64_incr hlt33 hl41)), trivial⟩⟩⟩⟩, (.refl _)⟩
  ·refine awp_seq <| w_reg <| s_q (.agg [(.int .i64 j_1.Kind), (.int .i64 j_1.N), (.str j_1.T), (.own 2 0 (([] ++ j_1.Keys).length)), (.own 3 0 x_31.length)]) rfl nle rfl <| s_do0 (o_storebox (v := (.agg [(.int .i64 j_1.Kind), (.int .i64 j_1.N), (.str j_1.T), (.own 2 0 (([] ++ j_1.Keys).length)), (.own 3 0 x_31.length)])) (y' := (.agg [(.int .i64 j_1.Kind), (.int .i64 j_1.N), (.str j_1.T), (.own 2 0 (([] ++ j_1.Keys).length)), (.own 3 0 x_31.length)])) rfl rfl rfl trivial ⟨rfl, nle⟩ ⟨⟨rfl, trivial⟩, ⟨⟨rfl, trivial⟩, ⟨⟨rfl, trivial⟩, ⟨⟨rfl, trivial⟩, ⟨⟨rfl, trivial⟩, trivial⟩⟩⟩⟩⟩ rfl) <| w_done <| k_seq <| w_ret <| ?_; obtain rfl := os hf; exact r_fresh ⟨nle, trivial⟩ rfl (by decide) (leJ (x := (⟨j_1.Kind, j_1.N, j_1.T, [] ++ j_1.Keys, x_31⟩ : GJson)) (.agg (.cons (.refl _) (.cons (.refl _) (.cons (.refl _) (.cons (.of_eq (congrArg (AV.lst _) (tk (enc := AV.str) ([] ++ j_1.Keys)))) (.cons (.of_eq (congrArg (AV.lst _) (tk (enc := encGJson) x_31))) .nil)))))))
def spec_l01Own : Nat → GJson → Option GJson
 | 0, _ => none
 | k + 1, j_1 => spec_l01Own_B (spec_l01Own k) j_1
theorem w_spec_l01Own : ∀ (k : Nat) (j_1 : GJson) (r : GJson), spec_l01Own k j_1 = some r → CallOK Try.prog 81 .fresh [(encGJson j_1)] (encGJson r)
 | 0, j_1, r, h => by rw [spec_l01Own.eq_1] at h; cases h
 | k + 1, j_1, r, h => by
  rw [spec_l01Own.eq_2] at h; exact w_spec_l01Own_B _ (w_spec_l01Own k) j_1 r h

/- spec.DatumJson -/
def c16 : ACode :=
 (.seq (.reg (tq 2 (.box 5 (.c (.agg [(.int .i64 0), (.int .i64 0), (.str []), .nil, .nil]))) (tm 3 (.c (.int .i64 0)) .done)))
 (.seq (.seq (.reg (tm 4 (.t 0) (tq 5 (.len (.t 4)) (tq 6 (.bin .gtr (.t 5) (.c (.int .i64 4096))) .done))))
 (.cond (.t 6) (.seq (.reg (tq 7 (.build [(.int .i64 0), (.int .i64 0), (.str []), .nil, .nil] []) (.q ⟨none, none, .store 5 (.t 2) (.t 7)⟩
 (tm 3 (.c (.int .i64 2)) .done))))
 .ret)
 .skip))
 (.seq (.seq (.reg (tm 8 (.t 0) (tq 9 (.call 80 [(.t 8)]) (tq 10 (.not (.t 9)) .done))))
 (.cond (.t 10) (.seq (.reg (tq 11 (.build [(.int .i64 0), (.int .i64 0), (.str []), .nil, .nil] []) (.q ⟨none, none, .store 5 (.t 2) (.t 11)⟩
 (tm 3 (.c (.int .i64 1)) .done))))
 .ret)
 .skip))
 (.seq (.reg (tm 12 (.t 0) (tq 13 (.call 82 [(.t 12)]) (tq 14 (.call 81 [(.t 13)]) (.q ⟨none, none, .store 5 (.t 2) (.t 14)⟩
 (tm 3 (.c (.int .i64 0)) .done))))))
 .ret))))
theorem fc16 : fcomp Try.prog Try.f16 = some (c16.erase, [.load 5 true (.t 2), .mov (.t 3)], 15) := by kernel_rfl
def spec_DatumJson (d_1 : (List GAtom)) : Option (GJson × Int) :=
    if (decide ((d_1.length : Int) > 4096)) then
    some ((⟨0, 0, [], [], []⟩ : GJson), 2)
    else
    (spec_DatumOK d_1).bind fun r_4 =>
    if (!r_4) then
    some ((⟨0, 0, [], [], []⟩ : GJson), 1)
    else
    (spec_l13Datum d_1).bind fun r_7 =>
    (spec_l01Own FUEL r_7).bind fun r_9 =>
    some (r_9, 0)
theorem w_spec_DatumJson (d_1 : (List GAtom)) (r : (GJson × Int)) (hf : spec_DatumJson d_1 = some r) : CallOK Try.prog 16 .fresh [(.lst 3 (d_1.map encGAtom))] (.tup [(encGJson r.1), (.int .i64 r.2)]) := by
 refine CallOK.of_awp mixed Try.func16 fc16 nle ?_; rw [argT_eq]; unfold spec_DatumJson at hf; unfold c16; refine (show awp Try.prog true 0 _ (ofL [(0, (.lst 3 (d_1.map encGAtom)))]) [] _ from ?_); refine awp_seq <| w_reg <| s_do (o_box (j := 0) (c := (.agg [(.int .i64 0), (.int .i64 0), (.str []), .nil, .nil])) rfl trivial rfl rfl) <| s_mov (.int .i64 0) rfl <| w_done <| k_seq <| awp_seq <| awp_seq <| w_reg <| s_mov (.lst 3 (d_1.map encGAtom)) rfl <| s_dof (o_len (enc := encGAtom) rfl) fun hl2 => s_q (.bool (decide ((d_1.length : Int) > 4096))) rfl rfl rfl <| w_done <| k_seq <| ?_
 rcases oi hf with ⟨c3, hf⟩ | ⟨c3, hf⟩
 ·refine w_condt rfl c3 <| awp_seq <| w_reg <| s_q (.agg [(.int .i64 0), (.int .i64 0), (.str []), .nil, .nil]) rfl trivial rfl <| s_do0 (o_storebox (v := (.agg [(.int .i64 0), (.int .i64 0), (.str []), .nil, .nil])) (y' := (.agg [(.int .i64 0), (.int .i64 0), (.str []), .nil, .nil])) rfl rfl rfl trivial ⟨rfl, nle⟩ ⟨⟨rfl, trivial⟩, ⟨⟨rfl, trivial⟩, ⟨⟨rfl, trivial⟩, ⟨⟨rfl, trivial⟩, ⟨⟨rfl, trivial⟩, trivial⟩⟩⟩⟩⟩ rfl) <| s_mov (.int .i64 2) rfl <| w_done <| k_seq <| w_ret <| ?_; obtain rfl := os hf; exact r_fresh ⟨nle, ⟨trivial, trivial⟩⟩ rfl (by decide) (.tup (.cons (leJ (x := (⟨0, 0, [], [], []⟩ : GJson)) (.agg (.cons (.refl _) (.cons (.refl _) (.cons (.refl _) (.cons (.nil _) (.cons (.nil _) .nil))))))) (.cons (.refl _) .nil)))
 ·refine w_condf rfl (bf c3) <| w_skip <| k_seq <| awp_seq <| awp_seq <| w_reg <| ?_
  obtain ⟨r_4, er5, hf⟩ := ob hf
  refine s_mov (.lst 3 (d_1.map encGAtom)) rfl <| s_do (o_call (w_spec_DatumOK _ _ er5) rfl (.refl _) rfl) <| s_q (.bool (!r_4)) rfl trivial rfl <| w_done <| k_seq <| ?_
  rcases oi hf with ⟨c6, hf⟩ | ⟨c6, hf⟩
  ·refine w_condt rfl c6 <| awp_seq <| w_reg <| s_q (.agg [(.int .i64 0), (.int .i64 0), (.str []), .nil, .nil]) rfl trivial rfl <| s_do0 (o_storebox (v := (.agg [(.int .i64 0), (.int .i64 0), (.str []), .nil, .nil])) (y' := (.agg [(.int .i64 0), (.int .i64 0), (.str []), .nil, .nil])) rfl rfl rfl trivial ⟨rfl, nle⟩ ⟨⟨rfl, trivial⟩, ⟨⟨rfl, trivial⟩, ⟨⟨rfl, trivial⟩, ⟨⟨rfl, trivial⟩, ⟨⟨rfl, trivial⟩, trivial⟩⟩⟩⟩⟩ rfl) <| s_mov (.int .i64 1) rfl <| w_done <| k_seq <| w_ret <| ?_; obtain rfl := os hf; exact r_fresh ⟨nle, ⟨trivial, trivial⟩⟩ rfl (by decide) (.tup (.cons (leJ (x := (⟨0, 0, [], [], []⟩ : GJson)) (.agg (.cons (.refl _) (.cons (.refl _) (.cons (.refl _) (.cons (.nil _) (.cons (.nil _) .nil))))))) (.cons (.refl _) .nil)))
  ·refine w_condf rfl (bf c6) <| w_skip <| k_seq <| awp_seq <| w_reg <| ?_
   obtain ⟨r_7, er8, hf⟩ := ob hf
   obtain ⟨r_9, er10, hf⟩ := ob hf
   refine s_mov (.lst 3 (d_1.map encGAtom)) rfl <| s_do (o_callf (v := (.agg [(.int .i64 r_7.Kind), (.int .i64 r_7.N), (.str r_7.T), (.own 1 0 r_7.Keys.length), (.own 2 0 r_7.Items.length)])) (h' := [.row 1 (r_7.Keys.map AV.str), .row 5 (r_7.Items.map encGJson)]) (w_spec_l13Datum _ _ er8) rfl (.refl _) (by simp only [openV, openVs, List.length_map, encGJson_eq, List.nil_append, List.append_nil, List.cons_append]; rfl)) <| s_do (o_callf (v := (.agg [(.int .i64 r_9.Kind), (.int .i64 r_9.N), (.str r_9.T), (.own 3 0 r_9.Keys.length), (.own 4 0 r_9.Items.length)])) (h' := [.row 1 (r_9.Keys.map AV.str), .row 5 (r_9.Items.map encGJson)]) (w_spec_l01Own FUEL _ _ er10) rfl (.cons (leJ (x := r_7) (.agg (.cons (.refl _) (.cons (.refl _) (.cons (.refl _) (.cons (.of_eq (congrArg (AV.lst _) (tko (enc := AV.str) r_7.Keys))) (.cons (.of_eq (congrArg (AV.lst _) (tko (enc := encGJson) r_7.Items))) .nil))))))) .nil) (by simp only [openV, openVs, List.length_map, encGJson_eq, List.nil_append, List.append_nil, List.cons_append]; rfl)) <| ?_
   refine s_do0 (o_storebox (v := (.agg [(.int .i64 r_9.Kind), (.int .i64 r_9.N), (.str r_9.T), (.own 3 0 r_9.Keys.length), (.own 4 0 r_9.Items.length)])) (y' := (.agg [(.int .i64 r_9.Kind), (.int .i64 r_9.N), (.str r_9.T), (.own 3 0 r_9.Keys.length), (.own 4 0 r_9.Items.length)])) rfl rfl rfl trivial ⟨rfl, nle⟩ ⟨⟨rfl, trivial⟩, ⟨⟨rfl, trivial⟩, ⟨⟨rfl, trivial⟩, ⟨⟨rfl, trivial⟩, ⟨⟨rfl, trivial⟩, trivial⟩⟩⟩⟩⟩ rfl) <| s_mov (.int .i64 0) rfl <| w_done <| k_seq <| w_ret <| ?_; obtain rfl := os hf; exact r_fresh ⟨nle, ⟨trivial, trivial⟩⟩ rfl (by decide) (.tup (.cons (leJ (x := r_9) (.agg (.cons (.refl _) (.cons (.refl _) (.cons (.refl _) (.cons (.of_eq (congrArg (AV.lst _) (tk (enc := AV.str) r_9.Keys))) (.cons (.of_eq (congrArg (AV.lst _) (tk (enc := encGJson) r_9.Items))) .nil))))))) (.cons (.refl _) .nil)))

/- impl.isList[impl.Atom] -/
def c84 : ACode :=
 (.seq (.reg (tm 2 (.c (.bool false)) .done))
 (.seq (.reg (tm 3 (.t 0) (tq 4 (.len (.t 3)) (tq 5 (.bin .leq (.t 4) (.c (.int .i64 4096))) (tm 2 (.t 5) .done)))))
 .ret))
theorem fc84 : fcomp Try.prog Try.f84 = some (c84.erase, [.mov (.t 2)], 6) := by kernel_rfl
def impl_isList_impl_Atom (list_1 : (List GAtom)) : Option Bool :=
    some (decide ((list_1.length : Int) ≤ 4096))
theorem w_impl_isList_impl_Atom (list_1 : (List GAtom)) (r : Bool) (hf : impl_isList_impl_Atom list_1 = some r) : CallOK Try.prog 84 .flat [(.lst 3 (list_1.map encGAtom))] (.bool r) := by
  refine CallOK.of_awp mixed Try.func84 fc84 nle ?_
  rw [argT_eq]
  unfold impl_isList_impl_Atom at hf
  unfold c84
  refine (show awp Try.prog false 0 _ (ofL [(0, (.lst 3 (list_1.map encGAtom)))]) [] _ from ?_)
  refine awp_seq ?_
  refine w_reg ?_
  refine s_do (o_mov (.bool false) rfl) ?_
  refine w_done ?_
  refine k_seq ?_
  refine awp_seq ?_
  refine w_reg ?_
  refine s_do (o_mov (.lst 3 (list_1.map encGAtom)) rfl) ?_
  refine s_dof (o_len (enc := encGAtom) rfl) fun hl2 => ?_
  refine s_do (o_q (.bool (decide ((list_1.length : Int) ≤ 4096))) rfl rfl rfl) ?_
  refine s_do (o_mov (.bool (decide ((list_1.length : Int) ≤ 4096))) rfl) ?_
  refine w_done ?_
  refine k_seq ?_
  refine w_ret ?_
  obtain rfl := os hf
  exact r_flat ⟨trivial, trivial⟩ rfl (.refl _)

/- impl.within -/
def c106 : ACode :=
 (.seq (.reg (tm 6 (.c (.bool false)) .done))
 (.seq (.reg (tm 7 (.t 0) (tm 8 (.t 1) (tq 9 (.bin .geq (.t 7) (.t 8)) (tm 10 (.t 9) (tg 11 10 true (.mov (.t 0)) (tg 12 10 true (.mov (.t 2)) (tg 13 10 true (.bin .leq (.t 11) (.t 12)) (tq 14 (.pick (.t 10) (.t 13) (.c (.bool false))) (tm 6 (.t 14) .done))))))))))
 .ret))
theorem fc106 : fcomp Try.prog Try.f106 = some (c106.erase, [.mov (.t 6)], 15) := by kernel_rfl
def impl_within (n_1 : Int) (low_2 : Int) (high_3 : Int) : Option Bool :=
    if (decide (n_1 ≥ low_2)) then
    some (decide (n_1 ≤ high_3))
    else
    some false
theorem w_impl_within (n_1 : Int) (low_2 : Int) (high_3 : Int) (r : Bool) (hf : impl_within n_1 low_2 high_3 = some r) : CallOK Try.prog 106 .flat [(.int .i64 n_1), (.int .i64 low_2), (.int .i64 high_3)] (.bool r) := by
 refine CallOK.of_awp mixed Try.func106 fc106 nle ?_; rw [argT_eq]; unfold impl_within at hf; unfold c106; refine (show awp Try.prog false 0 _ (ofL [(0, (.int .i64 n_1)), (1, (.int .i64 low_2)), (2, (.int .i64 high_3))]) [] _ from ?_); refine awp_seq <| w_reg <| s_mov (.bool false) rfl <| w_done <| k_seq <| awp_seq <| w_reg <| ?_
 rcases oi hf with ⟨c4, hf⟩ | ⟨c4, hf⟩
 ·refine s_mov (.int .i64 n_1) rfl <| s_mov (.int .i64 low_2) rfl <| s_q (.bool (decide (n_1 ≥ low_2))) rfl rfl rfl <| s_mov (.bool (decide (n_1 ≥ low_2))) rfl <| s_lit (s := 10) (b := true) rfl c4 <| s_on rfl <| s_mov (.int .i64 n_1) rfl <| s_on rfl <| s_mov (.int .i64 high_3) rfl <| s_on rfl <| s_q (.bool (decide (n_1 ≤ high_3))) rfl rfl rfl <| s_q (.bool (decide (n_1 ≤ high_3))) rfl trivial rfl <| s_mov (.bool (decide (n_1 ≤ high_3))) rfl <| w_done <| k_seq <| w_ret <| ?_; obtain rfl := os hf; exact r_flat ⟨trivial, trivial⟩ rfl (.refl _)
 ·refine s_mov (.int .i64 n_1) rfl <| s_mov (.int .i64 low_2) rfl <| s_q (.bool (decide (n_1 ≥ low_2))) rfl rfl rfl <| s_mov (.bool (decide (n_1 ≥ low_2))) rfl <| s_lit (s := 10) (b := false) rfl (bf c4) <| s_off rfl rfl <| s_off rfl rfl <| s_off rfl rfl <| s_q (.bool false) rfl trivial rfl <| s_mov (.bool false) rfl <| w_done <| k_seq <| w_ret <| ?_; obtain rfl := os hf; exact r_flat ⟨trivial, trivial⟩ rfl (.refl _)

/- impl.isNumber -/
def c218 : ACode :=
 (.seq (.reg (tm 2 (.c (.bool false)) .done))
 (.seq (.reg (tm 3 (.t 0) (tq 4 (.call 106 [(.t 3), (.c (.int .i64 (-1000000000))), (.c (.int .i64 1000000000))]) (tm 2 (.t 4) .done))))
 .ret))
theorem fc218 : fcomp Try.prog Try.f218 = some (c218.erase, [.mov (.t 2)], 5) := by kernel_rfl
def impl_isNumber (n_1 : Int) : Option Bool :=
    (impl_within n_1 (-1000000000) 1000000000).bind fun r_2 =>
    some r_2
theorem w_impl_isNumber (n_1 : Int) (r : Bool) (hf : impl_isNumber n_1 = some r) : CallOK Try.prog 218 .flat [(.int .i64 n_1)] (.bool r) := by
  refine CallOK.of_awp mixed Try.func218 fc218 nle ?_
  rw [argT_eq]
  unfold impl_isNumber at hf
  unfold c218
  refine (show awp Try.prog false 0 _ (ofL [(0, (.int .i64 n_1))]) [] _ from ?_)
  refine awp_seq ?_
  refine w_reg ?_
  refine s_do (o_mov (.bool false) rfl) ?_
  refine w_done ?_
  refine k_seq ?_
  refine awp_seq ?_
  refine w_reg ?_
  obtain ⟨r_2, er3, hf⟩ := ob hf
  refine s_do (o_mov (.int .i64 n_1) rfl) ?_
  refine s_do (o_call (w_impl_within _ _ _ _ er3) rfl (.refl _) rfl) ?_
  refine s_do (o_mov (.bool r_2) rfl) ?_
  refine w_done ?_
  refine k_seq ?_
  refine w_ret ?_
  obtain rfl := os hf
  exact r_flat ⟨trivial, trivial⟩ rfl (.refl _)

/- impl.isPlain -/
def c244 : ACode :=
 (.seq (.reg (tm 2 (.c (.bool false)) .done))
 (.seq (.seq (.reg (tm 4 (.t 0) (tq 5 (.lenS (.t 4)) (tm 6 (.c (.int .i64 0)) .done))))
 (.block 0 (.loop (.seq (.reg (tq 7 (.bin .lss (.t 6) (.t 5)) .done))
 (.seq (.cond (.t 7) .skip
 (.exit 0))
 (.seq (.block 1 (.seq (.reg (tm 8 (.t 6) (tm 3 (.t 8) .done)))
 (.seq (.reg (tm 9 (.t 0) (tm 10 (.t 3) (tq 11 (.idxs (.t 9) (.t 10)) (tq 12 (.bin .lss (.t 11) (.c (.int .u8 32))) (tm 13 (.t 12) (tg 14 13 false (.mov (.t 0)) (tg 15 13 false (.mov (.t 3)) (tg 16 13 false (.idxs (.t 14) (.t 15)) (tg 17 13 false (.bin .gtr (.t 16) (.c (.int .u8 126))) (tq 18 (.pick (.t 13) (.c (.bool true)) (.t 17)) .done)))))))))))
 (.cut (.cond (.t 18) (.seq (.reg (tm 2 (.c (.bool false)) .done))
 .ret)
 .skip)))))
 (.reg (tq 19 (.bin .add (.t 6) (.c (.int .i64 1))) (tm 6 (.t 19) .done)))))))))
 (.cut (.seq (.reg (tm 20 (.t 0) (tq 21 (.lenS (.t 20)) (tq 22 (.bin .leq (.t 21) (.c (.int .i64 200))) (tm 2 (.t 22) .done)))))
 .ret))))
theorem fc244 : fcomp Try.prog Try.f244 = some (c244.erase, [.mov (.t 2)], 23) := by kernel_rfl
def impl_isPlain_L1  : List UInt8 → Option (Fl Bool Unit)
  | [] =>
    some (.go ())
  | x_54 :: xs =>
    ((if (decide ((x_54.toNat : Int) < 32)) then
    some true
    else
    some (decide ((x_54.toNat : Int) > 126)) : Option Bool)).bind fun s18_56 =>
    if s18_56 then
    some (.ret false)
    else
    impl_isPlain_L1 xs 

def impl_isPlain (t_1 : Str) : Option Bool :=
    (impl_isPlain_L1 t_1 ).bind fun q => (match q with
    | .ret r => some r
    | .go _ =>
    some (decide ((t_1.length : Int) ≤ 200)))
theorem w_impl_isPlain (t_1 : Str) (r : Bool) (hf : impl_isPlain t_1 = some r) : CallOK Try.prog 244 .flat [(.str t_1)] (.bool r) := by
 refine CallOK.of_awp mixed Try.func244 fc244 nle ?_; rw [argT_eq]; unfold impl_isPlain at hf; unfold c244; refine (show awp Try.prog false 0 _ (ofL [(0, (.str t_1))]) [] _ from ?_); refine awp_seq <| w_reg <| s_mov (.bool false) rfl <| w_done <| k_seq <| awp_seq <| awp_seq <| w_reg <| s_mov (.str t_1) rfl <| s_dof (o_lenS rfl) fun hl2 => s_mov (.int .i64 0) rfl <| w_done <| k_seq <| ?_
 obtain ⟨p47, hb1, hf⟩ := ob hf
 refine awp_cutx (X := {q : Unit // p47 = .go q}) (fun q => ([(0, (.str t_1))], [])) ?_ ?_
 ·refine awp_loop (X := {q : Nat // impl_isPlain_L1 (t_1.drop q)  = some p47}) (fun q => ([(0, (.str t_1)), (5, (.int .i64 (t_1.length : Int))), (6, (.int .i64 (q.1 : Int)))], [])) (fun q => t_1.length - q.1) ⟨0, hb1⟩ ⟨[], [], _, _, rfl, rfl, ⟨.refl _, ⟨.refl _, ⟨.refl _, trivial⟩⟩⟩, (.refl _)⟩ ?_
  rintro ⟨s6_32, hc1⟩
  have hc1 : impl_isPlain_L1 (t_1.drop s6_32)  = some p47 := hc1
  refine (show awp Try.prog false 0 _ (ofL [(0, (.str t_1)), (5, (.int .i64 (t_1.length : Int))), (6, (.int .i64 (s6_32 : Int)))]) [] _ from ?_)
  rcases dropc t_1 s6_32 with ⟨hie50, hd53⟩ | ⟨hlt48, x_54, hx49, hd53⟩
  ·rw [hd53, impl_isPlain_L1.eq_1] at hc1
   have hq52 := dlf hie50
   refine awp_seq <| w_reg <| s_q (.bool (decide ((s6_32 : Int) < (t_1.length : Int)))) rfl rfl rfl <| w_done <| k_seq <| awp_seq <| w_condf rfl hq52 <| w_exit <| k_seqx <| k_loopx <| k_blkx <| ?_; obtain rfl := os hc1; exact k_cutn ⟨_, rfl⟩ ⟨[], [], _, _, rfl, rfl, ⟨.refl _, trivial⟩, (.refl _)⟩
  ·rw [hd53, impl_isPlain_L1.eq_2] at hc1
   have hq52 := dlt hlt48
   refine awp_seq <| w_reg <| s_q (.bool (decide ((s6_32 : Int) < (t_1.length : Int)))) rfl rfl rfl <| w_done <| k_seq <| awp_seq <| w_condt rfl hq52 <| w_skip <| k_seq <| awp_seq <| w_blk <| awp_seq <| w_reg <| s_mov (.int .i64 (s6_32 : Int)) rfl <| s_mov (.int .i64 (s6_32 : Int)) rfl <| w_done <| k_seq <| awp_seq <| ?_
   obtain ⟨s18_56, hb2, hc1⟩ := ob hc1
   refine awp_cut ([(0, (.str t_1)), (5, (.int .i64 (t_1.length : Int))), (6, (.int .i64 (s6_32 : Int))), (18, (.bool s18_56))], []) ?_ ?_
   ·refine w_reg ?_
    rcases oi hb2 with ⟨c58, hb2⟩ | ⟨c58, hb2⟩
    ·refine s_mov (.str t_1) rfl <| s_mov (.int .i64 (s6_32 : Int)) rfl <| s_do (o_idxsn rfl rfl hx49) <| s_q (.bool (decide ((x_54.toNat : Int) < 32))) rfl rfl rfl <| s_mov (.bool (decide ((x_54.toNat : Int) < 32))) rfl <| s_lit (s := 13) (b := true) rfl c58 <| s_off rfl rfl <| s_off rfl rfl <| s_off rfl rfl <| s_off rfl rfl <| s_q (.bool true) rfl trivial rfl <| w_done <| ?_; obtain rfl := os hb2; exact ⟨[], [], _, _, rfl, rfl, ⟨.refl _, ⟨.refl _, ⟨.refl _, ⟨.refl _, trivial⟩⟩⟩⟩, (.refl _)⟩
    ·refine s_mov (.str t_1) rfl <| s_mov (.int .i64 (s6_32 : Int)) rfl <| s_do (o_idxsn rfl rfl hx49) <| s_q (.bool (decide ((x_54.toNat : Int) < 32))) rfl rfl rfl <| s_mov (.bool (decide ((x_54.toNat : Int) < 32))) rfl <| s_lit (s := 13) (b := false) rfl (bf c58) <| s_on rfl <| s_mov (.str t_1) rfl <| s_on rfl <| s_mov (.int .i64 (s6_32 : Int)) rfl <| s_on rfl <| s_do (o_idxsn rfl rfl hx49) <| s_on rfl <| s_q (.bool (decide ((x_54.toNat : Int) > 126))) rfl rfl rfl <| s_q (.bool (decide ((x_54.toNat : Int) > 126))) rfl trivial rfl <| w_done <| ?_; obtain rfl := os hb2; exact ⟨[], [], _, _, rfl, rfl, ⟨.refl _, ⟨.refl _, ⟨.refl _, ⟨.refl _, trivial⟩⟩⟩⟩, (.refl _)⟩
   ·rcases oi hc1 with ⟨c59, hc1⟩ | ⟨c59, hc1⟩
    ·refine w_condt rfl c59 <| awp_seq <| w_reg <| s_mov (.bool false) rfl <| w_done <| k_seq <| w_ret <| ?_; obtain rfl := os hc1; obtain rfl := os hf; exact r_flat ⟨trivial, trivial⟩ rfl (.refl _)
    ·refine w_condf rfl (bf c59) <| w_skip <| k_blk <| k_seq <| w_reg <| s_q (.int .i64 (w64 ((s6_32 : Int) + 1))) rfl rfl rfl <| s_mov (.int .i64 (w64 ((s6_32 : Int) + 1))) rfl <| w_done <| ?_; exact k_loopn ⟨(s6_32 + 1), hc1⟩ (mul hlt48) ⟨[], [], _, _, rfl, rfl, ⟨.refl _, ⟨.refl _, ⟨.of_eq (congrArg (AV.int _) (w64_incr hlt48 hl2)), trivial⟩⟩⟩, (.refl _)⟩
 ·rintro ⟨_, rfl⟩
  refine awp_seq <| w_reg <| s_mov (.str t_1) rfl <| s_dof (o_lenS rfl) fun hl60 => s_q (.bool (decide ((t_1.length : Int) ≤ 200))) rfl rfl rfl <| s_mov (.bool (decide ((t_1.length : Int) ≤ 200))) rfl <| w_done <| k_seq <| w_ret <| ?_; obtain rfl := os hf; exact r_flat ⟨trivial, trivial⟩ rfl (.refl _)

/- impl.isId -/
def c245 : ACode :=
 (.seq (.reg (tm 2 (.c (.bool false)) .done))
 (.seq (.reg (tm 3 (.t 0) (tq 4 (.call 106 [(.t 3), (.c (.int .i64 1)), (.c (.int .i64 1000000))]) (tm 2 (.t 4) .done))))
 .ret))
theorem fc245 : fcomp Try.prog Try.f245 = some (c245.erase, [.mov (.t 2)], 5) := by kernel_rfl
def impl_isId (n_1 : Int) : Option Bool :=
    (impl_within n_1 1 1000000).bind fun r_2 =>
    some r_2
theorem w_impl_isId (n_1 : Int) (r : Bool) (hf : impl_isId n_1 = some r) : CallOK Try.prog 245 .flat [(.int .i64 n_1)] (.bool r) := by
  refine CallOK.of_awp mixed Try.func245 fc245 nle ?_
  rw [argT_eq]
  unfold impl_isId at hf
  unfold c245
  refine (show awp Try.prog false 0 _ (ofL [(0, (.int .i64 n_1))]) [] _ from ?_)
  refine awp_seq ?_
  refine w_reg ?_
  refine s_do (o_mov (.bool false) rfl) ?_
  refine w_done ?_
  refine k_seq ?_
  refine awp_seq ?_
  refine w_reg ?_
  obtain ⟨r_2, er3, hf⟩ := ob hf
  refine s_do (o_mov (.int .i64 n_1) rfl) ?_
  refine s_do (o_call (w_impl_within _ _ _ _ er3) rfl (.refl _) rfl) ?_
  refine s_do (o_mov (.bool r_2) rfl) ?_
  refine w_done ?_
  refine k_seq ?_
  refine w_ret ?_
  obtain rfl := os hf
  exact r_flat ⟨trivial, trivial⟩ rfl (.refl _)

/- impl.AtomOK -/
def c176 : ACode :=
 (.seq (.reg (tq 1 (.box 3 (.t 0)) (tm 2 (.c (.bool false)) .done)))
 (.seq (.seq (.reg (tq 3 (.faddr 0 (.t 1)) (tq 4 (.load 1 false (.t 3)) .done)))
 (.block 0 (.seq (.reg (tq 6 (.bin .eql (.t 4) (.c (.int .i64 1))) (tm 5 (.t 6) .done)))
 (.cond (.t 5) (.seq (.reg (tq 7 (.faddr 1 (.t 1)) (tq 8 (.load 1 false (.t 7)) (tq 9 (.call 218 [(.t 8)]) (tm 10 (.t 9) (tg 11 10 true (.faddr 2 (.t 1)) (tg 12 10 true (.load 1 false (.t 11)) (tg 13 10 true (.bin .eql (.t 12) (.c (.str []))) (tq 14 (.pick (.t 10) (.t 13) (.c (.bool false))) (tm 2 (.t 14) .done))))))))))
 .ret)
 (.seq (.reg (tq 16 (.bin .eql (.t 4) (.c (.int .i64 2))) (tm 15 (.t 16) .done)))
 (.cond (.t 15) (.seq (.reg (tq 17 (.faddr 1 (.t 1)) (tq 18 (.load 1 false (.t 17)) (tq 19 (.bin .eql (.t 18) (.c (.int .i64 0))) (tm 20 (.t 19) (tg 21 20 true (.faddr 2 (.t 1)) (tg 22 20 true (.load 1 false (.t 21)) (tg 23 20 true (.call 244 [(.t 22)]) (tq 24 (.pick (.t 20) (.t 23) (.c (.bool false))) (tm 2 (.t 24) .done))))))))))
 .ret)
 (.seq (.reg (tq 26 (.bin .eql (.t 4) (.c (.int .i64 3))) (tm 25 (.t 26) .done)))
 (.cond (.t 25) (.seq (.reg (tq 27 (.faddr 1 (.t 1)) (tq 28 (.load 1 false (.t 27)) (tq 29 (.call 106 [(.t 28), (.c (.int .i64 0)), (.c (.int .i64 1))]) (tm 30 (.t 29) (tg 31 30 true (.faddr 2 (.t 1)) (tg 32 30 true (.load 1 false (.t 31)) (tg 33 30 true (.bin .eql (.t 32) (.c (.str []))) (tq 34 (.pick (.t 30) (.t 33) (.c (.bool false))) (tm 2 (.t 34) .done))))))))))
 .ret)
 (.seq (.reg (tq 36 (.bin .eql (.t 4) (.c (.int .i64 4))) (tm 35 (.t 36) .done)))
 (.cond (.t 35) (.seq (.reg (tq 37 (.faddr 1 (.t 1)) (tq 38 (.load 1 false (.t 37)) (tq 39 (.call 245 [(.t 38)]) (tm 40 (.t 39) (tg 41 40 true (.faddr 2 (.t 1)) (tg 42 40 true (.load 1 false (.t 41)) (tg 43 40 true (.bin .eql (.t 42) (.c (.str []))) (tq 44 (.pick (.t 40) (.t 43) (.c (.bool false))) (tm 2 (.t 44) .done))))))))))
 .ret)
 .skip))))))))))
 (.seq (.reg (tm 2 (.c (.bool false)) .done))
 .ret)))
theorem fc176 : fcomp Try.prog Try.f176 = some (c176.erase, [.mov (.t 2)], 45) := by kernel_rfl
def impl_AtomOK (a_1 : GAtom) : Option Bool :=
    if (a_1.Kind == 1) then
    (impl_isNumber a_1.N).bind fun r_3 =>
    if r_3 then
    some (a_1.T == [])
    else
    some false
    else
    if (a_1.Kind == 2) then
    if (a_1.N == 0) then
    (impl_isPlain a_1.T).bind fun r_8 =>
    some r_8
    else
    some false
    else
    if (a_1.Kind == 3) then
    (impl_within a_1.N 0 1).bind fun r_11 =>
    if r_11 then
    some (a_1.T == [])
    else
    some false
    else
    if (a_1.Kind == 4) then
    (impl_isId a_1.N).bind fun r_15 =>
    if r_15 then
    some (a_1.T == [])
    else
    some false
    else
    some false
theorem w_impl_AtomOK (a_1 : GAtom) (r : Bool) (hf : impl_AtomOK a_1 = some r) : CallOK Try.prog 176 .flat [(encGAtom a_1)] (.bool r) := by
 refine CallOK.of_awp mixed Try.func176 fc176 nle ?_; rw [argT_eq]; unfold impl_AtomOK at hf; unfold c176; refine (show awp Try.prog false 0 _ (ofL [(0, (encGAtom a_1))]) [] _ from ?_); refine awp_seq <| w_reg <| s_do (o_box (j := 0) (c := (.agg [(.int .i64 a_1.Kind), (.int .i64 a_1.N), (.str a_1.T)])) rfl trivial rfl rfl) <| s_mov (.bool false) rfl <| w_done <| k_seq <| awp_seq <| awp_seq <| w_reg <| s_q (.ptr 0 0 0) rfl trivial rfl <| s_q (.int .i64 a_1.Kind) rfl nle rfl <| w_done <| k_seq <| w_blk <| awp_seq <| w_reg <| s_q (.bool (a_1.Kind == 1)) rfl rfl rfl <| s_mov (.bool (a_1.Kind == 1)) rfl <| w_done <| k_seq <| ?_
 rcases oi hf with ⟨c2, hf⟩ | ⟨c2, hf⟩
 ·refine w_condt rfl c2 <| awp_seq <| w_reg <| ?_
  obtain ⟨r_3, er4, hf⟩ := ob hf
  rcases oi hf with ⟨c5, hf⟩ | ⟨c5, hf⟩
  ·refine s_q (.ptr 0 0 1) rfl trivial rfl <| s_q (.int .i64 a_1.N) rfl nle rfl <| s_do (o_call (w_impl_isNumber _ _ er4) rfl (.refl _) rfl) <| s_mov (.bool r_3) rfl <| s_lit (s := 10) (b := true) rfl c5 <| s_on rfl <| s_q (.ptr 0 0 2) rfl trivial rfl <| s_on rfl <| s_q (.str a_1.T) rfl nle rfl <| s_on rfl <| s_q (.bool (a_1.T == [])) rfl trivial rfl <| s_q (.bool (a_1.T == [])) rfl trivial rfl <| s_mov (.bool (a_1.T == [])) rfl <| w_done <| k_seq <| w_ret <| ?_; obtain rfl := os hf; exact r_flat ⟨trivial, trivial⟩ rfl (.refl _)
  ·refine s_q (.ptr 0 0 1) rfl trivial rfl <| s_q (.int .i64 a_1.N) rfl nle rfl <| s_do (o_call (w_impl_isNumber _ _ er4) rfl (.refl _) rfl) <| s_mov (.bool r_3) rfl <| s_lit (s := 10) (b := false) rfl (bf c5) <| s_off rfl rfl <| s_off rfl rfl <| s_off rfl rfl <| s_q (.bool false) rfl trivial rfl <| s_mov (.bool false) rfl <| w_done <| k_seq <| w_ret <| ?_; obtain rfl := os hf; exact r_flat ⟨trivial, trivial⟩ rfl (.refl _)
 ·refine w_condf rfl (bf c2) <| awp_seq <| w_reg <| s_q (.bool (a_1.Kind == 2)) rfl rfl rfl <| s_mov (.bool (a_1.Kind == 2)) rfl <| w_done <| k_seq <| ?_
  rcases oi hf with ⟨c6, hf⟩ | ⟨c6, hf⟩
  ·refine w_condt rfl c6 <| awp_seq <| w_reg <| ?_
   rcases oi hf with ⟨c7, hf⟩ | ⟨c7, hf⟩
   ·obtain ⟨r_8, er9, hf⟩ := ob hf
    refine s_q (.ptr 0 0 1) rfl trivial rfl <| s_q (.int .i64 a_1.N) rfl nle rfl <| s_q (.bool (a_1.N == 0)) rfl rfl rfl <| s_mov (.bool (a_1.N == 0)) rfl <| s_lit (s := 20) (b := true) rfl c7 <| s_on rfl <| s_q (.ptr 0 0 2) rfl trivial rfl <| s_on rfl <| s_q (.str a_1.T) rfl nle rfl <| s_on rfl <| s_do (o_call (w_impl_isPlain _ _ er9) rfl (.refl _) rfl) <| s_q (.bool r_8) rfl trivial rfl <| s_mov (.bool r_8) rfl <| w_done <| k_seq <| w_ret <| ?_; obtain rfl := os hf; exact r_flat ⟨trivial, trivial⟩ rfl (.refl _)
   ·refine s_q (.ptr 0 0 1) rfl trivial rfl <| s_q (.int .i64 a_1.N) rfl nle rfl <| s_q (.bool (a_1.N == 0)) rfl rfl rfl <| s_mov (.bool (a_1.N == 0)) rfl <| s_lit (s := 20) (b := false) rfl (bf c7) <| s_off rfl rfl <| s_off rfl rfl <| s_off rfl rfl <| s_q (.bool false) rfl trivial rfl <| s_mov (.bool false) rfl <| w_done <| k_seq <| w_ret <| ?_; obtain rfl := os hf; exact r_flat ⟨trivial, trivial⟩ rfl (.refl _)
  ·refine w_condf rfl (bf c6) <| awp_seq <| w_reg <| s_q (.bool (a_1.Kind == 3)) rfl rfl rfl <| s_mov (.bool (a_1.Kind == 3)) rfl <| w_done <| k_seq <| ?_
   rcases oi hf with ⟨c10, hf⟩ | ⟨c10, hf⟩
   ·refine w_condt rfl c10 <| awp_seq <| w_reg <| ?_
    obtain ⟨r_11, er12, hf⟩ := ob hf
    rcases oi hf with ⟨c13, hf⟩ | ⟨c13, hf⟩
    ·refine s_q (.ptr 0 0 1) rfl trivial rfl <| s_q (.int .i64 a_1.N) rfl nle rfl <| s_do (o_call (w_impl_within _ _ _ _ er12) rfl (.refl _) rfl) <| s_mov (.bool r_11) rfl <| s_lit (s := 30) (b := true) rfl c13 <| s_on rfl <| s_q (.ptr 0 0 2) rfl trivial rfl <| s_on rfl <| s_q (.str a_1.T) rfl nle rfl <| s_on rfl <| s_q (.bool (a_1.T == [])) rfl trivial rfl <| s_q (.bool (a_1.T == [])) rfl trivial rfl <| s_mov (.bool (a_1.T == [])) rfl <| w_done <| k_seq <| w_ret <| ?_; obtain rfl := os hf; exact r_flat ⟨trivial, trivial⟩ rfl (.refl _)
    ·refine s_q (.ptr 0 0 1) rfl trivial rfl <| s_q (.int .i64 a_1.N) rfl nle rfl <| s_do (o_call (w_impl_within _ _ _ _ er12) rfl (.refl _) rfl) <| s_mov (.bool r_11) rfl <| s_lit (s := 30) (b := false) rfl (bf c13) <| s_off rfl rfl <| s_off rfl rfl <| s_off rfl rfl <| s_q (.bool false) rfl trivial rfl <| s_mov (.bool false) rfl <| w_done <| k_seq <| w_ret <| ?_; obtain rfl := os hf; exact r_flat ⟨trivial, trivial⟩ rfl (.refl _)
   ·refine w_condf rfl (bf c10) <| awp_seq <| w_reg <| s_q (.bool (a_1.Kind == 4)) rfl rfl rfl <| s_mov (.bool (a_1.Kind == 4)) rfl <| w_done <| k_seq <| ?_
    rcases oi hf with ⟨c14, hf⟩ | ⟨c14, hf⟩
    ·refine w_condt rfl c14 <| awp_seq <| w_reg <| ?_
     obtain ⟨r_15, er16, hf⟩ := ob hf
     rcases oi hf with ⟨c17, hf⟩ | ⟨c17, hf⟩
     ·refine s_q (.ptr 0 0 1) rfl trivial rfl <| s_q (.int .i64 a_1.N) rfl nle rfl <| s_do (o_call (w_impl_isId _ _ er16) rfl (.refl _) rfl) <| s_mov (.bool r_15) rfl <| s_lit (s := 40) (b := true) rfl c17 <| s_on rfl <| s_q (.ptr 0 0 2) rfl trivial rfl <| s_on rfl <| s_q (.str a_1.T) rfl nle rfl <| s_on rfl <| s_q (.bool (a_1.T == [])) rfl trivial rfl <| s_q (.bool (a_1.T == [])) rfl trivial rfl <| s_mov (.bool (a_1.T == [])) rfl <| w_done <| k_seq <| w_ret <| ?_; obtain rfl := os hf; exact r_flat ⟨trivial, trivial⟩ rfl (.refl _)
     ·refine s_q (.ptr 0 0 1) rfl trivial rfl <| s_q (.int .i64 a_1.N) rfl nle rfl <| s_do (o_call (w_impl_isId _ _ er16) rfl (.refl _) rfl) <| s_mov (.bool r_15) rfl <| s_lit (s := 40) (b := false) rfl (bf c17) <| s_off rfl rfl <| s_off rfl rfl <| s_off rfl rfl <| s_q (.bool false) rfl trivial rfl <| s_mov (.bool false) rfl <| w_done <| k_seq <| w_ret <| ?_; obtain rfl := os hf; exact r_flat ⟨trivial, trivial⟩ rfl (.refl _)
    ·refine w_condf rfl (bf c14) <| w_skip <| k_blk <| k_seq <| awp_seq <| w_reg <| s_mov (.bool false) rfl <| w_done <| k_seq <| w_ret <| ?_; obtain rfl := os hf; exact r_flat ⟨trivial, trivial⟩ rfl (.refl _)

/- cmp.isNaN[int] -/
def c271 : ACode :=
 (.seq (.reg (tm 2 (.c (.bool false)) .done))
 (.seq (.reg (tm 3 (.t 0) (tm 4 (.t 0) (tq 5 (.bin .neq (.t 3) (.t 4)) (tm 2 (.t 5) .done)))))
 .ret))
theorem fc271 : fcomp Try.prog Try.f271 = some (c271.erase, [.mov (.t 2)], 6) := by kernel_rfl
def cmp_isNaN_int (x_1 : Int) : Option Bool :=
    some (x_1 != x_1)
theorem w_cmp_isNaN_int (x_1 : Int) (r : Bool) (hf : cmp_isNaN_int x_1 = some r) : CallOK Try.prog 271 .flat [(.int .i64 x_1)] (.bool r) := by
  refine CallOK.of_awp mixed Try.func271 fc271 nle ?_
  rw [argT_eq]
  unfold cmp_isNaN_int at hf
  unfold c271
  refine (show awp Try.prog false 0 _ (ofL [(0, (.int .i64 x_1))]) [] _ from ?_)
  refine awp_seq ?_
  refine w_reg ?_
  refine s_do (o_mov (.bool false) rfl) ?_
  refine w_done ?_
  refine k_seq ?_
  refine awp_seq ?_
  refine w_reg ?_
  refine s_do (o_mov (.int .i64 x_1) rfl) ?_
  refine s_do (o_mov (.int .i64 x_1) rfl) ?_
  refine s_do (o_q (.bool (x_1 != x_1)) rfl rfl rfl) ?_
  refine s_do (o_mov (.bool (x_1 != x_1)) rfl) ?_
  refine w_done ?_
  refine k_seq ?_
  refine w_ret ?_
  obtain rfl := os hf
  exact r_flat ⟨trivial, trivial⟩ rfl (.refl _)

/- cmp.Compare[int] -/
def c247 : ACode :=
 (.seq (.reg (tm 4 (.c (.int .i64 0)) .done))
 (.seq (.reg (tm 7 (.t 0) (tq 8 (.call 271 [(.t 7)]) (tm 5 (.t 8) .done))))
 (.seq (.reg (tm 9 (.t 1) (tq 10 (.call 271 [(.t 9)]) (tm 6 (.t 10) .done))))
 (.seq (.seq (.reg (tm 11 (.t 5) .done))
 (.cond (.t 11) (.seq (.seq (.reg (tm 12 (.t 6) .done))
 (.cond (.t 12) (.seq (.reg (tm 4 (.c (.int .i64 0)) .done))
 .ret)
 .skip))
 (.seq (.reg (tq 4 (.mov (.c (.int .i64 (-1)))) .done))
 .ret))
 .skip))
 (.seq (.seq (.reg (tm 13 (.t 6) .done))
 (.cond (.t 13) (.seq (.reg (tm 4 (.c (.int .i64 1)) .done))
 .ret)
 .skip))
 (.seq (.seq (.reg (tm 14 (.t 0) (tm 15 (.t 1) (tq 16 (.bin .lss (.t 14) (.t 15)) .done))))
 (.cond (.t 16) (.seq (.reg (tq 4 (.mov (.c (.int .i64 (-1)))) .done))
 .ret)
 .skip))
 (.seq (.seq (.reg (tm 17 (.t 0) (tm 18 (.t 1) (tq 19 (.bin .gtr (.t 17) (.t 18)) .done))))
 (.cond (.t 19) (.seq (.reg (tm 4 (.c (.int .i64 1)) .done))
 .ret)
 .skip))
 (.seq (.reg (tm 4 (.c (.int .i64 0)) .done))
 .ret))))))))
theorem fc247 : fcomp Try.prog Try.f247 = some (c247.erase, [.mov (.t 4)], 20) := by kernel_rfl
def cmp_Compare_int (x_1 : Int) (y_2 : Int) : Option Int :=
    (cmp_isNaN_int x_1).bind fun r_3 =>
    (cmp_isNaN_int y_2).bind fun r_5 =>
    if r_3 then
    if r_5 then
    some 0
    else
    some (-1)
    else
    if r_5 then
    some 1
    else
    if (decide (x_1 < y_2)) then
    some (-1)
    else
    if (decide (x_1 > y_2)) then
    some 1
    else
    some 0
theorem w_cmp_Compare_int (x_1 : Int) (y_2 : Int) (r : Int) (hf : cmp_Compare_int x_1 y_2 = some r) : CallOK Try.prog 247 .flat [(.int .i64 x_1), (.int .i64 y_2)] (.int .i64 r) := by
 refine CallOK.of_awp mixed Try.func247 fc247 nle ?_; rw [argT_eq]; unfold cmp_Compare_int at hf; unfold c247; refine (show awp Try.prog false 0 _ (ofL [(0, (.int .i64 x_1)), (1, (.int .i64 y_2))]) [] _ from ?_); refine awp_seq <| w_reg <| s_mov (.int .i64 0) rfl <| w_done <| k_seq <| awp_seq <| w_reg <| ?_
 obtain ⟨r_3, er4, hf⟩ := ob hf
 refine s_mov (.int .i64 x_1) rfl <| s_do (o_call (w_cmp_isNaN_int _ _ er4) rfl (.refl _) rfl) <| s_mov (.bool r_3) rfl <| w_done <| k_seq <| awp_seq <| w_reg <| ?_
 obtain ⟨r_5, er6, hf⟩ := ob hf
 refine s_mov (.int .i64 y_2) rfl <| s_do (o_call (w_cmp_isNaN_int _ _ er6) rfl (.refl _) rfl) <| s_mov (.bool r_5) rfl <| w_done <| k_seq <| awp_seq <| awp_seq <| w_reg <| s_mov (.bool r_3) rfl <| w_done <| k_seq <| ?_
 rcases oi hf with ⟨c7, hf⟩ | ⟨c7, hf⟩
 ·refine w_condt rfl c7 <| awp_seq <| awp_seq <| w_reg <| s_mov (.bool r_5) rfl <| w_done <| k_seq <| ?_
  rcases oi hf with ⟨c8, hf⟩ | ⟨c8, hf⟩
  ·refine w_condt rfl c8 <| awp_seq <| w_reg <| s_mov (.int .i64 0) rfl <| w_done <| k_seq <| w_ret <| ?_; obtain rfl := os hf; exact r_flat ⟨trivial, trivial⟩ rfl (.refl _)
  ·refine w_condf rfl (bf c8) <| w_skip <| k_seq <| awp_seq <| w_reg <| s_mov (.int .i64 (-1)) rfl <| w_done <| k_seq <| w_ret <| ?_; obtain rfl := os hf; exact r_flat ⟨trivial, trivial⟩ rfl (.refl _)
 ·refine w_condf rfl (bf c7) <| w_skip <| k_seq <| awp_seq <| awp_seq <| w_reg <| s_mov (.bool r_5) rfl <| w_done <| k_seq <| ?_
  rcases oi hf with ⟨c9, hf⟩ | ⟨c9, hf⟩
  ·refine w_condt rfl c9 <| awp_seq <| w_reg <| s_mov (.int .i64 1) rfl <| w_done <| k_seq <| w_ret <| ?_; obtain rfl := os hf; exact r_flat ⟨trivial, trivial⟩ rfl (.refl _)
  ·refine w_condf rfl (bf c9) <| w_skip <| k_seq <| awp_seq <| awp_seq <| w_reg <| s_mov (.int .i64 x_1) rfl <| s_mov (.int .i64 y_2) rfl <| s_q (.bool (decide (x_1 < y_2))) rfl rfl rfl <| w_done <| k_seq <| ?_
   rcases oi hf with ⟨c10, hf⟩ | ⟨c10, hf⟩
   ·refine w_condt rfl c10 <| awp_seq <| w_reg <| s_mov (.int .i64 (-1)) rfl <| w_done <| k_seq <| w_ret <| ?_; obtain rfl := os hf; exact r_flat ⟨trivial, trivial⟩ rfl (.refl _)
   ·refine w_condf rfl (bf c10) <| w_skip <| k_seq <| awp_seq <| awp_seq <| w_reg <| s_mov (.int .i64 x_1) rfl <| s_mov (.int .i64 y_2) rfl <| s_q (.bool (decide (x_1 > y_2))) rfl rfl rfl <| w_done <| k_seq <| ?_
    rcases oi hf with ⟨c11, hf⟩ | ⟨c11, hf⟩
    ·refine w_condt rfl c11 <| awp_seq <| w_reg <| s_mov (.int .i64 1) rfl <| w_done <| k_seq <| w_ret <| ?_; obtain rfl := os hf; exact r_flat ⟨trivial, trivial⟩ rfl (.refl _)
    ·refine w_condf rfl (bf c11) <| w_skip <| k_seq <| awp_seq <| w_reg <| s_mov (.int .i64 0) rfl <| w_done <| k_seq <| w_ret <| ?_; obtain rfl := os hf; exact r_flat ⟨trivial, trivial⟩ rfl (.refl _)

/- internal/bytealg.CompareString -/
def internal_bytealg_CompareString (a b : Str) : Option Int := some (Lib.compareBytes a b)
set_option maxRecDepth 100000 in
open Go.RowKit in
theorem cmps_run (a b : ByteArray) (w : World) : Calls Try.prog 251 #[.string a, .string b] w fun e w' => e = .returned (.int .i64 (Lib.compareBytes a.data.toList b.data.toList)) ∧ w' = w := by
  go_enter Try.func251, (show Try.f251.ntmps = _ from rfl)
  go_wp2
  rw [run_callFunc_extern Try.func272 (by kernel_rfl) (by kernel_rfl) (by kernel_rfl) (e := Extern.BytealgCompare.compare) (by kernel_rfl), Lib.run_compareString]
  simp only [Result.andThen]
  rw [Oper.upon_value]
  go_wp2
  go_ret
  exact ⟨rfl, rfl⟩
open Go.RowKit in
theorem w_internal_bytealg_CompareString (a b : Str) (r : Int) (hf : internal_bytealg_CompareString a b = some r) : CallOK Try.prog 251 .flat [(.str a), (.str b)] (.int .i64 r) := by
  intro w vals fps hr
  simp only [RepVs, Rep] at hr
  obtain ⟨v1, vs1, f1, f2, rfl, ⟨rfl, h1, rfl⟩, ⟨v2, vs2, f3, f4, rfl, ⟨rfl, h2, rfl⟩, ⟨rfl, rfl⟩, rfl⟩, rfl⟩ := hr
  unfold internal_bytealg_CompareString at hf
  obtain rfl := os hf
  refine (cmps_run ⟨a.toArray⟩ ⟨b.toArray⟩ w).mono ?_
  rintro e w' ⟨rfl, rfl⟩
  refine ⟨Below.refl _ _, ?_⟩
  exact ⟨[.int .i64 (Lib.compareBytes a b)], rfl, by simp [Rep]⟩

/- strings.Compare -/
def c184 : ACode :=
 (.seq (.reg (tm 4 (.c (.int .i64 0)) .done))
 (.seq (.reg (tm 5 (.t 0) (tm 6 (.t 1) (tq 7 (.call 251 [(.t 5), (.t 6)]) (tm 4 (.t 7) .done)))))
 .ret))
theorem fc184 : fcomp Try.prog Try.f184 = some (c184.erase, [.mov (.t 4)], 8) := by kernel_rfl
def strings_Compare (a_1 : Str) (b_2 : Str) : Option Int :=
    (internal_bytealg_CompareString a_1 b_2).bind fun r_3 =>
    some r_3
theorem w_strings_Compare (a_1 : Str) (b_2 : Str) (r : Int) (hf : strings_Compare a_1 b_2 = some r) : CallOK Try.prog 184 .flat [(.str a_1), (.str b_2)] (.int .i64 r) := by
  refine CallOK.of_awp mixed Try.func184 fc184 nle ?_
  rw [argT_eq]
  unfold strings_Compare at hf
  unfold c184
  refine (show awp Try.prog false 0 _ (ofL [(0, (.str a_1)), (1, (.str b_2))]) [] _ from ?_)
  refine awp_seq ?_
  refine w_reg ?_
  refine s_do (o_mov (.int .i64 0) rfl) ?_
  refine w_done ?_
  refine k_seq ?_
  refine awp_seq ?_
  refine w_reg ?_
  obtain ⟨r_3, er4, hf⟩ := ob hf
  refine s_do (o_mov (.str a_1) rfl) ?_
  refine s_do (o_mov (.str b_2) rfl) ?_
  refine s_do (o_call (w_internal_bytealg_CompareString _ _ _ er4) rfl (.refl _) rfl) ?_
  refine s_do (o_mov (.int .i64 r_3) rfl) ?_
  refine w_done ?_
  refine k_seq ?_
  refine w_ret ?_
  obtain rfl := os hf
  exact r_flat ⟨trivial, trivial⟩ rfl (.refl _)

/- cmp.Or[int] -/
def c246 : ACode :=
 (.seq (.reg (tm 2 (.c (.int .i64 0)) .done))
 (.seq (.reg (tm 3 (.c (.int .i64 0)) .done))
 (.seq (.seq (.reg (tm 6 (.t 0) (tq 7 (.len (.t 6)) (tm 8 (.c (.int .i64 0)) .done))))
 (.block 0 (.loop (.seq (.reg (tq 9 (.bin .lss (.t 8) (.t 7)) .done))
 (.seq (.cond (.t 9) .skip
 (.exit 0))
 (.seq (.block 1 (.seq (.reg (tq 10 (.iaddr 1 (.t 6) (.t 8)) (tq 11 (.load 1 false (.t 10)) (tm 5 (.t 11) .done))))
 (.seq (.reg (tm 12 (.t 5) (tm 13 (.t 3) (tq 14 (.bin .neq (.t 12) (.t 13)) .done))))
 (.cond (.t 14) (.seq (.reg (tm 15 (.t 5) (tm 2 (.t 15) .done)))
 .ret)
 .skip))))
 (.reg (tq 16 (.bin .add (.t 8) (.c (.int .i64 1))) (tm 8 (.t 16) .done)))))))))
 (.cut (.seq (.reg (tm 17 (.t 3) (tm 2 (.t 17) .done)))
 .ret)))))
theorem fc246 : fcomp Try.prog Try.f246 = some (c246.erase, [.mov (.t 2)], 18) := by kernel_rfl
def cmp_Or_int_L1  : List Int → Option (Fl Int Unit)
  | [] =>
    some (.go ())
  | x_24 :: xs =>
    if (x_24 != 0) then
    some (.ret x_24)
    else
    cmp_Or_int_L1 xs 

def cmp_Or_int (vals_1 : (List Int)) : Option Int :=
    (cmp_Or_int_L1 vals_1 ).bind fun q => (match q with
    | .ret r => some r
    | .go _ =>
    some 0)
theorem w_cmp_Or_int (vals_1 : (List Int)) (r : Int) (hf : cmp_Or_int vals_1 = some r) : CallOK Try.prog 246 .flat [(.lst 1 (vals_1.map encI))] (.int .i64 r) := by
 refine CallOK.of_awp mixed Try.func246 fc246 nle ?_; rw [argT_eq]; unfold cmp_Or_int at hf; unfold c246; refine (show awp Try.prog false 0 _ (ofL [(0, (.lst 1 (vals_1.map encI)))]) [] _ from ?_); refine awp_seq <| w_reg <| s_mov (.int .i64 0) rfl <| w_done <| k_seq <| awp_seq <| w_reg <| s_mov (.int .i64 0) rfl <| w_done <| k_seq <| awp_seq <| awp_seq <| w_reg <| s_mov (.lst 1 (vals_1.map encI)) rfl <| s_dof (o_len (enc := encI) rfl) fun hl2 => s_mov (.int .i64 0) rfl <| w_done <| k_seq <| ?_
 obtain ⟨p17, hb1, hf⟩ := ob hf
 refine awp_cutx (X := {q : Unit // p17 = .go q}) (fun q => ([(3, (.int .i64 0))], [])) ?_ ?_
 ·refine awp_loop (X := {q : Nat // cmp_Or_int_L1 (vals_1.drop q)  = some p17}) (fun q => ([(3, (.int .i64 0)), (6, (.lst 1 (vals_1.map encI))), (7, (.int .i64 (vals_1.length : Int))), (8, (.int .i64 (q.1 : Int)))], [])) (fun q => vals_1.length - q.1) ⟨0, hb1⟩ ⟨[], [], _, _, rfl, rfl, ⟨.refl _, ⟨.refl _, ⟨.refl _, ⟨.refl _, trivial⟩⟩⟩⟩, (.refl _)⟩ ?_
  rintro ⟨s8_12, hc1⟩
  have hc1 : cmp_Or_int_L1 (vals_1.drop s8_12)  = some p17 := hc1
  refine (show awp Try.prog false 0 _ (ofL [(3, (.int .i64 0)), (6, (.lst 1 (vals_1.map encI))), (7, (.int .i64 (vals_1.length : Int))), (8, (.int .i64 (s8_12 : Int)))]) [] _ from ?_)
  rcases dropc vals_1 s8_12 with ⟨hie20, hd23⟩ | ⟨hlt18, x_24, hx19, hd23⟩
  ·rw [hd23, cmp_Or_int_L1.eq_1] at hc1
   have hq22 := dlf hie20
   refine awp_seq <| w_reg <| s_q (.bool (decide ((s8_12 : Int) < (vals_1.length : Int)))) rfl rfl rfl <| w_done <| k_seq <| awp_seq <| w_condf rfl hq22 <| w_exit <| k_seqx <| k_loopx <| k_blkx <| ?_; obtain rfl := os hc1; exact k_cutn ⟨_, rfl⟩ ⟨[], [], _, _, rfl, rfl, ⟨.refl _, trivial⟩, (.refl _)⟩
  ·rw [hd23, cmp_Or_int_L1.eq_2] at hc1
   have hq22 := dlt hlt18
   refine awp_seq <| w_reg <| s_q (.bool (decide ((s8_12 : Int) < (vals_1.length : Int)))) rfl rfl rfl <| w_done <| k_seq <| awp_seq <| w_condt rfl hq22 <| w_skip <| k_seq <| awp_seq <| w_blk <| awp_seq <| w_reg <| s_do (o_iaddrn (enc := encI) rfl rfl hx19) <| s_q (.int .i64 x_24) rfl ⟨rfl, rfl⟩ rfl <| s_mov (.int .i64 x_24) rfl <| w_done <| k_seq <| awp_seq <| w_reg <| s_mov (.int .i64 x_24) rfl <| s_mov (.int .i64 0) rfl <| s_q (.bool (x_24 != 0)) rfl rfl rfl <| w_done <| k_seq <| ?_
   rcases oi hc1 with ⟨c25, hc1⟩ | ⟨c25, hc1⟩
   ·refine w_condt rfl c25 <| awp_seq <| w_reg <| s_mov (.int .i64 x_24) rfl <| s_mov (.int .i64 x_24) rfl <| w_done <| k_seq <| w_ret <| ?_; obtain rfl := os hc1; obtain rfl := os hf; exact r_flat ⟨trivial, trivial⟩ rfl (.refl _)
   ·refine w_condf rfl (bf c25) <| w_skip <| k_blk <| k_seq <| w_reg <| s_q (.int .i64 (w64 ((s8_12 : Int) + 1))) rfl rfl rfl <| s_mov (.int .i64 (w64 ((s8_12 : Int) + 1))) rfl <| w_done <| ?_; exact k_loopn ⟨(s8_12 + 1), hc1⟩ (mul hlt18) ⟨[], [], _, _, rfl, rfl, ⟨.refl _, ⟨.refl _, ⟨.refl _, ⟨.of_eq (congrArg (AV.int _) (w64_incr hlt18 hl2)), trivial⟩⟩⟩⟩, (.refl _)⟩
 ·rintro ⟨_, rfl⟩
  refine awp_seq <| w_reg <| s_mov (.int .i64 0) rfl <| s_mov (.int .i64 0) rfl <| w_done <| k_seq <| w_ret <| ?_; obtain rfl := os hf; exact r_flat ⟨trivial, trivial⟩ rfl (.refl _)

/- impl.compareAtoms -/
def c177 : ACode :=
 (.seq (.reg (tq 2 (.box 3 (.t 0)) (tq 3 (.box 3 (.t 1)) (tm 4 (.c (.int .i64 0)) .done))))
 (.seq (.reg (tq 5 (.faddr 0 (.t 2)) (tq 6 (.load 1 false (.t 5)) (tq 7 (.faddr 0 (.t 3)) (tq 8 (.load 1 false (.t 7)) (tq 10 (.faddr 1 (.t 2)) (tq 11 (.load 1 false (.t 10)) (tq 12 (.faddr 1 (.t 3)) (tq 13 (.load 1 false (.t 12)) (tq 15 (.faddr 2 (.t 2)) (tq 16 (.load 1 false (.t 15)) (tq 17 (.faddr 2 (.t 3)) (tq 18 (.load 1 false (.t 17)) (.l ⟨(some 9), none, .call 247 [(.t 6), (.t 8)]⟩ [⟨(some 18), none, .load 1 false (.t 17)⟩, ⟨(some 17), none, .faddr 2 (.t 3)⟩, ⟨(some 16), none, .load 1 false (.t 15)⟩, ⟨(some 15), none, .faddr 2 (.t 2)⟩, ⟨(some 13), none, .load 1 false (.t 12)⟩, ⟨(some 12), none, .faddr 1 (.t 3)⟩, ⟨(some 11), none, .load 1 false (.t 10)⟩, ⟨(some 10), none, .faddr 1 (.t 2)⟩]
 (.l ⟨(some 14), none, .call 247 [(.t 11), (.t 13)]⟩ [⟨(some 18), none, .load 1 false (.t 17)⟩, ⟨(some 17), none, .faddr 2 (.t 3)⟩, ⟨(some 16), none, .load 1 false (.t 15)⟩, ⟨(some 15), none, .faddr 2 (.t 2)⟩]
 (.l ⟨(some 19), none, .call 184 [(.t 16), (.t 18)]⟩ []
 (.l ⟨(some 20), none, .bslice 1 [(.t 9), (.t 14), (.t 19)]⟩ []
 (.l ⟨(some 21), none, .call 246 [(.t 20)]⟩ []
 (tm 4 (.t 21) .done) .non) .non) .non) .non) .non))))))))))))))
 .ret))
theorem fc177 : fcomp Try.prog Try.f177 = some (c177.erase, [.mov (.t 4)], 22) := by kernel_rfl
def impl_compareAtoms (a_1 : GAtom) (b_2 : GAtom) : Option Int :=
    (cmp_Compare_int a_1.Kind b_2.Kind).bind fun r_3 =>
    (cmp_Compare_int a_1.N b_2.N).bind fun r_5 =>
    (strings_Compare a_1.T b_2.T).bind fun r_7 =>
    (cmp_Or_int [r_3, r_5, r_7]).bind fun r_9 =>
    some r_9
theorem w_impl_compareAtoms (a_1 : GAtom) (b_2 : GAtom) (r : Int) (hf : impl_compareAtoms a_1 b_2 = some r) : CallOK Try.prog 177 .flat [(encGAtom a_1), (encGAtom b_2)] (.int .i64 r) := by
 refine CallOK.of_awp mixed Try.func177 fc177 nle ?_; rw [argT_eq]; unfold impl_compareAtoms at hf; unfold c177; refine (show awp Try.prog false 0 _ (ofL [(0, (encGAtom a_1)), (1, (encGAtom b_2))]) [] _ from ?_); refine awp_seq <| w_reg <| s_do (o_box (j := 0) (c := (.agg [(.int .i64 a_1.Kind), (.int .i64 a_1.N), (.str a_1.T)])) rfl trivial rfl rfl) <| s_do (o_box (j := 1) (c := (.agg [(.int .i64 b_2.Kind), (.int .i64 b_2.N), (.str b_2.T)])) rfl trivial rfl rfl) <| s_mov (.int .i64 0) rfl <| w_done <| k_seq <| awp_seq <| w_reg <| s_q (.ptr 0 0 0) rfl trivial rfl <| s_q (.int .i64 a_1.Kind) rfl nle rfl <| s_q (.ptr 1 0 0) rfl trivial rfl <| s_q (.int .i64 b_2.Kind) rfl nle rfl <| s_q (.ptr 0 0 1) rfl trivial rfl <| s_q (.int .i64 a_1.N) rfl nle rfl <| ?_
 refine s_q (.ptr 1 0 1) rfl trivial rfl <| s_q (.int .i64 b_2.N) rfl nle rfl <| s_q (.ptr 0 0 2) rfl trivial rfl <| s_q (.str a_1.T) rfl nle rfl <| s_q (.ptr 1 0 2) rfl trivial rfl <| s_q (.str b_2.T) rfl nle rfl <| ?_
 obtain ⟨r_3, er4, hf⟩ := ob hf
 refine s_dol (o_call (w_cmp_Compare_int _ _ _ er4) rfl (.refl _) rfl) a_same trivial ?_
 obtain ⟨r_5, er6, hf⟩ := ob hf
 refine s_dol (o_call (w_cmp_Compare_int _ _ _ er6) rfl (.refl _) rfl) a_same trivial ?_
 obtain ⟨r_7, er8, hf⟩ := ob hf
 refine s_dol (o_call (w_strings_Compare _ _ _ er8) rfl (.refl _) rfl) a_same trivial ?_; refine s_dol (o_bslice (j := 2) (as' := [(.int .i64 r_3), (.int .i64 r_5), (.int .i64 r_7)]) rfl (fun _ => by decide) ⟨rfl, ⟨rfl, ⟨rfl, trivial⟩⟩⟩ (.refl _) rfl rfl rfl) trivial trivial ?_
 obtain ⟨r_9, er10, hf⟩ := ob hf
 refine s_dol (o_call (w_cmp_Or_int _ _ er10) rfl (.cons (.of_eq (congrArg (AV.lst _) (by rfl))) .nil) rfl) a_same trivial <| s_mov (.int .i64 r_9) rfl <| w_done <| k_seq <| w_ret <| ?_; obtain rfl := os hf; exact r_flat ⟨trivial, trivial⟩ rfl (.refl _)

/- impl.DatumOK -/
def c85 : ACode :=
 (.seq (.reg (tm 2 (.c (.bool false)) .done))
 (.seq (.seq (.reg (tm 5 (.t 0) (tq 6 (.len (.t 5)) (tm 7 (.c (.int .i64 0)) .done))))
 (.block 0 (.loop (.seq (.reg (tq 8 (.bin .lss (.t 7) (.t 6)) .done))
 (.seq (.cond (.t 8) .skip
 (.exit 0))
 (.seq (.block 1 (.seq (.reg (tm 9 (.t 7) (tq 10 (.iaddr 3 (.t 5) (.t 7)) (tq 11 (.load 3 true (.t 10)) (tq 4 (.box 3 (.c (.agg [(.int .i64 0), (.int .i64 0), (.str [])]))) (tm 3 (.t 9) (.q ⟨none, none, .store 3 (.t 4) (.t 11)⟩
 .done)))))))
 (.seq (.reg (tq 12 (.load 3 true (.t 4)) (.l ⟨(some 13), none, .call 176 [(.t 12)]⟩ []
 (tq 14 (.not (.t 13)) (tm 15 (.t 14) (tg 16 15 false (.faddr 0 (.t 4)) (tg 17 15 false (.load 1 false (.t 16)) (tg 18 15 false (.mov (.t 0)) (tg 19 15 false (.iaddr 3 (.t 18) (.c (.int .i64 0))) (tg 20 15 false (.faddr 0 (.t 19)) (tg 21 15 false (.load 1 false (.t 20)) (tg 22 15 false (.bin .neq (.t 17) (.t 21)) (tq 23 (.pick (.t 15) (.c (.bool true)) (.t 22)) (tm 24 (.t 23) (tg 25 24 false (.mov (.t 3)) (tg 26 24 false (.bin .gtr (.t 25) (.c (.int .i64 0))) (tg 27 24 false (.mov (.t 26)) (tg 28 27 true (.mov (.t 0)) (tg 29 27 true (.mov (.t 3)) (tg 30 27 true (.bin .sub (.t 29) (.c (.int .i64 1))) (tg 31 27 true (.iaddr 3 (.t 28) (.t 30)) (tg 32 27 true (.load 3 true (.t 31)) (tg 33 27 true (.load 3 true (.t 4)) (.l ⟨(some 34), (some (27, true)), .call 177 [(.t 32), (.t 33)]⟩ []
 (tg 35 27 true (.bin .geq (.t 34) (.c (.int .i64 0))) (tg 36 24 false (.pick (.t 27) (.t 35) (.c (.bool false))) (tq 37 (.pick (.t 24) (.c (.bool true)) (.t 36)) .done))) .non))))))))))))))))))))) .non)))
 (.cut (.cond (.t 37) (.seq (.reg (tm 2 (.c (.bool false)) .done))
 .ret)
 .skip)))))
 (.reg (tq 38 (.bin .add (.t 7) (.c (.int .i64 1))) (tm 7 (.t 38) .done)))))))))
 (.cut (.seq (.reg (tm 39 (.t 0) (tq 40 (.len (.t 39)) (tq 41 (.bin .leq (.t 40) (.c (.int .i64 8))) (tm 2 (.t 41) .done)))))
 .ret))))
theorem fc85 : fcomp Try.prog Try.f85 = some (c85.erase, [.mov (.t 2)], 42) := by kernel_rfl
def impl_DatumOK_L1 (d_1 : (List GAtom)) : List GAtom → Nat → Option (Fl Bool Unit)
  | [], s7_60 =>
    some (.go ())
  | x_96 :: xs, s7_60 =>
    (((impl_AtomOK x_96).bind fun r_110 =>
    if (!r_110) then
    some true
    else
    (idx d_1 0).bind fun x_113 =>
    if (x_96.Kind != x_113.Kind) then
    some true
    else
    if (decide ((s7_60 : Int) > 0)) then
    (idx d_1 (w64 ((s7_60 : Int) - 1))).bind fun x_117 =>
    (impl_compareAtoms x_117 x_96).bind fun r_119 =>
    some (decide (r_119 ≥ 0))
    else
    some false : Option Bool)).bind fun s37_108 =>
    if s37_108 then
    some (.ret false)
    else
    impl_DatumOK_L1 d_1 xs (s7_60 + 1)

def impl_DatumOK (d_1 : (List GAtom)) : Option Bool :=
    (impl_DatumOK_L1 d_1 d_1 0).bind fun q => (match q with
    | .ret r => some r
    | .go _ =>
    some (decide ((d_1.length : Int) ≤ 8)))
theorem w_impl_DatumOK (d_1 : (List GAtom)) (r : Bool) (hf : impl_DatumOK d_1 = some r) : CallOK Try.prog 85 .flat [(.lst 3 (d_1.map encGAtom))] (.bool r) := by
 refine CallOK.of_awp mixed Try.func85 fc85 nle ?_; rw [argT_eq]; unfold impl_DatumOK at hf; unfold c85; refine (show awp Try.prog false 0 _ (ofL [(0, (.lst 3 (d_1.map encGAtom)))]) [] _ from ?_); refine awp_seq <| w_reg <| s_mov (.bool false) rfl <| w_done <| k_seq <| awp_seq <| awp_seq <| w_reg <| s_mov (.lst 3 (d_1.map encGAtom)) rfl <| s_dof (o_len (enc := encGAtom) rfl) fun hl2 => s_mov (.int .i64 0) rfl <| w_done <| k_seq <| ?_
 obtain ⟨p89, hb1, hf⟩ := ob hf
 refine awp_cutx (X := {q : Unit // p89 = .go q}) (fun q => ([(0, (.lst 3 (d_1.map encGAtom)))], [])) ?_ ?_
 ·refine awp_loop (X := {q : Nat // impl_DatumOK_L1 d_1 (d_1.drop q) q = some p89}) (fun q => ([(0, (.lst 3 (d_1.map encGAtom))), (5, (.lst 3 (d_1.map encGAtom))), (6, (.int .i64 (d_1.length : Int))), (7, (.int .i64 (q.1 : Int)))], [])) (fun q => d_1.length - q.1) ⟨0, hb1⟩ ⟨[], [], _, _, rfl, rfl, ⟨.refl _, ⟨.refl _, ⟨.refl _, ⟨.refl _, trivial⟩⟩⟩⟩, (.refl _)⟩ ?_
  rintro ⟨s7_60, hc1⟩
  have hc1 : impl_DatumOK_L1 d_1 (d_1.drop s7_60) s7_60 = some p89 := hc1
  refine (show awp Try.prog false 0 _ (ofL [(0, (.lst 3 (d_1.map encGAtom))), (5, (.lst 3 (d_1.map encGAtom))), (6, (.int .i64 (d_1.length : Int))), (7, (.int .i64 (s7_60 : Int)))]) [] _ from ?_)
  rcases dropc d_1 s7_60 with ⟨hie92, hd95⟩ | ⟨hlt90, x_96, hx91, hd95⟩
  ·rw [hd95, impl_DatumOK_L1.eq_1] at hc1
   have hq94 := dlf hie92
   refine awp_seq <| w_reg <| s_q (.bool (decide ((s7_60 : Int) < (d_1.length : Int)))) rfl rfl rfl <| w_done <| k_seq <| awp_seq <| w_condf rfl hq94 <| w_exit <| k_seqx <| k_loopx <| k_blkx <| ?_; obtain rfl := os hc1; exact k_cutn ⟨_, rfl⟩ ⟨[], [], _, _, rfl, rfl, ⟨.refl _, trivial⟩, (.refl _)⟩
  ·rw [hd95, impl_DatumOK_L1.eq_2] at hc1
   have hq94 := dlt hlt90
   refine awp_seq <| w_reg <| s_q (.bool (decide ((s7_60 : Int) < (d_1.length : Int)))) rfl rfl rfl <| w_done <| k_seq <| awp_seq <| w_condt rfl hq94 <| w_skip <| k_seq <| awp_seq <| w_blk <| awp_seq <| w_reg <| s_mov (.int .i64 (s7_60 : Int)) rfl <| s_do (o_iaddrn (enc := encGAtom) rfl rfl hx91) <| s_q (encGAtom x_96) rfl nle rfl <| s_do (o_box (j := 0) (c := (.agg [(.int .i64 0), (.int .i64 0), (.str [])])) rfl trivial rfl rfl) <| s_mov (.int .i64 (s7_60 : Int)) rfl <| s_do0 (o_storebox (v := (.agg [(.int .i64 x_96.Kind), (.int .i64 x_96.N), (.str x_96.T)])) (y' := (.agg [(.int .i64 x_96.Kind), (.int .i64 x_96.N), (.str x_96.T)])) rfl rfl rfl trivial ⟨rfl, nle⟩ ⟨⟨rfl, trivial⟩, ⟨⟨rfl, trivial⟩, ⟨⟨rfl, trivial⟩, trivial⟩⟩⟩ rfl) <| ?_
   refine w_done <| k_seq <| awp_seq <| ?_
   obtain ⟨s37_108, hb2, hc1⟩ := ob hc1
   refine awp_cut ([(0, (.lst 3 (d_1.map encGAtom))), (5, (.lst 3 (d_1.map encGAtom))), (6, (.int .i64 (d_1.length : Int))), (7, (.int .i64 (s7_60 : Int))), (37, (.bool s37_108))], []) ?_ ?_
   ·refine w_reg <| s_q (.agg [(.int .i64 x_96.Kind), (.int .i64 x_96.N), (.str x_96.T)]) rfl nle rfl <| ?_
    obtain ⟨r_110, er111, hb2⟩ := ob hb2
    refine s_dol (o_call (w_impl_AtomOK _ _ er111) rfl (.refl _) rfl) a_same trivial <| s_q (.bool (!r_110)) rfl trivial rfl <| s_mov (.bool (!r_110)) rfl <| ?_
    rcases oi hb2 with ⟨c112, hb2⟩ | ⟨c112, hb2⟩
    ·refine s_lit (s := 15) (b := true) rfl c112 <| s_off rfl rfl <| s_off rfl rfl <| s_off rfl rfl <| s_off rfl rfl <| s_off rfl rfl <| s_off rfl rfl <| s_off rfl rfl <| s_q (.bool true) rfl trivial rfl <| s_mov (.bool true) rfl <| s_off rfl rfl <| s_off rfl rfl <| s_off rfl rfl <| s_offs rfl <| s_offs rfl <| s_offs rfl <| s_offs rfl <| s_offs rfl <| s_offs rfl <| s_offsl rfl trivial <| s_offs rfl <| s_off rfl rfl <| s_q (.bool true) rfl trivial rfl <| w_done <| ?_; obtain rfl := os hb2; exact ⟨[], [], _, _, rfl, rfl, ⟨.refl _, ⟨.refl _, ⟨.refl _, ⟨.refl _, ⟨.refl _, trivial⟩⟩⟩⟩⟩, (.refl _)⟩
    ·refine s_lit (s := 15) (b := false) rfl (bf c112) <| s_on rfl <| s_q (.ptr 0 0 0) rfl trivial rfl <| s_on rfl <| s_q (.int .i64 x_96.Kind) rfl nle rfl <| s_on rfl <| s_mov (.lst 3 (d_1.map encGAtom)) rfl <| s_on rfl <| ?_
     obtain ⟨x_113, ex114, hb2⟩ := ob hb2
     refine s_do (o_iaddr (enc := encGAtom) rfl rfl (idx0 ex114) (idx1 ex114)) <| s_on rfl <| s_q (.iptr (encGAtom x_113) 0) rfl trivial rfl <| s_on rfl <| s_q (.int .i64 x_113.Kind) rfl nle rfl <| s_on rfl <| s_q (.bool (x_96.Kind != x_113.Kind)) rfl rfl rfl <| s_q (.bool (x_96.Kind != x_113.Kind)) rfl trivial rfl <| s_mov (.bool (x_96.Kind != x_113.Kind)) rfl <| ?_
     rcases oi hb2 with ⟨c115, hb2⟩ | ⟨c115, hb2⟩
     ·refine s_lit (s := 24) (b := true) rfl c115 <| s_off rfl rfl <| s_off rfl rfl <| s_off rfl rfl <| s_offs rfl <| s_offs rfl <| s_offs rfl <| s_offs rfl <| s_offs rfl <| s_offs rfl <| s_offsl rfl trivial <| s_offs rfl <| s_off rfl rfl <| s_q (.bool true) rfl trivial rfl <| w_done <| ?_; obtain rfl := os hb2; exact ⟨[], [], _, _, rfl, rfl, ⟨.refl _, ⟨.refl _, ⟨.refl _, ⟨.refl _, ⟨.refl _, trivial⟩⟩⟩⟩⟩, (.refl _)⟩
     ·refine s_lit (s := 24) (b := false) rfl (bf c115) <| s_on rfl <| s_mov (.int .i64 (s7_60 : Int)) rfl <| s_on rfl <| s_q (.bool (decide ((s7_60 : Int) > 0))) rfl rfl rfl <| s_on rfl <| s_mov (.bool (decide ((s7_60 : Int) > 0))) rfl <| ?_
      rcases oi hb2 with ⟨c116, hb2⟩ | ⟨c116, hb2⟩
      ·refine s_lit (s := 27) (b := true) rfl c116 <| s_on rfl <| s_mov (.lst 3 (d_1.map encGAtom)) rfl <| s_on rfl <| s_mov (.int .i64 (s7_60 : Int)) rfl <| s_on rfl <| s_q (.int .i64 (w64 ((s7_60 : Int) - 1))) rfl rfl rfl <| s_on rfl <| ?_
       obtain ⟨x_117, ex118, hb2⟩ := ob hb2
       refine s_do (o_iaddr (enc := encGAtom) rfl rfl (idx0 ex118) (idx1 ex118)) <| s_on rfl <| s_q (encGAtom x_117) rfl nle rfl <| s_on rfl <| s_q (.agg [(.int .i64 x_96.Kind), (.int .i64 x_96.N), (.str x_96.T)]) rfl nle rfl <| s_onl rfl <| ?_
       obtain ⟨r_119, er120, hb2⟩ := ob hb2
       refine s_dol (o_call (w_impl_compareAtoms _ _ _ er120) rfl (.refl _) rfl) a_same trivial <| s_on rfl <| s_q (.bool (decide (r_119 ≥ 0))) rfl rfl rfl <| s_on rfl <| s_q (.bool (decide (r_119 ≥ 0))) rfl trivial rfl <| s_q (.bool (decide (r_119 ≥ 0))) rfl trivial rfl <| w_done <| ?_; obtain rfl := os hb2; exact ⟨[], [], _, _, rfl, rfl, ⟨.refl _, ⟨.refl _, ⟨.refl _, ⟨.refl _, ⟨.refl _, trivial⟩⟩⟩⟩⟩, (.refl _)⟩
      ·refine s_lit (s := 27) (b := false) rfl (bf c116) <| s_off rfl rfl <| s_off rfl rfl <| s_off rfl rfl <| s_off rfl rfl <| s_off rfl rfl <| s_off rfl rfl <| s_offl rfl rfl trivial <| s_off rfl rfl <| s_on rfl <| s_q (.bool false) rfl trivial rfl <| s_q (.bool false) rfl trivial rfl <| w_done <| ?_; obtain rfl := os hb2; exact ⟨[], [], _, _, rfl, rfl, ⟨.refl _, ⟨.refl _, ⟨.refl _, ⟨.refl _, ⟨.refl _, trivial⟩⟩⟩⟩⟩, (.refl _)⟩
   ·rcases oi hc1 with ⟨c121, hc1⟩ | ⟨c121, hc1⟩
    ·refine w_condt rfl c121 <| awp_seq <| w_reg <| s_mov (.bool false) rfl <| w_done <| k_seq <| w_ret <| ?_; obtain rfl := os hc1; obtain rfl := os hf; exact r_flat ⟨trivial, trivial⟩ rfl (.refl _)
    ·refine w_condf rfl (bf c121) <| w_skip <| k_blk <| k_seq <| w_reg <| s_q (.int .i64 (w64 ((s7_60 : Int) + 1))) rfl rfl rfl <| s_mov (.int .i64 (w64 ((s7_60 : Int) + 1))) rfl <| w_done <| ?_; exact k_loopn ⟨(s7_60 + 1), hc1⟩ (mul hlt90) ⟨[], [], _, _, rfl, rfl, ⟨.refl _, ⟨.refl _, ⟨.refl _, ⟨.of_eq (congrArg (AV.int _) (w64_incr hlt90 hl2)), trivial⟩⟩⟩⟩, (.refl _)⟩
 ·rintro ⟨_, rfl⟩
  refine awp_seq <| w_reg <| s_mov (.lst 3 (d_1.map encGAtom)) rfl <| s_dof (o_len (enc := encGAtom) rfl) fun hl122 => s_q (.bool (decide ((d_1.length : Int) ≤ 8))) rfl rfl rfl <| s_mov (.bool (decide ((d_1.length : Int) ≤ 8))) rfl <| w_done <| k_seq <| w_ret <| ?_; obtain rfl := os hf; exact r_flat ⟨trivial, trivial⟩ rfl (.refl _)

/- impl.jsNumber -/
def c248 : ACode :=
 (.seq (.reg (tq 2 (.box 5 (.c (.agg [(.int .i64 0), (.int .i64 0), (.str []), .nil, .nil]))) .done))
 (.seq (.reg (tm 3 (.t 0) (tq 4 (.build [(.int .i64 0), (.int .i64 0), (.str []), .nil, .nil] [(0, 1, (.c (.int .i64 2))), (1, 1, (.t 3))]) (.q ⟨none, none, .store 5 (.t 2) (.t 4)⟩
 .done))))
 .ret))
theorem fc248 : fcomp Try.prog Try.f248 = some (c248.erase, [.load 5 true (.t 2)], 5) := by kernel_rfl
def impl_jsNumber (n_1 : Int) : Option GJson :=
    some (⟨2, n_1, [], [], []⟩ : GJson)
theorem w_impl_jsNumber (n_1 : Int) (r : GJson) (hf : impl_jsNumber n_1 = some r) : CallOK Try.prog 248 .fresh [(.int .i64 n_1)] (encGJson r) := by
  refine CallOK.of_awp mixed Try.func248 fc248 nle ?_
  rw [argT_eq]
  unfold impl_jsNumber at hf
  unfold c248
  refine (show awp Try.prog true 0 _ (ofL [(0, (.int .i64 n_1))]) [] _ from ?_)
  refine awp_seq ?_
  refine w_reg ?_
  refine s_do (o_box (j := 0) (c := (.agg [(.int .i64 0), (.int .i64 0), (.str []), .nil, .nil])) rfl trivial rfl rfl) ?_
  refine w_done ?_
  refine k_seq ?_
  refine awp_seq ?_
  refine w_reg ?_
  refine s_do (o_mov (.int .i64 n_1) rfl) ?_
  refine s_do (o_q (.agg [(.int .i64 2), (.int .i64 n_1), (.str []), .nil, .nil]) rfl ⟨⟨rfl, nle, trivial⟩, ⟨⟨rfl, nle, trivial⟩, trivial⟩⟩ rfl) ?_
  refine s_do0 (o_storebox (v := (.agg [(.int .i64 2), (.int .i64 n_1), (.str []), .nil, .nil])) (y' := (.agg [(.int .i64 2), (.int .i64 n_1), (.str []), .nil, .nil])) rfl rfl rfl trivial ⟨rfl, nle⟩ ⟨⟨rfl, trivial⟩, ⟨⟨rfl, trivial⟩, ⟨⟨rfl, trivial⟩, ⟨⟨rfl, trivial⟩, ⟨⟨rfl, trivial⟩, trivial⟩⟩⟩⟩⟩ rfl) ?_
  refine w_done ?_
  refine k_seq ?_
  refine w_ret ?_
  obtain rfl := os hf
  exact r_fresh ⟨nle, trivial⟩ rfl (by decide) (leJ (x := (⟨2, n_1, [], [], []⟩ : GJson)) (.agg (.cons (.refl _) (.cons (.refl _) (.cons (.refl _) (.cons (.nil _) (.cons (.nil _) .nil)))))))

end Go.R
