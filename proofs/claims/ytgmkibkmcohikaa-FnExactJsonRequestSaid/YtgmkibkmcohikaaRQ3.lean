/- Walks. -/
import Derived.Test.YtgmkibkmcohikaaRQ2
set_option linter.all false
namespace Go.R
open Go Go.Proofs
set_option linter.unusedVariables false
set_option linter.unusedSimpArgs false
set_option maxHeartbeats 8000000
/- laws.heldJsonS -/
def c113 : ACode :=
 (.seq (.reg (tm 4 (.c (.int .i64 0)) .done))
 (.seq (.seq (.reg (tm 5 (.c (.int .i64 0)) .done))
 (.block 0 (.loop (.seq (.seq (.reg (tm 6 (.t 5) (tm 7 (.t 0) (tq 8 (.len (.t 7)) (tq 9 (.bin .lss (.t 6) (.t 8)) .done)))))
 (.cond (.t 9) .skip
 (.exit 0)))
 (.seq (.block 1 (.seq (.seq (.reg (tm 12 (.t 0) (tm 13 (.t 5) (tq 14 (.iaddr 5 (.t 12) (.t 13)) (tq 15 (.faddr 0 (.t 14)) (tq 16 (.load 1 false (.t 15)) (tm 17 (.t 1) (tq 18 (.bin .neq (.t 16) (.t 17)) .done))))))))
 (.cond (.t 18) (.seq (.reg (tq 4 (.mov (.c (.int .i64 (-1)))) .done))
 .ret)
 .skip))
 (.seq (.reg (tm 19 (.t 1) (tq 20 (.bin .add (.t 19) (.c (.int .i64 1))) (tm 1 (.t 20) .done))))
 (.seq (.seq (.reg (tm 21 (.t 0) (tm 22 (.t 5) (tq 23 (.iaddr 5 (.t 21) (.t 22)) (tq 24 (.faddr 1 (.t 23)) (tq 25 (.load 1 false (.t 24)) (tm 26 (.t 1) (tq 27 (.bin .neq (.t 25) (.t 26)) .done))))))))
 (.cond (.t 27) (.seq (.reg (tq 4 (.mov (.c (.int .i64 (-1)))) .done))
 .ret)
 .skip))
 (.seq (.reg (tm 28 (.t 1) (tq 29 (.bin .add (.t 28) (.c (.int .i64 1))) (tm 1 (.t 29) .done))))
 (.seq (.seq (.reg (tm 30 (.t 0) (tm 31 (.t 5) (tq 32 (.iaddr 5 (.t 30) (.t 31)) (tq 33 (.faddr 2 (.t 32)) (tq 34 (.load 1 false (.t 33)) (tm 35 (.t 1) (.l ⟨(some 36), none, .call 117 [(.t 35)]⟩ [⟨(some 34), none, .load 1 false (.t 33)⟩, ⟨(some 33), none, .faddr 2 (.t 32)⟩, ⟨(some 32), none, .iaddr 5 (.t 30) (.t 31)⟩]
 (tq 37 (.bin .neq (.t 34) (.t 36)) .done) .non))))))))
 (.cond (.t 37) (.seq (.reg (tq 4 (.mov (.c (.int .i64 (-1)))) .done))
 .ret)
 .skip))
 (.seq (.reg (tm 38 (.t 1) (tq 39 (.bin .add (.t 38) (.c (.int .i64 1))) (tm 1 (.t 39) .done))))
 (.seq (.reg (tm 40 (.t 0) (tm 41 (.t 5) (tq 42 (.iaddr 5 (.t 40) (.t 41)) (tq 43 (.faddr 3 (.t 42)) (tq 44 (.load 1 false (.t 43)) (tm 45 (.t 1) (tq 46 (.call 46 [(.t 44), (.t 45)]) (tm 1 (.t 46) .done)))))))))
 (.seq (.seq (.reg (tm 47 (.t 1) (tq 48 (.bin .lss (.t 47) (.c (.int .i64 0))) .done)))
 (.cond (.t 48) (.seq (.reg (tq 4 (.mov (.c (.int .i64 (-1)))) .done))
 .ret)
 .skip))
 (.seq (.reg (tm 49 (.t 0) (tm 50 (.t 5) (tq 51 (.iaddr 5 (.t 49) (.t 50)) (tq 52 (.faddr 4 (.t 51)) (tq 53 (.load 1 false (.t 52)) (tm 54 (.t 1) (tq 55 (.call 113 [(.t 53), (.t 54)]) (tm 1 (.t 55) .done)))))))))
 (.seq (.reg (tm 56 (.t 1) (tq 57 (.bin .lss (.t 56) (.c (.int .i64 0))) .done)))
 (.cond (.t 57) (.seq (.reg (tq 4 (.mov (.c (.int .i64 (-1)))) .done))
 .ret)
 .skip))))))))))))
 (.reg (tm 10 (.t 5) (tq 11 (.bin .add (.t 10) (.c (.int .i64 1))) (tm 5 (.t 11) .done)))))))))
 (.cut (.seq (.reg (tm 58 (.t 1) (tm 4 (.t 58) .done)))
 .ret))))
theorem fc113 : fcomp Try.prog Try.f113 = some (c113.erase, [.mov (.t 4)], 59) := by kernel_rfl
def laws_heldJsonS_B_L1 (rec : ((List GJson) → Int → Option Int)) : List GJson → Int → Option (Fl Int Int)
  | [], k_51 =>
    some (.go k_51)
  | x_85 :: xs, k_51 =>
    if (x_85.Kind != k_51) then
    some (.ret (-1))
    else
    if (x_85.N != w64 (k_51 + 1)) then
    some (.ret (-1))
    else
    (laws_markText (w64 ((w64 (k_51 + 1)) + 1))).bind fun r_90 =>
    if (!(x_85.T == r_90)) then
    some (.ret (-1))
    else
    (laws_heldStringS x_85.Keys (w64 ((w64 ((w64 (k_51 + 1)) + 1)) + 1))).bind fun r_93 =>
    if (decide (r_93 < 0)) then
    some (.ret (-1))
    else
    (rec x_85.Items r_93).bind fun r_96 =>
    if (decide (r_96 < 0)) then
    some (.ret (-1))
    else
    laws_heldJsonS_B_L1 rec xs r_96 

def laws_heldJsonS_B (rec : ((List GJson) → Int → Option Int)) (a_1 : (List GJson)) (k_2 : Int) : Option Int :=
    (laws_heldJsonS_B_L1 rec a_1 k_2).bind fun q => (match q with
    | .ret r => some r
    | .go k_77 =>
    some k_77)
theorem w_laws_heldJsonS_B (rec : ((List GJson) → Int → Option Int)) (hrec : ∀ a0 a1 r, rec a0 a1 = some r → CallOK Try.prog 113 .flat [(.lst 5 (a0.map encGJson)), (.int .i64 a1)] (.int .i64 r)) (a_1 : (List GJson)) (k_2 : Int) (r : Int) (hf : laws_heldJsonS_B rec a_1 k_2 = some r) : CallOK Try.prog 113 .flat [(.lst 5 (a_1.map encGJson)), (.int .i64 k_2)] (.int .i64 r) := by
 refine CallOK.of_awp mixed Try.func113 fc113 nle ?_; rw [argT_eq]; unfold laws_heldJsonS_B at hf; unfold c113; refine (show awp Try.prog false 0 _ (ofL [(0, (.lst 5 (a_1.map encGJson))), (1, (.int .i64 k_2))]) [] _ from ?_); refine awp_seq <| w_reg <| s_mov (.int .i64 0) rfl <| w_done <| k_seq <| awp_seq <| awp_seq <| w_reg <| s_mov (.int .i64 0) rfl <| w_done <| k_seq <| ?_
 obtain ⟨p78, hb1, hf⟩ := ob hf
 refine awp_cutx (X := {q : Int // p78 = .go q}) (fun q => ([(1, (.int .i64 q.1))], [])) ?_ ?_
 ·refine awp_loop (X := {q : (Int × Nat) // laws_heldJsonS_B_L1 rec (a_1.drop q.2) q.1 = some p78}) (fun q => ([(0, (.lst 5 (a_1.map encGJson))), (1, (.int .i64 q.1.1)), (5, (.int .i64 (q.1.2 : Int)))], [])) (fun q => a_1.length - q.1.2) ⟨(k_2, 0), hb1⟩ ⟨[], [], _, _, rfl, rfl, ⟨.refl _, ⟨.refl _, ⟨.refl _, trivial⟩⟩⟩, (.refl _)⟩ ?_
  rintro ⟨⟨k_51, i_52⟩, hc1⟩
  have hc1 : laws_heldJsonS_B_L1 rec (a_1.drop i_52) k_51 = some p78 := hc1
  refine (show awp Try.prog false 0 _ (ofL [(0, (.lst 5 (a_1.map encGJson))), (1, (.int .i64 k_51)), (5, (.int .i64 (i_52 : Int)))]) [] _ from ?_)
  rcases dropc a_1 i_52 with ⟨hie81, hd84⟩ | ⟨hlt79, x_85, hx80, hd84⟩
  ·rw [hd84, laws_heldJsonS_B_L1.eq_1] at hc1
   have hq83 := dlf hie81
   refine awp_seq <| awp_seq <| w_reg <| s_mov (.int .i64 (i_52 : Int)) rfl <| s_mov (.lst 5 (a_1.map encGJson)) rfl <| s_dof (o_len (enc := encGJson) rfl) fun hl86 => s_q (.bool (decide ((i_52 : Int) < (a_1.length : Int)))) rfl rfl rfl <| w_done <| k_seq <| w_condf rfl hq83 <| w_exit <| k_seqx <| k_loopx <| k_blkx <| ?_; obtain rfl := os hc1; exact k_cutn ⟨_, rfl⟩ ⟨[], [], _, _, rfl, rfl, ⟨.refl _, trivial⟩, (.refl _)⟩
  ·rw [hd84, laws_heldJsonS_B_L1.eq_2] at hc1
   have hq83 := dlt hlt79
   refine awp_seq <| awp_seq <| w_reg <| s_mov (.int .i64 (i_52 : Int)) rfl <| s_mov (.lst 5 (a_1.map encGJson)) rfl <| s_dof (o_len (enc := encGJson) rfl) fun hl87 => s_q (.bool (decide ((i_52 : Int) < (a_1.length : Int)))) rfl rfl rfl <| w_done <| k_seq <| w_condt rfl hq83 <| w_skip <| k_seq <| awp_seq <| w_blk <| awp_seq <| awp_seq <| w_reg <| s_mov (.lst 5 (a_1.map encGJson)) rfl <| s_mov (.int .i64 (i_52 : Int)) rfl <| s_do (o_iaddrn (enc := encGJson) rfl rfl hx80) <| s_q (.iptr (encGJson x_85) 0) rfl trivial rfl <| s_do (o_loadeq (v := (.int .i64 x_85.Kind)) rfl (encGJson_eq _) nle rfl) <| s_mov (.int .i64 k_51) rfl <| s_q (.bool (x_85.Kind != k_51)) rfl rfl rfl <| w_done <| k_seq <| ?_
   rcases oi hc1 with ⟨c88, hc1⟩ | ⟨c88, hc1⟩
   ·refine w_condt rfl c88 <| awp_seq <| w_reg <| s_mov (.int .i64 (-1)) rfl <| w_done <| k_seq <| w_ret <| ?_; obtain rfl := os hc1; obtain rfl := os hf; exact r_flat ⟨trivial, trivial⟩ rfl (.refl _)
   ·refine w_condf rfl (bf c88) <| w_skip <| k_seq <| awp_seq <| w_reg <| s_mov (.int .i64 k_51) rfl <| s_q (.int .i64 (w64 (k_51 + 1))) rfl rfl rfl <| s_mov (.int .i64 (w64 (k_51 + 1))) rfl <| w_done <| k_seq <| awp_seq <| awp_seq <| w_reg <| s_mov (.lst 5 (a_1.map encGJson)) rfl <| s_mov (.int .i64 (i_52 : Int)) rfl <| s_do (o_iaddrn (enc := encGJson) rfl rfl hx80) <| s_q (.iptr (encGJson x_85) 1) rfl trivial rfl <| s_do (o_loadeq (v := (.int .i64 x_85.N)) rfl (encGJson_eq _) nle rfl) <| s_mov (.int .i64 (w64 (k_51 + 1))) rfl <| s_q (.bool (x_85.N != w64 (k_51 + 1))) rfl rfl rfl <| w_done <| k_seq <| ?_
    rcases oi hc1 with ⟨c89, hc1⟩ | ⟨c89, hc1⟩
    ·refine w_condt rfl c89 <| awp_seq <| w_reg <| s_mov (.int .i64 (-1)) rfl <| w_done <| k_seq <| w_ret <| ?_; obtain rfl := os hc1; obtain rfl := os hf; exact r_flat ⟨trivial, trivial⟩ rfl (.refl _)
    ·refine w_condf rfl (bf c89) <| w_skip <| k_seq <| awp_seq <| w_reg <| s_mov (.int .i64 (w64 (k_51 + 1))) rfl <| s_q (.int .i64 (w64 ((w64 (k_51 + 1)) + 1))) rfl rfl rfl <| s_mov (.int .i64 (w64 ((w64 (k_51 + 1)) + 1))) rfl <| w_done <| k_seq <| awp_seq <| awp_seq <| w_reg <| ?_
     obtain ⟨r_90, er91, hc1⟩ := ob hc1
     refine s_mov (.lst 5 (a_1.map encGJson)) rfl <| s_mov (.int .i64 (i_52 : Int)) rfl <| s_do (o_iaddrn (enc := encGJson) rfl rfl hx80) <| s_q (.iptr (encGJson x_85) 2) rfl trivial rfl <| s_do (o_loadeq (v := (.str x_85.T)) rfl (encGJson_eq _) nle rfl) <| s_mov (.int .i64 (w64 ((w64 (k_51 + 1)) + 1))) rfl <| s_dol (o_call (w_laws_markText _ _ er91) rfl (.refl _) rfl) a_same trivial <| s_q (.bool (!(x_85.T == r_90))) rfl trivial rfl <| w_done <| k_seq <| ?_
     rcases oi hc1 with ⟨c92, hc1⟩ | ⟨c92, hc1⟩
     ·refine w_condt rfl c92 <| awp_seq <| w_reg <| s_mov (.int .i64 (-1)) rfl <| w_done <| k_seq <| w_ret <| ?_; obtain rfl := os hc1; obtain rfl := os hf; exact r_flat ⟨trivial, trivial⟩ rfl (.refl _)
     ·refine w_condf rfl (bf c92) <| w_skip <| k_seq <| awp_seq <| w_reg <| s_mov (.int .i64 (w64 ((w64 (k_51 + 1)) + 1))) rfl <| s_q (.int .i64 (w64 ((w64 ((w64 (k_51 + 1)) + 1)) + 1))) rfl rfl rfl <| s_mov (.int .i64 (w64 ((w64 ((w64 (k_51 + 1)) + 1)) + 1))) rfl <| w_done <| k_seq <| awp_seq <| w_reg <| ?_
      obtain ⟨r_93, er94, hc1⟩ := ob hc1
      refine s_mov (.lst 5 (a_1.map encGJson)) rfl <| s_mov (.int .i64 (i_52 : Int)) rfl <| s_do (o_iaddrn (enc := encGJson) rfl rfl hx80) <| s_q (.iptr (encGJson x_85) 3) rfl trivial rfl <| s_do (o_loadeq (v := (.lst 1 (x_85.Keys.map AV.str))) rfl (encGJson_eq _) nle rfl) <| s_mov (.int .i64 (w64 ((w64 ((w64 (k_51 + 1)) + 1)) + 1))) rfl <| s_do (o_call (w_laws_heldStringS _ _ _ er94) rfl (.refl _) rfl) <| s_mov (.int .i64 r_93) rfl <| w_done <| k_seq <| awp_seq <| awp_seq <| w_reg <| s_mov (.int .i64 r_93) rfl <| s_q (.bool (decide (r_93 < 0))) rfl rfl rfl <| w_done <| k_seq <| ?_
      rcases oi hc1 with ⟨c95, hc1⟩ | ⟨c95, hc1⟩
      ·refine w_condt rfl c95 <| awp_seq <| w_reg <| s_mov (.int .i64 (-1)) rfl <| w_done <| k_seq <| w_ret <| ?_; obtain rfl := os hc1; obtain rfl := os hf; exact r_flat ⟨trivial, trivial⟩ rfl (.refl _)
      ·refine w_condf rfl (bf c95) <| w_skip <| k_seq <| awp_seq <| w_reg <| ?_
       obtain ⟨r_96, er97, hc1⟩ := ob hc1
       refine s_mov (.lst 5 (a_1.map encGJson)) rfl <| s_mov (.int .i64 (i_52 : Int)) rfl <| s_do (o_iaddrn (enc := encGJson) rfl rfl hx80) <| s_q (.iptr (encGJson x_85) 4) rfl trivial rfl <| s_do (o_loadeq (v := (.lst 5 (x_85.Items.map encGJson))) rfl (encGJson_eq _) nle rfl) <| s_mov (.int .i64 r_93) rfl <| s_do (o_call (hrec _ _ _ er97) rfl (.refl _) rfl) <| s_mov (.int .i64 r_96) rfl <| w_done <| k_seq <| awp_seq <| w_reg <| s_mov (.int .i64 r_96) rfl <| s_q (.bool (decide (r_96 < 0))) rfl rfl rfl <| w_done <| k_seq <| ?_
       rcases oi hc1 with ⟨c98, hc1⟩ | ⟨c98, hc1⟩
       ·refine w_condt rfl c98 <| awp_seq <| w_reg <| s_mov (.int .i64 (-1)) rfl <| w_done <| k_seq <| w_ret <| ?_; obtain rfl := os hc1; obtain rfl := os hf; exact r_flat ⟨trivial, trivial⟩ rfl (.refl _)
       ·refine w_condf rfl (bf c98) <| w_skip <| k_blk <| k_seq <| w_reg <| s_mov (.int .i64 (i_52 : Int)) rfl <| s_q (.int .i64 (w64 ((i_52 : Int) + 1))) rfl rfl rfl <| s_mov (.int .i64 (w64 ((i_52 : Int) + 1))) rfl <| w_done <| ?_; exact k_loopn ⟨(r_96, (i_52 + 1)), hc1⟩ (mul hlt79) ⟨[], [], _, _, rfl, rfl, ⟨.refl _, ⟨.refl _, ⟨.of_eq (congrArg (AV.int _) (w64_incr hlt79 hl87)), trivial⟩⟩⟩, (.refl _)⟩
 ·rintro ⟨k_77, rfl⟩
  refine awp_seq <| w_reg <| s_mov (.int .i64 k_77) rfl <| s_mov (.int .i64 k_77) rfl <| w_done <| k_seq <| w_ret <| ?_; obtain rfl := os hf; exact r_flat ⟨trivial, trivial⟩ rfl (.refl _)
def laws_heldJsonS : Nat → (List GJson) → Int → Option Int
 | 0, _, _ => none
 | k + 1, a_1, k_2 => laws_heldJsonS_B (laws_heldJsonS k) a_1 k_2
theorem w_laws_heldJsonS : ∀ (k : Nat) (a_1 : (List GJson)) (k_2 : Int) (r : Int), laws_heldJsonS k a_1 k_2 = some r → CallOK Try.prog 113 .flat [(.lst 5 (a_1.map encGJson)), (.int .i64 k_2)] (.int .i64 r)
 | 0, a_1, k_2, r, h => by rw [laws_heldJsonS.eq_1] at h; cases h
 | k + 1, a_1, k_2, r, h => by
  rw [laws_heldJsonS.eq_2] at h; exact w_laws_heldJsonS_B _ (w_laws_heldJsonS k) a_1 k_2 r h

/- laws.heldRequest -/
def c65 : ACode :=
 (.seq (.reg (tq 2 (.box 3 (.t 0)) (tm 4 (.c (.int .i64 0)) .done)))
 (.seq (.reg (tq 5 (.faddr 2 (.t 2)) (tq 6 (.load 1 false (.t 5)) (tm 7 (.t 1) (tq 8 (.call 113 [(.t 6), (.t 7)]) (tm 1 (.t 8) .done))))))
 (.seq (.seq (.reg (tm 9 (.t 1) (tq 10 (.bin .lss (.t 9) (.c (.int .i64 0))) .done)))
 (.cond (.t 10) (.seq (.reg (tq 4 (.mov (.c (.int .i64 (-1)))) .done))
 .ret)
 .skip))
 (.seq (.reg (tm 11 (.t 1) (tm 4 (.t 11) .done)))
 .ret))))
theorem fc65 : fcomp Try.prog Try.f65 = some (c65.erase, [.mov (.t 4)], 12) := by kernel_rfl
def laws_heldRequest (a_1 : GRequest) (k_2 : Int) : Option Int :=
    (laws_heldJsonS FUEL a_1.Params k_2).bind fun r_3 =>
    if (decide (r_3 < 0)) then
    some (-1)
    else
    some r_3
theorem w_laws_heldRequest (a_1 : GRequest) (k_2 : Int) (r : Int) (hf : laws_heldRequest a_1 k_2 = some r) : CallOK Try.prog 65 .flat [(encGRequest a_1), (.int .i64 k_2)] (.int .i64 r) := by
 refine CallOK.of_awp mixed Try.func65 fc65 nle ?_; rw [argT_eq]; unfold laws_heldRequest at hf; unfold c65; refine (show awp Try.prog false 0 _ (ofL [(0, (encGRequest a_1)), (1, (.int .i64 k_2))]) [] _ from ?_); refine awp_seq <| w_reg <| s_do (o_box (j := 0) (c := (.agg [(.int .i64 a_1.Id), (.str a_1.Method), (.lst 5 (a_1.Params.map encGJson))])) rfl trivial rfl rfl) <| s_mov (.int .i64 0) rfl <| w_done <| k_seq <| awp_seq <| w_reg <| ?_
 obtain ⟨r_3, er4, hf⟩ := ob hf
 refine s_q (.ptr 0 0 2) rfl trivial rfl <| s_q (.lst 5 (a_1.Params.map encGJson)) rfl nle rfl <| s_mov (.int .i64 k_2) rfl <| s_do (o_call (w_laws_heldJsonS FUEL _ _ _ er4) rfl (.refl _) rfl) <| s_mov (.int .i64 r_3) rfl <| w_done <| k_seq <| awp_seq <| awp_seq <| w_reg <| s_mov (.int .i64 r_3) rfl <| s_q (.bool (decide (r_3 < 0))) rfl rfl rfl <| w_done <| k_seq <| ?_
 rcases oi hf with ⟨c5, hf⟩ | ⟨c5, hf⟩
 ·refine w_condt rfl c5 <| awp_seq <| w_reg <| s_mov (.int .i64 (-1)) rfl <| w_done <| k_seq <| w_ret <| ?_; obtain rfl := os hf; exact r_flat ⟨trivial, trivial⟩ rfl (.refl _)
 ·refine w_condf rfl (bf c5) <| w_skip <| k_seq <| awp_seq <| w_reg <| s_mov (.int .i64 r_3) rfl <| s_mov (.int .i64 r_3) rfl <| w_done <| k_seq <| w_ret <| ?_; obtain rfl := os hf; exact r_flat ⟨trivial, trivial⟩ rfl (.refl _)

/- laws.FnExactJsonRequest -/
def c11 : ACode :=
 (.seq (.reg (tq 1 (.box 5 (.t 0)) (tm 2 (.c (.bool false)) .done)))
 (.seq (.reg (tm 3 (.c (.int .i64 1048576)) .done))
 (.seq (.reg (tq 14 (.load 5 true (.t 1)) (tm 15 (.t 3) (tq 16 (.call 47 [(.t 14), (.t 15)]) (tm 3 (.t 16) .done)))))
 (.seq (.seq (.reg (tm 17 (.t 3) (tq 18 (.bin .lss (.t 17) (.c (.int .i64 0))) .done)))
 (.cond (.t 18) (.seq (.reg (tm 2 (.c (.bool true)) .done))
 .ret)
 .skip))
 (.seq (.reg (tq 20 (.load 5 true (.t 1)) (tq 21 (.call 49 [(.t 20)]) (tq 22 (.call 61 [(.t 21)]) (tm 19 (.t 22) (tq 23 (.extract 0 (.t 19)) (tq 24 (.extract 1 (.t 19)) (tq 4 (.box 3 (.c (.agg [(.int .i64 0), (.str []), .nil]))) (.q ⟨none, none, .store 3 (.t 4) (.t 23)⟩
 (tm 5 (.t 24) .done))))))))))
 (.seq (.reg (tq 25 (.load 5 true (.t 1)) (tq 26 (.call 49 [(.t 25)]) (tq 6 (.box 5 (.c (.agg [(.int .i64 0), (.int .i64 0), (.str []), .nil, .nil]))) (.q ⟨none, none, .store 5 (.t 6) (.t 26)⟩
 .done)))))
 (.seq (.reg (tq 28 (.load 5 true (.t 6)) (tq 29 (.call 62 [(.t 28)]) (tm 27 (.t 29) (tq 30 (.extract 0 (.t 27)) (tq 31 (.extract 1 (.t 27)) (tq 7 (.box 3 (.c (.agg [(.int .i64 0), (.str []), .nil]))) (.q ⟨none, none, .store 3 (.t 7) (.t 30)⟩
 (tm 8 (.t 31) .done)))))))))
 (.seq (.seq (.reg (tq 32 (.load 3 true (.t 7)) (tq 33 (.load 3 true (.t 4)) (tq 34 (.call 63 [(.t 32), (.t 33)]) (tq 35 (.not (.t 34)) (tm 36 (.t 35) (tg 37 36 false (.mov (.t 8)) (tg 38 36 false (.mov (.t 5)) (tg 39 36 false (.bin .neq (.t 37) (.t 38)) (tq 40 (.pick (.t 36) (.c (.bool true)) (.t 39)) .done))))))))))
 (.cut (.cond (.t 40) (.seq (.reg (tm 2 (.c (.bool false)) .done))
 .ret)
 .skip)))
 (.seq (.seq (.reg (tq 41 (.load 5 true (.t 6)) (tq 42 (.load 5 true (.t 1)) (.l ⟨(some 43), none, .call 49 [(.t 42)]⟩ [⟨(some 41), none, .load 5 true (.t 6)⟩]
 (.l ⟨(some 44), none, .call 38 [(.t 41), (.t 43)]⟩ []
 (tq 45 (.not (.t 44)) .done) .non) .non))))
 (.cond (.t 45) (.seq (.reg (tm 2 (.c (.bool false)) .done))
 .ret)
 .skip))
 (.seq (.reg (tm 9 (.c (.int .i64 1)) .done))
 (.seq (.reg (tq 46 (.load 5 true (.t 6)) (tm 47 (.t 9) (tq 48 (.call 39 [(.t 46), (.t 47)]) (tm 9 (.t 48) .done)))))
 (.seq (.seq (.reg (tm 49 (.t 9) (tq 50 (.bin .lss (.t 49) (.c (.int .i64 0))) (tm 51 (.t 50) (tg 52 51 false (.load 3 true (.t 7)) (tg 53 51 false (.load 3 true (.t 4)) (tg 54 51 false (.call 63 [(.t 52), (.t 53)]) (tg 55 51 false (.not (.t 54)) (tq 56 (.pick (.t 51) (.c (.bool true)) (.t 55)) (tm 57 (.t 56) (tg 58 57 false (.mov (.t 8)) (tg 59 57 false (.mov (.t 5)) (tg 60 57 false (.bin .neq (.t 58) (.t 59)) (tq 61 (.pick (.t 57) (.c (.bool true)) (.t 60)) .done))))))))))))))
 (.cut (.cond (.t 61) (.seq (.reg (tm 2 (.c (.bool false)) .done))
 .ret)
 .skip)))
 (.seq (.reg (tm 10 (.c (.int .i64 1)) .done))
 (.seq (.reg (tq 62 (.load 3 true (.t 7)) (tm 63 (.t 10) (tq 64 (.call 64 [(.t 62), (.t 63)]) (tm 10 (.t 64) .done)))))
 (.seq (.reg (tm 11 (.c (.int .i64 1)) .done))
 (.seq (.reg (tq 65 (.load 3 true (.t 7)) (tm 66 (.t 11) (tq 67 (.call 65 [(.t 65), (.t 66)]) (tm 11 (.t 67) .done)))))
 (.seq (.seq (.reg (tm 68 (.t 11) (tq 69 (.bin .lss (.t 68) (.c (.int .i64 0))) .done)))
 (.cond (.t 69) (.seq (.reg (tm 2 (.c (.bool false)) .done))
 .ret)
 .skip))
 (.seq (.seq (.reg (tm 70 (.t 11) (tm 71 (.t 10) (tq 72 (.bin .neq (.t 70) (.t 71)) .done))))
 (.cond (.t 72) (.seq (.reg (tm 2 (.c (.bool false)) .done))
 .ret)
 .skip))
 (.seq (.reg (tq 74 (.load 5 true (.t 1)) (tq 75 (.call 49 [(.t 74)]) (tq 76 (.call 62 [(.t 75)]) (tm 73 (.t 76) (tq 77 (.extract 0 (.t 73)) (tq 78 (.extract 1 (.t 73)) (tq 12 (.box 3 (.c (.agg [(.int .i64 0), (.str []), .nil]))) (.q ⟨none, none, .store 3 (.t 12) (.t 77)⟩
 (tm 13 (.t 78) .done))))))))))
 (.seq (.seq (.reg (tq 79 (.load 3 true (.t 12)) (tq 80 (.load 3 true (.t 4)) (tq 81 (.call 63 [(.t 79), (.t 80)]) (tq 82 (.not (.t 81)) (tm 83 (.t 82) (tg 84 83 false (.mov (.t 13)) (tg 85 83 false (.mov (.t 5)) (tg 86 83 false (.bin .neq (.t 84) (.t 85)) (tq 87 (.pick (.t 83) (.c (.bool true)) (.t 86)) .done))))))))))
 (.cut (.cond (.t 87) (.seq (.reg (tm 2 (.c (.bool false)) .done))
 .ret)
 .skip)))
 (.seq (.reg (tm 11 (.c (.int .i64 1)) .done))
 (.seq (.reg (tq 88 (.load 3 true (.t 7)) (tm 89 (.t 11) (tq 90 (.call 65 [(.t 88), (.t 89)]) (tm 11 (.t 90) .done)))))
 (.seq (.seq (.reg (tm 91 (.t 11) (tq 92 (.bin .lss (.t 91) (.c (.int .i64 0))) .done)))
 (.cond (.t 92) (.seq (.reg (tm 2 (.c (.bool false)) .done))
 .ret)
 .skip))
 (.seq (.seq (.reg (tm 93 (.t 11) (tm 94 (.t 10) (tq 95 (.bin .neq (.t 93) (.t 94)) .done))))
 (.cond (.t 95) (.seq (.reg (tm 2 (.c (.bool false)) .done))
 .ret)
 .skip))
 (.seq (.reg (tm 2 (.c (.bool true)) .done))
 .ret)))))))))))))))))))))))))
theorem fc11 : fcomp Try.prog Try.f11 = some (c11.erase, [.mov (.t 2)], 96) := by kernel_rfl
def laws_FnExactJsonRequest (aJ_1 : GJson) : Option Bool :=
    (laws_szJson FUEL aJ_1 1048576).bind fun r_2 =>
    if (decide (r_2 < 0)) then
    some true
    else
    (laws_toJson FUEL aJ_1).bind fun r_5 =>
    (spec_JsonRequest r_5).bind fun r_7 =>
    (laws_toJson FUEL aJ_1).bind fun r_9 =>
    (impl_JsonRequest r_9).bind fun r_11 =>
    (((laws_eqRequest r_11.1 r_7.1).bind fun r_18 =>
    if (!r_18) then
    some true
    else
    some (r_11.2 != r_7.2) : Option Bool)).bind fun s40_16 =>
    if s40_16 then
    some false
    else
    (laws_toJson FUEL aJ_1).bind fun r_22 =>
    (laws_eqJson FUEL r_9 r_22).bind fun r_24 =>
    if (!r_24) then
    some false
    else
    (laws_markJson r_9 1).bind fun r_27 =>
    ((if (decide (r_27.1 < 0)) then
    some true
    else
    (laws_eqRequest r_11.1 r_7.1).bind fun r_36 =>
    some (bif (!r_36) then true else (r_11.2 != r_7.2)) : Option Bool)).bind fun s61_33 =>
    if s61_33 then
    some false
    else
    (laws_markRequest r_11.1 1).bind fun r_39 =>
    (laws_heldRequest (⟨r_11.1.Id, r_11.1.Method, r_39.2.Params⟩ : GRequest) 1).bind fun r_42 =>
    if (decide (r_42 < 0)) then
    some false
    else
    if (r_42 != r_39.1) then
    some false
    else
    (laws_toJson FUEL aJ_1).bind fun r_46 =>
    (impl_JsonRequest r_46).bind fun r_48 =>
    (((laws_eqRequest r_48.1 r_7.1).bind fun r_55 =>
    if (!r_55) then
    some true
    else
    some (r_48.2 != r_7.2) : Option Bool)).bind fun s87_53 =>
    if s87_53 then
    some false
    else
    (laws_heldRequest (⟨r_11.1.Id, r_11.1.Method, r_39.2.Params⟩ : GRequest) 1).bind fun r_59 =>
    if (decide (r_59 < 0)) then
    some false
    else
    if (r_59 != r_39.1) then
    some false
    else
    some true
theorem w_laws_FnExactJsonRequest (aJ_1 : GJson) (r : Bool) (hf : laws_FnExactJsonRequest aJ_1 = some r) : CallOK Try.prog 11 .flat [(encGJson aJ_1)] (.bool r) := by
 refine CallOK.of_awp' (md := ⟨true, true⟩) (fun _ => rfl) (fun h => by cases h) (fun h => by cases h) mixed Try.func11 fc11 nle ?_; rw [argT_eq]; rw [encGJson_eq aJ_1]; unfold laws_FnExactJsonRequest at hf; unfold c11; refine (show awp Try.prog ⟨true, true⟩ 0 _ (ofL [(0, (.agg [(.int .i64 aJ_1.Kind), (.int .i64 aJ_1.N), (.str aJ_1.T), (.lst 1 (aJ_1.Keys.map AV.str)), (.lst 5 (aJ_1.Items.map encGJson))]))]) [] _ from ?_); refine awp_seq <| w_reg <| s_do (o_box (j := 0) (c := (.agg [(.int .i64 aJ_1.Kind), (.int .i64 aJ_1.N), (.str aJ_1.T), (.lst 1 (aJ_1.Keys.map AV.str)), (.lst 5 (aJ_1.Items.map encGJson))])) rfl trivial rfl rfl) <| s_mov (.bool false) rfl <| w_done <| k_seq <| awp_seq <| w_reg <| s_mov (.int .i64 1048576) rfl <| ?_
 refine w_done <| k_seq <| awp_seq <| w_reg <| ?_
 obtain ⟨r_2, er3, hf⟩ := ob hf
 refine s_q (.agg [(.int .i64 aJ_1.Kind), (.int .i64 aJ_1.N), (.str aJ_1.T), (.lst 1 (aJ_1.Keys.map AV.str)), (.lst 5 (aJ_1.Items.map encGJson))]) rfl (.of nle trivial) rfl <| s_mov (.int .i64 1048576) rfl <| s_do (o_call (w_laws_szJson FUEL _ _ _ er3) rfl (.cons (.of_eq (encGJson_eq aJ_1).symm) (.cons (.refl _) .nil)) rfl) <| s_mov (.int .i64 r_2) rfl <| w_done <| k_seq <| awp_seq <| awp_seq <| w_reg <| s_mov (.int .i64 r_2) rfl <| s_q (.bool (decide (r_2 < 0))) rfl (.of rfl trivial) rfl <| w_done <| k_seq <| ?_
 rcases oi hf with ⟨c4, hf⟩ | ⟨c4, hf⟩
 ·refine w_condt rfl c4 <| awp_seq <| w_reg <| s_mov (.bool true) rfl <| w_done <| k_seq <| w_ret <| ?_; obtain rfl := os hf; exact r_flat ⟨.of trivial trivial, trivial⟩ rfl (.refl _)
 ·refine w_condf rfl (bf c4) <| w_skip <| k_seq <| awp_seq <| w_reg <| ?_
  obtain ⟨r_5, er6, hf⟩ := ob hf
  obtain ⟨r_7, er8, hf⟩ := ob hf
  refine s_q (.agg [(.int .i64 aJ_1.Kind), (.int .i64 aJ_1.N), (.str aJ_1.T), (.lst 1 (aJ_1.Keys.map AV.str)), (.lst 5 (aJ_1.Items.map encGJson))]) rfl (.of nle trivial) rfl <| s_do (o_callf (v := (.agg [(.int .i64 r_5.Kind), (.int .i64 r_5.N), (.str r_5.T), (.own 1 0 r_5.Keys.length), (.own 2 0 r_5.Items.length)])) (h' := [.row 1 (r_5.Keys.map AV.str), .row 5 (r_5.Items.map encGJson)]) (w_laws_toJson FUEL _ _ er6) rfl (.cons (.of_eq (encGJson_eq aJ_1).symm) .nil) (by simp only [openV, openVs, List.length_map, encGJson_eq, List.nil_append, List.append_nil, List.cons_append]; rfl)) <| s_do (o_callf (v := (.tup [(.agg [(.int .i64 r_7.1.Id), (.str r_7.1.Method), (.own 3 0 r_7.1.Params.length)]), (.int .i64 r_7.2)])) (h' := [.row 5 (r_7.1.Params.map encGJson)]) (w_spec_JsonRequest _ _ er8) rfl (.cons (leJ (x := r_5) (.agg (.cons (.refl _) (.cons (.refl _) (.cons (.refl _) (.cons (.of_eq (congrArg (AV.lst _) (tko (enc := AV.str) r_5.Keys))) (.cons (.of_eq (congrArg (AV.lst _) (tko (enc := encGJson) r_5.Items))) .nil))))))) .nil) (by simp only [openV, openVs, List.length_map, encGRequest_eq, List.nil_append, List.append_nil, List.cons_append]; rfl)) <| ?_
  refine s_mov (.tup [(.agg [(.int .i64 r_7.1.Id), (.str r_7.1.Method), (.own 3 0 r_7.1.Params.length)]), (.int .i64 r_7.2)]) rfl <| s_q (.agg [(.int .i64 r_7.1.Id), (.str r_7.1.Method), (.own 3 0 r_7.1.Params.length)]) rfl (.of nle trivial) rfl <| s_q (.int .i64 r_7.2) rfl (.of nle trivial) rfl <| s_do (o_box (j := 4) (c := (.agg [(.int .i64 0), (.str []), .nil])) rfl trivial rfl rfl) <| s_do0 (o_storebox (v := (.agg [(.int .i64 r_7.1.Id), (.str r_7.1.Method), (.own 3 0 r_7.1.Params.length)])) (y' := (.agg [(.int .i64 r_7.1.Id), (.str r_7.1.Method), (.own 3 0 r_7.1.Params.length)])) rfl rfl rfl trivial ⟨rfl, nle⟩ ⟨⟨rfl, trivial⟩, ⟨⟨rfl, trivial⟩, ⟨⟨rfl, trivial⟩, trivial⟩⟩⟩ rfl) <| s_mov (.int .i64 r_7.2) rfl <| ?_
  refine w_done <| k_seq <| awp_seq <| w_reg <| ?_
  obtain ⟨r_9, er10, hf⟩ := ob hf
  refine s_q (.agg [(.int .i64 aJ_1.Kind), (.int .i64 aJ_1.N), (.str aJ_1.T), (.lst 1 (aJ_1.Keys.map AV.str)), (.lst 5 (aJ_1.Items.map encGJson))]) rfl (.of nle trivial) rfl <| s_do (o_callf (v := (.agg [(.int .i64 r_9.Kind), (.int .i64 r_9.N), (.str r_9.T), (.own 5 0 r_9.Keys.length), (.own 6 0 r_9.Items.length)])) (h' := [.row 1 (r_9.Keys.map AV.str), .row 5 (r_9.Items.map encGJson)]) (w_laws_toJson FUEL _ _ er10) rfl (.cons (.of_eq (encGJson_eq aJ_1).symm) .nil) (by simp only [openV, openVs, List.length_map, encGJson_eq, List.nil_append, List.append_nil, List.cons_append]; rfl)) <| s_do (o_box (j := 7) (c := (.agg [(.int .i64 0), (.int .i64 0), (.str []), .nil, .nil])) rfl trivial rfl rfl) <| s_do0 (o_storebox (v := (.agg [(.int .i64 r_9.Kind), (.int .i64 r_9.N), (.str r_9.T), (.own 5 0 r_9.Keys.length), (.own 6 0 r_9.Items.length)])) (y' := (.agg [(.int .i64 r_9.Kind), (.int .i64 r_9.N), (.str r_9.T), (.own 5 0 r_9.Keys.length), (.own 6 0 r_9.Items.length)])) rfl rfl rfl trivial ⟨rfl, nle⟩ ⟨⟨rfl, trivial⟩, ⟨⟨rfl, trivial⟩, ⟨⟨rfl, trivial⟩, ⟨⟨rfl, trivial⟩, ⟨⟨rfl, trivial⟩, trivial⟩⟩⟩⟩⟩ rfl) <| ?_
  refine w_done <| k_seq <| awp_seq <| w_reg <| ?_
  obtain ⟨r_11, er12, hf⟩ := ob hf
  refine s_q (.agg [(.int .i64 r_9.Kind), (.int .i64 r_9.N), (.str r_9.T), (.own 5 0 r_9.Keys.length), (.own 6 0 r_9.Items.length)]) rfl (.of nle trivial) rfl <| s_do (o_callf (v := (.tup [(.agg [(.int .i64 r_11.1.Id), (.str r_11.1.Method), (.own 8 0 r_11.1.Params.length)]), (.int .i64 r_11.2)])) (h' := [.row 5 (r_11.1.Params.map encGJson)]) (w_impl_JsonRequest _ _ er12) rfl (.cons (leJ (x := r_9) (.agg (.cons (.refl _) (.cons (.refl _) (.cons (.refl _) (.cons (.of_eq (congrArg (AV.lst _) (tko (enc := AV.str) r_9.Keys))) (.cons (.of_eq (congrArg (AV.lst _) (tko (enc := encGJson) r_9.Items))) .nil))))))) .nil) (by simp only [openV, openVs, List.length_map, encGRequest_eq, List.nil_append, List.append_nil, List.cons_append]; rfl)) <| ?_
  refine s_mov (.tup [(.agg [(.int .i64 r_11.1.Id), (.str r_11.1.Method), (.own 8 0 r_11.1.Params.length)]), (.int .i64 r_11.2)]) rfl <| s_q (.agg [(.int .i64 r_11.1.Id), (.str r_11.1.Method), (.own 8 0 r_11.1.Params.length)]) rfl (.of nle trivial) rfl <| s_q (.int .i64 r_11.2) rfl (.of nle trivial) rfl <| s_do (o_box (j := 9) (c := (.agg [(.int .i64 0), (.str []), .nil])) rfl trivial rfl rfl) <| s_do0 (o_storebox (v := (.agg [(.int .i64 r_11.1.Id), (.str r_11.1.Method), (.own 8 0 r_11.1.Params.length)])) (y' := (.agg [(.int .i64 r_11.1.Id), (.str r_11.1.Method), (.own 8 0 r_11.1.Params.length)])) rfl rfl rfl trivial ⟨rfl, nle⟩ ⟨⟨rfl, trivial⟩, ⟨⟨rfl, trivial⟩, ⟨⟨rfl, trivial⟩, trivial⟩⟩⟩ rfl) <| s_mov (.int .i64 r_11.2) rfl <| ?_
  refine w_done <| k_seq <| awp_seq <| awp_seq <| ?_
  obtain ⟨s40_16, hb1, hf⟩ := ob hf
  refine awp_cut ([(1, (.ptr 0 0 0)), (4, (.ptr 1 0 0)), (5, (.int .i64 r_7.2)), (6, (.ptr 2 0 0)), (7, (.ptr 3 0 0)), (8, (.int .i64 r_11.2)), (40, (.bool s40_16))], [.box 5 (.agg [(.int .i64 aJ_1.Kind), (.int .i64 aJ_1.N), (.str aJ_1.T), (.lst 1 (aJ_1.Keys.map AV.str)), (.lst 5 (aJ_1.Items.map encGJson))]), .box 3 (.agg [(.int .i64 r_7.1.Id), (.str r_7.1.Method), (.own 4 0 r_7.1.Params.length)]), .box 5 (.agg [(.int .i64 r_9.Kind), (.int .i64 r_9.N), (.str r_9.T), (.own 5 0 r_9.Keys.length), (.own 6 0 r_9.Items.length)]), .box 3 (.agg [(.int .i64 r_11.1.Id), (.str r_11.1.Method), (.own 7 0 r_11.1.Params.length)]), .row 5 (r_7.1.Params.map encGJson), .row 1 (r_9.Keys.map AV.str), .row 5 (r_9.Items.map encGJson), .row 5 (r_11.1.Params.map encGJson)]) ?_ ?_
  ·refine w_reg ?_
   obtain ⟨r_18, er19, hb1⟩ := ob hb1
   rcases oi hb1 with ⟨c20, hb1⟩ | ⟨c20, hb1⟩
   ·refine s_q (.agg [(.int .i64 r_11.1.Id), (.str r_11.1.Method), (.own 8 0 r_11.1.Params.length)]) rfl (.of nle trivial) rfl <| s_q (.agg [(.int .i64 r_7.1.Id), (.str r_7.1.Method), (.own 3 0 r_7.1.Params.length)]) rfl (.of nle trivial) rfl <| s_do (o_call (w_laws_eqRequest _ _ _ er19) rfl (.cons (.agg (.cons (.refl _) (.cons (.refl _) (.cons (.of_eq (congrArg (AV.lst _) (tko (enc := encGJson) r_11.1.Params))) .nil)))) (.cons (.agg (.cons (.refl _) (.cons (.refl _) (.cons (.of_eq (congrArg (AV.lst _) (tko (enc := encGJson) r_7.1.Params))) .nil)))) .nil)) rfl) <| s_q (.bool (!r_18)) rfl (.of trivial trivial) rfl <| s_mov (.bool (!r_18)) rfl <| s_lit (s := 36) (b := true) rfl c20 <| s_off rfl rfl <| s_off rfl rfl <| ?_
    refine s_off rfl rfl <| s_q (.bool true) rfl (.of trivial trivial) rfl <| w_done <| ?_; obtain rfl := os hb1; exact ⟨[], [0, 4, 7, 9, 3, 5, 6, 8], _, _, rfl, rfl, ⟨.refl _, ⟨.refl _, ⟨.refl _, ⟨.refl _, ⟨.refl _, ⟨.refl _, ⟨.refl _, trivial⟩⟩⟩⟩⟩⟩⟩, (.refl _)⟩
   ·refine s_q (.agg [(.int .i64 r_11.1.Id), (.str r_11.1.Method), (.own 8 0 r_11.1.Params.length)]) rfl (.of nle trivial) rfl <| s_q (.agg [(.int .i64 r_7.1.Id), (.str r_7.1.Method), (.own 3 0 r_7.1.Params.length)]) rfl (.of nle trivial) rfl <| s_do (o_call (w_laws_eqRequest _ _ _ er19) rfl (.cons (.agg (.cons (.refl _) (.cons (.refl _) (.cons (.of_eq (congrArg (AV.lst _) (tko (enc := encGJson) r_11.1.Params))) .nil)))) (.cons (.agg (.cons (.refl _) (.cons (.refl _) (.cons (.of_eq (congrArg (AV.lst _) (tko (enc := encGJson) r_7.1.Params))) .nil)))) .nil)) rfl) <| s_q (.bool (!r_18)) rfl (.of trivial trivial) rfl <| s_mov (.bool (!r_18)) rfl <| s_lit (s := 36) (b := false) rfl (bf c20) <| s_on rfl <| s_mov (.int .i64 r_11.2) rfl <| ?_
    refine s_on rfl <| s_mov (.int .i64 r_7.2) rfl <| s_on rfl <| s_q (.bool (r_11.2 != r_7.2)) rfl (.of rfl trivial) rfl <| s_q (.bool (r_11.2 != r_7.2)) rfl (.of trivial trivial) rfl <| w_done <| ?_; obtain rfl := os hb1; exact ⟨[], [0, 4, 7, 9, 3, 5, 6, 8], _, _, rfl, rfl, ⟨.refl _, ⟨.refl _, ⟨.refl _, ⟨.refl _, ⟨.refl _, ⟨.refl _, ⟨.refl _, trivial⟩⟩⟩⟩⟩⟩⟩, (.refl _)⟩
  ·rcases oi hf with ⟨c21, hf⟩ | ⟨c21, hf⟩
   ·refine w_condt rfl c21 <| awp_seq <| w_reg <| s_mov (.bool false) rfl <| w_done <| k_seq <| w_ret <| ?_; obtain rfl := os hf; exact r_flat ⟨.of trivial trivial, trivial⟩ rfl (.refl _)
   ·refine w_condf rfl (bf c21) <| w_skip <| k_seq <| awp_seq <| awp_seq <| w_reg <| ?_
    obtain ⟨r_22, er23, hf⟩ := ob hf
    obtain ⟨r_24, er25, hf⟩ := ob hf
    refine s_q (.agg [(.int .i64 r_9.Kind), (.int .i64 r_9.N), (.str r_9.T), (.own 5 0 r_9.Keys.length), (.own 6 0 r_9.Items.length)]) rfl (.of nle trivial) rfl <| s_q (.agg [(.int .i64 aJ_1.Kind), (.int .i64 aJ_1.N), (.str aJ_1.T), (.lst 1 (aJ_1.Keys.map AV.str)), (.lst 5 (aJ_1.Items.map encGJson))]) rfl (.of nle trivial) rfl <| s_dol (o_callf (v := (.agg [(.int .i64 r_22.Kind), (.int .i64 r_22.N), (.str r_22.T), (.own 8 0 r_22.Keys.length), (.own 9 0 r_22.Items.length)])) (h' := [.row 1 (r_22.Keys.map AV.str), .row 5 (r_22.Items.map encGJson)]) (w_laws_toJson FUEL _ _ er23) rfl (.cons (.of_eq (encGJson_eq aJ_1).symm) .nil) (by simp only [openV, openVs, List.length_map, encGJson_eq, List.nil_append, List.append_nil, List.cons_append]; rfl)) (.inr ⟨⟨(.of nle trivial), rfl⟩, trivial⟩) trivial <| ?_
    refine s_dol (o_call (w_laws_eqJson FUEL _ _ _ er25) rfl (.cons (leJ (x := r_9) (.agg (.cons (.refl _) (.cons (.refl _) (.cons (.refl _) (.cons (.of_eq (congrArg (AV.lst _) (tko (enc := AV.str) r_9.Keys))) (.cons (.of_eq (congrArg (AV.lst _) (tko (enc := encGJson) r_9.Items))) .nil))))))) (.cons (leJ (x := r_22) (.agg (.cons (.refl _) (.cons (.refl _) (.cons (.refl _) (.cons (.of_eq (congrArg (AV.lst _) (tko (enc := AV.str) r_22.Keys))) (.cons (.of_eq (congrArg (AV.lst _) (tko (enc := encGJson) r_22.Items))) .nil))))))) .nil)) rfl) a_same trivial <| s_q (.bool (!r_24)) rfl (.of trivial trivial) rfl <| w_done <| k_seq <| ?_
    rcases oi hf with ⟨c26, hf⟩ | ⟨c26, hf⟩
    ·refine w_condt rfl c26 <| awp_seq <| w_reg <| s_mov (.bool false) rfl <| w_done <| k_seq <| w_ret <| ?_; obtain rfl := os hf; exact r_flat ⟨.of trivial trivial, trivial⟩ rfl (.refl _)
    ·refine w_condf rfl (bf c26) <| w_skip <| k_seq <| awp_seq <| w_reg <| s_mov (.int .i64 1) rfl <| w_done <| k_seq <| awp_seq <| w_reg <| ?_
     obtain ⟨r_27, er28, hf⟩ := ob hf
     refine s_q (.agg [(.int .i64 r_9.Kind), (.int .i64 r_9.N), (.str r_9.T), (.own 5 0 r_9.Keys.length), (.own 6 0 r_9.Items.length)]) rfl (.of nle trivial) rfl <| s_mov (.int .i64 1) rfl <| ?_; refine s_dof (o_callhs (v := (.int .i64 r_27.1)) (h2 := [.box 5 (.agg [(.int .i64 aJ_1.Kind), (.int .i64 aJ_1.N), (.str aJ_1.T), (.lst 1 (aJ_1.Keys.map AV.str)), (.lst 5 (aJ_1.Items.map encGJson))]), .box 3 (.agg [(.int .i64 r_7.1.Id), (.str r_7.1.Method), (.own 4 0 r_7.1.Params.length)]), .box 5 (.agg [(.int .i64 r_9.Kind), (.int .i64 r_9.N), (.str r_9.T), (.own 5 0 r_9.Keys.length), (.own 6 0 r_9.Items.length)]), .box 3 (.agg [(.int .i64 r_11.1.Id), (.str r_11.1.Method), (.own 7 0 r_11.1.Params.length)]), .row 5 (r_7.1.Params.map encGJson), .row 1 (r_27.2.Keys.map AV.str), .row 5 (r_27.2.Items.map encGJson), .row 5 (r_11.1.Params.map encGJson), .row 1 (r_22.Keys.map AV.str), .row 5 (r_22.Items.map encGJson)]) [] [5, 6] (fun _ => rfl) (w_laws_markJson _ _ _ er28) rfl (.refl _) (.refl _) rfl rfl) fun hl29 => ?_
     refine s_mov (.int .i64 r_27.1) rfl <| w_done <| k_seq <| awp_seq <| awp_seq <| ?_
     obtain ⟨s61_33, hb1, hf⟩ := ob hf
     refine awp_cut ([(1, (.ptr 0 0 0)), (4, (.ptr 1 0 0)), (5, (.int .i64 r_7.2)), (7, (.ptr 2 0 0)), (61, (.bool s61_33))], [.box 5 (.agg [(.int .i64 aJ_1.Kind), (.int .i64 aJ_1.N), (.str aJ_1.T), (.lst 1 (aJ_1.Keys.map AV.str)), (.lst 5 (aJ_1.Items.map encGJson))]), .box 3 (.agg [(.int .i64 r_7.1.Id), (.str r_7.1.Method), (.own 3 0 r_7.1.Params.length)]), .box 3 (.agg [(.int .i64 r_11.1.Id), (.str r_11.1.Method), (.own 4 0 r_11.1.Params.length)]), .row 5 (r_7.1.Params.map encGJson), .row 5 (r_11.1.Params.map encGJson)]) ?_ ?_
     ·refine w_reg <| s_mov (.int .i64 r_27.1) rfl <| s_q (.bool (decide (r_27.1 < 0))) rfl (.of rfl trivial) rfl <| s_mov (.bool (decide (r_27.1 < 0))) rfl <| ?_
      rcases oi hb1 with ⟨c35, hb1⟩ | ⟨c35, hb1⟩
      ·refine s_lit (s := 51) (b := true) rfl c35 <| s_off rfl rfl <| s_off rfl rfl <| s_off rfl rfl <| s_off rfl rfl <| s_q (.bool true) rfl (.of trivial trivial) rfl <| s_mov (.bool true) rfl <| s_off rfl rfl <| s_off rfl rfl <| s_off rfl rfl <| s_q (.bool true) rfl (.of trivial trivial) rfl <| w_done <| ?_; obtain rfl := os hb1; exact ⟨[], [0, 1, 3, 4, 7], _, _, rfl, rfl, ⟨.refl _, ⟨.refl _, ⟨.refl _, ⟨.refl _, ⟨.refl _, trivial⟩⟩⟩⟩⟩, (.refl _)⟩
      ·refine s_lit (s := 51) (b := false) rfl (bf c35) <| s_on rfl <| s_q (.agg [(.int .i64 r_11.1.Id), (.str r_11.1.Method), (.own 7 0 r_11.1.Params.length)]) rfl (.of nle trivial) rfl <| s_on rfl <| s_q (.agg [(.int .i64 r_7.1.Id), (.str r_7.1.Method), (.own 4 0 r_7.1.Params.length)]) rfl (.of nle trivial) rfl <| s_on rfl <| ?_
       obtain ⟨r_36, er37, hb1⟩ := ob hb1
       refine s_do (o_call (w_laws_eqRequest _ _ _ er37) rfl (.cons (.agg (.cons (.refl _) (.cons (.refl _) (.cons (.of_eq (congrArg (AV.lst _) (tko (enc := encGJson) r_11.1.Params))) .nil)))) (.cons (.agg (.cons (.refl _) (.cons (.refl _) (.cons (.of_eq (congrArg (AV.lst _) (tko (enc := encGJson) r_7.1.Params))) .nil)))) .nil)) rfl) <| s_on rfl <| s_q (.bool (!r_36)) rfl (.of trivial trivial) rfl <| s_q (.bool (!r_36)) rfl (.of trivial trivial) rfl <| s_mov (.bool (!r_36)) rfl <| ?_; refine s_g (v := (!r_36)) (.int .i64 r_11.2) rfl (fun hv => by (try simp only [gs_on hv]); exact ⟨rfl, .of trivial trivial, rfl⟩) ?_; refine s_g (v := (!r_36)) (.int .i64 r_7.2) rfl (fun hv => by (try simp only [gs_on hv]); exact ⟨rfl, .of trivial trivial, rfl⟩) ?_
       refine s_g (v := (!r_36)) (.bool (r_11.2 != r_7.2)) rfl (fun hv => by (try simp only [gs_on hv]); exact ⟨rfl, (.of rfl trivial), rfl⟩) ?_; refine s_pick (x := true) (y := (r_11.2 != r_7.2)) rfl (fun hv => by (try simp only [gs_on hv]); rfl) (fun hv => by (try simp only [gs_on hv]); rfl) ?_; refine w_done ?_; obtain rfl := os hb1; exact ⟨[], [0, 1, 3, 4, 7], _, _, rfl, rfl, ⟨.refl _, ⟨.refl _, ⟨.refl _, ⟨.refl _, ⟨.refl _, trivial⟩⟩⟩⟩⟩, (.refl _)⟩
     ·rcases oi hf with ⟨c38, hf⟩ | ⟨c38, hf⟩
      ·refine w_condt rfl c38 <| awp_seq <| w_reg <| s_mov (.bool false) rfl <| w_done <| k_seq <| w_ret <| ?_; obtain rfl := os hf; exact r_flat ⟨.of trivial trivial, trivial⟩ rfl (.refl _)
      ·refine w_condf rfl (bf c38) <| w_skip <| k_seq <| awp_seq <| w_reg <| s_mov (.int .i64 1) rfl <| w_done <| k_seq <| awp_seq <| w_reg <| ?_
       obtain ⟨r_39, er40, hf⟩ := ob hf
       refine s_q (.agg [(.int .i64 r_11.1.Id), (.str r_11.1.Method), (.own 4 0 r_11.1.Params.length)]) rfl (.of nle trivial) rfl <| s_mov (.int .i64 1) rfl <| ?_; refine s_dof (o_callhs (v := (.int .i64 r_39.1)) (h2 := [.box 5 (.agg [(.int .i64 aJ_1.Kind), (.int .i64 aJ_1.N), (.str aJ_1.T), (.lst 1 (aJ_1.Keys.map AV.str)), (.lst 5 (aJ_1.Items.map encGJson))]), .box 3 (.agg [(.int .i64 r_7.1.Id), (.str r_7.1.Method), (.own 3 0 r_7.1.Params.length)]), .box 3 (.agg [(.int .i64 r_11.1.Id), (.str r_11.1.Method), (.own 4 0 r_11.1.Params.length)]), .row 5 (r_7.1.Params.map encGJson), .row 5 (r_39.2.Params.map encGJson)]) [] [4] (fun _ => rfl) (w_laws_markRequest _ _ _ er40) rfl (.refl _) (.refl _) rfl rfl) fun hl41 => ?_
       refine s_mov (.int .i64 r_39.1) rfl <| w_done <| k_seq <| awp_seq <| w_reg <| s_mov (.int .i64 1) rfl <| w_done <| k_seq <| awp_seq <| w_reg <| ?_
       obtain ⟨r_42, er43, hf⟩ := ob hf
       refine s_q (.agg [(.int .i64 r_11.1.Id), (.str r_11.1.Method), (.own 4 0 r_11.1.Params.length)]) rfl (.of nle trivial) rfl <| s_mov (.int .i64 1) rfl <| s_do (o_call (w_laws_heldRequest _ _ _ er43) rfl (.cons (.agg (.cons (.refl _) (.cons (.refl _) (.cons (.of_eq (congrArg (AV.lst _) (tkol (hl41 0 _ _ _ _ rfl rfl)))) .nil)))) (.cons (.refl _) .nil)) rfl) <| s_mov (.int .i64 r_42) rfl <| w_done <| k_seq <| awp_seq <| awp_seq <| w_reg <| s_mov (.int .i64 r_42) rfl <| s_q (.bool (decide (r_42 < 0))) rfl (.of rfl trivial) rfl <| w_done <| k_seq <| ?_
       rcases oi hf with ⟨c44, hf⟩ | ⟨c44, hf⟩
       ·refine w_condt rfl c44 <| awp_seq <| w_reg <| s_mov (.bool false) rfl <| w_done <| k_seq <| w_ret <| ?_; obtain rfl := os hf; exact r_flat ⟨.of trivial trivial, trivial⟩ rfl (.refl _)
       ·refine w_condf rfl (bf c44) <| w_skip <| k_seq <| awp_seq <| awp_seq <| w_reg <| s_mov (.int .i64 r_42) rfl <| s_mov (.int .i64 r_39.1) rfl <| s_q (.bool (r_42 != r_39.1)) rfl (.of rfl trivial) rfl <| w_done <| k_seq <| ?_
        rcases oi hf with ⟨c45, hf⟩ | ⟨c45, hf⟩
        ·refine w_condt rfl c45 <| awp_seq <| w_reg <| s_mov (.bool false) rfl <| w_done <| k_seq <| w_ret <| ?_; obtain rfl := os hf; exact r_flat ⟨.of trivial trivial, trivial⟩ rfl (.refl _)
        ·refine w_condf rfl (bf c45) <| w_skip <| k_seq <| awp_seq <| w_reg <| ?_
         obtain ⟨r_46, er47, hf⟩ := ob hf
         obtain ⟨r_48, er49, hf⟩ := ob hf
         refine s_q (.agg [(.int .i64 aJ_1.Kind), (.int .i64 aJ_1.N), (.str aJ_1.T), (.lst 1 (aJ_1.Keys.map AV.str)), (.lst 5 (aJ_1.Items.map encGJson))]) rfl (.of nle trivial) rfl <| s_do (o_callf (v := (.agg [(.int .i64 r_46.Kind), (.int .i64 r_46.N), (.str r_46.T), (.own 5 0 r_46.Keys.length), (.own 6 0 r_46.Items.length)])) (h' := [.row 1 (r_46.Keys.map AV.str), .row 5 (r_46.Items.map encGJson)]) (w_laws_toJson FUEL _ _ er47) rfl (.cons (.of_eq (encGJson_eq aJ_1).symm) .nil) (by simp only [openV, openVs, List.length_map, encGJson_eq, List.nil_append, List.append_nil, List.cons_append]; rfl)) <| s_do (o_callf (v := (.tup [(.agg [(.int .i64 r_48.1.Id), (.str r_48.1.Method), (.own 7 0 r_48.1.Params.length)]), (.int .i64 r_48.2)])) (h' := [.row 5 (r_48.1.Params.map encGJson)]) (w_impl_JsonRequest _ _ er49) rfl (.cons (leJ (x := r_46) (.agg (.cons (.refl _) (.cons (.refl _) (.cons (.refl _) (.cons (.of_eq (congrArg (AV.lst _) (tko (enc := AV.str) r_46.Keys))) (.cons (.of_eq (congrArg (AV.lst _) (tko (enc := encGJson) r_46.Items))) .nil))))))) .nil) (by simp only [openV, openVs, List.length_map, encGRequest_eq, List.nil_append, List.append_nil, List.cons_append]; rfl)) <| ?_
         refine s_mov (.tup [(.agg [(.int .i64 r_48.1.Id), (.str r_48.1.Method), (.own 7 0 r_48.1.Params.length)]), (.int .i64 r_48.2)]) rfl <| s_q (.agg [(.int .i64 r_48.1.Id), (.str r_48.1.Method), (.own 7 0 r_48.1.Params.length)]) rfl (.of nle trivial) rfl <| s_q (.int .i64 r_48.2) rfl (.of nle trivial) rfl <| s_do (o_box (j := 8) (c := (.agg [(.int .i64 0), (.str []), .nil])) rfl trivial rfl rfl) <| s_do0 (o_storebox (v := (.agg [(.int .i64 r_48.1.Id), (.str r_48.1.Method), (.own 7 0 r_48.1.Params.length)])) (y' := (.agg [(.int .i64 r_48.1.Id), (.str r_48.1.Method), (.own 7 0 r_48.1.Params.length)])) rfl rfl rfl trivial ⟨rfl, nle⟩ ⟨⟨rfl, trivial⟩, ⟨⟨rfl, trivial⟩, ⟨⟨rfl, trivial⟩, trivial⟩⟩⟩ rfl) <| s_mov (.int .i64 r_48.2) rfl <| ?_
         refine w_done <| k_seq <| awp_seq <| awp_seq <| ?_
         obtain ⟨s87_53, hb1, hf⟩ := ob hf
         refine awp_cut ([(7, (.ptr 0 0 0)), (10, (.int .i64 r_39.1)), (87, (.bool s87_53))], [.box 3 (.agg [(.int .i64 r_11.1.Id), (.str r_11.1.Method), (.own 1 0 r_39.2.Params.length)]), .row 5 (r_39.2.Params.map encGJson)]) ?_ ?_
         ·refine w_reg ?_
          obtain ⟨r_55, er56, hb1⟩ := ob hb1
          rcases oi hb1 with ⟨c57, hb1⟩ | ⟨c57, hb1⟩
          ·refine s_q (.agg [(.int .i64 r_48.1.Id), (.str r_48.1.Method), (.own 7 0 r_48.1.Params.length)]) rfl (.of nle trivial) rfl <| s_q (.agg [(.int .i64 r_7.1.Id), (.str r_7.1.Method), (.own 3 0 r_7.1.Params.length)]) rfl (.of nle trivial) rfl <| s_do (o_call (w_laws_eqRequest _ _ _ er56) rfl (.cons (.agg (.cons (.refl _) (.cons (.refl _) (.cons (.of_eq (congrArg (AV.lst _) (tko (enc := encGJson) r_48.1.Params))) .nil)))) (.cons (.agg (.cons (.refl _) (.cons (.refl _) (.cons (.of_eq (congrArg (AV.lst _) (tko (enc := encGJson) r_7.1.Params))) .nil)))) .nil)) rfl) <| s_q (.bool (!r_55)) rfl (.of trivial trivial) rfl <| s_mov (.bool (!r_55)) rfl <| s_lit (s := 83) (b := true) rfl c57 <| s_off rfl rfl <| s_off rfl rfl <| ?_
           refine s_off rfl rfl <| s_q (.bool true) rfl (.of trivial trivial) rfl <| w_done <| ?_; obtain rfl := os hb1; exact ⟨[], [2, 4], _, _, rfl, rfl, ⟨.refl _, ⟨.refl _, ⟨.refl _, trivial⟩⟩⟩, (.cons (.box (.agg (.cons (.refl _) (.cons (.refl _) (.cons (.of_eq (congrArg (AV.own _ 0) (by have h := (hl41 0 _ _ _ _ rfl rfl); simpa using h.symm))) .nil))))) (.cons (.refl _) .nil))⟩
          ·refine s_q (.agg [(.int .i64 r_48.1.Id), (.str r_48.1.Method), (.own 7 0 r_48.1.Params.length)]) rfl (.of nle trivial) rfl <| s_q (.agg [(.int .i64 r_7.1.Id), (.str r_7.1.Method), (.own 3 0 r_7.1.Params.length)]) rfl (.of nle trivial) rfl <| s_do (o_call (w_laws_eqRequest _ _ _ er56) rfl (.cons (.agg (.cons (.refl _) (.cons (.refl _) (.cons (.of_eq (congrArg (AV.lst _) (tko (enc := encGJson) r_48.1.Params))) .nil)))) (.cons (.agg (.cons (.refl _) (.cons (.refl _) (.cons (.of_eq (congrArg (AV.lst _) (tko (enc := encGJson) r_7.1.Params))) .nil)))) .nil)) rfl) <| s_q (.bool (!r_55)) rfl (.of trivial trivial) rfl <| s_mov (.bool (!r_55)) rfl <| s_lit (s := 83) (b := false) rfl (bf c57) <| s_on rfl <| s_mov (.int .i64 r_48.2) rfl <| ?_
           refine s_on rfl <| s_mov (.int .i64 r_7.2) rfl <| s_on rfl <| s_q (.bool (r_48.2 != r_7.2)) rfl (.of rfl trivial) rfl <| s_q (.bool (r_48.2 != r_7.2)) rfl (.of trivial trivial) rfl <| w_done <| ?_; obtain rfl := os hb1; exact ⟨[], [2, 4], _, _, rfl, rfl, ⟨.refl _, ⟨.refl _, ⟨.refl _, trivial⟩⟩⟩, (.cons (.box (.agg (.cons (.refl _) (.cons (.refl _) (.cons (.of_eq (congrArg (AV.own _ 0) (by have h := (hl41 0 _ _ _ _ rfl rfl); simpa using h.symm))) .nil))))) (.cons (.refl _) .nil))⟩
         ·rcases oi hf with ⟨c58, hf⟩ | ⟨c58, hf⟩
          ·refine w_condt rfl c58 <| awp_seq <| w_reg <| s_mov (.bool false) rfl <| w_done <| k_seq <| w_ret <| ?_; obtain rfl := os hf; exact r_flat ⟨.of trivial trivial, trivial⟩ rfl (.refl _)
          ·refine w_condf rfl (bf c58) <| w_skip <| k_seq <| awp_seq <| w_reg <| s_mov (.int .i64 1) rfl <| w_done <| k_seq <| awp_seq <| w_reg <| ?_
           obtain ⟨r_59, er60, hf⟩ := ob hf
           refine s_q (.agg [(.int .i64 r_11.1.Id), (.str r_11.1.Method), (.own 1 0 r_39.2.Params.length)]) rfl (.of nle trivial) rfl <| s_mov (.int .i64 1) rfl <| s_do (o_call (w_laws_heldRequest _ _ _ er60) rfl (.cons (.agg (.cons (.refl _) (.cons (.refl _) (.cons (.of_eq (congrArg (AV.lst _) (tko (enc := encGJson) r_39.2.Params))) .nil)))) (.cons (.refl _) .nil)) rfl) <| s_mov (.int .i64 r_59) rfl <| w_done <| k_seq <| awp_seq <| awp_seq <| w_reg <| s_mov (.int .i64 r_59) rfl <| s_q (.bool (decide (r_59 < 0))) rfl (.of rfl trivial) rfl <| w_done <| k_seq <| ?_
           rcases oi hf with ⟨c61, hf⟩ | ⟨c61, hf⟩
           ·refine w_condt rfl c61 <| awp_seq <| w_reg <| s_mov (.bool false) rfl <| w_done <| k_seq <| w_ret <| ?_; obtain rfl := os hf; exact r_flat ⟨.of trivial trivial, trivial⟩ rfl (.refl _)
           ·refine w_condf rfl (bf c61) <| w_skip <| k_seq <| awp_seq <| awp_seq <| w_reg <| s_mov (.int .i64 r_59) rfl <| s_mov (.int .i64 r_39.1) rfl <| s_q (.bool (r_59 != r_39.1)) rfl (.of rfl trivial) rfl <| w_done <| k_seq <| ?_
            rcases oi hf with ⟨c62, hf⟩ | ⟨c62, hf⟩
            ·refine w_condt rfl c62 <| awp_seq <| w_reg <| s_mov (.bool false) rfl <| w_done <| k_seq <| w_ret <| ?_; obtain rfl := os hf; exact r_flat ⟨.of trivial trivial, trivial⟩ rfl (.refl _)
            ·refine w_condf rfl (bf c62) <| w_skip <| k_seq <| awp_seq <| w_reg <| s_mov (.bool true) rfl <| w_done <| k_seq <| w_ret <| ?_; obtain rfl := os hf; exact r_flat ⟨.of trivial trivial, trivial⟩ rfl (.refl _)

end Go.R
