/- Walks. -/
import Derived.Test.YtgmkibkmcohikaaAJ1
set_option linter.all false
namespace Go.R
open Go Go.Proofs
set_option linter.unusedVariables false
set_option linter.unusedSimpArgs false
set_option maxHeartbeats 8000000
/- laws.heldStringS -/
def c46 : ACode :=
 (.seq (.reg (tm 4 (.c (.int .i64 0)) .done))
 (.seq (.seq (.reg (tm 5 (.c (.int .i64 0)) .done))
 (.block 0 (.loop (.seq (.seq (.reg (tm 6 (.t 5) (tm 7 (.t 0) (tq 8 (.len (.t 7)) (tq 9 (.bin .lss (.t 6) (.t 8)) .done)))))
 (.cond (.t 9) .skip
 (.exit 0)))
 (.seq (.block 1 (.seq (.seq (.reg (tm 12 (.t 0) (tm 13 (.t 5) (tq 14 (.iaddr 1 (.t 12) (.t 13)) (tq 15 (.load 1 false (.t 14)) (tm 16 (.t 1) (.l ⟨(some 17), none, .call 117 [(.t 16)]⟩ [⟨(some 15), none, .load 1 false (.t 14)⟩, ⟨(some 14), none, .iaddr 1 (.t 12) (.t 13)⟩]
 (tq 18 (.bin .neq (.t 15) (.t 17)) .done) .non)))))))
 (.cond (.t 18) (.seq (.reg (tq 4 (.mov (.c (.int .i64 (-1)))) .done))
 .ret)
 .skip))
 (.reg (tm 19 (.t 1) (tq 20 (.bin .add (.t 19) (.c (.int .i64 1))) (tm 1 (.t 20) .done))))))
 (.reg (tm 10 (.t 5) (tq 11 (.bin .add (.t 10) (.c (.int .i64 1))) (tm 5 (.t 11) .done)))))))))
 (.cut (.seq (.reg (tm 21 (.t 1) (tm 4 (.t 21) .done)))
 .ret))))
theorem fc46 : fcomp Try.prog Try.f46 = some (c46.erase, [.mov (.t 4)], 22) := by kernel_rfl
def laws_heldStringS_L1  : List Str → Int → Option (Fl Int Int)
  | [], k_19 =>
    some (.go k_19)
  | x_37 :: xs, k_19 =>
    (laws_markText k_19).bind fun r_40 =>
    if (!(x_37 == r_40)) then
    some (.ret (-1))
    else
    laws_heldStringS_L1 xs (w64 (k_19 + 1)) 

def laws_heldStringS (a_1 : (List Str)) (k_2 : Int) : Option Int :=
    (laws_heldStringS_L1 a_1 k_2).bind fun q => (match q with
    | .ret r => some r
    | .go k_29 =>
    some k_29)
theorem w_laws_heldStringS (a_1 : (List Str)) (k_2 : Int) (r : Int) (hf : laws_heldStringS a_1 k_2 = some r) : CallOK Try.prog 46 .flat [(.lst 1 (a_1.map AV.str)), (.int .i64 k_2)] (.int .i64 r) := by
 refine CallOK.of_awp mixed Try.func46 fc46 nle ?_; rw [argT_eq]; unfold laws_heldStringS at hf; unfold c46; refine (show awp Try.prog false 0 _ (ofL [(0, (.lst 1 (a_1.map AV.str))), (1, (.int .i64 k_2))]) [] _ from ?_); refine awp_seq <| w_reg <| s_mov (.int .i64 0) rfl <| w_done <| k_seq <| awp_seq <| awp_seq <| w_reg <| s_mov (.int .i64 0) rfl <| w_done <| k_seq <| ?_
 obtain ⟨p30, hb1, hf⟩ := ob hf
 refine awp_cutx (X := {q : Int // p30 = .go q}) (fun q => ([(1, (.int .i64 q.1))], [])) ?_ ?_
 ·refine awp_loop (X := {q : (Int × Nat) // laws_heldStringS_L1 (a_1.drop q.2) q.1 = some p30}) (fun q => ([(0, (.lst 1 (a_1.map AV.str))), (1, (.int .i64 q.1.1)), (5, (.int .i64 (q.1.2 : Int)))], [])) (fun q => a_1.length - q.1.2) ⟨(k_2, 0), hb1⟩ ⟨[], [], _, _, rfl, rfl, ⟨.refl _, ⟨.refl _, ⟨.refl _, trivial⟩⟩⟩, (.refl _)⟩ ?_
  rintro ⟨⟨k_19, i_20⟩, hc1⟩
  have hc1 : laws_heldStringS_L1 (a_1.drop i_20) k_19 = some p30 := hc1
  refine (show awp Try.prog false 0 _ (ofL [(0, (.lst 1 (a_1.map AV.str))), (1, (.int .i64 k_19)), (5, (.int .i64 (i_20 : Int)))]) [] _ from ?_)
  rcases dropc a_1 i_20 with ⟨hie33, hd36⟩ | ⟨hlt31, x_37, hx32, hd36⟩
  ·rw [hd36, laws_heldStringS_L1.eq_1] at hc1
   have hq35 := dlf hie33
   refine awp_seq <| awp_seq <| w_reg <| s_mov (.int .i64 (i_20 : Int)) rfl <| s_mov (.lst 1 (a_1.map AV.str)) rfl <| s_dof (o_len (enc := AV.str) rfl) fun hl38 => s_q (.bool (decide ((i_20 : Int) < (a_1.length : Int)))) rfl rfl rfl <| w_done <| k_seq <| w_condf rfl hq35 <| w_exit <| k_seqx <| k_loopx <| k_blkx <| ?_; obtain rfl := os hc1; exact k_cutn ⟨_, rfl⟩ ⟨[], [], _, _, rfl, rfl, ⟨.refl _, trivial⟩, (.refl _)⟩
  ·rw [hd36, laws_heldStringS_L1.eq_2] at hc1
   have hq35 := dlt hlt31
   refine awp_seq <| awp_seq <| w_reg <| s_mov (.int .i64 (i_20 : Int)) rfl <| s_mov (.lst 1 (a_1.map AV.str)) rfl <| s_dof (o_len (enc := AV.str) rfl) fun hl39 => s_q (.bool (decide ((i_20 : Int) < (a_1.length : Int)))) rfl rfl rfl <| w_done <| k_seq <| w_condt rfl hq35 <| w_skip <| k_seq <| awp_seq <| w_blk <| awp_seq <| awp_seq <| w_reg <| ?_
   obtain ⟨r_40, er41, hc1⟩ := ob hc1
   refine s_mov (.lst 1 (a_1.map AV.str)) rfl <| s_mov (.int .i64 (i_20 : Int)) rfl <| s_do (o_iaddrn (enc := AV.str) rfl rfl hx32) <| s_q (.str x_37) rfl ⟨rfl, rfl⟩ rfl <| s_mov (.int .i64 k_19) rfl <| s_dol (o_call (w_laws_markText _ _ er41) rfl (.refl _) rfl) a_same trivial <| s_q (.bool (!(x_37 == r_40))) rfl trivial rfl <| w_done <| k_seq <| ?_
   rcases oi hc1 with ⟨c42, hc1⟩ | ⟨c42, hc1⟩
   ·refine w_condt rfl c42 <| awp_seq <| w_reg <| s_mov (.int .i64 (-1)) rfl <| w_done <| k_seq <| w_ret <| ?_; obtain rfl := os hc1; obtain rfl := os hf; exact r_flat ⟨trivial, trivial⟩ rfl (.refl _)
   ·refine w_condf rfl (bf c42) <| w_skip <| k_seq <| w_reg <| s_mov (.int .i64 k_19) rfl <| s_q (.int .i64 (w64 (k_19 + 1))) rfl rfl rfl <| s_mov (.int .i64 (w64 (k_19 + 1))) rfl <| w_done <| k_blk <| k_seq <| w_reg <| s_mov (.int .i64 (i_20 : Int)) rfl <| s_q (.int .i64 (w64 ((i_20 : Int) + 1))) rfl rfl rfl <| s_mov (.int .i64 (w64 ((i_20 : Int) + 1))) rfl <| w_done <| ?_; exact k_loopn ⟨(w64 (k_19 + 1), (i_20 + 1)), hc1⟩ (mul hlt31) ⟨[], [], _, _, rfl, rfl, ⟨.refl _, ⟨.refl _, ⟨.of_eq (congrArg (AV.int _) (w64_incr hlt31 hl39)), trivial⟩⟩⟩, (.refl _)⟩
 ·rintro ⟨k_29, rfl⟩
  refine awp_seq <| w_reg <| s_mov (.int .i64 k_29) rfl <| s_mov (.int .i64 k_29) rfl <| w_done <| k_seq <| w_ret <| ?_; obtain rfl := os hf; exact r_flat ⟨trivial, trivial⟩ rfl (.refl _)

/- laws.heldJsonS -/
def c113 : ACode :=
 (.seq (.reg (tm 4 (.c (.int .i64 0)) .done))
 (.seq (.seq (.reg (tm 5 (.c (.int .i64 0)) .done))
 (.block 0 (.loop (.seq (.seq (.reg (tm 6 (.t 5) (tm 7 (.t 0) (tq 8 (.len (.t 7)) (tq 9 (.bin .lss (.t 6) (.t 8)) .done)))))
 (.cond (.t 9) .skip
 (.exit 0)))
 (.seq (.block 1 (.seq (.seq (.reg (tm 12 (.t 0) (tm 13 (.t 5) (tq 14 (.iaddr 5 (.t 12) (.t 13)) (tq 15 (.faddr 0 (.t 14)) (tq 16 (.load 1 false (.t 15)) (tm 17 (.t 1) (tq 18 (.bin .neq (.t 16) (.t 17)) .done))))))))
 (.cond (.t 18) (.seq (.reg (tq 4 (.mov (.c (.int .i64 (-1)))) .done))
 .ret)
 .skip))
 (.seq (.reg (tm 19 (.t 1) (tq 20 (.bin .add (.t 19) (.c (.int .i64 1))) (tm 1 (.t 20) .done))))
 (.seq (.seq (.reg (tm 21 (.t 0) (tm 22 (.t 5) (tq 23 (.iaddr 5 (.t 21) (.t 22)) (tq 24 (.faddr 1 (.t 23)) (tq 25 (.load 1 false (.t 24)) (tm 26 (.t 1) (tq 27 (.bin .neq (.t 25) (.t 26)) .done))))))))
 (.cond (.t 27) (.seq (.reg (tq 4 (.mov (.c (.int .i64 (-1)))) .done))
 .ret)
 .skip))
 (.seq (.reg (tm 28 (.t 1) (tq 29 (.bin .add (.t 28) (.c (.int .i64 1))) (tm 1 (.t 29) .done))))
 (.seq (.seq (.reg (tm 30 (.t 0) (tm 31 (.t 5) (tq 32 (.iaddr 5 (.t 30) (.t 31)) (tq 33 (.faddr 2 (.t 32)) (tq 34 (.load 1 false (.t 33)) (tm 35 (.t 1) (.l ⟨(some 36), none, .call 117 [(.t 35)]⟩ [⟨(some 34), none, .load 1 false (.t 33)⟩, ⟨(some 33), none, .faddr 2 (.t 32)⟩, ⟨(some 32), none, .iaddr 5 (.t 30) (.t 31)⟩]
 (tq 37 (.bin .neq (.t 34) (.t 36)) .done) .non))))))))
 (.cond (.t 37) (.seq (.reg (tq 4 (.mov (.c (.int .i64 (-1)))) .done))
 .ret)
 .skip))
 (.seq (.reg (tm 38 (.t 1) (tq 39 (.bin .add (.t 38) (.c (.int .i64 1))) (tm 1 (.t 39) .done))))
 (.seq (.reg (tm 40 (.t 0) (tm 41 (.t 5) (tq 42 (.iaddr 5 (.t 40) (.t 41)) (tq 43 (.faddr 3 (.t 42)) (tq 44 (.load 1 false (.t 43)) (tm 45 (.t 1) (tq 46 (.call 46 [(.t 44), (.t 45)]) (tm 1 (.t 46) .done)))))))))
 (.seq (.seq (.reg (tm 47 (.t 1) (tq 48 (.bin .lss (.t 47) (.c (.int .i64 0))) .done)))
 (.cond (.t 48) (.seq (.reg (tq 4 (.mov (.c (.int .i64 (-1)))) .done))
 .ret)
 .skip))
 (.seq (.reg (tm 49 (.t 0) (tm 50 (.t 5) (tq 51 (.iaddr 5 (.t 49) (.t 50)) (tq 52 (.faddr 4 (.t 51)) (tq 53 (.load 1 false (.t 52)) (tm 54 (.t 1) (tq 55 (.call 113 [(.t 53), (.t 54)]) (tm 1 (.t 55) .done)))))))))
 (.seq (.reg (tm 56 (.t 1) (tq 57 (.bin .lss (.t 56) (.c (.int .i64 0))) .done)))
 (.cond (.t 57) (.seq (.reg (tq 4 (.mov (.c (.int .i64 (-1)))) .done))
 .ret)
 .skip))))))))))))
 (.reg (tm 10 (.t 5) (tq 11 (.bin .add (.t 10) (.c (.int .i64 1))) (tm 5 (.t 11) .done)))))))))
 (.cut (.seq (.reg (tm 58 (.t 1) (tm 4 (.t 58) .done)))
 .ret))))
theorem fc113 : fcomp Try.prog Try.f113 = some (c113.erase, [.mov (.t 4)], 59) := by kernel_rfl
def laws_heldJsonS_B_L1 (rec : ((List GJson) → Int → Option Int)) : List GJson → Int → Option (Fl Int Int)
  | [], k_51 =>
    some (.go k_51)
  | x_85 :: xs, k_51 =>
    if (x_85.Kind != k_51) then
    some (.ret (-1))
    else
    if (x_85.N != w64 (k_51 + 1)) then
    some (.ret (-1))
    else
    (laws_markText (w64 ((w64 (k_51 + 1)) + 1))).bind fun r_90 =>
    if (!(x_85.T == r_90)) then
    some (.ret (-1))
    else
    (laws_heldStringS x_85.Keys (w64 ((w64 ((w64 (k_51 + 1)) + 1)) + 1))).bind fun r_93 =>
    if (decide (r_93 < 0)) then
    some (.ret (-1))
    else
    (rec x_85.Items r_93).bind fun r_96 =>
    if (decide (r_96 < 0)) then
    some (.ret (-1))
    else
    laws_heldJsonS_B_L1 rec xs r_96 

def laws_heldJsonS_B (rec : ((List GJson) → Int → Option Int)) (a_1 : (List GJson)) (k_2 : Int) : Option Int :=
    (laws_heldJsonS_B_L1 rec a_1 k_2).bind fun q => (match q with
    | .ret r => some r
    | .go k_77 =>
    some k_77)
theorem w_laws_heldJsonS_B (rec : ((List GJson) → Int → Option Int)) (hrec : ∀ a0 a1 r, rec a0 a1 = some r → CallOK Try.prog 113 .flat [(.lst 5 (a0.map encGJson)), (.int .i64 a1)] (.int .i64 r)) (a_1 : (List GJson)) (k_2 : Int) (r : Int) (hf : laws_heldJsonS_B rec a_1 k_2 = some r) : CallOK Try.prog 113 .flat [(.lst 5 (a_1.map encGJson)), (.int .i64 k_2)] (.int .i64 r) := by
 refine CallOK.of_awp mixed Try.func113 fc113 nle ?_; rw [argT_eq]; unfold laws_heldJsonS_B at hf; unfold c113; refine (show awp Try.prog false 0 _ (ofL [(0, (.lst 5 (a_1.map encGJson))), (1, (.int .i64 k_2))]) [] _ from ?_); refine awp_seq <| w_reg <| s_mov (.int .i64 0) rfl <| w_done <| k_seq <| awp_seq <| awp_seq <| w_reg <| s_mov (.int .i64 0) rfl <| w_done <| k_seq <| ?_
 obtain ⟨p78, hb1, hf⟩ := ob hf
 refine awp_cutx (X := {q : Int // p78 = .go q}) (fun q => ([(1, (.int .i64 q.1))], [])) ?_ ?_
 ·refine awp_loop (X := {q : (Int × Nat) // laws_heldJsonS_B_L1 rec (a_1.drop q.2) q.1 = some p78}) (fun q => ([(0, (.lst 5 (a_1.map encGJson))), (1, (.int .i64 q.1.1)), (5, (.int .i64 (q.1.2 : Int)))], [])) (fun q => a_1.length - q.1.2) ⟨(k_2, 0), hb1⟩ ⟨[], [], _, _, rfl, rfl, ⟨.refl _, ⟨.refl _, ⟨.refl _, trivial⟩⟩⟩, (.refl _)⟩ ?_
  rintro ⟨⟨k_51, i_52⟩, hc1⟩
  have hc1 : laws_heldJsonS_B_L1 rec (a_1.drop i_52) k_51 = some p78 := hc1
  refine (show awp Try.prog false 0 _ (ofL [(0, (.lst 5 (a_1.map encGJson))), (1, (.int .i64 k_51)), (5, (.int .i64 (i_52 : Int)))]) [] _ from ?_)
  rcases dropc a_1 i_52 with ⟨hie81, hd84⟩ | ⟨hlt79, x_85, hx80, hd84⟩
  ·rw [hd84, laws_heldJsonS_B_L1.eq_1] at hc1
   have hq83 := dlf hie81
   refine awp_seq <| awp_seq <| w_reg <| s_mov (.int .i64 (i_52 : Int)) rfl <| s_mov (.lst 5 (a_1.map encGJson)) rfl <| s_dof (o_len (enc := encGJson) rfl) fun hl86 => s_q (.bool (decide ((i_52 : Int) < (a_1.length : Int)))) rfl rfl rfl <| w_done <| k_seq <| w_condf rfl hq83 <| w_exit <| k_seqx <| k_loopx <| k_blkx <| ?_; obtain rfl := os hc1; exact k_cutn ⟨_, rfl⟩ ⟨[], [], _, _, rfl, rfl, ⟨.refl _, trivial⟩, (.refl _)⟩
  ·rw [hd84, laws_heldJsonS_B_L1.eq_2] at hc1
   have hq83 := dlt hlt79
   refine awp_seq <| awp_seq <| w_reg <| s_mov (.int .i64 (i_52 : Int)) rfl <| s_mov (.lst 5 (a_1.map encGJson)) rfl <| s_dof (o_len (enc := encGJson) rfl) fun hl87 => s_q (.bool (decide ((i_52 : Int) < (a_1.length : Int)))) rfl rfl rfl <| w_done <| k_seq <| w_condt rfl hq83 <| w_skip <| k_seq <| awp_seq <| w_blk <| awp_seq <| awp_seq <| w_reg <| s_mov (.lst 5 (a_1.map encGJson)) rfl <| s_mov (.int .i64 (i_52 : Int)) rfl <| s_do (o_iaddrn (enc := encGJson) rfl rfl hx80) <| s_q (.iptr (encGJson x_85) 0) rfl trivial rfl <| s_do (o_loadeq (v := (.int .i64 x_85.Kind)) rfl (encGJson_eq _) nle rfl) <| s_mov (.int .i64 k_51) rfl <| s_q (.bool (x_85.Kind != k_51)) rfl rfl rfl <| w_done <| k_seq <| ?_
   rcases oi hc1 with ⟨c88, hc1⟩ | ⟨c88, hc1⟩
   ·refine w_condt rfl c88 <| awp_seq <| w_reg <| s_mov (.int .i64 (-1)) rfl <| w_done <| k_seq <| w_ret <| ?_; obtain rfl := os hc1; obtain rfl := os hf; exact r_flat ⟨trivial, trivial⟩ rfl (.refl _)
   ·refine w_condf rfl (bf c88) <| w_skip <| k_seq <| awp_seq <| w_reg <| s_mov (.int .i64 k_51) rfl <| s_q (.int .i64 (w64 (k_51 + 1))) rfl rfl rfl <| s_mov (.int .i64 (w64 (k_51 + 1))) rfl <| w_done <| k_seq <| awp_seq <| awp_seq <| w_reg <| s_mov (.lst 5 (a_1.map encGJson)) rfl <| s_mov (.int .i64 (i_52 : Int)) rfl <| s_do (o_iaddrn (enc := encGJson) rfl rfl hx80) <| s_q (.iptr (encGJson x_85) 1) rfl trivial rfl <| s_do (o_loadeq (v := (.int .i64 x_85.N)) rfl (encGJson_eq _) nle rfl) <| s_mov (.int .i64 (w64 (k_51 + 1))) rfl <| s_q (.bool (x_85.N != w64 (k_51 + 1))) rfl rfl rfl <| w_done <| k_seq <| ?_
    rcases oi hc1 with ⟨c89, hc1⟩ | ⟨c89, hc1⟩
    ·refine w_condt rfl c89 <| awp_seq <| w_reg <| s_mov (.int .i64 (-1)) rfl <| w_done <| k_seq <| w_ret <| ?_; obtain rfl := os hc1; obtain rfl := os hf; exact r_flat ⟨trivial, trivial⟩ rfl (.refl _)
    ·refine w_condf rfl (bf c89) <| w_skip <| k_seq <| awp_seq <| w_reg <| s_mov (.int .i64 (w64 (k_51 + 1))) rfl <| s_q (.int .i64 (w64 ((w64 (k_51 + 1)) + 1))) rfl rfl rfl <| s_mov (.int .i64 (w64 ((w64 (k_51 + 1)) + 1))) rfl <| w_done <| k_seq <| awp_seq <| awp_seq <| w_reg <| ?_
     obtain ⟨r_90, er91, hc1⟩ := ob hc1
     refine s_mov (.lst 5 (a_1.map encGJson)) rfl <| s_mov (.int .i64 (i_52 : Int)) rfl <| s_do (o_iaddrn (enc := encGJson) rfl rfl hx80) <| s_q (.iptr (encGJson x_85) 2) rfl trivial rfl <| s_do (o_loadeq (v := (.str x_85.T)) rfl (encGJson_eq _) nle rfl) <| s_mov (.int .i64 (w64 ((w64 (k_51 + 1)) + 1))) rfl <| s_dol (o_call (w_laws_markText _ _ er91) rfl (.refl _) rfl) a_same trivial <| s_q (.bool (!(x_85.T == r_90))) rfl trivial rfl <| w_done <| k_seq <| ?_
     rcases oi hc1 with ⟨c92, hc1⟩ | ⟨c92, hc1⟩
     ·refine w_condt rfl c92 <| awp_seq <| w_reg <| s_mov (.int .i64 (-1)) rfl <| w_done <| k_seq <| w_ret <| ?_; obtain rfl := os hc1; obtain rfl := os hf; exact r_flat ⟨trivial, trivial⟩ rfl (.refl _)
     ·refine w_condf rfl (bf c92) <| w_skip <| k_seq <| awp_seq <| w_reg <| s_mov (.int .i64 (w64 ((w64 (k_51 + 1)) + 1))) rfl <| s_q (.int .i64 (w64 ((w64 ((w64 (k_51 + 1)) + 1)) + 1))) rfl rfl rfl <| s_mov (.int .i64 (w64 ((w64 ((w64 (k_51 + 1)) + 1)) + 1))) rfl <| w_done <| k_seq <| awp_seq <| w_reg <| ?_
      obtain ⟨r_93, er94, hc1⟩ := ob hc1
      refine s_mov (.lst 5 (a_1.map encGJson)) rfl <| s_mov (.int .i64 (i_52 : Int)) rfl <| s_do (o_iaddrn (enc := encGJson) rfl rfl hx80) <| s_q (.iptr (encGJson x_85) 3) rfl trivial rfl <| s_do (o_loadeq (v := (.lst 1 (x_85.Keys.map AV.str))) rfl (encGJson_eq _) nle rfl) <| s_mov (.int .i64 (w64 ((w64 ((w64 (k_51 + 1)) + 1)) + 1))) rfl <| s_do (o_call (w_laws_heldStringS _ _ _ er94) rfl (.refl _) rfl) <| s_mov (.int .i64 r_93) rfl <| w_done <| k_seq <| awp_seq <| awp_seq <| w_reg <| s_mov (.int .i64 r_93) rfl <| s_q (.bool (decide (r_93 < 0))) rfl rfl rfl <| w_done <| k_seq <| ?_
      rcases oi hc1 with ⟨c95, hc1⟩ | ⟨c95, hc1⟩
      ·refine w_condt rfl c95 <| awp_seq <| w_reg <| s_mov (.int .i64 (-1)) rfl <| w_done <| k_seq <| w_ret <| ?_; obtain rfl := os hc1; obtain rfl := os hf; exact r_flat ⟨trivial, trivial⟩ rfl (.refl _)
      ·refine w_condf rfl (bf c95) <| w_skip <| k_seq <| awp_seq <| w_reg <| ?_
       obtain ⟨r_96, er97, hc1⟩ := ob hc1
       refine s_mov (.lst 5 (a_1.map encGJson)) rfl <| s_mov (.int .i64 (i_52 : Int)) rfl <| s_do (o_iaddrn (enc := encGJson) rfl rfl hx80) <| s_q (.iptr (encGJson x_85) 4) rfl trivial rfl <| s_do (o_loadeq (v := (.lst 5 (x_85.Items.map encGJson))) rfl (encGJson_eq _) nle rfl) <| s_mov (.int .i64 r_93) rfl <| s_do (o_call (hrec _ _ _ er97) rfl (.refl _) rfl) <| s_mov (.int .i64 r_96) rfl <| w_done <| k_seq <| awp_seq <| w_reg <| s_mov (.int .i64 r_96) rfl <| s_q (.bool (decide (r_96 < 0))) rfl rfl rfl <| w_done <| k_seq <| ?_
       rcases oi hc1 with ⟨c98, hc1⟩ | ⟨c98, hc1⟩
       ·refine w_condt rfl c98 <| awp_seq <| w_reg <| s_mov (.int .i64 (-1)) rfl <| w_done <| k_seq <| w_ret <| ?_; obtain rfl := os hc1; obtain rfl := os hf; exact r_flat ⟨trivial, trivial⟩ rfl (.refl _)
       ·refine w_condf rfl (bf c98) <| w_skip <| k_blk <| k_seq <| w_reg <| s_mov (.int .i64 (i_52 : Int)) rfl <| s_q (.int .i64 (w64 ((i_52 : Int) + 1))) rfl rfl rfl <| s_mov (.int .i64 (w64 ((i_52 : Int) + 1))) rfl <| w_done <| ?_; exact k_loopn ⟨(r_96, (i_52 + 1)), hc1⟩ (mul hlt79) ⟨[], [], _, _, rfl, rfl, ⟨.refl _, ⟨.refl _, ⟨.of_eq (congrArg (AV.int _) (w64_incr hlt79 hl87)), trivial⟩⟩⟩, (.refl _)⟩
 ·rintro ⟨k_77, rfl⟩
  refine awp_seq <| w_reg <| s_mov (.int .i64 k_77) rfl <| s_mov (.int .i64 k_77) rfl <| w_done <| k_seq <| w_ret <| ?_; obtain rfl := os hf; exact r_flat ⟨trivial, trivial⟩ rfl (.refl _)
def laws_heldJsonS : Nat → (List GJson) → Int → Option Int
 | 0, _, _ => none
 | k + 1, a_1, k_2 => laws_heldJsonS_B (laws_heldJsonS k) a_1 k_2
theorem w_laws_heldJsonS : ∀ (k : Nat) (a_1 : (List GJson)) (k_2 : Int) (r : Int), laws_heldJsonS k a_1 k_2 = some r → CallOK Try.prog 113 .flat [(.lst 5 (a_1.map encGJson)), (.int .i64 k_2)] (.int .i64 r)
 | 0, a_1, k_2, r, h => by rw [laws_heldJsonS.eq_1] at h; cases h
 | k + 1, a_1, k_2, r, h => by
  rw [laws_heldJsonS.eq_2] at h; exact w_laws_heldJsonS_B _ (w_laws_heldJsonS k) a_1 k_2 r h

/- laws.heldJson -/
def c40 : ACode :=
 (.seq (.reg (tq 2 (.box 5 (.t 0)) (tm 4 (.c (.int .i64 0)) .done)))
 (.seq (.reg (tq 5 (.faddr 3 (.t 2)) (tq 6 (.load 1 false (.t 5)) (tm 7 (.t 1) (tq 8 (.call 46 [(.t 6), (.t 7)]) (tm 1 (.t 8) .done))))))
 (.seq (.seq (.reg (tm 9 (.t 1) (tq 10 (.bin .lss (.t 9) (.c (.int .i64 0))) .done)))
 (.cond (.t 10) (.seq (.reg (tq 4 (.mov (.c (.int .i64 (-1)))) .done))
 .ret)
 .skip))
 (.seq (.reg (tq 11 (.faddr 4 (.t 2)) (tq 12 (.load 1 false (.t 11)) (tm 13 (.t 1) (tq 14 (.call 113 [(.t 12), (.t 13)]) (tm 1 (.t 14) .done))))))
 (.seq (.seq (.reg (tm 15 (.t 1) (tq 16 (.bin .lss (.t 15) (.c (.int .i64 0))) .done)))
 (.cond (.t 16) (.seq (.reg (tq 4 (.mov (.c (.int .i64 (-1)))) .done))
 .ret)
 .skip))
 (.seq (.reg (tm 17 (.t 1) (tm 4 (.t 17) .done)))
 .ret))))))
theorem fc40 : fcomp Try.prog Try.f40 = some (c40.erase, [.mov (.t 4)], 18) := by kernel_rfl
def laws_heldJson (a_1 : GJson) (k_2 : Int) : Option Int :=
    (laws_heldStringS a_1.Keys k_2).bind fun r_3 =>
    if (decide (r_3 < 0)) then
    some (-1)
    else
    (laws_heldJsonS FUEL a_1.Items r_3).bind fun r_6 =>
    if (decide (r_6 < 0)) then
    some (-1)
    else
    some r_6
theorem w_laws_heldJson (a_1 : GJson) (k_2 : Int) (r : Int) (hf : laws_heldJson a_1 k_2 = some r) : CallOK Try.prog 40 .flat [(encGJson a_1), (.int .i64 k_2)] (.int .i64 r) := by
 refine CallOK.of_awp mixed Try.func40 fc40 nle ?_; rw [argT_eq]; rw [encGJson_eq a_1]; unfold laws_heldJson at hf; unfold c40; refine (show awp Try.prog false 0 _ (ofL [(0, (.agg [(.int .i64 a_1.Kind), (.int .i64 a_1.N), (.str a_1.T), (.lst 1 (a_1.Keys.map AV.str)), (.lst 5 (a_1.Items.map encGJson))])), (1, (.int .i64 k_2))]) [] _ from ?_); refine awp_seq <| w_reg <| s_do (o_box (j := 0) (c := (.agg [(.int .i64 a_1.Kind), (.int .i64 a_1.N), (.str a_1.T), (.lst 1 (a_1.Keys.map AV.str)), (.lst 5 (a_1.Items.map encGJson))])) rfl trivial rfl rfl) <| s_mov (.int .i64 0) rfl <| w_done <| k_seq <| awp_seq <| w_reg <| ?_
 obtain ⟨r_3, er4, hf⟩ := ob hf
 refine s_q (.ptr 0 0 3) rfl trivial rfl <| s_q (.lst 1 (a_1.Keys.map AV.str)) rfl nle rfl <| s_mov (.int .i64 k_2) rfl <| s_do (o_call (w_laws_heldStringS _ _ _ er4) rfl (.refl _) rfl) <| s_mov (.int .i64 r_3) rfl <| w_done <| k_seq <| awp_seq <| awp_seq <| w_reg <| s_mov (.int .i64 r_3) rfl <| s_q (.bool (decide (r_3 < 0))) rfl rfl rfl <| w_done <| k_seq <| ?_
 rcases oi hf with ⟨c5, hf⟩ | ⟨c5, hf⟩
 ·refine w_condt rfl c5 <| awp_seq <| w_reg <| s_mov (.int .i64 (-1)) rfl <| w_done <| k_seq <| w_ret <| ?_; obtain rfl := os hf; exact r_flat ⟨trivial, trivial⟩ rfl (.refl _)
 ·refine w_condf rfl (bf c5) <| w_skip <| k_seq <| awp_seq <| w_reg <| ?_
  obtain ⟨r_6, er7, hf⟩ := ob hf
  refine s_q (.ptr 0 0 4) rfl trivial rfl <| s_q (.lst 5 (a_1.Items.map encGJson)) rfl nle rfl <| s_mov (.int .i64 r_3) rfl <| s_do (o_call (w_laws_heldJsonS FUEL _ _ _ er7) rfl (.refl _) rfl) <| s_mov (.int .i64 r_6) rfl <| w_done <| k_seq <| awp_seq <| awp_seq <| w_reg <| s_mov (.int .i64 r_6) rfl <| s_q (.bool (decide (r_6 < 0))) rfl rfl rfl <| w_done <| k_seq <| ?_
  rcases oi hf with ⟨c8, hf⟩ | ⟨c8, hf⟩
  ·refine w_condt rfl c8 <| awp_seq <| w_reg <| s_mov (.int .i64 (-1)) rfl <| w_done <| k_seq <| w_ret <| ?_; obtain rfl := os hf; exact r_flat ⟨trivial, trivial⟩ rfl (.refl _)
  ·refine w_condf rfl (bf c8) <| w_skip <| k_seq <| awp_seq <| w_reg <| s_mov (.int .i64 r_6) rfl <| s_mov (.int .i64 r_6) rfl <| w_done <| k_seq <| w_ret <| ?_; obtain rfl := os hf; exact r_flat ⟨trivial, trivial⟩ rfl (.refl _)

/- laws.FnExactAtomJson -/
def c7 : ACode :=
 (.seq (.reg (tq 1 (.box 3 (.t 0)) (tm 2 (.c (.bool false)) .done)))
 (.seq (.reg (tm 3 (.c (.int .i64 1048576)) .done))
 (.seq (.reg (tq 12 (.load 3 true (.t 1)) (tm 13 (.t 3) (tq 14 (.call 34 [(.t 12), (.t 13)]) (tm 3 (.t 14) .done)))))
 (.seq (.seq (.reg (tm 15 (.t 3) (tq 16 (.bin .lss (.t 15) (.c (.int .i64 0))) .done)))
 (.cond (.t 16) (.seq (.reg (tm 2 (.c (.bool true)) .done))
 .ret)
 .skip))
 (.seq (.reg (tq 18 (.load 3 true (.t 1)) (tq 19 (.call 36 [(.t 18)]) (tq 20 (.call 35 [(.t 19)]) (tm 17 (.t 20) (tq 21 (.extract 0 (.t 17)) (tq 22 (.extract 1 (.t 17)) (tq 4 (.box 5 (.c (.agg [(.int .i64 0), (.int .i64 0), (.str []), .nil, .nil]))) (.q ⟨none, none, .store 5 (.t 4) (.t 21)⟩
 (tm 5 (.t 22) .done))))))))))
 (.seq (.reg (tq 24 (.load 3 true (.t 1)) (tq 25 (.call 36 [(.t 24)]) (tq 26 (.call 37 [(.t 25)]) (tm 23 (.t 26) (tq 27 (.extract 0 (.t 23)) (tq 28 (.extract 1 (.t 23)) (tq 6 (.box 5 (.c (.agg [(.int .i64 0), (.int .i64 0), (.str []), .nil, .nil]))) (.q ⟨none, none, .store 5 (.t 6) (.t 27)⟩
 (tm 7 (.t 28) .done))))))))))
 (.seq (.seq (.reg (tq 29 (.load 5 true (.t 6)) (tq 30 (.load 5 true (.t 4)) (tq 31 (.call 38 [(.t 29), (.t 30)]) (tq 32 (.not (.t 31)) (tm 33 (.t 32) (tg 34 33 false (.mov (.t 7)) (tg 35 33 false (.mov (.t 5)) (tg 36 33 false (.bin .neq (.t 34) (.t 35)) (tq 37 (.pick (.t 33) (.c (.bool true)) (.t 36)) .done))))))))))
 (.cut (.cond (.t 37) (.seq (.reg (tm 2 (.c (.bool false)) .done))
 .ret)
 .skip)))
 (.seq (.reg (tm 8 (.c (.int .i64 1)) .done))
 (.seq (.reg (tq 38 (.load 5 true (.t 6)) (tm 39 (.t 8) (tq 40 (.call 39 [(.t 38), (.t 39)]) (tm 8 (.t 40) .done)))))
 (.seq (.reg (tm 9 (.c (.int .i64 1)) .done))
 (.seq (.reg (tq 41 (.load 5 true (.t 6)) (tm 42 (.t 9) (tq 43 (.call 40 [(.t 41), (.t 42)]) (tm 9 (.t 43) .done)))))
 (.seq (.seq (.reg (tm 44 (.t 9) (tq 45 (.bin .lss (.t 44) (.c (.int .i64 0))) .done)))
 (.cond (.t 45) (.seq (.reg (tm 2 (.c (.bool false)) .done))
 .ret)
 .skip))
 (.seq (.seq (.reg (tm 46 (.t 9) (tm 47 (.t 8) (tq 48 (.bin .neq (.t 46) (.t 47)) .done))))
 (.cond (.t 48) (.seq (.reg (tm 2 (.c (.bool false)) .done))
 .ret)
 .skip))
 (.seq (.reg (tq 50 (.load 3 true (.t 1)) (tq 51 (.call 36 [(.t 50)]) (tq 52 (.call 37 [(.t 51)]) (tm 49 (.t 52) (tq 53 (.extract 0 (.t 49)) (tq 54 (.extract 1 (.t 49)) (tq 10 (.box 5 (.c (.agg [(.int .i64 0), (.int .i64 0), (.str []), .nil, .nil]))) (.q ⟨none, none, .store 5 (.t 10) (.t 53)⟩
 (tm 11 (.t 54) .done))))))))))
 (.seq (.seq (.reg (tq 55 (.load 5 true (.t 10)) (tq 56 (.load 5 true (.t 4)) (tq 57 (.call 38 [(.t 55), (.t 56)]) (tq 58 (.not (.t 57)) (tm 59 (.t 58) (tg 60 59 false (.mov (.t 11)) (tg 61 59 false (.mov (.t 5)) (tg 62 59 false (.bin .neq (.t 60) (.t 61)) (tq 63 (.pick (.t 59) (.c (.bool true)) (.t 62)) .done))))))))))
 (.cut (.cond (.t 63) (.seq (.reg (tm 2 (.c (.bool false)) .done))
 .ret)
 .skip)))
 (.seq (.reg (tm 9 (.c (.int .i64 1)) .done))
 (.seq (.reg (tq 64 (.load 5 true (.t 6)) (tm 65 (.t 9) (tq 66 (.call 40 [(.t 64), (.t 65)]) (tm 9 (.t 66) .done)))))
 (.seq (.seq (.reg (tm 67 (.t 9) (tq 68 (.bin .lss (.t 67) (.c (.int .i64 0))) .done)))
 (.cond (.t 68) (.seq (.reg (tm 2 (.c (.bool false)) .done))
 .ret)
 .skip))
 (.seq (.seq (.reg (tm 69 (.t 9) (tm 70 (.t 8) (tq 71 (.bin .neq (.t 69) (.t 70)) .done))))
 (.cond (.t 71) (.seq (.reg (tm 2 (.c (.bool false)) .done))
 .ret)
 .skip))
 (.seq (.reg (tm 2 (.c (.bool true)) .done))
 .ret))))))))))))))))))))
theorem fc7 : fcomp Try.prog Try.f7 = some (c7.erase, [.mov (.t 2)], 72) := by kernel_rfl
def laws_FnExactAtomJson (aA_1 : GAtom) : Option Bool :=
    (laws_szAtom aA_1 1048576).bind fun r_2 =>
    if (decide (r_2 < 0)) then
    some true
    else
    (laws_toAtom aA_1).bind fun r_5 =>
    (spec_AtomJson r_5).bind fun r_7 =>
    (laws_toAtom aA_1).bind fun r_9 =>
    (impl_AtomJson r_9).bind fun r_11 =>
    (((laws_eqJson FUEL r_11.1 r_7.1).bind fun r_18 =>
    if (!r_18) then
    some true
    else
    some (r_11.2 != r_7.2) : Option Bool)).bind fun s37_16 =>
    if s37_16 then
    some false
    else
    (laws_markJson r_11.1 1).bind fun r_22 =>
    (laws_heldJson (⟨r_11.1.Kind, r_11.1.N, r_11.1.T, r_22.2.Keys, r_22.2.Items⟩ : GJson) 1).bind fun r_25 =>
    if (decide (r_25 < 0)) then
    some false
    else
    if (r_25 != r_22.1) then
    some false
    else
    (laws_toAtom aA_1).bind fun r_29 =>
    (impl_AtomJson r_29).bind fun r_31 =>
    (((laws_eqJson FUEL r_31.1 r_7.1).bind fun r_38 =>
    if (!r_38) then
    some true
    else
    some (r_31.2 != r_7.2) : Option Bool)).bind fun s63_36 =>
    if s63_36 then
    some false
    else
    (laws_heldJson (⟨r_11.1.Kind, r_11.1.N, r_11.1.T, r_22.2.Keys, r_22.2.Items⟩ : GJson) 1).bind fun r_42 =>
    if (decide (r_42 < 0)) then
    some false
    else
    if (r_42 != r_22.1) then
    some false
    else
    some true
theorem w_laws_FnExactAtomJson (aA_1 : GAtom) (r : Bool) (hf : laws_FnExactAtomJson aA_1 = some r) : CallOK Try.prog 7 .flat [(encGAtom aA_1)] (.bool r) := by
 refine CallOK.of_awp' (md := ⟨true, true⟩) (fun _ => rfl) (fun h => by cases h) (fun h => by cases h) mixed Try.func7 fc7 nle ?_; rw [argT_eq]; unfold laws_FnExactAtomJson at hf; unfold c7; refine (show awp Try.prog ⟨true, true⟩ 0 _ (ofL [(0, (encGAtom aA_1))]) [] _ from ?_); refine awp_seq <| w_reg <| s_do (o_box (j := 0) (c := (.agg [(.int .i64 aA_1.Kind), (.int .i64 aA_1.N), (.str aA_1.T)])) rfl trivial rfl rfl) <| s_mov (.bool false) rfl <| w_done <| k_seq <| awp_seq <| w_reg <| s_mov (.int .i64 1048576) rfl <| w_done <| k_seq <| awp_seq <| w_reg <| ?_
 obtain ⟨r_2, er3, hf⟩ := ob hf
 refine s_q (.agg [(.int .i64 aA_1.Kind), (.int .i64 aA_1.N), (.str aA_1.T)]) rfl (.of nle trivial) rfl <| s_mov (.int .i64 1048576) rfl <| s_do (o_call (w_laws_szAtom _ _ _ er3) rfl (.refl _) rfl) <| s_mov (.int .i64 r_2) rfl <| w_done <| k_seq <| awp_seq <| awp_seq <| w_reg <| s_mov (.int .i64 r_2) rfl <| s_q (.bool (decide (r_2 < 0))) rfl (.of rfl trivial) rfl <| w_done <| k_seq <| ?_
 rcases oi hf with ⟨c4, hf⟩ | ⟨c4, hf⟩
 ·refine w_condt rfl c4 <| awp_seq <| w_reg <| s_mov (.bool true) rfl <| w_done <| k_seq <| w_ret <| ?_; obtain rfl := os hf; exact r_flat ⟨.of trivial trivial, trivial⟩ rfl (.refl _)
 ·refine w_condf rfl (bf c4) <| w_skip <| k_seq <| awp_seq <| w_reg <| ?_
  obtain ⟨r_5, er6, hf⟩ := ob hf
  obtain ⟨r_7, er8, hf⟩ := ob hf
  refine s_q (.agg [(.int .i64 aA_1.Kind), (.int .i64 aA_1.N), (.str aA_1.T)]) rfl (.of nle trivial) rfl <| s_do (o_call (w_laws_toAtom _ _ er6) rfl (.refl _) rfl) <| s_do (o_callf (v := (.tup [(.agg [(.int .i64 r_7.1.Kind), (.int .i64 r_7.1.N), (.str r_7.1.T), (.own 1 0 r_7.1.Keys.length), (.own 2 0 r_7.1.Items.length)]), (.int .i64 r_7.2)])) (h' := [.row 1 (r_7.1.Keys.map AV.str), .row 5 (r_7.1.Items.map encGJson)]) (w_spec_AtomJson _ _ er8) rfl (.refl _) (by simp only [openV, openVs, List.length_map, encGJson_eq, List.nil_append, List.append_nil, List.cons_append]; rfl)) <| s_mov (.tup [(.agg [(.int .i64 r_7.1.Kind), (.int .i64 r_7.1.N), (.str r_7.1.T), (.own 1 0 r_7.1.Keys.length), (.own 2 0 r_7.1.Items.length)]), (.int .i64 r_7.2)]) rfl <| ?_
  refine s_q (.agg [(.int .i64 r_7.1.Kind), (.int .i64 r_7.1.N), (.str r_7.1.T), (.own 1 0 r_7.1.Keys.length), (.own 2 0 r_7.1.Items.length)]) rfl (.of nle trivial) rfl <| s_q (.int .i64 r_7.2) rfl (.of nle trivial) rfl <| s_do (o_box (j := 3) (c := (.agg [(.int .i64 0), (.int .i64 0), (.str []), .nil, .nil])) rfl trivial rfl rfl) <| s_do0 (o_storebox (v := (.agg [(.int .i64 r_7.1.Kind), (.int .i64 r_7.1.N), (.str r_7.1.T), (.own 1 0 r_7.1.Keys.length), (.own 2 0 r_7.1.Items.length)])) (y' := (.agg [(.int .i64 r_7.1.Kind), (.int .i64 r_7.1.N), (.str r_7.1.T), (.own 1 0 r_7.1.Keys.length), (.own 2 0 r_7.1.Items.length)])) rfl rfl rfl trivial ⟨rfl, nle⟩ ⟨⟨rfl, trivial⟩, ⟨⟨rfl, trivial⟩, ⟨⟨rfl, trivial⟩, ⟨⟨rfl, trivial⟩, ⟨⟨rfl, trivial⟩, trivial⟩⟩⟩⟩⟩ rfl) <| ?_
  refine s_mov (.int .i64 r_7.2) rfl <| w_done <| k_seq <| awp_seq <| w_reg <| ?_
  obtain ⟨r_9, er10, hf⟩ := ob hf
  obtain ⟨r_11, er12, hf⟩ := ob hf
  refine s_q (.agg [(.int .i64 aA_1.Kind), (.int .i64 aA_1.N), (.str aA_1.T)]) rfl (.of nle trivial) rfl <| s_do (o_call (w_laws_toAtom _ _ er10) rfl (.refl _) rfl) <| s_do (o_callf (v := (.tup [(.agg [(.int .i64 r_11.1.Kind), (.int .i64 r_11.1.N), (.str r_11.1.T), (.own 4 0 r_11.1.Keys.length), (.own 5 0 r_11.1.Items.length)]), (.int .i64 r_11.2)])) (h' := [.row 1 (r_11.1.Keys.map AV.str), .row 5 (r_11.1.Items.map encGJson)]) (w_impl_AtomJson _ _ er12) rfl (.refl _) (by simp only [openV, openVs, List.length_map, encGJson_eq, List.nil_append, List.append_nil, List.cons_append]; rfl)) <| s_mov (.tup [(.agg [(.int .i64 r_11.1.Kind), (.int .i64 r_11.1.N), (.str r_11.1.T), (.own 4 0 r_11.1.Keys.length), (.own 5 0 r_11.1.Items.length)]), (.int .i64 r_11.2)]) rfl <| ?_
  refine s_q (.agg [(.int .i64 r_11.1.Kind), (.int .i64 r_11.1.N), (.str r_11.1.T), (.own 4 0 r_11.1.Keys.length), (.own 5 0 r_11.1.Items.length)]) rfl (.of nle trivial) rfl <| s_q (.int .i64 r_11.2) rfl (.of nle trivial) rfl <| s_do (o_box (j := 6) (c := (.agg [(.int .i64 0), (.int .i64 0), (.str []), .nil, .nil])) rfl trivial rfl rfl) <| s_do0 (o_storebox (v := (.agg [(.int .i64 r_11.1.Kind), (.int .i64 r_11.1.N), (.str r_11.1.T), (.own 4 0 r_11.1.Keys.length), (.own 5 0 r_11.1.Items.length)])) (y' := (.agg [(.int .i64 r_11.1.Kind), (.int .i64 r_11.1.N), (.str r_11.1.T), (.own 4 0 r_11.1.Keys.length), (.own 5 0 r_11.1.Items.length)])) rfl rfl rfl trivial ⟨rfl, nle⟩ ⟨⟨rfl, trivial⟩, ⟨⟨rfl, trivial⟩, ⟨⟨rfl, trivial⟩, ⟨⟨rfl, trivial⟩, ⟨⟨rfl, trivial⟩, trivial⟩⟩⟩⟩⟩ rfl) <| ?_
  refine s_mov (.int .i64 r_11.2) rfl <| w_done <| k_seq <| awp_seq <| awp_seq <| ?_
  obtain ⟨s37_16, hb1, hf⟩ := ob hf
  refine awp_cut ([(1, (.ptr 0 0 0)), (4, (.ptr 1 0 0)), (5, (.int .i64 r_7.2)), (6, (.ptr 2 0 0)), (37, (.bool s37_16))], [.box 3 (.agg [(.int .i64 aA_1.Kind), (.int .i64 aA_1.N), (.str aA_1.T)]), .box 5 (.agg [(.int .i64 r_7.1.Kind), (.int .i64 r_7.1.N), (.str r_7.1.T), (.own 3 0 r_7.1.Keys.length), (.own 4 0 r_7.1.Items.length)]), .box 5 (.agg [(.int .i64 r_11.1.Kind), (.int .i64 r_11.1.N), (.str r_11.1.T), (.own 5 0 r_11.1.Keys.length), (.own 6 0 r_11.1.Items.length)]), .row 1 (r_7.1.Keys.map AV.str), .row 5 (r_7.1.Items.map encGJson), .row 1 (r_11.1.Keys.map AV.str), .row 5 (r_11.1.Items.map encGJson)]) ?_ ?_
  ·refine w_reg ?_
   obtain ⟨r_18, er19, hb1⟩ := ob hb1
   rcases oi hb1 with ⟨c20, hb1⟩ | ⟨c20, hb1⟩
   ·refine s_q (.agg [(.int .i64 r_11.1.Kind), (.int .i64 r_11.1.N), (.str r_11.1.T), (.own 4 0 r_11.1.Keys.length), (.own 5 0 r_11.1.Items.length)]) rfl (.of nle trivial) rfl <| s_q (.agg [(.int .i64 r_7.1.Kind), (.int .i64 r_7.1.N), (.str r_7.1.T), (.own 1 0 r_7.1.Keys.length), (.own 2 0 r_7.1.Items.length)]) rfl (.of nle trivial) rfl <| s_do (o_call (w_laws_eqJson FUEL _ _ _ er19) rfl (.cons (leJ (x := r_11.1) (.agg (.cons (.refl _) (.cons (.refl _) (.cons (.refl _) (.cons (.of_eq (congrArg (AV.lst _) (tko (enc := AV.str) r_11.1.Keys))) (.cons (.of_eq (congrArg (AV.lst _) (tko (enc := encGJson) r_11.1.Items))) .nil))))))) (.cons (leJ (x := r_7.1) (.agg (.cons (.refl _) (.cons (.refl _) (.cons (.refl _) (.cons (.of_eq (congrArg (AV.lst _) (tko (enc := AV.str) r_7.1.Keys))) (.cons (.of_eq (congrArg (AV.lst _) (tko (enc := encGJson) r_7.1.Items))) .nil))))))) .nil)) rfl) <| ?_
    refine s_q (.bool (!r_18)) rfl (.of trivial trivial) rfl <| s_mov (.bool (!r_18)) rfl <| s_lit (s := 33) (b := true) rfl c20 <| s_off rfl rfl <| s_off rfl rfl <| s_off rfl rfl <| s_q (.bool true) rfl (.of trivial trivial) rfl <| w_done <| ?_; obtain rfl := os hb1; exact ⟨[], [0, 3, 6, 1, 2, 4, 5], _, _, rfl, rfl, ⟨.refl _, ⟨.refl _, ⟨.refl _, ⟨.refl _, ⟨.refl _, trivial⟩⟩⟩⟩⟩, (.refl _)⟩
   ·refine s_q (.agg [(.int .i64 r_11.1.Kind), (.int .i64 r_11.1.N), (.str r_11.1.T), (.own 4 0 r_11.1.Keys.length), (.own 5 0 r_11.1.Items.length)]) rfl (.of nle trivial) rfl <| s_q (.agg [(.int .i64 r_7.1.Kind), (.int .i64 r_7.1.N), (.str r_7.1.T), (.own 1 0 r_7.1.Keys.length), (.own 2 0 r_7.1.Items.length)]) rfl (.of nle trivial) rfl <| s_do (o_call (w_laws_eqJson FUEL _ _ _ er19) rfl (.cons (leJ (x := r_11.1) (.agg (.cons (.refl _) (.cons (.refl _) (.cons (.refl _) (.cons (.of_eq (congrArg (AV.lst _) (tko (enc := AV.str) r_11.1.Keys))) (.cons (.of_eq (congrArg (AV.lst _) (tko (enc := encGJson) r_11.1.Items))) .nil))))))) (.cons (leJ (x := r_7.1) (.agg (.cons (.refl _) (.cons (.refl _) (.cons (.refl _) (.cons (.of_eq (congrArg (AV.lst _) (tko (enc := AV.str) r_7.1.Keys))) (.cons (.of_eq (congrArg (AV.lst _) (tko (enc := encGJson) r_7.1.Items))) .nil))))))) .nil)) rfl) <| ?_
    refine s_q (.bool (!r_18)) rfl (.of trivial trivial) rfl <| s_mov (.bool (!r_18)) rfl <| s_lit (s := 33) (b := false) rfl (bf c20) <| s_on rfl <| s_mov (.int .i64 r_11.2) rfl <| s_on rfl <| s_mov (.int .i64 r_7.2) rfl <| s_on rfl <| s_q (.bool (r_11.2 != r_7.2)) rfl (.of rfl trivial) rfl <| s_q (.bool (r_11.2 != r_7.2)) rfl (.of trivial trivial) rfl <| w_done <| ?_; obtain rfl := os hb1; exact ⟨[], [0, 3, 6, 1, 2, 4, 5], _, _, rfl, rfl, ⟨.refl _, ⟨.refl _, ⟨.refl _, ⟨.refl _, ⟨.refl _, trivial⟩⟩⟩⟩⟩, (.refl _)⟩
  ·rcases oi hf with ⟨c21, hf⟩ | ⟨c21, hf⟩
   ·refine w_condt rfl c21 <| awp_seq <| w_reg <| s_mov (.bool false) rfl <| w_done <| k_seq <| w_ret <| ?_; obtain rfl := os hf; exact r_flat ⟨.of trivial trivial, trivial⟩ rfl (.refl _)
   ·refine w_condf rfl (bf c21) <| w_skip <| k_seq <| awp_seq <| w_reg <| s_mov (.int .i64 1) rfl <| w_done <| k_seq <| awp_seq <| w_reg <| ?_
    obtain ⟨r_22, er23, hf⟩ := ob hf
    refine s_q (.agg [(.int .i64 r_11.1.Kind), (.int .i64 r_11.1.N), (.str r_11.1.T), (.own 5 0 r_11.1.Keys.length), (.own 6 0 r_11.1.Items.length)]) rfl (.of nle trivial) rfl <| s_mov (.int .i64 1) rfl <| ?_; refine s_dof (o_callhs (v := (.int .i64 r_22.1)) (h2 := [.box 3 (.agg [(.int .i64 aA_1.Kind), (.int .i64 aA_1.N), (.str aA_1.T)]), .box 5 (.agg [(.int .i64 r_7.1.Kind), (.int .i64 r_7.1.N), (.str r_7.1.T), (.own 3 0 r_7.1.Keys.length), (.own 4 0 r_7.1.Items.length)]), .box 5 (.agg [(.int .i64 r_11.1.Kind), (.int .i64 r_11.1.N), (.str r_11.1.T), (.own 5 0 r_11.1.Keys.length), (.own 6 0 r_11.1.Items.length)]), .row 1 (r_7.1.Keys.map AV.str), .row 5 (r_7.1.Items.map encGJson), .row 1 (r_22.2.Keys.map AV.str), .row 5 (r_22.2.Items.map encGJson)]) [] [5, 6] (fun _ => rfl) (w_laws_markJson _ _ _ er23) rfl (.refl _) (.refl _) rfl rfl) fun hl24 => ?_
    refine s_mov (.int .i64 r_22.1) rfl <| w_done <| k_seq <| awp_seq <| w_reg <| s_mov (.int .i64 1) rfl <| w_done <| k_seq <| awp_seq <| w_reg <| ?_
    obtain ⟨r_25, er26, hf⟩ := ob hf
    refine s_q (.agg [(.int .i64 r_11.1.Kind), (.int .i64 r_11.1.N), (.str r_11.1.T), (.own 5 0 r_11.1.Keys.length), (.own 6 0 r_11.1.Items.length)]) rfl (.of nle trivial) rfl <| s_mov (.int .i64 1) rfl <| s_do (o_call (w_laws_heldJson _ _ _ er26) rfl (.cons (leJ (x := (⟨r_11.1.Kind, r_11.1.N, r_11.1.T, r_22.2.Keys, r_22.2.Items⟩ : GJson)) (.agg (.cons (.refl _) (.cons (.refl _) (.cons (.refl _) (.cons (.of_eq (congrArg (AV.lst _) (tkol (hl24 0 _ _ _ _ rfl rfl)))) (.cons (.of_eq (congrArg (AV.lst _) (tkol (hl24 1 _ _ _ _ rfl rfl)))) .nil))))))) (.cons (.refl _) .nil)) rfl) <| s_mov (.int .i64 r_25) rfl <| w_done <| k_seq <| awp_seq <| awp_seq <| w_reg <| s_mov (.int .i64 r_25) rfl <| s_q (.bool (decide (r_25 < 0))) rfl (.of rfl trivial) rfl <| ?_
    refine w_done <| k_seq <| ?_
    rcases oi hf with ⟨c27, hf⟩ | ⟨c27, hf⟩
    ·refine w_condt rfl c27 <| awp_seq <| w_reg <| s_mov (.bool false) rfl <| w_done <| k_seq <| w_ret <| ?_; obtain rfl := os hf; exact r_flat ⟨.of trivial trivial, trivial⟩ rfl (.refl _)
    ·refine w_condf rfl (bf c27) <| w_skip <| k_seq <| awp_seq <| awp_seq <| w_reg <| s_mov (.int .i64 r_25) rfl <| s_mov (.int .i64 r_22.1) rfl <| s_q (.bool (r_25 != r_22.1)) rfl (.of rfl trivial) rfl <| w_done <| k_seq <| ?_
     rcases oi hf with ⟨c28, hf⟩ | ⟨c28, hf⟩
     ·refine w_condt rfl c28 <| awp_seq <| w_reg <| s_mov (.bool false) rfl <| w_done <| k_seq <| w_ret <| ?_; obtain rfl := os hf; exact r_flat ⟨.of trivial trivial, trivial⟩ rfl (.refl _)
     ·refine w_condf rfl (bf c28) <| w_skip <| k_seq <| awp_seq <| w_reg <| ?_
      obtain ⟨r_29, er30, hf⟩ := ob hf
      obtain ⟨r_31, er32, hf⟩ := ob hf
      refine s_q (.agg [(.int .i64 aA_1.Kind), (.int .i64 aA_1.N), (.str aA_1.T)]) rfl (.of nle trivial) rfl <| s_do (o_call (w_laws_toAtom _ _ er30) rfl (.refl _) rfl) <| s_do (o_callf (v := (.tup [(.agg [(.int .i64 r_31.1.Kind), (.int .i64 r_31.1.N), (.str r_31.1.T), (.own 7 0 r_31.1.Keys.length), (.own 8 0 r_31.1.Items.length)]), (.int .i64 r_31.2)])) (h' := [.row 1 (r_31.1.Keys.map AV.str), .row 5 (r_31.1.Items.map encGJson)]) (w_impl_AtomJson _ _ er32) rfl (.refl _) (by simp only [openV, openVs, List.length_map, encGJson_eq, List.nil_append, List.append_nil, List.cons_append]; rfl)) <| s_mov (.tup [(.agg [(.int .i64 r_31.1.Kind), (.int .i64 r_31.1.N), (.str r_31.1.T), (.own 7 0 r_31.1.Keys.length), (.own 8 0 r_31.1.Items.length)]), (.int .i64 r_31.2)]) rfl <| ?_
      refine s_q (.agg [(.int .i64 r_31.1.Kind), (.int .i64 r_31.1.N), (.str r_31.1.T), (.own 7 0 r_31.1.Keys.length), (.own 8 0 r_31.1.Items.length)]) rfl (.of nle trivial) rfl <| s_q (.int .i64 r_31.2) rfl (.of nle trivial) rfl <| s_do (o_box (j := 9) (c := (.agg [(.int .i64 0), (.int .i64 0), (.str []), .nil, .nil])) rfl trivial rfl rfl) <| s_do0 (o_storebox (v := (.agg [(.int .i64 r_31.1.Kind), (.int .i64 r_31.1.N), (.str r_31.1.T), (.own 7 0 r_31.1.Keys.length), (.own 8 0 r_31.1.Items.length)])) (y' := (.agg [(.int .i64 r_31.1.Kind), (.int .i64 r_31.1.N), (.str r_31.1.T), (.own 7 0 r_31.1.Keys.length), (.own 8 0 r_31.1.Items.length)])) rfl rfl rfl trivial ⟨rfl, nle⟩ ⟨⟨rfl, trivial⟩, ⟨⟨rfl, trivial⟩, ⟨⟨rfl, trivial⟩, ⟨⟨rfl, trivial⟩, ⟨⟨rfl, trivial⟩, trivial⟩⟩⟩⟩⟩ rfl) <| ?_
      refine s_mov (.int .i64 r_31.2) rfl <| w_done <| k_seq <| awp_seq <| awp_seq <| ?_
      obtain ⟨s63_36, hb1, hf⟩ := ob hf
      refine awp_cut ([(6, (.ptr 0 0 0)), (8, (.int .i64 r_22.1)), (63, (.bool s63_36))], [.box 5 (.agg [(.int .i64 r_11.1.Kind), (.int .i64 r_11.1.N), (.str r_11.1.T), (.own 1 0 r_22.2.Keys.length), (.own 2 0 r_22.2.Items.length)]), .row 1 (r_22.2.Keys.map AV.str), .row 5 (r_22.2.Items.map encGJson)]) ?_ ?_
      ·refine w_reg ?_
       obtain ⟨r_38, er39, hb1⟩ := ob hb1
       rcases oi hb1 with ⟨c40, hb1⟩ | ⟨c40, hb1⟩
       ·refine s_q (.agg [(.int .i64 r_31.1.Kind), (.int .i64 r_31.1.N), (.str r_31.1.T), (.own 7 0 r_31.1.Keys.length), (.own 8 0 r_31.1.Items.length)]) rfl (.of nle trivial) rfl <| s_q (.agg [(.int .i64 r_7.1.Kind), (.int .i64 r_7.1.N), (.str r_7.1.T), (.own 3 0 r_7.1.Keys.length), (.own 4 0 r_7.1.Items.length)]) rfl (.of nle trivial) rfl <| s_do (o_call (w_laws_eqJson FUEL _ _ _ er39) rfl (.cons (leJ (x := r_31.1) (.agg (.cons (.refl _) (.cons (.refl _) (.cons (.refl _) (.cons (.of_eq (congrArg (AV.lst _) (tko (enc := AV.str) r_31.1.Keys))) (.cons (.of_eq (congrArg (AV.lst _) (tko (enc := encGJson) r_31.1.Items))) .nil))))))) (.cons (leJ (x := r_7.1) (.agg (.cons (.refl _) (.cons (.refl _) (.cons (.refl _) (.cons (.of_eq (congrArg (AV.lst _) (tko (enc := AV.str) r_7.1.Keys))) (.cons (.of_eq (congrArg (AV.lst _) (tko (enc := encGJson) r_7.1.Items))) .nil))))))) .nil)) rfl) <| ?_
        refine s_q (.bool (!r_38)) rfl (.of trivial trivial) rfl <| s_mov (.bool (!r_38)) rfl <| s_lit (s := 59) (b := true) rfl c40 <| s_off rfl rfl <| s_off rfl rfl <| s_off rfl rfl <| s_q (.bool true) rfl (.of trivial trivial) rfl <| w_done <| ?_; obtain rfl := os hb1; exact ⟨[], [2, 5, 6], _, _, rfl, rfl, ⟨.refl _, ⟨.refl _, ⟨.refl _, trivial⟩⟩⟩, (.cons (.box (.agg (.cons (.refl _) (.cons (.refl _) (.cons (.refl _) (.cons (.of_eq (congrArg (AV.own _ 0) (by have h := (hl24 0 _ _ _ _ rfl rfl); simpa using h.symm))) (.cons (.of_eq (congrArg (AV.own _ 0) (by have h := (hl24 1 _ _ _ _ rfl rfl); simpa using h.symm))) .nil))))))) (.cons (.refl _) (.cons (.refl _) .nil)))⟩
       ·refine s_q (.agg [(.int .i64 r_31.1.Kind), (.int .i64 r_31.1.N), (.str r_31.1.T), (.own 7 0 r_31.1.Keys.length), (.own 8 0 r_31.1.Items.length)]) rfl (.of nle trivial) rfl <| s_q (.agg [(.int .i64 r_7.1.Kind), (.int .i64 r_7.1.N), (.str r_7.1.T), (.own 3 0 r_7.1.Keys.length), (.own 4 0 r_7.1.Items.length)]) rfl (.of nle trivial) rfl <| s_do (o_call (w_laws_eqJson FUEL _ _ _ er39) rfl (.cons (leJ (x := r_31.1) (.agg (.cons (.refl _) (.cons (.refl _) (.cons (.refl _) (.cons (.of_eq (congrArg (AV.lst _) (tko (enc := AV.str) r_31.1.Keys))) (.cons (.of_eq (congrArg (AV.lst _) (tko (enc := encGJson) r_31.1.Items))) .nil))))))) (.cons (leJ (x := r_7.1) (.agg (.cons (.refl _) (.cons (.refl _) (.cons (.refl _) (.cons (.of_eq (congrArg (AV.lst _) (tko (enc := AV.str) r_7.1.Keys))) (.cons (.of_eq (congrArg (AV.lst _) (tko (enc := encGJson) r_7.1.Items))) .nil))))))) .nil)) rfl) <| ?_
        refine s_q (.bool (!r_38)) rfl (.of trivial trivial) rfl <| s_mov (.bool (!r_38)) rfl <| s_lit (s := 59) (b := false) rfl (bf c40) <| s_on rfl <| s_mov (.int .i64 r_31.2) rfl <| s_on rfl <| s_mov (.int .i64 r_7.2) rfl <| s_on rfl <| s_q (.bool (r_31.2 != r_7.2)) rfl (.of rfl trivial) rfl <| s_q (.bool (r_31.2 != r_7.2)) rfl (.of trivial trivial) rfl <| w_done <| ?_; obtain rfl := os hb1; exact ⟨[], [2, 5, 6], _, _, rfl, rfl, ⟨.refl _, ⟨.refl _, ⟨.refl _, trivial⟩⟩⟩, (.cons (.box (.agg (.cons (.refl _) (.cons (.refl _) (.cons (.refl _) (.cons (.of_eq (congrArg (AV.own _ 0) (by have h := (hl24 0 _ _ _ _ rfl rfl); simpa using h.symm))) (.cons (.of_eq (congrArg (AV.own _ 0) (by have h := (hl24 1 _ _ _ _ rfl rfl); simpa using h.symm))) .nil))))))) (.cons (.refl _) (.cons (.refl _) .nil)))⟩
      ·rcases oi hf with ⟨c41, hf⟩ | ⟨c41, hf⟩
       ·refine w_condt rfl c41 <| awp_seq <| w_reg <| s_mov (.bool false) rfl <| w_done <| k_seq <| w_ret <| ?_; obtain rfl := os hf; exact r_flat ⟨.of trivial trivial, trivial⟩ rfl (.refl _)
       ·refine w_condf rfl (bf c41) <| w_skip <| k_seq <| awp_seq <| w_reg <| s_mov (.int .i64 1) rfl <| w_done <| k_seq <| awp_seq <| w_reg <| ?_
        obtain ⟨r_42, er43, hf⟩ := ob hf
        refine s_q (.agg [(.int .i64 r_11.1.Kind), (.int .i64 r_11.1.N), (.str r_11.1.T), (.own 1 0 r_22.2.Keys.length), (.own 2 0 r_22.2.Items.length)]) rfl (.of nle trivial) rfl <| s_mov (.int .i64 1) rfl <| s_do (o_call (w_laws_heldJson _ _ _ er43) rfl (.cons (leJ (x := (⟨r_11.1.Kind, r_11.1.N, r_11.1.T, r_22.2.Keys, r_22.2.Items⟩ : GJson)) (.agg (.cons (.refl _) (.cons (.refl _) (.cons (.refl _) (.cons (.of_eq (congrArg (AV.lst _) (tko (enc := AV.str) r_22.2.Keys))) (.cons (.of_eq (congrArg (AV.lst _) (tko (enc := encGJson) r_22.2.Items))) .nil))))))) (.cons (.refl _) .nil)) rfl) <| s_mov (.int .i64 r_42) rfl <| w_done <| k_seq <| awp_seq <| awp_seq <| w_reg <| s_mov (.int .i64 r_42) rfl <| s_q (.bool (decide (r_42 < 0))) rfl (.of rfl trivial) rfl <| ?_
        refine w_done <| k_seq <| ?_
        rcases oi hf with ⟨c44, hf⟩ | ⟨c44, hf⟩
        ·refine w_condt rfl c44 <| awp_seq <| w_reg <| s_mov (.bool false) rfl <| w_done <| k_seq <| w_ret <| ?_; obtain rfl := os hf; exact r_flat ⟨.of trivial trivial, trivial⟩ rfl (.refl _)
        ·refine w_condf rfl (bf c44) <| w_skip <| k_seq <| awp_seq <| awp_seq <| w_reg <| s_mov (.int .i64 r_42) rfl <| s_mov (.int .i64 r_22.1) rfl <| s_q (.bool (r_42 != r_22.1)) rfl (.of rfl trivial) rfl <| w_done <| k_seq <| ?_
         rcases oi hf with ⟨c45, hf⟩ | ⟨c45, hf⟩
         ·refine w_condt rfl c45 <| awp_seq <| w_reg <| s_mov (.bool false) rfl <| w_done <| k_seq <| w_ret <| ?_; obtain rfl := os hf; exact r_flat ⟨.of trivial trivial, trivial⟩ rfl (.refl _)
         ·refine w_condf rfl (bf c45) <| w_skip <| k_seq <| awp_seq <| w_reg <| s_mov (.bool true) rfl <| w_done <| k_seq <| w_ret <| ?_; obtain rfl := os hf; exact r_flat ⟨.of trivial trivial, trivial⟩ rfl (.refl _)

end Go.R
