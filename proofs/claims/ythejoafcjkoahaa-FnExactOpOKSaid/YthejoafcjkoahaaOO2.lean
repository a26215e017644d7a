/- Walks. -/
import Derived.Test.YthejoafcjkoahaaOO1
set_option linter.all false
namespace Go.R
open Go Go.Proofs
set_option linter.unusedVariables false
set_option linter.unusedSimpArgs false
set_option maxHeartbeats 8000000
/- spec.l07List -/
def c30 : ACode :=
 (.seq (.reg (.q ⟨(some 2), none, .mov (.c (.bool false))⟩
 .done))
 (.seq (.seq (.reg (.q ⟨(some 3), none, .mov (.c (.int .i64 0))⟩
 .done))
 (.block 0 (.loop (.seq (.seq (.reg (.q ⟨(some 4), none, .mov (.t 3)⟩
 (.q ⟨(some 5), none, .mov (.t 0)⟩
 (.q ⟨(some 6), none, .len (.t 5)⟩
 (.q ⟨(some 7), none, .bin .lss (.t 4) (.t 6)⟩
 .done)))))
 (.cond (.t 7) .skip
 (.exit 0)))
 (.seq (.block 1 (.seq (.reg (.q ⟨(some 10), none, .mov (.t 0)⟩
 (.q ⟨(some 11), none, .mov (.t 3)⟩
 (.q ⟨(some 12), none, .iaddr 3 (.t 10) (.t 11)⟩
 (.q ⟨(some 13), none, .load 3 true (.t 12)⟩
 (.q ⟨(some 14), none, .call 68 [(.t 13)]⟩
 (.q ⟨(some 15), none, .not (.t 14)⟩
 .done)))))))
 (.cond (.t 15) (.seq (.reg (.q ⟨(some 2), none, .mov (.c (.bool false))⟩
 .done))
 .ret)
 .skip)))
 (.reg (.q ⟨(some 8), none, .mov (.t 3)⟩
 (.q ⟨(some 9), none, .bin .add (.t 8) (.c (.int .i64 1))⟩
 (.q ⟨(some 3), none, .mov (.t 9)⟩
 .done)))))))))
 (.cut (.seq (.reg (.q ⟨(some 16), none, .mov (.t 0)⟩
 (.q ⟨(some 17), none, .len (.t 16)⟩
 (.q ⟨(some 18), none, .bin .leq (.t 17) (.c (.int .i64 8))⟩
 (.q ⟨(some 2), none, .mov (.t 18)⟩
 .done)))))
 .ret))))
theorem fc30 : fcomp Try.prog Try.f30 = some (c30.erase, [.mov (.t 2)], 19) := by kernel_rfl
def spec_l07List_L1  : List GMut → Option (Fl Bool Unit)
  | [] =>
    some (.go ())
  | x_33 :: xs =>
    (spec_l07OK x_33).bind fun r_36 =>
    if (!r_36) then
    some (.ret false)
    else
    spec_l07List_L1 xs 

def spec_l07List (list_1 : (List GMut)) : Option Bool :=
    (spec_l07List_L1 list_1 ).bind fun q => (match q with
    | .ret r => some r
    | .go _ =>
    some (decide ((list_1.length : Int) ≤ 8)))
theorem w_spec_l07List (list_1 : (List GMut)) (r : Bool) (hf : spec_l07List list_1 = some r) : CallOK Try.prog 30 .flat [(.lst 3 (list_1.map encGMut))] (.bool r) := by
 refine CallOK.of_awp mixed Try.func30 fc30 nle ?_; rw [argT_eq]; unfold spec_l07List at hf; unfold c30; refine (show awp Try.prog false 0 _ (ofL [(0, (.lst 3 (list_1.map encGMut)))]) [] _ from ?_); refine awp_seq ?_; refine w_reg ?_; refine s_do (o_mov (.bool false) rfl) ?_; refine w_done ?_; refine k_seq ?_; refine awp_seq ?_; refine awp_seq ?_; refine w_reg ?_; refine s_do (o_mov (.int .i64 0) rfl) ?_; refine w_done ?_; refine k_seq ?_
 obtain ⟨p26, hb1, hf⟩ := ob hf
 refine awp_cutx (X := {q : Unit // p26 = .go q}) (fun q => ([(0, (.lst 3 (list_1.map encGMut)))], [])) ?_ ?_
 ·refine awp_loop (X := {q : Nat // spec_l07List_L1 (list_1.drop q)  = some p26}) (fun q => ([(0, (.lst 3 (list_1.map encGMut))), (3, (.int .i64 (q.1 : Int)))], [])) (fun q => list_1.length - q.1) ⟨0, hb1⟩ ⟨[], [], _, _, rfl, rfl, ⟨.refl _, ⟨.refl _, trivial⟩⟩, (.refl _)⟩ ?_
  rintro ⟨i_17, hc1⟩
  have hc1 : spec_l07List_L1 (list_1.drop i_17)  = some p26 := hc1
  refine (show awp Try.prog false 0 _ (ofL [(0, (.lst 3 (list_1.map encGMut))), (3, (.int .i64 (i_17 : Int)))]) [] _ from ?_)
  rcases dropc list_1 i_17 with ⟨hie29, hd32⟩ | ⟨hlt27, x_33, hx28, hd32⟩
  ·rw [hd32, spec_l07List_L1.eq_1] at hc1
   have hq31 := dlf hie29
   refine awp_seq ?_; refine awp_seq ?_; refine w_reg ?_; refine s_do (o_mov (.int .i64 (i_17 : Int)) rfl) ?_; refine s_do (o_mov (.lst 3 (list_1.map encGMut)) rfl) ?_; refine s_dof (o_len (enc := encGMut) rfl) fun hl34 => ?_; refine s_do (o_q (.bool (decide ((i_17 : Int) < (list_1.length : Int)))) rfl rfl rfl) ?_; refine w_done ?_; refine k_seq ?_; refine w_condf rfl hq31 ?_; refine w_exit ?_; refine k_seqx ?_; refine k_loopx ?_; refine k_blkx ?_; obtain rfl := os hc1; exact k_cutn ⟨_, rfl⟩ ⟨[], [], _, _, rfl, rfl, ⟨.refl _, trivial⟩, (.refl _)⟩
  ·rw [hd32, spec_l07List_L1.eq_2] at hc1
   have hq31 := dlt hlt27
   refine awp_seq ?_; refine awp_seq ?_; refine w_reg ?_; refine s_do (o_mov (.int .i64 (i_17 : Int)) rfl) ?_; refine s_do (o_mov (.lst 3 (list_1.map encGMut)) rfl) ?_; refine s_dof (o_len (enc := encGMut) rfl) fun hl35 => ?_; refine s_do (o_q (.bool (decide ((i_17 : Int) < (list_1.length : Int)))) rfl rfl rfl) ?_; refine w_done ?_; refine k_seq ?_; refine w_condt rfl hq31 ?_; refine w_skip ?_; refine k_seq ?_; refine awp_seq ?_; refine w_blk ?_; refine awp_seq ?_; refine w_reg ?_
   obtain ⟨r_36, er37, hc1⟩ := ob hc1
   refine s_do (o_mov (.lst 3 (list_1.map encGMut)) rfl) ?_; refine s_do (o_mov (.int .i64 (i_17 : Int)) rfl) ?_; refine s_do (o_iaddrn (enc := encGMut) rfl rfl hx28) ?_; refine s_do (o_q (encGMut x_33) rfl nle rfl) ?_; refine s_do (o_call (w_spec_l07OK _ _ er37) rfl (.refl _) rfl) ?_; refine s_do (o_q (.bool (!r_36)) rfl trivial rfl) ?_; refine w_done ?_; refine k_seq ?_
   rcases oi hc1 with ⟨c38, hc1⟩ | ⟨c38, hc1⟩
   ·refine w_condt rfl c38 ?_; refine awp_seq ?_; refine w_reg ?_; refine s_do (o_mov (.bool false) rfl) ?_; refine w_done ?_; refine k_seq ?_; refine w_ret ?_; obtain rfl := os hc1; obtain rfl := os hf; exact r_flat ⟨trivial, trivial⟩ rfl (.refl _)
   ·refine w_condf rfl (bf c38) ?_; refine w_skip ?_; refine k_blk ?_; refine k_seq ?_; refine w_reg ?_; refine s_do (o_mov (.int .i64 (i_17 : Int)) rfl) ?_; refine s_do (o_q (.int .i64 (w64 ((i_17 : Int) + 1))) rfl rfl rfl) ?_; refine s_do (o_mov (.int .i64 (w64 ((i_17 : Int) + 1))) rfl) ?_; refine w_done ?_; exact k_loopn ⟨(i_17 + 1), hc1⟩ (mul hlt27) ⟨[], [], _, _, rfl, rfl, ⟨.refl _, ⟨.of_eq (congrArg (AV.int _) (w64_incr hlt27 hl35)), trivial⟩⟩, (.refl _)⟩
 ·rintro ⟨_, rfl⟩
  refine awp_seq ?_; refine w_reg ?_; refine s_do (o_mov (.lst 3 (list_1.map encGMut)) rfl) ?_; refine s_dof (o_len (enc := encGMut) rfl) fun hl39 => ?_; refine s_do (o_q (.bool (decide ((list_1.length : Int) ≤ 8))) rfl rfl rfl) ?_; refine s_do (o_mov (.bool (decide ((list_1.length : Int) ≤ 8))) rfl) ?_; refine w_done ?_; refine k_seq ?_; refine w_ret ?_; obtain rfl := os hf; exact r_flat ⟨trivial, trivial⟩ rfl (.refl _)

/- spec.l00Letter -/
def c135 : ACode :=
 (.seq (.reg (.q ⟨(some 2), none, .mov (.c (.bool false))⟩
 .done))
 (.seq (.reg (.q ⟨(some 3), none, .mov (.t 0)⟩
 (.q ⟨(some 4), none, .bin .geq (.t 3) (.c (.int .u8 97))⟩
 (.q ⟨(some 5), none, .mov (.t 4)⟩
 (.q ⟨(some 6), (some (5, true)), .mov (.t 0)⟩
 (.q ⟨(some 7), (some (5, true)), .bin .leq (.t 6) (.c (.int .u8 122))⟩
 (.q ⟨(some 8), none, .pick (.t 5) (.t 7) (.c (.bool false))⟩
 (.q ⟨(some 9), none, .mov (.t 8)⟩
 (.q ⟨(some 10), (some (9, false)), .mov (.t 0)⟩
 (.q ⟨(some 11), (some (9, false)), .bin .geq (.t 10) (.c (.int .u8 65))⟩
 (.q ⟨(some 12), (some (9, false)), .mov (.t 11)⟩
 (.q ⟨(some 13), (some (12, true)), .mov (.t 0)⟩
 (.q ⟨(some 14), (some (12, true)), .bin .leq (.t 13) (.c (.int .u8 90))⟩
 (.q ⟨(some 15), (some (9, false)), .pick (.t 12) (.t 14) (.c (.bool false))⟩
 (.q ⟨(some 16), none, .pick (.t 9) (.c (.bool true)) (.t 15)⟩
 (.q ⟨(some 17), none, .mov (.t 16)⟩
 (.q ⟨(some 18), (some (17, false)), .mov (.t 0)⟩
 (.q ⟨(some 19), (some (17, false)), .bin .eql (.t 18) (.c (.int .u8 95))⟩
 (.q ⟨(some 20), none, .pick (.t 17) (.c (.bool true)) (.t 19)⟩
 (.q ⟨(some 2), none, .mov (.t 20)⟩
 .done))))))))))))))))))))
 .ret))
theorem fc135 : fcomp Try.prog Try.f135 = some (c135.erase, [.mov (.t 2)], 21) := by kernel_rfl
def spec_l00Letter (c_1 : Int) : Option Bool :=
    if (decide (c_1 ≥ 97)) then
    if (decide (c_1 ≤ 122)) then
    some true
    else
    if (decide (c_1 ≥ 65)) then
    if (decide (c_1 ≤ 90)) then
    some true
    else
    some (c_1 == 95)
    else
    some (c_1 == 95)
    else
    if (decide (c_1 ≥ 65)) then
    if (decide (c_1 ≤ 90)) then
    some true
    else
    some (c_1 == 95)
    else
    some (c_1 == 95)
theorem w_spec_l00Letter (c_1 : Int) (r : Bool) (hf : spec_l00Letter c_1 = some r) : CallOK Try.prog 135 .flat [(.int .u8 c_1)] (.bool r) := by
 refine CallOK.of_awp mixed Try.func135 fc135 nle ?_; rw [argT_eq]; unfold spec_l00Letter at hf; unfold c135; refine (show awp Try.prog false 0 _ (ofL [(0, (.int .u8 c_1))]) [] _ from ?_); refine awp_seq ?_; refine w_reg ?_; refine s_do (o_mov (.bool false) rfl) ?_; refine w_done ?_; refine k_seq ?_; refine awp_seq ?_; refine w_reg ?_; refine s_do (o_mov (.int .u8 c_1) rfl) ?_; refine s_do (o_q (.bool (decide (c_1 ≥ 97))) rfl rfl rfl) ?_; refine s_do (o_mov (.bool (decide (c_1 ≥ 97))) rfl) ?_
 rcases oi hf with ⟨c2, hf⟩ | ⟨c2, hf⟩
 ·refine s_lit (s := 5) (b := true) rfl c2 ?_; refine s_on rfl ?_; refine s_do (o_mov (.int .u8 c_1) rfl) ?_; refine s_on rfl ?_; refine s_do (o_q (.bool (decide (c_1 ≤ 122))) rfl rfl rfl) ?_; refine s_do (o_q (.bool (decide (c_1 ≤ 122))) rfl trivial rfl) ?_; refine s_do (o_mov (.bool (decide (c_1 ≤ 122))) rfl) ?_
  rcases oi hf with ⟨c3, hf⟩ | ⟨c3, hf⟩
  ·refine s_lit (s := 9) (b := true) rfl c3 ?_; refine s_off rfl rfl ?_; refine s_off rfl rfl ?_; refine s_off rfl rfl ?_; refine s_offs rfl ?_; refine s_offs rfl ?_; refine s_off rfl rfl ?_; refine s_do (o_q (.bool true) rfl trivial rfl) ?_; refine s_do (o_mov (.bool true) rfl) ?_; refine s_off rfl rfl ?_; refine s_off rfl rfl ?_; refine s_do (o_q (.bool true) rfl trivial rfl) ?_; refine s_do (o_mov (.bool true) rfl) ?_; refine w_done ?_; refine k_seq ?_; refine w_ret ?_; obtain rfl := os hf; exact r_flat ⟨trivial, trivial⟩ rfl (.refl _)
  ·refine s_lit (s := 9) (b := false) rfl (bf c3) ?_; refine s_on rfl ?_; refine s_do (o_mov (.int .u8 c_1) rfl) ?_; refine s_on rfl ?_; refine s_do (o_q (.bool (decide (c_1 ≥ 65))) rfl rfl rfl) ?_; refine s_on rfl ?_; refine s_do (o_mov (.bool (decide (c_1 ≥ 65))) rfl) ?_
   rcases oi hf with ⟨c4, hf⟩ | ⟨c4, hf⟩
   ·refine s_lit (s := 12) (b := true) rfl c4 ?_; refine s_on rfl ?_; refine s_do (o_mov (.int .u8 c_1) rfl) ?_; refine s_on rfl ?_; refine s_do (o_q (.bool (decide (c_1 ≤ 90))) rfl rfl rfl) ?_; refine s_on rfl ?_; refine s_do (o_q (.bool (decide (c_1 ≤ 90))) rfl trivial rfl) ?_; refine s_do (o_q (.bool (decide (c_1 ≤ 90))) rfl trivial rfl) ?_; refine s_do (o_mov (.bool (decide (c_1 ≤ 90))) rfl) ?_
    rcases oi hf with ⟨c5, hf⟩ | ⟨c5, hf⟩
    ·refine s_lit (s := 17) (b := true) rfl c5 ?_; refine s_off rfl rfl ?_; refine s_off rfl rfl ?_; refine s_do (o_q (.bool true) rfl trivial rfl) ?_; refine s_do (o_mov (.bool true) rfl) ?_; refine w_done ?_; refine k_seq ?_; refine w_ret ?_; obtain rfl := os hf; exact r_flat ⟨trivial, trivial⟩ rfl (.refl _)
    ·refine s_lit (s := 17) (b := false) rfl (bf c5) ?_; refine s_on rfl ?_; refine s_do (o_mov (.int .u8 c_1) rfl) ?_; refine s_on rfl ?_; refine s_do (o_q (.bool (c_1 == 95)) rfl rfl rfl) ?_; refine s_do (o_q (.bool (c_1 == 95)) rfl trivial rfl) ?_; refine s_do (o_mov (.bool (c_1 == 95)) rfl) ?_; refine w_done ?_; refine k_seq ?_; refine w_ret ?_; obtain rfl := os hf; exact r_flat ⟨trivial, trivial⟩ rfl (.refl _)
   ·refine s_lit (s := 12) (b := false) rfl (bf c4) ?_; refine s_off rfl rfl ?_; refine s_off rfl rfl ?_; refine s_on rfl ?_; refine s_do (o_q (.bool false) rfl trivial rfl) ?_; refine s_do (o_q (.bool false) rfl trivial rfl) ?_; refine s_do (o_mov (.bool false) rfl) ?_; refine s_on rfl ?_; refine s_do (o_mov (.int .u8 c_1) rfl) ?_; refine s_on rfl ?_; refine s_do (o_q (.bool (c_1 == 95)) rfl rfl rfl) ?_; refine s_do (o_q (.bool (c_1 == 95)) rfl trivial rfl) ?_; refine s_do (o_mov (.bool (c_1 == 95)) rfl) ?_; refine w_done ?_; refine k_seq ?_; refine w_ret ?_; obtain rfl := os hf; exact r_flat ⟨trivial, trivial⟩ rfl (.refl _)
 ·refine s_lit (s := 5) (b := false) rfl (bf c2) ?_; refine s_off rfl rfl ?_; refine s_off rfl rfl ?_; refine s_do (o_q (.bool false) rfl trivial rfl) ?_; refine s_do (o_mov (.bool false) rfl) ?_; refine s_on rfl ?_; refine s_do (o_mov (.int .u8 c_1) rfl) ?_; refine s_on rfl ?_; refine s_do (o_q (.bool (decide (c_1 ≥ 65))) rfl rfl rfl) ?_; refine s_on rfl ?_; refine s_do (o_mov (.bool (decide (c_1 ≥ 65))) rfl) ?_
  rcases oi hf with ⟨c6, hf⟩ | ⟨c6, hf⟩
  ·refine s_lit (s := 12) (b := true) rfl c6 ?_; refine s_on rfl ?_; refine s_do (o_mov (.int .u8 c_1) rfl) ?_; refine s_on rfl ?_; refine s_do (o_q (.bool (decide (c_1 ≤ 90))) rfl rfl rfl) ?_; refine s_on rfl ?_; refine s_do (o_q (.bool (decide (c_1 ≤ 90))) rfl trivial rfl) ?_; refine s_do (o_q (.bool (decide (c_1 ≤ 90))) rfl trivial rfl) ?_; refine s_do (o_mov (.bool (decide (c_1 ≤ 90))) rfl) ?_
   rcases oi hf with ⟨c7, hf⟩ | ⟨c7, hf⟩
   ·refine s_lit (s := 17) (b := true) rfl c7 ?_; refine s_off rfl rfl ?_; refine s_off rfl rfl ?_; refine s_do (o_q (.bool true) rfl trivial rfl) ?_; refine s_do (o_mov (.bool true) rfl) ?_; refine w_done ?_; refine k_seq ?_; refine w_ret ?_; obtain rfl := os hf; exact r_flat ⟨trivial, trivial⟩ rfl (.refl _)
   ·refine s_lit (s := 17) (b := false) rfl (bf c7) ?_; refine s_on rfl ?_; refine s_do (o_mov (.int .u8 c_1) rfl) ?_; refine s_on rfl ?_; refine s_do (o_q (.bool (c_1 == 95)) rfl rfl rfl) ?_; refine s_do (o_q (.bool (c_1 == 95)) rfl trivial rfl) ?_; refine s_do (o_mov (.bool (c_1 == 95)) rfl) ?_; refine w_done ?_; refine k_seq ?_; refine w_ret ?_; obtain rfl := os hf; exact r_flat ⟨trivial, trivial⟩ rfl (.refl _)
  ·refine s_lit (s := 12) (b := false) rfl (bf c6) ?_; refine s_off rfl rfl ?_; refine s_off rfl rfl ?_; refine s_on rfl ?_; refine s_do (o_q (.bool false) rfl trivial rfl) ?_; refine s_do (o_q (.bool false) rfl trivial rfl) ?_; refine s_do (o_mov (.bool false) rfl) ?_; refine s_on rfl ?_; refine s_do (o_mov (.int .u8 c_1) rfl) ?_; refine s_on rfl ?_; refine s_do (o_q (.bool (c_1 == 95)) rfl rfl rfl) ?_; refine s_do (o_q (.bool (c_1 == 95)) rfl trivial rfl) ?_; refine s_do (o_mov (.bool (c_1 == 95)) rfl) ?_; refine w_done ?_; refine k_seq ?_; refine w_ret ?_; obtain rfl := os hf; exact r_flat ⟨trivial, trivial⟩ rfl (.refl _)

/- spec.l00Digit -/
def c136 : ACode :=
 (.seq (.reg (.q ⟨(some 2), none, .mov (.c (.bool false))⟩
 .done))
 (.seq (.reg (.q ⟨(some 3), none, .mov (.t 0)⟩
 (.q ⟨(some 4), none, .bin .geq (.t 3) (.c (.int .u8 48))⟩
 (.q ⟨(some 5), none, .mov (.t 4)⟩
 (.q ⟨(some 6), (some (5, true)), .mov (.t 0)⟩
 (.q ⟨(some 7), (some (5, true)), .bin .leq (.t 6) (.c (.int .u8 57))⟩
 (.q ⟨(some 8), none, .pick (.t 5) (.t 7) (.c (.bool false))⟩
 (.q ⟨(some 2), none, .mov (.t 8)⟩
 .done))))))))
 .ret))
theorem fc136 : fcomp Try.prog Try.f136 = some (c136.erase, [.mov (.t 2)], 9) := by kernel_rfl
def spec_l00Digit (c_1 : Int) : Option Bool :=
    if (decide (c_1 ≥ 48)) then
    some (decide (c_1 ≤ 57))
    else
    some false
theorem w_spec_l00Digit (c_1 : Int) (r : Bool) (hf : spec_l00Digit c_1 = some r) : CallOK Try.prog 136 .flat [(.int .u8 c_1)] (.bool r) := by
  refine CallOK.of_awp mixed Try.func136 fc136 nle ?_
  rw [argT_eq]
  unfold spec_l00Digit at hf
  unfold c136
  refine (show awp Try.prog false 0 _ (ofL [(0, (.int .u8 c_1))]) [] _ from ?_)
  refine awp_seq ?_
  refine w_reg ?_
  refine s_do (o_mov (.bool false) rfl) ?_
  refine w_done ?_
  refine k_seq ?_
  refine awp_seq ?_
  refine w_reg ?_
  rcases oi hf with ⟨c2, hf⟩ | ⟨c2, hf⟩
  · refine s_do (o_mov (.int .u8 c_1) rfl) ?_
    refine s_do (o_q (.bool (decide (c_1 ≥ 48))) rfl rfl rfl) ?_
    refine s_do (o_mov (.bool (decide (c_1 ≥ 48))) rfl) ?_
    refine s_lit (s := 5) (b := true) rfl c2 ?_
    refine s_on rfl ?_
    refine s_do (o_mov (.int .u8 c_1) rfl) ?_
    refine s_on rfl ?_
    refine s_do (o_q (.bool (decide (c_1 ≤ 57))) rfl rfl rfl) ?_
    refine s_do (o_q (.bool (decide (c_1 ≤ 57))) rfl trivial rfl) ?_
    refine s_do (o_mov (.bool (decide (c_1 ≤ 57))) rfl) ?_
    refine w_done ?_
    refine k_seq ?_
    refine w_ret ?_
    obtain rfl := os hf
    exact r_flat ⟨trivial, trivial⟩ rfl (.refl _)
  · refine s_do (o_mov (.int .u8 c_1) rfl) ?_
    refine s_do (o_q (.bool (decide (c_1 ≥ 48))) rfl rfl rfl) ?_
    refine s_do (o_mov (.bool (decide (c_1 ≥ 48))) rfl) ?_
    refine s_lit (s := 5) (b := false) rfl (bf c2) ?_
    refine s_off rfl rfl ?_
    refine s_off rfl rfl ?_
    refine s_do (o_q (.bool false) rfl trivial rfl) ?_
    refine s_do (o_mov (.bool false) rfl) ?_
    refine w_done ?_
    refine k_seq ?_
    refine w_ret ?_
    obtain rfl := os hf
    exact r_flat ⟨trivial, trivial⟩ rfl (.refl _)

/- spec.l00Word -/
def c129 : ACode :=
 (.seq (.reg (.q ⟨(some 2), none, .mov (.c (.bool false))⟩
 .done))
 (.seq (.seq (.reg (.q ⟨(some 4), none, .mov (.t 0)⟩
 (.q ⟨(some 5), none, .lenS (.t 4)⟩
 (.q ⟨(some 6), none, .bin .lss (.t 5) (.c (.int .i64 1))⟩
 (.q ⟨(some 7), none, .mov (.t 6)⟩
 (.q ⟨(some 8), (some (7, false)), .mov (.t 0)⟩
 (.q ⟨(some 9), (some (7, false)), .lenS (.t 8)⟩
 (.q ⟨(some 10), (some (7, false)), .bin .gtr (.t 9) (.c (.int .i64 40))⟩
 (.q ⟨(some 11), none, .pick (.t 7) (.c (.bool true)) (.t 10)⟩
 (.q ⟨(some 12), none, .mov (.t 11)⟩
 (.q ⟨(some 13), (some (12, false)), .mov (.t 0)⟩
 (.q ⟨(some 14), (some (12, false)), .idxs (.t 13) (.c (.int .i64 0))⟩
 (.q ⟨(some 15), (some (12, false)), .call 135 [(.t 14)]⟩
 (.q ⟨(some 16), (some (12, false)), .not (.t 15)⟩
 (.q ⟨(some 17), none, .pick (.t 12) (.c (.bool true)) (.t 16)⟩
 .done)))))))))))))))
 (.cut (.cond (.t 17) (.seq (.reg (.q ⟨(some 2), none, .mov (.c (.bool false))⟩
 .done))
 .ret)
 .skip)))
 (.seq (.seq (.reg (.q ⟨(some 3), none, .mov (.c (.int .i64 1))⟩
 .done))
 (.block 0 (.loop (.seq (.seq (.reg (.q ⟨(some 18), none, .mov (.t 3)⟩
 (.q ⟨(some 19), none, .mov (.t 0)⟩
 (.q ⟨(some 20), none, .lenS (.t 19)⟩
 (.q ⟨(some 21), none, .bin .lss (.t 18) (.t 20)⟩
 .done)))))
 (.cond (.t 21) .skip
 (.exit 0)))
 (.seq (.block 1 (.seq (.reg (.q ⟨(some 24), none, .mov (.t 0)⟩
 (.q ⟨(some 25), none, .mov (.t 3)⟩
 (.q ⟨(some 26), none, .idxs (.t 24) (.t 25)⟩
 (.q ⟨(some 27), none, .call 135 [(.t 26)]⟩
 (.q ⟨(some 28), none, .not (.t 27)⟩
 (.q ⟨(some 29), none, .mov (.t 28)⟩
 (.q ⟨(some 30), (some (29, true)), .mov (.t 0)⟩
 (.q ⟨(some 31), (some (29, true)), .mov (.t 3)⟩
 (.q ⟨(some 32), (some (29, true)), .idxs (.t 30) (.t 31)⟩
 (.q ⟨(some 33), (some (29, true)), .call 136 [(.t 32)]⟩
 (.q ⟨(some 34), (some (29, true)), .not (.t 33)⟩
 (.q ⟨(some 35), none, .pick (.t 29) (.t 34) (.c (.bool false))⟩
 .done)))))))))))))
 (.cut (.cond (.t 35) (.seq (.reg (.q ⟨(some 2), none, .mov (.c (.bool false))⟩
 .done))
 .ret)
 .skip))))
 (.reg (.q ⟨(some 22), none, .mov (.t 3)⟩
 (.q ⟨(some 23), none, .bin .add (.t 22) (.c (.int .i64 1))⟩
 (.q ⟨(some 3), none, .mov (.t 23)⟩
 .done)))))))))
 (.cut (.seq (.reg (.q ⟨(some 2), none, .mov (.c (.bool true))⟩
 .done))
 .ret)))))
theorem fc129 : fcomp Try.prog Try.f129 = some (c129.erase, [.mov (.t 2)], 36) := by kernel_rfl
def spec_l00Word_L1  : List UInt8 → Option (Fl Bool Unit)
  | [] =>
    some (.go ())
  | x_100 :: xs =>
    (((spec_l00Letter (x_100.toNat : Int)).bind fun r_110 =>
    if (!r_110) then
    (spec_l00Digit (x_100.toNat : Int)).bind fun r_113 =>
    some (!r_113)
    else
    some false : Option Bool)).bind fun s35_108 =>
    if s35_108 then
    some (.ret false)
    else
    spec_l00Word_L1 xs 

def spec_l00Word (t_1 : Str) : Option Bool :=
    ((if (decide ((t_1.length : Int) < 1)) then
    some true
    else
    if (decide ((t_1.length : Int) > 40)) then
    some true
    else
    (idx t_1 0).bind fun b_16 =>
    (spec_l00Letter (b_16.toNat : Int)).bind fun r_18 =>
    some (!r_18) : Option Bool)).bind fun s17_10 =>
    if s17_10 then
    some false
    else
    (spec_l00Word_L1 (t_1.drop 1) ).bind fun q => (match q with
    | .ret r => some r
    | .go _ =>
    some true)
theorem w_spec_l00Word (t_1 : Str) (r : Bool) (hf : spec_l00Word t_1 = some r) : CallOK Try.prog 129 .flat [(.str t_1)] (.bool r) := by
 refine CallOK.of_awp mixed Try.func129 fc129 nle ?_; rw [argT_eq]; unfold spec_l00Word at hf; unfold c129; refine (show awp Try.prog false 0 _ (ofL [(0, (.str t_1))]) [] _ from ?_); refine awp_seq ?_; refine w_reg ?_; refine s_do (o_mov (.bool false) rfl) ?_; refine w_done ?_; refine k_seq ?_; refine awp_seq ?_; refine awp_seq ?_
 obtain ⟨s17_10, hb1, hf⟩ := ob hf
 refine awp_cut ([(0, (.str t_1)), (17, (.bool s17_10))], []) ?_ ?_
 ·refine w_reg ?_; refine s_do (o_mov (.str t_1) rfl) ?_; refine s_dof (o_lenS rfl) fun hl12 => ?_; refine s_do (o_q (.bool (decide ((t_1.length : Int) < 1))) rfl rfl rfl) ?_; refine s_do (o_mov (.bool (decide ((t_1.length : Int) < 1))) rfl) ?_
  rcases oi hb1 with ⟨c13, hb1⟩ | ⟨c13, hb1⟩
  ·refine s_lit (s := 7) (b := true) rfl c13 ?_; refine s_off rfl rfl ?_; refine s_off rfl rfl ?_; refine s_off rfl rfl ?_; refine s_do (o_q (.bool true) rfl trivial rfl) ?_; refine s_do (o_mov (.bool true) rfl) ?_; refine s_off rfl rfl ?_; refine s_off rfl rfl ?_; refine s_off rfl rfl ?_; refine s_off rfl rfl ?_; refine s_do (o_q (.bool true) rfl trivial rfl) ?_; refine w_done ?_; obtain rfl := os hb1; exact ⟨[], [], _, _, rfl, rfl, ⟨.refl _, ⟨.refl _, trivial⟩⟩, (.refl _)⟩
  ·refine s_lit (s := 7) (b := false) rfl (bf c13) ?_; refine s_on rfl ?_; refine s_do (o_mov (.str t_1) rfl) ?_; refine s_on rfl ?_; refine s_dof (o_lenS rfl) fun hl14 => ?_; refine s_on rfl ?_; refine s_do (o_q (.bool (decide ((t_1.length : Int) > 40))) rfl rfl rfl) ?_; refine s_do (o_q (.bool (decide ((t_1.length : Int) > 40))) rfl trivial rfl) ?_; refine s_do (o_mov (.bool (decide ((t_1.length : Int) > 40))) rfl) ?_
   rcases oi hb1 with ⟨c15, hb1⟩ | ⟨c15, hb1⟩
   ·refine s_lit (s := 12) (b := true) rfl c15 ?_; refine s_off rfl rfl ?_; refine s_off rfl rfl ?_; refine s_off rfl rfl ?_; refine s_off rfl rfl ?_; refine s_do (o_q (.bool true) rfl trivial rfl) ?_; refine w_done ?_; obtain rfl := os hb1; exact ⟨[], [], _, _, rfl, rfl, ⟨.refl _, ⟨.refl _, trivial⟩⟩, (.refl _)⟩
   ·refine s_lit (s := 12) (b := false) rfl (bf c15) ?_; refine s_on rfl ?_; refine s_do (o_mov (.str t_1) rfl) ?_; refine s_on rfl ?_
    obtain ⟨b_16, eb17, hb1⟩ := ob hb1
    refine s_do (o_idxs rfl rfl (idx0 eb17) (idx1 eb17)) ?_; refine s_on rfl ?_
    obtain ⟨r_18, er19, hb1⟩ := ob hb1
    refine s_do (o_call (w_spec_l00Letter _ _ er19) rfl (.refl _) rfl) ?_; refine s_on rfl ?_; refine s_do (o_q (.bool (!r_18)) rfl trivial rfl) ?_; refine s_do (o_q (.bool (!r_18)) rfl trivial rfl) ?_; refine w_done ?_; obtain rfl := os hb1; exact ⟨[], [], _, _, rfl, rfl, ⟨.refl _, ⟨.refl _, trivial⟩⟩, (.refl _)⟩
 ·rcases oi hf with ⟨c20, hf⟩ | ⟨c20, hf⟩
  ·refine w_condt rfl c20 ?_; refine awp_seq ?_; refine w_reg ?_; refine s_do (o_mov (.bool false) rfl) ?_; refine w_done ?_; refine k_seq ?_; refine w_ret ?_; obtain rfl := os hf; exact r_flat ⟨trivial, trivial⟩ rfl (.refl _)
  ·refine w_condf rfl (bf c20) ?_; refine w_skip ?_; refine k_seq ?_; refine awp_seq ?_; refine awp_seq ?_; refine w_reg ?_; refine s_do (o_mov (.int .i64 1) rfl) ?_; refine w_done ?_; refine k_seq ?_
   obtain ⟨p93, hb1, hf⟩ := ob hf
   refine awp_cutx (X := {q : Unit // p93 = .go q}) (fun q => ([], [])) ?_ ?_
   ·refine awp_loop (X := {q : Nat // spec_l00Word_L1 (t_1.drop q)  = some p93}) (fun q => ([(0, (.str t_1)), (3, (.int .i64 (q.1 : Int)))], [])) (fun q => t_1.length - q.1) ⟨1, hb1⟩ ⟨[], [], _, _, rfl, rfl, ⟨.refl _, ⟨.refl _, trivial⟩⟩, (.refl _)⟩ ?_
    rintro ⟨i_68, hc1⟩
    have hc1 : spec_l00Word_L1 (t_1.drop i_68)  = some p93 := hc1
    refine (show awp Try.prog false 0 _ (ofL [(0, (.str t_1)), (3, (.int .i64 (i_68 : Int)))]) [] _ from ?_)
    rcases dropc t_1 i_68 with ⟨hie96, hd99⟩ | ⟨hlt94, x_100, hx95, hd99⟩
    ·rw [hd99, spec_l00Word_L1.eq_1] at hc1
     have hq98 := dlf hie96
     refine awp_seq ?_; refine awp_seq ?_; refine w_reg ?_; refine s_do (o_mov (.int .i64 (i_68 : Int)) rfl) ?_; refine s_do (o_mov (.str t_1) rfl) ?_; refine s_dof (o_lenS rfl) fun hl101 => ?_; refine s_do (o_q (.bool (decide ((i_68 : Int) < (t_1.length : Int)))) rfl rfl rfl) ?_; refine w_done ?_; refine k_seq ?_; refine w_condf rfl hq98 ?_; refine w_exit ?_; refine k_seqx ?_; refine k_loopx ?_; refine k_blkx ?_; obtain rfl := os hc1; exact k_cutn ⟨_, rfl⟩ ⟨[], [], _, _, rfl, rfl, trivial, (.refl _)⟩
    ·rw [hd99, spec_l00Word_L1.eq_2] at hc1
     have hq98 := dlt hlt94
     refine awp_seq ?_; refine awp_seq ?_; refine w_reg ?_; refine s_do (o_mov (.int .i64 (i_68 : Int)) rfl) ?_; refine s_do (o_mov (.str t_1) rfl) ?_; refine s_dof (o_lenS rfl) fun hl102 => ?_; refine s_do (o_q (.bool (decide ((i_68 : Int) < (t_1.length : Int)))) rfl rfl rfl) ?_; refine w_done ?_; refine k_seq ?_; refine w_condt rfl hq98 ?_; refine w_skip ?_; refine k_seq ?_; refine awp_seq ?_; refine w_blk ?_; refine awp_seq ?_
     obtain ⟨s35_108, hb2, hc1⟩ := ob hc1
     refine awp_cut ([(0, (.str t_1)), (3, (.int .i64 (i_68 : Int))), (35, (.bool s35_108))], []) ?_ ?_
     ·refine w_reg ?_
      obtain ⟨r_110, er111, hb2⟩ := ob hb2
      rcases oi hb2 with ⟨c112, hb2⟩ | ⟨c112, hb2⟩
      ·obtain ⟨r_113, er114, hb2⟩ := ob hb2
       refine s_do (o_mov (.str t_1) rfl) ?_; refine s_do (o_mov (.int .i64 (i_68 : Int)) rfl) ?_; refine s_do (o_idxsn rfl rfl hx95) ?_; refine s_do (o_call (w_spec_l00Letter _ _ er111) rfl (.refl _) rfl) ?_; refine s_do (o_q (.bool (!r_110)) rfl trivial rfl) ?_; refine s_do (o_mov (.bool (!r_110)) rfl) ?_; refine s_lit (s := 29) (b := true) rfl c112 ?_; refine s_on rfl ?_; refine s_do (o_mov (.str t_1) rfl) ?_; refine s_on rfl ?_; refine s_do (o_mov (.int .i64 (i_68 : Int)) rfl) ?_; refine s_on rfl ?_; refine s_do (o_idxsn rfl rfl hx95) ?_; refine s_on rfl ?_; refine s_do (o_call (w_spec_l00Digit _ _ er114) rfl (.refl _) rfl) ?_
       refine s_on rfl ?_; refine s_do (o_q (.bool (!r_113)) rfl trivial rfl) ?_; refine s_do (o_q (.bool (!r_113)) rfl trivial rfl) ?_; refine w_done ?_; obtain rfl := os hb2; exact ⟨[], [], _, _, rfl, rfl, ⟨.refl _, ⟨.refl _, ⟨.refl _, trivial⟩⟩⟩, (.refl _)⟩
      ·refine s_do (o_mov (.str t_1) rfl) ?_; refine s_do (o_mov (.int .i64 (i_68 : Int)) rfl) ?_; refine s_do (o_idxsn rfl rfl hx95) ?_; refine s_do (o_call (w_spec_l00Letter _ _ er111) rfl (.refl _) rfl) ?_; refine s_do (o_q (.bool (!r_110)) rfl trivial rfl) ?_; refine s_do (o_mov (.bool (!r_110)) rfl) ?_; refine s_lit (s := 29) (b := false) rfl (bf c112) ?_; refine s_off rfl rfl ?_; refine s_off rfl rfl ?_; refine s_off rfl rfl ?_; refine s_off rfl rfl ?_; refine s_off rfl rfl ?_; refine s_do (o_q (.bool false) rfl trivial rfl) ?_; refine w_done ?_; obtain rfl := os hb2; exact ⟨[], [], _, _, rfl, rfl, ⟨.refl _, ⟨.refl _, ⟨.refl _, trivial⟩⟩⟩, (.refl _)⟩
     ·rcases oi hc1 with ⟨c115, hc1⟩ | ⟨c115, hc1⟩
      ·refine w_condt rfl c115 ?_; refine awp_seq ?_; refine w_reg ?_; refine s_do (o_mov (.bool false) rfl) ?_; refine w_done ?_; refine k_seq ?_; refine w_ret ?_; obtain rfl := os hc1; obtain rfl := os hf; exact r_flat ⟨trivial, trivial⟩ rfl (.refl _)
      ·refine w_condf rfl (bf c115) ?_; refine w_skip ?_; refine k_blk ?_; refine k_seq ?_; refine w_reg ?_; refine s_do (o_mov (.int .i64 (i_68 : Int)) rfl) ?_; refine s_do (o_q (.int .i64 (w64 ((i_68 : Int) + 1))) rfl rfl rfl) ?_; refine s_do (o_mov (.int .i64 (w64 ((i_68 : Int) + 1))) rfl) ?_; refine w_done ?_; exact k_loopn ⟨(i_68 + 1), hc1⟩ (mul hlt94) ⟨[], [], _, _, rfl, rfl, ⟨.refl _, ⟨.of_eq (congrArg (AV.int _) (w64_incr hlt94 hl102)), trivial⟩⟩, (.refl _)⟩
   ·rintro ⟨_, rfl⟩
    refine awp_seq ?_; refine w_reg ?_; refine s_do (o_mov (.bool true) rfl) ?_; refine w_done ?_; refine k_seq ?_; refine w_ret ?_; obtain rfl := os hf; exact r_flat ⟨trivial, trivial⟩ rfl (.refl _)

/- spec.NameOK -/
def c111 : ACode :=
 (.seq (.reg (.q ⟨(some 2), none, .mov (.c (.bool false))⟩
 .done))
 (.seq (.reg (.q ⟨(some 3), none, .mov (.t 0)⟩
 (.q ⟨(some 4), none, .call 129 [(.t 3)]⟩
 (.q ⟨(some 2), none, .mov (.t 4)⟩
 .done))))
 .ret))
theorem fc111 : fcomp Try.prog Try.f111 = some (c111.erase, [.mov (.t 2)], 5) := by kernel_rfl
def spec_NameOK (t_1 : Str) : Option Bool :=
    (spec_l00Word t_1).bind fun r_2 =>
    some r_2
theorem w_spec_NameOK (t_1 : Str) (r : Bool) (hf : spec_NameOK t_1 = some r) : CallOK Try.prog 111 .flat [(.str t_1)] (.bool r) := by
  refine CallOK.of_awp mixed Try.func111 fc111 nle ?_
  rw [argT_eq]
  unfold spec_NameOK at hf
  unfold c111
  refine (show awp Try.prog false 0 _ (ofL [(0, (.str t_1))]) [] _ from ?_)
  refine awp_seq ?_
  refine w_reg ?_
  refine s_do (o_mov (.bool false) rfl) ?_
  refine w_done ?_
  refine k_seq ?_
  refine awp_seq ?_
  refine w_reg ?_
  obtain ⟨r_2, er3, hf⟩ := ob hf
  refine s_do (o_mov (.str t_1) rfl) ?_
  refine s_do (o_call (w_spec_l00Word _ _ er3) rfl (.refl _) rfl) ?_
  refine s_do (o_mov (.bool r_2) rfl) ?_
  refine w_done ?_
  refine k_seq ?_
  refine w_ret ?_
  obtain rfl := os hf
  exact r_flat ⟨trivial, trivial⟩ rfl (.refl _)

/- spec.l08Names -/
def c70 : ACode :=
 (.seq (.reg (.q ⟨(some 2), none, .mov (.c (.bool false))⟩
 .done))
 (.seq (.seq (.reg (.q ⟨(some 3), none, .mov (.c (.int .i64 0))⟩
 .done))
 (.block 0 (.loop (.seq (.seq (.reg (.q ⟨(some 4), none, .mov (.t 3)⟩
 (.q ⟨(some 5), none, .mov (.t 0)⟩
 (.q ⟨(some 6), none, .len (.t 5)⟩
 (.q ⟨(some 7), none, .bin .lss (.t 4) (.t 6)⟩
 .done)))))
 (.cond (.t 7) .skip
 (.exit 0)))
 (.seq (.block 1 (.seq (.reg (.q ⟨(some 10), none, .mov (.t 0)⟩
 (.q ⟨(some 11), none, .mov (.t 3)⟩
 (.q ⟨(some 12), none, .iaddr 1 (.t 10) (.t 11)⟩
 (.q ⟨(some 13), none, .load 1 false (.t 12)⟩
 (.q ⟨(some 14), none, .call 111 [(.t 13)]⟩
 (.q ⟨(some 15), none, .not (.t 14)⟩
 .done)))))))
 (.cond (.t 15) (.seq (.reg (.q ⟨(some 2), none, .mov (.c (.bool false))⟩
 .done))
 .ret)
 .skip)))
 (.reg (.q ⟨(some 8), none, .mov (.t 3)⟩
 (.q ⟨(some 9), none, .bin .add (.t 8) (.c (.int .i64 1))⟩
 (.q ⟨(some 3), none, .mov (.t 9)⟩
 .done)))))))))
 (.cut (.seq (.reg (.q ⟨(some 16), none, .mov (.t 0)⟩
 (.q ⟨(some 17), none, .len (.t 16)⟩
 (.q ⟨(some 18), none, .bin .leq (.t 17) (.c (.int .i64 8))⟩
 (.q ⟨(some 2), none, .mov (.t 18)⟩
 .done)))))
 .ret))))
theorem fc70 : fcomp Try.prog Try.f70 = some (c70.erase, [.mov (.t 2)], 19) := by kernel_rfl
def spec_l08Names_L1  : List Str → Option (Fl Bool Unit)
  | [] =>
    some (.go ())
  | x_33 :: xs =>
    (spec_NameOK x_33).bind fun r_36 =>
    if (!r_36) then
    some (.ret false)
    else
    spec_l08Names_L1 xs 

def spec_l08Names (list_1 : (List Str)) : Option Bool :=
    (spec_l08Names_L1 list_1 ).bind fun q => (match q with
    | .ret r => some r
    | .go _ =>
    some (decide ((list_1.length : Int) ≤ 8)))
theorem w_spec_l08Names (list_1 : (List Str)) (r : Bool) (hf : spec_l08Names list_1 = some r) : CallOK Try.prog 70 .flat [(.lst 1 (list_1.map AV.str))] (.bool r) := by
 refine CallOK.of_awp mixed Try.func70 fc70 nle ?_; rw [argT_eq]; unfold spec_l08Names at hf; unfold c70; refine (show awp Try.prog false 0 _ (ofL [(0, (.lst 1 (list_1.map AV.str)))]) [] _ from ?_); refine awp_seq ?_; refine w_reg ?_; refine s_do (o_mov (.bool false) rfl) ?_; refine w_done ?_; refine k_seq ?_; refine awp_seq ?_; refine awp_seq ?_; refine w_reg ?_; refine s_do (o_mov (.int .i64 0) rfl) ?_; refine w_done ?_; refine k_seq ?_
 obtain ⟨p26, hb1, hf⟩ := ob hf
 refine awp_cutx (X := {q : Unit // p26 = .go q}) (fun q => ([(0, (.lst 1 (list_1.map AV.str)))], [])) ?_ ?_
 ·refine awp_loop (X := {q : Nat // spec_l08Names_L1 (list_1.drop q)  = some p26}) (fun q => ([(0, (.lst 1 (list_1.map AV.str))), (3, (.int .i64 (q.1 : Int)))], [])) (fun q => list_1.length - q.1) ⟨0, hb1⟩ ⟨[], [], _, _, rfl, rfl, ⟨.refl _, ⟨.refl _, trivial⟩⟩, (.refl _)⟩ ?_
  rintro ⟨i_17, hc1⟩
  have hc1 : spec_l08Names_L1 (list_1.drop i_17)  = some p26 := hc1
  refine (show awp Try.prog false 0 _ (ofL [(0, (.lst 1 (list_1.map AV.str))), (3, (.int .i64 (i_17 : Int)))]) [] _ from ?_)
  rcases dropc list_1 i_17 with ⟨hie29, hd32⟩ | ⟨hlt27, x_33, hx28, hd32⟩
  ·rw [hd32, spec_l08Names_L1.eq_1] at hc1
   have hq31 := dlf hie29
   refine awp_seq ?_; refine awp_seq ?_; refine w_reg ?_; refine s_do (o_mov (.int .i64 (i_17 : Int)) rfl) ?_; refine s_do (o_mov (.lst 1 (list_1.map AV.str)) rfl) ?_; refine s_dof (o_len (enc := AV.str) rfl) fun hl34 => ?_; refine s_do (o_q (.bool (decide ((i_17 : Int) < (list_1.length : Int)))) rfl rfl rfl) ?_; refine w_done ?_; refine k_seq ?_; refine w_condf rfl hq31 ?_; refine w_exit ?_; refine k_seqx ?_; refine k_loopx ?_; refine k_blkx ?_; obtain rfl := os hc1; exact k_cutn ⟨_, rfl⟩ ⟨[], [], _, _, rfl, rfl, ⟨.refl _, trivial⟩, (.refl _)⟩
  ·rw [hd32, spec_l08Names_L1.eq_2] at hc1
   have hq31 := dlt hlt27
   refine awp_seq ?_; refine awp_seq ?_; refine w_reg ?_; refine s_do (o_mov (.int .i64 (i_17 : Int)) rfl) ?_; refine s_do (o_mov (.lst 1 (list_1.map AV.str)) rfl) ?_; refine s_dof (o_len (enc := AV.str) rfl) fun hl35 => ?_; refine s_do (o_q (.bool (decide ((i_17 : Int) < (list_1.length : Int)))) rfl rfl rfl) ?_; refine w_done ?_; refine k_seq ?_; refine w_condt rfl hq31 ?_; refine w_skip ?_; refine k_seq ?_; refine awp_seq ?_; refine w_blk ?_; refine awp_seq ?_; refine w_reg ?_
   obtain ⟨r_36, er37, hc1⟩ := ob hc1
   refine s_do (o_mov (.lst 1 (list_1.map AV.str)) rfl) ?_; refine s_do (o_mov (.int .i64 (i_17 : Int)) rfl) ?_; refine s_do (o_iaddrn (enc := AV.str) rfl rfl hx28) ?_; refine s_do (o_q (.str x_33) rfl ⟨rfl, rfl⟩ rfl) ?_; refine s_do (o_call (w_spec_NameOK _ _ er37) rfl (.refl _) rfl) ?_; refine s_do (o_q (.bool (!r_36)) rfl trivial rfl) ?_; refine w_done ?_; refine k_seq ?_
   rcases oi hc1 with ⟨c38, hc1⟩ | ⟨c38, hc1⟩
   ·refine w_condt rfl c38 ?_; refine awp_seq ?_; refine w_reg ?_; refine s_do (o_mov (.bool false) rfl) ?_; refine w_done ?_; refine k_seq ?_; refine w_ret ?_; obtain rfl := os hc1; obtain rfl := os hf; exact r_flat ⟨trivial, trivial⟩ rfl (.refl _)
   ·refine w_condf rfl (bf c38) ?_; refine w_skip ?_; refine k_blk ?_; refine k_seq ?_; refine w_reg ?_; refine s_do (o_mov (.int .i64 (i_17 : Int)) rfl) ?_; refine s_do (o_q (.int .i64 (w64 ((i_17 : Int) + 1))) rfl rfl rfl) ?_; refine s_do (o_mov (.int .i64 (w64 ((i_17 : Int) + 1))) rfl) ?_; refine w_done ?_; exact k_loopn ⟨(i_17 + 1), hc1⟩ (mul hlt27) ⟨[], [], _, _, rfl, rfl, ⟨.refl _, ⟨.of_eq (congrArg (AV.int _) (w64_incr hlt27 hl35)), trivial⟩⟩, (.refl _)⟩
 ·rintro ⟨_, rfl⟩
  refine awp_seq ?_; refine w_reg ?_; refine s_do (o_mov (.lst 1 (list_1.map AV.str)) rfl) ?_; refine s_dof (o_len (enc := AV.str) rfl) fun hl39 => ?_; refine s_do (o_q (.bool (decide ((list_1.length : Int) ≤ 8))) rfl rfl rfl) ?_; refine s_do (o_mov (.bool (decide ((list_1.length : Int) ≤ 8))) rfl) ?_; refine w_done ?_; refine k_seq ?_; refine w_ret ?_; obtain rfl := os hf; exact r_flat ⟨trivial, trivial⟩ rfl (.refl _)

/- spec.l08Set -/
def c31 : ACode :=
 (.seq (.reg (.q ⟨(some 1), none, .box 3 (.t 0)⟩
 (.q ⟨(some 2), none, .mov (.c (.bool false))⟩
 .done)))
 (.seq (.reg (.q ⟨(some 3), none, .faddr 0 (.t 1)⟩
 (.q ⟨(some 4), none, .load 1 false (.t 3)⟩
 (.q ⟨(some 5), none, .lenS (.t 4)⟩
 (.q ⟨(some 6), none, .bin .leq (.t 5) (.c (.int .i64 40))⟩
 (.q ⟨(some 7), none, .mov (.t 6)⟩
 (.q ⟨(some 8), (some (7, true)), .faddr 1 (.t 1)⟩
 (.q ⟨(some 9), (some (7, true)), .load 1 false (.t 8)⟩
 (.q ⟨(some 10), (some (7, true)), .call 69 [(.t 9)]⟩
 (.q ⟨(some 11), none, .pick (.t 7) (.t 10) (.c (.bool false))⟩
 (.q ⟨(some 12), none, .mov (.t 11)⟩
 (.q ⟨(some 13), (some (12, true)), .faddr 2 (.t 1)⟩
 (.q ⟨(some 14), (some (12, true)), .load 1 false (.t 13)⟩
 (.q ⟨(some 15), (some (12, true)), .call 70 [(.t 14)]⟩
 (.q ⟨(some 16), none, .pick (.t 12) (.t 15) (.c (.bool false))⟩
 (.q ⟨(some 17), none, .mov (.t 16)⟩
 (.q ⟨(some 18), (some (17, true)), .faddr 2 (.t 1)⟩
 (.q ⟨(some 19), (some (17, true)), .load 1 false (.t 18)⟩
 (.q ⟨(some 20), (some (17, true)), .len (.t 19)⟩
 (.q ⟨(some 21), (some (17, true)), .bin .eql (.t 20) (.c (.int .i64 0))⟩
 (.q ⟨(some 22), (some (17, true)), .mov (.t 21)⟩
 (.q ⟨(some 23), (some (22, false)), .faddr 1 (.t 1)⟩
 (.q ⟨(some 24), (some (22, false)), .load 1 false (.t 23)⟩
 (.q ⟨(some 25), (some (22, false)), .len (.t 24)⟩
 (.q ⟨(some 26), (some (22, false)), .bin .eql (.t 25) (.c (.int .i64 0))⟩
 (.q ⟨(some 27), (some (17, true)), .pick (.t 22) (.c (.bool true)) (.t 26)⟩
 (.q ⟨(some 28), none, .pick (.t 17) (.t 27) (.c (.bool false))⟩
 (.q ⟨(some 2), none, .mov (.t 28)⟩
 .done))))))))))))))))))))))))))))
 .ret))
theorem fc31 : fcomp Try.prog Try.f31 = some (c31.erase, [.mov (.t 2)], 29) := by kernel_rfl
def spec_l08Set (x_1 : GSet) : Option Bool :=
    if (decide ((x_1.Column.length : Int) ≤ 40)) then
    (spec_DatumOK x_1.Value).bind fun r_4 =>
    if r_4 then
    (spec_l08Names x_1.Names).bind fun r_7 =>
    if r_7 then
    if ((x_1.Names.length : Int) == 0) then
    some true
    else
    some ((x_1.Value.length : Int) == 0)
    else
    some false
    else
    some false
    else
    some false
theorem w_spec_l08Set (x_1 : GSet) (r : Bool) (hf : spec_l08Set x_1 = some r) : CallOK Try.prog 31 .flat [(encGSet x_1)] (.bool r) := by
 refine CallOK.of_awp mixed Try.func31 fc31 nle ?_; rw [argT_eq]; unfold spec_l08Set at hf; unfold c31; refine (show awp Try.prog false 0 _ (ofL [(0, (encGSet x_1))]) [] _ from ?_); refine awp_seq ?_; refine w_reg ?_; refine s_do (o_box (j := 0) (c := (.agg [(.str x_1.Column), (.lst 3 (x_1.Value.map encGAtom)), (.lst 1 (x_1.Names.map AV.str))])) rfl trivial rfl rfl) ?_; refine s_do (o_mov (.bool false) rfl) ?_; refine w_done ?_; refine k_seq ?_; refine awp_seq ?_; refine w_reg ?_; refine s_do (o_q (.ptr 0 0 0) rfl trivial rfl) ?_; refine s_do (o_q (.str x_1.Column) rfl nle rfl) ?_; refine s_dof (o_lenS rfl) fun hl2 => ?_
 refine s_do (o_q (.bool (decide ((x_1.Column.length : Int) ≤ 40))) rfl rfl rfl) ?_; refine s_do (o_mov (.bool (decide ((x_1.Column.length : Int) ≤ 40))) rfl) ?_
 rcases oi hf with ⟨c3, hf⟩ | ⟨c3, hf⟩
 ·refine s_lit (s := 7) (b := true) rfl c3 ?_; refine s_on rfl ?_; refine s_do (o_q (.ptr 0 0 1) rfl trivial rfl) ?_; refine s_on rfl ?_; refine s_do (o_q (.lst 3 (x_1.Value.map encGAtom)) rfl nle rfl) ?_; refine s_on rfl ?_
  obtain ⟨r_4, er5, hf⟩ := ob hf
  refine s_do (o_call (w_spec_DatumOK _ _ er5) rfl (.refl _) rfl) ?_; refine s_do (o_q (.bool r_4) rfl trivial rfl) ?_; refine s_do (o_mov (.bool r_4) rfl) ?_
  rcases oi hf with ⟨c6, hf⟩ | ⟨c6, hf⟩
  ·refine s_lit (s := 12) (b := true) rfl c6 ?_; refine s_on rfl ?_; refine s_do (o_q (.ptr 0 0 2) rfl trivial rfl) ?_; refine s_on rfl ?_; refine s_do (o_q (.lst 1 (x_1.Names.map AV.str)) rfl nle rfl) ?_; refine s_on rfl ?_
   obtain ⟨r_7, er8, hf⟩ := ob hf
   refine s_do (o_call (w_spec_l08Names _ _ er8) rfl (.refl _) rfl) ?_; refine s_do (o_q (.bool r_7) rfl trivial rfl) ?_; refine s_do (o_mov (.bool r_7) rfl) ?_
   rcases oi hf with ⟨c9, hf⟩ | ⟨c9, hf⟩
   ·refine s_lit (s := 17) (b := true) rfl c9 ?_; refine s_on rfl ?_; refine s_do (o_q (.ptr 0 0 2) rfl trivial rfl) ?_; refine s_on rfl ?_; refine s_do (o_q (.lst 1 (x_1.Names.map AV.str)) rfl nle rfl) ?_; refine s_on rfl ?_; refine s_dof (o_len (enc := AV.str) rfl) fun hl10 => ?_; refine s_on rfl ?_; refine s_do (o_q (.bool ((x_1.Names.length : Int) == 0)) rfl rfl rfl) ?_; refine s_on rfl ?_; refine s_do (o_mov (.bool ((x_1.Names.length : Int) == 0)) rfl) ?_
    rcases oi hf with ⟨c11, hf⟩ | ⟨c11, hf⟩
    ·refine s_lit (s := 22) (b := true) rfl c11 ?_; refine s_off rfl rfl ?_; refine s_off rfl rfl ?_; refine s_off rfl rfl ?_; refine s_off rfl rfl ?_; refine s_on rfl ?_; refine s_do (o_q (.bool true) rfl trivial rfl) ?_; refine s_do (o_q (.bool true) rfl trivial rfl) ?_; refine s_do (o_mov (.bool true) rfl) ?_; refine w_done ?_; refine k_seq ?_; refine w_ret ?_; obtain rfl := os hf; exact r_flat ⟨trivial, trivial⟩ rfl (.refl _)
    ·refine s_lit (s := 22) (b := false) rfl (bf c11) ?_; refine s_on rfl ?_; refine s_do (o_q (.ptr 0 0 1) rfl trivial rfl) ?_; refine s_on rfl ?_; refine s_do (o_q (.lst 3 (x_1.Value.map encGAtom)) rfl nle rfl) ?_; refine s_on rfl ?_; refine s_dof (o_len (enc := encGAtom) rfl) fun hl12 => ?_; refine s_on rfl ?_; refine s_do (o_q (.bool ((x_1.Value.length : Int) == 0)) rfl rfl rfl) ?_; refine s_on rfl ?_; refine s_do (o_q (.bool ((x_1.Value.length : Int) == 0)) rfl trivial rfl) ?_; refine s_do (o_q (.bool ((x_1.Value.length : Int) == 0)) rfl trivial rfl) ?_; refine s_do (o_mov (.bool ((x_1.Value.length : Int) == 0)) rfl) ?_
     refine w_done ?_; refine k_seq ?_; refine w_ret ?_; obtain rfl := os hf; exact r_flat ⟨trivial, trivial⟩ rfl (.refl _)
   ·refine s_lit (s := 17) (b := false) rfl (bf c9) ?_; refine s_off rfl rfl ?_; refine s_off rfl rfl ?_; refine s_off rfl rfl ?_; refine s_off rfl rfl ?_; refine s_off rfl rfl ?_; refine s_offs rfl ?_; refine s_offs rfl ?_; refine s_offs rfl ?_; refine s_offs rfl ?_; refine s_off rfl rfl ?_; refine s_do (o_q (.bool false) rfl trivial rfl) ?_; refine s_do (o_mov (.bool false) rfl) ?_; refine w_done ?_; refine k_seq ?_; refine w_ret ?_; obtain rfl := os hf; exact r_flat ⟨trivial, trivial⟩ rfl (.refl _)
  ·refine s_lit (s := 12) (b := false) rfl (bf c6) ?_; refine s_off rfl rfl ?_; refine s_off rfl rfl ?_; refine s_off rfl rfl ?_; refine s_do (o_q (.bool false) rfl trivial rfl) ?_; refine s_do (o_mov (.bool false) rfl) ?_; refine s_off rfl rfl ?_; refine s_off rfl rfl ?_; refine s_off rfl rfl ?_; refine s_off rfl rfl ?_; refine s_off rfl rfl ?_; refine s_offs rfl ?_; refine s_offs rfl ?_; refine s_offs rfl ?_; refine s_offs rfl ?_; refine s_off rfl rfl ?_; refine s_do (o_q (.bool false) rfl trivial rfl) ?_; refine s_do (o_mov (.bool false) rfl) ?_; refine w_done ?_; refine k_seq ?_; refine w_ret ?_
   obtain rfl := os hf; exact r_flat ⟨trivial, trivial⟩ rfl (.refl _)
 ·refine s_lit (s := 7) (b := false) rfl (bf c3) ?_; refine s_off rfl rfl ?_; refine s_off rfl rfl ?_; refine s_off rfl rfl ?_; refine s_do (o_q (.bool false) rfl trivial rfl) ?_; refine s_do (o_mov (.bool false) rfl) ?_; refine s_off rfl rfl ?_; refine s_off rfl rfl ?_; refine s_off rfl rfl ?_; refine s_do (o_q (.bool false) rfl trivial rfl) ?_; refine s_do (o_mov (.bool false) rfl) ?_; refine s_off rfl rfl ?_; refine s_off rfl rfl ?_; refine s_off rfl rfl ?_; refine s_off rfl rfl ?_; refine s_off rfl rfl ?_; refine s_offs rfl ?_; refine s_offs rfl ?_; refine s_offs rfl ?_; refine s_offs rfl ?_
  refine s_off rfl rfl ?_; refine s_do (o_q (.bool false) rfl trivial rfl) ?_; refine s_do (o_mov (.bool false) rfl) ?_; refine w_done ?_; refine k_seq ?_; refine w_ret ?_; obtain rfl := os hf; exact r_flat ⟨trivial, trivial⟩ rfl (.refl _)

end Go.R
