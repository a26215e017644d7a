/- Walks. -/
import Derived.Test.YtgmkibkmcohikaaAJT
set_option linter.all false
namespace Go.R
open Go Go.Proofs
set_option linter.unusedVariables false
set_option linter.unusedSimpArgs false
set_option maxHeartbeats 8000000
/- laws.szAtom -/
def c34 : ACode :=
 (.seq (.reg (tq 2 (.box 3 (.t 0)) (tm 4 (.c (.int .i64 0)) .done)))
 (.seq (.reg (tm 5 (.t 1) (tq 6 (.faddr 2 (.t 2)) (tq 7 (.load 1 false (.t 6)) (tq 8 (.lenS (.t 7)) (tq 9 (.bin .sub (.t 5) (.t 8)) (tm 1 (.t 9) .done)))))))
 (.seq (.seq (.reg (tm 10 (.t 1) (tq 11 (.bin .lss (.t 10) (.c (.int .i64 0))) .done)))
 (.cond (.t 11) (.seq (.reg (tq 4 (.mov (.c (.int .i64 (-1)))) .done))
 .ret)
 .skip))
 (.seq (.reg (tm 12 (.t 1) (tm 4 (.t 12) .done)))
 .ret))))
theorem fc34 : fcomp Try.prog Try.f34 = some (c34.erase, [.mov (.t 4)], 13) := by kernel_rfl
def laws_szAtom (a_1 : GAtom) (left_2 : Int) : Option Int :=
    if (decide (w64 (left_2 - (a_1.T.length : Int)) < 0)) then
    some (-1)
    else
    some (w64 (left_2 - (a_1.T.length : Int)))
theorem w_laws_szAtom (a_1 : GAtom) (left_2 : Int) (r : Int) (hf : laws_szAtom a_1 left_2 = some r) : CallOK Try.prog 34 .flat [(encGAtom a_1), (.int .i64 left_2)] (.int .i64 r) := by
 refine CallOK.of_awp mixed Try.func34 fc34 nle ?_; rw [argT_eq]; unfold laws_szAtom at hf; unfold c34; refine (show awp Try.prog false 0 _ (ofL [(0, (encGAtom a_1)), (1, (.int .i64 left_2))]) [] _ from ?_); refine awp_seq <| w_reg <| s_do (o_box (j := 0) (c := (.agg [(.int .i64 a_1.Kind), (.int .i64 a_1.N), (.str a_1.T)])) rfl trivial rfl rfl) <| s_mov (.int .i64 0) rfl <| w_done <| k_seq <| awp_seq <| w_reg <| s_mov (.int .i64 left_2) rfl <| s_q (.ptr 0 0 2) rfl trivial rfl <| s_q (.str a_1.T) rfl nle rfl <| s_dof (o_lenS rfl) fun hl3 => s_q (.int .i64 (w64 (left_2 - (a_1.T.length : Int)))) rfl rfl rfl <| s_mov (.int .i64 (w64 (left_2 - (a_1.T.length : Int)))) rfl <| w_done <| k_seq <| awp_seq <| awp_seq <| w_reg <| s_mov (.int .i64 (w64 (left_2 - (a_1.T.length : Int)))) rfl <| ?_
 refine s_q (.bool (decide (w64 (left_2 - (a_1.T.length : Int)) < 0))) rfl rfl rfl <| w_done <| k_seq <| ?_
 rcases oi hf with ⟨c4, hf⟩ | ⟨c4, hf⟩
 ·refine w_condt rfl c4 <| awp_seq <| w_reg <| s_mov (.int .i64 (-1)) rfl <| w_done <| k_seq <| w_ret <| ?_; obtain rfl := os hf; exact r_flat ⟨trivial, trivial⟩ rfl (.refl _)
 ·refine w_condf rfl (bf c4) <| w_skip <| k_seq <| awp_seq <| w_reg <| s_mov (.int .i64 (w64 (left_2 - (a_1.T.length : Int)))) rfl <| s_mov (.int .i64 (w64 (left_2 - (a_1.T.length : Int)))) rfl <| w_done <| k_seq <| w_ret <| ?_; obtain rfl := os hf; exact r_flat ⟨trivial, trivial⟩ rfl (.refl _)

/- laws.toAtom -/
def c36 : ACode :=
 (.seq (.reg (tq 1 (.box 3 (.t 0)) (tq 2 (.box 3 (.c (.agg [(.int .i64 0), (.int .i64 0), (.str [])]))) .done)))
 (.seq (.reg (tq 3 (.box 3 (.c (.agg [(.int .i64 0), (.int .i64 0), (.str [])]))) .done))
 (.seq (.reg (tq 4 (.faddr 0 (.t 1)) (tq 5 (.load 1 false (.t 4)) (tq 6 (.faddr 0 (.t 3)) (.q ⟨none, none, .store 1 (.t 6) (.t 5)⟩
 .done)))))
 (.seq (.reg (tq 7 (.faddr 1 (.t 1)) (tq 8 (.load 1 false (.t 7)) (tq 9 (.faddr 1 (.t 3)) (.q ⟨none, none, .store 1 (.t 9) (.t 8)⟩
 .done)))))
 (.seq (.reg (tq 10 (.faddr 2 (.t 1)) (tq 11 (.load 1 false (.t 10)) (tq 12 (.faddr 2 (.t 3)) (.q ⟨none, none, .store 1 (.t 12) (.t 11)⟩
 .done)))))
 (.seq (.reg (tq 13 (.load 3 true (.t 3)) (.q ⟨none, none, .store 3 (.t 2) (.t 13)⟩
 .done)))
 .ret))))))
theorem fc36 : fcomp Try.prog Try.f36 = some (c36.erase, [.load 3 true (.t 2)], 14) := by kernel_rfl
def laws_toAtom (a_1 : GAtom) : Option GAtom :=
    some a_1
theorem w_laws_toAtom (a_1 : GAtom) (r : GAtom) (hf : laws_toAtom a_1 = some r) : CallOK Try.prog 36 .flat [(encGAtom a_1)] (encGAtom r) := by
 refine CallOK.of_awp mixed Try.func36 fc36 nle ?_; rw [argT_eq]; unfold laws_toAtom at hf; unfold c36; refine (show awp Try.prog false 0 _ (ofL [(0, (encGAtom a_1))]) [] _ from ?_); refine awp_seq <| w_reg <| s_do (o_box (j := 0) (c := (.agg [(.int .i64 a_1.Kind), (.int .i64 a_1.N), (.str a_1.T)])) rfl trivial rfl rfl) <| s_do (o_box (j := 1) (c := (.agg [(.int .i64 0), (.int .i64 0), (.str [])])) rfl trivial rfl rfl) <| w_done <| k_seq <| awp_seq <| w_reg <| s_do (o_box (j := 2) (c := (.agg [(.int .i64 0), (.int .i64 0), (.str [])])) rfl trivial rfl rfl) <| w_done <| k_seq <| awp_seq <| w_reg <| s_q (.ptr 0 0 0) rfl trivial rfl <| s_q (.int .i64 a_1.Kind) rfl nle rfl <| s_q (.ptr 2 0 0) rfl trivial rfl <| s_do0 (o_storebox (v := (.int .i64 a_1.Kind)) (y' := (.agg [(.int .i64 a_1.Kind), (.int .i64 0), (.str [])])) rfl rfl rfl trivial ⟨rfl, nle⟩ ⟨⟨rfl, trivial⟩, trivial⟩ rfl) <| ?_
 refine w_done <| k_seq <| awp_seq <| w_reg <| s_q (.ptr 0 0 1) rfl trivial rfl <| s_q (.int .i64 a_1.N) rfl nle rfl <| s_q (.ptr 2 0 1) rfl trivial rfl <| s_do0 (o_storebox (v := (.int .i64 a_1.N)) (y' := (.agg [(.int .i64 a_1.Kind), (.int .i64 a_1.N), (.str [])])) rfl rfl rfl trivial ⟨rfl, nle⟩ ⟨⟨rfl, trivial⟩, trivial⟩ rfl) <| w_done <| k_seq <| awp_seq <| w_reg <| s_q (.ptr 0 0 2) rfl trivial rfl <| s_q (.str a_1.T) rfl nle rfl <| s_q (.ptr 2 0 2) rfl trivial rfl <| s_do0 (o_storebox (v := (.str a_1.T)) (y' := (.agg [(.int .i64 a_1.Kind), (.int .i64 a_1.N), (.str a_1.T)])) rfl rfl rfl trivial ⟨rfl, nle⟩ ⟨⟨rfl, trivial⟩, trivial⟩ rfl) <| w_done <| k_seq <| awp_seq <| w_reg <| s_q (.agg [(.int .i64 a_1.Kind), (.int .i64 a_1.N), (.str a_1.T)]) rfl nle rfl <| ?_
 refine s_do0 (o_storebox (v := (.agg [(.int .i64 a_1.Kind), (.int .i64 a_1.N), (.str a_1.T)])) (y' := (.agg [(.int .i64 a_1.Kind), (.int .i64 a_1.N), (.str a_1.T)])) rfl rfl rfl trivial ⟨rfl, nle⟩ ⟨⟨rfl, trivial⟩, ⟨⟨rfl, trivial⟩, ⟨⟨rfl, trivial⟩, trivial⟩⟩⟩ rfl) <| w_done <| k_seq <| w_ret <| ?_; obtain rfl := os hf; exact r_flat ⟨nle, trivial⟩ rfl (.refl _)

/- spec.l01In -/
def c81 : ACode :=
 (.seq (.reg (tm 6 (.c (.bool false)) .done))
 (.seq (.reg (tm 7 (.t 1) (tm 8 (.t 0) (tq 9 (.bin .leq (.t 7) (.t 8)) (tm 10 (.t 9) (tg 11 10 true (.mov (.t 0)) (tg 12 10 true (.mov (.t 2)) (tg 13 10 true (.bin .leq (.t 11) (.t 12)) (tq 14 (.pick (.t 10) (.t 13) (.c (.bool false))) (tm 6 (.t 14) .done))))))))))
 .ret))
theorem fc81 : fcomp Try.prog Try.f81 = some (c81.erase, [.mov (.t 6)], 15) := by kernel_rfl
def spec_l01In (n_1 : Int) (low_2 : Int) (high_3 : Int) : Option Bool :=
    if (decide (low_2 ≤ n_1)) then
    some (decide (n_1 ≤ high_3))
    else
    some false
theorem w_spec_l01In (n_1 : Int) (low_2 : Int) (high_3 : Int) (r : Bool) (hf : spec_l01In n_1 low_2 high_3 = some r) : CallOK Try.prog 81 .flat [(.int .i64 n_1), (.int .i64 low_2), (.int .i64 high_3)] (.bool r) := by
 refine CallOK.of_awp mixed Try.func81 fc81 nle ?_; rw [argT_eq]; unfold spec_l01In at hf; unfold c81; refine (show awp Try.prog false 0 _ (ofL [(0, (.int .i64 n_1)), (1, (.int .i64 low_2)), (2, (.int .i64 high_3))]) [] _ from ?_); refine awp_seq <| w_reg <| s_mov (.bool false) rfl <| w_done <| k_seq <| awp_seq <| w_reg <| ?_
 rcases oi hf with ⟨c4, hf⟩ | ⟨c4, hf⟩
 ·refine s_mov (.int .i64 low_2) rfl <| s_mov (.int .i64 n_1) rfl <| s_q (.bool (decide (low_2 ≤ n_1))) rfl rfl rfl <| s_mov (.bool (decide (low_2 ≤ n_1))) rfl <| s_lit (s := 10) (b := true) rfl c4 <| s_on rfl <| s_mov (.int .i64 n_1) rfl <| s_on rfl <| s_mov (.int .i64 high_3) rfl <| s_on rfl <| s_q (.bool (decide (n_1 ≤ high_3))) rfl rfl rfl <| s_q (.bool (decide (n_1 ≤ high_3))) rfl trivial rfl <| s_mov (.bool (decide (n_1 ≤ high_3))) rfl <| w_done <| k_seq <| w_ret <| ?_; obtain rfl := os hf; exact r_flat ⟨trivial, trivial⟩ rfl (.refl _)
 ·refine s_mov (.int .i64 low_2) rfl <| s_mov (.int .i64 n_1) rfl <| s_q (.bool (decide (low_2 ≤ n_1))) rfl rfl rfl <| s_mov (.bool (decide (low_2 ≤ n_1))) rfl <| s_lit (s := 10) (b := false) rfl (bf c4) <| s_off rfl rfl <| s_off rfl rfl <| s_off rfl rfl <| s_q (.bool false) rfl trivial rfl <| s_mov (.bool false) rfl <| w_done <| k_seq <| w_ret <| ?_; obtain rfl := os hf; exact r_flat ⟨trivial, trivial⟩ rfl (.refl _)

/- spec.l01Text -/
def c169 : ACode :=
 (.seq (.reg (tm 2 (.c (.bool false)) .done))
 (.seq (.seq (.reg (tm 3 (.c (.int .i64 0)) .done))
 (.block 0 (.loop (.seq (.seq (.reg (tm 4 (.t 3) (tm 5 (.t 0) (tq 6 (.lenS (.t 5)) (tq 7 (.bin .lss (.t 4) (.t 6)) .done)))))
 (.cond (.t 7) .skip
 (.exit 0)))
 (.seq (.block 1 (.seq (.reg (tm 10 (.t 0) (tm 11 (.t 3) (tq 12 (.idxs (.t 10) (.t 11)) (tq 13 (.bin .lss (.t 12) (.c (.int .u8 32))) (tm 14 (.t 13) (tg 15 14 false (.mov (.t 0)) (tg 16 14 false (.mov (.t 3)) (tg 17 14 false (.idxs (.t 15) (.t 16)) (tg 18 14 false (.bin .gtr (.t 17) (.c (.int .u8 126))) (tq 19 (.pick (.t 14) (.c (.bool true)) (.t 18)) .done)))))))))))
 (.cut (.cond (.t 19) (.seq (.reg (tm 2 (.c (.bool false)) .done))
 .ret)
 .skip))))
 (.reg (tm 8 (.t 3) (tq 9 (.bin .add (.t 8) (.c (.int .i64 1))) (tm 3 (.t 9) .done)))))))))
 (.cut (.seq (.reg (tm 20 (.t 0) (tq 21 (.lenS (.t 20)) (tq 22 (.bin .leq (.t 21) (.c (.int .i64 200))) (tm 2 (.t 22) .done)))))
 .ret))))
theorem fc169 : fcomp Try.prog Try.f169 = some (c169.erase, [.mov (.t 2)], 23) := by kernel_rfl
def spec_l01Text_L1  : List UInt8 → Option (Fl Bool Unit)
  | [] =>
    some (.go ())
  | x_57 :: xs =>
    ((if (decide ((x_57.toNat : Int) < 32)) then
    some true
    else
    some (decide ((x_57.toNat : Int) > 126)) : Option Bool)).bind fun s19_61 =>
    if s19_61 then
    some (.ret false)
    else
    spec_l01Text_L1 xs 

def spec_l01Text (t_1 : Str) : Option Bool :=
    (spec_l01Text_L1 t_1 ).bind fun q => (match q with
    | .ret r => some r
    | .go _ =>
    some (decide ((t_1.length : Int) ≤ 200)))
theorem w_spec_l01Text (t_1 : Str) (r : Bool) (hf : spec_l01Text t_1 = some r) : CallOK Try.prog 169 .flat [(.str t_1)] (.bool r) := by
 refine CallOK.of_awp mixed Try.func169 fc169 nle ?_; rw [argT_eq]; unfold spec_l01Text at hf; unfold c169; refine (show awp Try.prog false 0 _ (ofL [(0, (.str t_1))]) [] _ from ?_); refine awp_seq <| w_reg <| s_mov (.bool false) rfl <| w_done <| k_seq <| awp_seq <| awp_seq <| w_reg <| s_mov (.int .i64 0) rfl <| w_done <| k_seq <| ?_
 obtain ⟨p50, hb1, hf⟩ := ob hf
 refine awp_cutx (X := {q : Unit // p50 = .go q}) (fun q => ([(0, (.str t_1))], [])) ?_ ?_
 ·refine awp_loop (X := {q : Nat // spec_l01Text_L1 (t_1.drop q)  = some p50}) (fun q => ([(0, (.str t_1)), (3, (.int .i64 (q.1 : Int)))], [])) (fun q => t_1.length - q.1) ⟨0, hb1⟩ ⟨[], [], _, _, rfl, rfl, ⟨.refl _, ⟨.refl _, trivial⟩⟩, (.refl _)⟩ ?_
  rintro ⟨i_33, hc1⟩
  have hc1 : spec_l01Text_L1 (t_1.drop i_33)  = some p50 := hc1
  refine (show awp Try.prog false 0 _ (ofL [(0, (.str t_1)), (3, (.int .i64 (i_33 : Int)))]) [] _ from ?_)
  rcases dropc t_1 i_33 with ⟨hie53, hd56⟩ | ⟨hlt51, x_57, hx52, hd56⟩
  ·rw [hd56, spec_l01Text_L1.eq_1] at hc1
   have hq55 := dlf hie53
   refine awp_seq <| awp_seq <| w_reg <| s_mov (.int .i64 (i_33 : Int)) rfl <| s_mov (.str t_1) rfl <| s_dof (o_lenS rfl) fun hl58 => s_q (.bool (decide ((i_33 : Int) < (t_1.length : Int)))) rfl rfl rfl <| w_done <| k_seq <| w_condf rfl hq55 <| w_exit <| k_seqx <| k_loopx <| k_blkx <| ?_; obtain rfl := os hc1; exact k_cutn ⟨_, rfl⟩ ⟨[], [], _, _, rfl, rfl, ⟨.refl _, trivial⟩, (.refl _)⟩
  ·rw [hd56, spec_l01Text_L1.eq_2] at hc1
   have hq55 := dlt hlt51
   refine awp_seq <| awp_seq <| w_reg <| s_mov (.int .i64 (i_33 : Int)) rfl <| s_mov (.str t_1) rfl <| s_dof (o_lenS rfl) fun hl59 => s_q (.bool (decide ((i_33 : Int) < (t_1.length : Int)))) rfl rfl rfl <| w_done <| k_seq <| w_condt rfl hq55 <| w_skip <| k_seq <| awp_seq <| w_blk <| awp_seq <| ?_
   obtain ⟨s19_61, hb2, hc1⟩ := ob hc1
   refine awp_cut ([(0, (.str t_1)), (3, (.int .i64 (i_33 : Int))), (19, (.bool s19_61))], []) ?_ ?_
   ·refine w_reg ?_
    rcases oi hb2 with ⟨c63, hb2⟩ | ⟨c63, hb2⟩
    ·refine s_mov (.str t_1) rfl <| s_mov (.int .i64 (i_33 : Int)) rfl <| s_do (o_idxsn rfl rfl hx52) <| s_q (.bool (decide ((x_57.toNat : Int) < 32))) rfl rfl rfl <| s_mov (.bool (decide ((x_57.toNat : Int) < 32))) rfl <| s_lit (s := 14) (b := true) rfl c63 <| s_off rfl rfl <| s_off rfl rfl <| s_off rfl rfl <| s_off rfl rfl <| s_q (.bool true) rfl trivial rfl <| w_done <| ?_; obtain rfl := os hb2; exact ⟨[], [], _, _, rfl, rfl, ⟨.refl _, ⟨.refl _, ⟨.refl _, trivial⟩⟩⟩, (.refl _)⟩
    ·refine s_mov (.str t_1) rfl <| s_mov (.int .i64 (i_33 : Int)) rfl <| s_do (o_idxsn rfl rfl hx52) <| s_q (.bool (decide ((x_57.toNat : Int) < 32))) rfl rfl rfl <| s_mov (.bool (decide ((x_57.toNat : Int) < 32))) rfl <| s_lit (s := 14) (b := false) rfl (bf c63) <| s_on rfl <| s_mov (.str t_1) rfl <| s_on rfl <| s_mov (.int .i64 (i_33 : Int)) rfl <| s_on rfl <| s_do (o_idxsn rfl rfl hx52) <| s_on rfl <| s_q (.bool (decide ((x_57.toNat : Int) > 126))) rfl rfl rfl <| s_q (.bool (decide ((x_57.toNat : Int) > 126))) rfl trivial rfl <| w_done <| ?_; obtain rfl := os hb2; exact ⟨[], [], _, _, rfl, rfl, ⟨.refl _, ⟨.refl _, ⟨.refl _, trivial⟩⟩⟩, (.refl _)⟩
   ·rcases oi hc1 with ⟨c64, hc1⟩ | ⟨c64, hc1⟩
    ·refine w_condt rfl c64 <| awp_seq <| w_reg <| s_mov (.bool false) rfl <| w_done <| k_seq <| w_ret <| ?_; obtain rfl := os hc1; obtain rfl := os hf; exact r_flat ⟨trivial, trivial⟩ rfl (.refl _)
    ·refine w_condf rfl (bf c64) <| w_skip <| k_blk <| k_seq <| w_reg <| s_mov (.int .i64 (i_33 : Int)) rfl <| s_q (.int .i64 (w64 ((i_33 : Int) + 1))) rfl rfl rfl <| s_mov (.int .i64 (w64 ((i_33 : Int) + 1))) rfl <| w_done <| ?_; exact k_loopn ⟨(i_33 + 1), hc1⟩ (mul hlt51) ⟨[], [], _, _, rfl, rfl, ⟨.refl _, ⟨.of_eq (congrArg (AV.int _) (w64_incr hlt51 hl59)), trivial⟩⟩, (.refl _)⟩
 ·rintro ⟨_, rfl⟩
  refine awp_seq <| w_reg <| s_mov (.str t_1) rfl <| s_dof (o_lenS rfl) fun hl65 => s_q (.bool (decide ((t_1.length : Int) ≤ 200))) rfl rfl rfl <| s_mov (.bool (decide ((t_1.length : Int) ≤ 200))) rfl <| w_done <| k_seq <| w_ret <| ?_; obtain rfl := os hf; exact r_flat ⟨trivial, trivial⟩ rfl (.refl _)

/- spec.AtomOK -/
def c106 : ACode :=
 (.seq (.reg (tq 1 (.box 3 (.t 0)) (tm 2 (.c (.bool false)) .done)))
 (.seq (.seq (.reg (tq 3 (.faddr 0 (.t 1)) (tq 4 (.load 1 false (.t 3)) .done)))
 (.block 0 (.seq (.reg (tq 6 (.bin .eql (.t 4) (.c (.int .i64 1))) (tm 5 (.t 6) .done)))
 (.cond (.t 5) (.seq (.reg (tq 7 (.faddr 1 (.t 1)) (tq 8 (.load 1 false (.t 7)) (tq 9 (.call 81 [(.t 8), (.c (.int .i64 (-1000000000))), (.c (.int .i64 1000000000))]) (tm 10 (.t 9) (tg 11 10 true (.faddr 2 (.t 1)) (tg 12 10 true (.load 1 false (.t 11)) (tg 13 10 true (.bin .eql (.t 12) (.c (.str []))) (tq 14 (.pick (.t 10) (.t 13) (.c (.bool false))) (tm 2 (.t 14) .done))))))))))
 .ret)
 (.seq (.reg (tq 16 (.bin .eql (.t 4) (.c (.int .i64 2))) (tm 15 (.t 16) .done)))
 (.cond (.t 15) (.seq (.reg (tq 17 (.faddr 1 (.t 1)) (tq 18 (.load 1 false (.t 17)) (tq 19 (.bin .eql (.t 18) (.c (.int .i64 0))) (tm 20 (.t 19) (tg 21 20 true (.faddr 2 (.t 1)) (tg 22 20 true (.load 1 false (.t 21)) (tg 23 20 true (.call 169 [(.t 22)]) (tq 24 (.pick (.t 20) (.t 23) (.c (.bool false))) (tm 2 (.t 24) .done))))))))))
 .ret)
 (.seq (.reg (tq 26 (.bin .eql (.t 4) (.c (.int .i64 3))) (tm 25 (.t 26) .done)))
 (.cond (.t 25) (.seq (.reg (tq 27 (.faddr 1 (.t 1)) (tq 28 (.load 1 false (.t 27)) (tq 29 (.call 81 [(.t 28), (.c (.int .i64 0)), (.c (.int .i64 1))]) (tm 30 (.t 29) (tg 31 30 true (.faddr 2 (.t 1)) (tg 32 30 true (.load 1 false (.t 31)) (tg 33 30 true (.bin .eql (.t 32) (.c (.str []))) (tq 34 (.pick (.t 30) (.t 33) (.c (.bool false))) (tm 2 (.t 34) .done))))))))))
 .ret)
 (.seq (.reg (tq 36 (.bin .eql (.t 4) (.c (.int .i64 4))) (tm 35 (.t 36) .done)))
 (.cond (.t 35) (.seq (.reg (tq 37 (.faddr 1 (.t 1)) (tq 38 (.load 1 false (.t 37)) (tq 39 (.call 81 [(.t 38), (.c (.int .i64 1)), (.c (.int .i64 1000000))]) (tm 40 (.t 39) (tg 41 40 true (.faddr 2 (.t 1)) (tg 42 40 true (.load 1 false (.t 41)) (tg 43 40 true (.bin .eql (.t 42) (.c (.str []))) (tq 44 (.pick (.t 40) (.t 43) (.c (.bool false))) (tm 2 (.t 44) .done))))))))))
 .ret)
 .skip))))))))))
 (.seq (.reg (tm 2 (.c (.bool false)) .done))
 .ret)))
theorem fc106 : fcomp Try.prog Try.f106 = some (c106.erase, [.mov (.t 2)], 45) := by kernel_rfl
def spec_AtomOK (a_1 : GAtom) : Option Bool :=
    if (a_1.Kind == 1) then
    (spec_l01In a_1.N (-1000000000) 1000000000).bind fun r_3 =>
    if r_3 then
    some (a_1.T == [])
    else
    some false
    else
    if (a_1.Kind == 2) then
    if (a_1.N == 0) then
    (spec_l01Text a_1.T).bind fun r_8 =>
    some r_8
    else
    some false
    else
    if (a_1.Kind == 3) then
    (spec_l01In a_1.N 0 1).bind fun r_11 =>
    if r_11 then
    some (a_1.T == [])
    else
    some false
    else
    if (a_1.Kind == 4) then
    (spec_l01In a_1.N 1 1000000).bind fun r_15 =>
    if r_15 then
    some (a_1.T == [])
    else
    some false
    else
    some false
theorem w_spec_AtomOK (a_1 : GAtom) (r : Bool) (hf : spec_AtomOK a_1 = some r) : CallOK Try.prog 106 .flat [(encGAtom a_1)] (.bool r) := by
 refine CallOK.of_awp mixed Try.func106 fc106 nle ?_; rw [argT_eq]; unfold spec_AtomOK at hf; unfold c106; refine (show awp Try.prog false 0 _ (ofL [(0, (encGAtom a_1))]) [] _ from ?_); refine awp_seq <| w_reg <| s_do (o_box (j := 0) (c := (.agg [(.int .i64 a_1.Kind), (.int .i64 a_1.N), (.str a_1.T)])) rfl trivial rfl rfl) <| s_mov (.bool false) rfl <| w_done <| k_seq <| awp_seq <| awp_seq <| w_reg <| s_q (.ptr 0 0 0) rfl trivial rfl <| s_q (.int .i64 a_1.Kind) rfl nle rfl <| w_done <| k_seq <| w_blk <| awp_seq <| w_reg <| s_q (.bool (a_1.Kind == 1)) rfl rfl rfl <| s_mov (.bool (a_1.Kind == 1)) rfl <| w_done <| k_seq <| ?_
 rcases oi hf with ⟨c2, hf⟩ | ⟨c2, hf⟩
 ·refine w_condt rfl c2 <| awp_seq <| w_reg <| ?_
  obtain ⟨r_3, er4, hf⟩ := ob hf
  rcases oi hf with ⟨c5, hf⟩ | ⟨c5, hf⟩
  ·refine s_q (.ptr 0 0 1) rfl trivial rfl <| s_q (.int .i64 a_1.N) rfl nle rfl <| s_do (o_call (w_spec_l01In _ _ _ _ er4) rfl (.refl _) rfl) <| s_mov (.bool r_3) rfl <| s_lit (s := 10) (b := true) rfl c5 <| s_on rfl <| s_q (.ptr 0 0 2) rfl trivial rfl <| s_on rfl <| s_q (.str a_1.T) rfl nle rfl <| s_on rfl <| s_q (.bool (a_1.T == [])) rfl trivial rfl <| s_q (.bool (a_1.T == [])) rfl trivial rfl <| s_mov (.bool (a_1.T == [])) rfl <| w_done <| k_seq <| w_ret <| ?_; obtain rfl := os hf; exact r_flat ⟨trivial, trivial⟩ rfl (.refl _)
  ·refine s_q (.ptr 0 0 1) rfl trivial rfl <| s_q (.int .i64 a_1.N) rfl nle rfl <| s_do (o_call (w_spec_l01In _ _ _ _ er4) rfl (.refl _) rfl) <| s_mov (.bool r_3) rfl <| s_lit (s := 10) (b := false) rfl (bf c5) <| s_off rfl rfl <| s_off rfl rfl <| s_off rfl rfl <| s_q (.bool false) rfl trivial rfl <| s_mov (.bool false) rfl <| w_done <| k_seq <| w_ret <| ?_; obtain rfl := os hf; exact r_flat ⟨trivial, trivial⟩ rfl (.refl _)
 ·refine w_condf rfl (bf c2) <| awp_seq <| w_reg <| s_q (.bool (a_1.Kind == 2)) rfl rfl rfl <| s_mov (.bool (a_1.Kind == 2)) rfl <| w_done <| k_seq <| ?_
  rcases oi hf with ⟨c6, hf⟩ | ⟨c6, hf⟩
  ·refine w_condt rfl c6 <| awp_seq <| w_reg <| ?_
   rcases oi hf with ⟨c7, hf⟩ | ⟨c7, hf⟩
   ·obtain ⟨r_8, er9, hf⟩ := ob hf
    refine s_q (.ptr 0 0 1) rfl trivial rfl <| s_q (.int .i64 a_1.N) rfl nle rfl <| s_q (.bool (a_1.N == 0)) rfl rfl rfl <| s_mov (.bool (a_1.N == 0)) rfl <| s_lit (s := 20) (b := true) rfl c7 <| s_on rfl <| s_q (.ptr 0 0 2) rfl trivial rfl <| s_on rfl <| s_q (.str a_1.T) rfl nle rfl <| s_on rfl <| s_do (o_call (w_spec_l01Text _ _ er9) rfl (.refl _) rfl) <| s_q (.bool r_8) rfl trivial rfl <| s_mov (.bool r_8) rfl <| w_done <| k_seq <| w_ret <| ?_; obtain rfl := os hf; exact r_flat ⟨trivial, trivial⟩ rfl (.refl _)
   ·refine s_q (.ptr 0 0 1) rfl trivial rfl <| s_q (.int .i64 a_1.N) rfl nle rfl <| s_q (.bool (a_1.N == 0)) rfl rfl rfl <| s_mov (.bool (a_1.N == 0)) rfl <| s_lit (s := 20) (b := false) rfl (bf c7) <| s_off rfl rfl <| s_off rfl rfl <| s_off rfl rfl <| s_q (.bool false) rfl trivial rfl <| s_mov (.bool false) rfl <| w_done <| k_seq <| w_ret <| ?_; obtain rfl := os hf; exact r_flat ⟨trivial, trivial⟩ rfl (.refl _)
  ·refine w_condf rfl (bf c6) <| awp_seq <| w_reg <| s_q (.bool (a_1.Kind == 3)) rfl rfl rfl <| s_mov (.bool (a_1.Kind == 3)) rfl <| w_done <| k_seq <| ?_
   rcases oi hf with ⟨c10, hf⟩ | ⟨c10, hf⟩
   ·refine w_condt rfl c10 <| awp_seq <| w_reg <| ?_
    obtain ⟨r_11, er12, hf⟩ := ob hf
    rcases oi hf with ⟨c13, hf⟩ | ⟨c13, hf⟩
    ·refine s_q (.ptr 0 0 1) rfl trivial rfl <| s_q (.int .i64 a_1.N) rfl nle rfl <| s_do (o_call (w_spec_l01In _ _ _ _ er12) rfl (.refl _) rfl) <| s_mov (.bool r_11) rfl <| s_lit (s := 30) (b := true) rfl c13 <| s_on rfl <| s_q (.ptr 0 0 2) rfl trivial rfl <| s_on rfl <| s_q (.str a_1.T) rfl nle rfl <| s_on rfl <| s_q (.bool (a_1.T == [])) rfl trivial rfl <| s_q (.bool (a_1.T == [])) rfl trivial rfl <| s_mov (.bool (a_1.T == [])) rfl <| w_done <| k_seq <| w_ret <| ?_; obtain rfl := os hf; exact r_flat ⟨trivial, trivial⟩ rfl (.refl _)
    ·refine s_q (.ptr 0 0 1) rfl trivial rfl <| s_q (.int .i64 a_1.N) rfl nle rfl <| s_do (o_call (w_spec_l01In _ _ _ _ er12) rfl (.refl _) rfl) <| s_mov (.bool r_11) rfl <| s_lit (s := 30) (b := false) rfl (bf c13) <| s_off rfl rfl <| s_off rfl rfl <| s_off rfl rfl <| s_q (.bool false) rfl trivial rfl <| s_mov (.bool false) rfl <| w_done <| k_seq <| w_ret <| ?_; obtain rfl := os hf; exact r_flat ⟨trivial, trivial⟩ rfl (.refl _)
   ·refine w_condf rfl (bf c10) <| awp_seq <| w_reg <| s_q (.bool (a_1.Kind == 4)) rfl rfl rfl <| s_mov (.bool (a_1.Kind == 4)) rfl <| w_done <| k_seq <| ?_
    rcases oi hf with ⟨c14, hf⟩ | ⟨c14, hf⟩
    ·refine w_condt rfl c14 <| awp_seq <| w_reg <| ?_
     obtain ⟨r_15, er16, hf⟩ := ob hf
     rcases oi hf with ⟨c17, hf⟩ | ⟨c17, hf⟩
     ·refine s_q (.ptr 0 0 1) rfl trivial rfl <| s_q (.int .i64 a_1.N) rfl nle rfl <| s_do (o_call (w_spec_l01In _ _ _ _ er16) rfl (.refl _) rfl) <| s_mov (.bool r_15) rfl <| s_lit (s := 40) (b := true) rfl c17 <| s_on rfl <| s_q (.ptr 0 0 2) rfl trivial rfl <| s_on rfl <| s_q (.str a_1.T) rfl nle rfl <| s_on rfl <| s_q (.bool (a_1.T == [])) rfl trivial rfl <| s_q (.bool (a_1.T == [])) rfl trivial rfl <| s_mov (.bool (a_1.T == [])) rfl <| w_done <| k_seq <| w_ret <| ?_; obtain rfl := os hf; exact r_flat ⟨trivial, trivial⟩ rfl (.refl _)
     ·refine s_q (.ptr 0 0 1) rfl trivial rfl <| s_q (.int .i64 a_1.N) rfl nle rfl <| s_do (o_call (w_spec_l01In _ _ _ _ er16) rfl (.refl _) rfl) <| s_mov (.bool r_15) rfl <| s_lit (s := 40) (b := false) rfl (bf c17) <| s_off rfl rfl <| s_off rfl rfl <| s_off rfl rfl <| s_q (.bool false) rfl trivial rfl <| s_mov (.bool false) rfl <| w_done <| k_seq <| w_ret <| ?_; obtain rfl := os hf; exact r_flat ⟨trivial, trivial⟩ rfl (.refl _)
    ·refine w_condf rfl (bf c14) <| w_skip <| k_blk <| k_seq <| awp_seq <| w_reg <| s_mov (.bool false) rfl <| w_done <| k_seq <| w_ret <| ?_; obtain rfl := os hf; exact r_flat ⟨trivial, trivial⟩ rfl (.refl _)

/- spec.l13N -/
def c170 : ACode :=
 (.seq (.reg (tq 2 (.box 5 (.c (.agg [(.int .i64 0), (.int .i64 0), (.str []), .nil, .nil]))) .done))
 (.seq (.reg (tm 3 (.t 0) (tq 4 (.build [(.int .i64 0), (.int .i64 0), (.str []), .nil, .nil] [(0, 1, (.c (.int .i64 2))), (1, 1, (.t 3))]) (.q ⟨none, none, .store 5 (.t 2) (.t 4)⟩
 .done))))
 .ret))
theorem fc170 : fcomp Try.prog Try.f170 = some (c170.erase, [.load 5 true (.t 2)], 5) := by kernel_rfl
def spec_l13N (n_1 : Int) : Option GJson :=
    some (⟨2, n_1, [], [], []⟩ : GJson)
theorem w_spec_l13N (n_1 : Int) (r : GJson) (hf : spec_l13N n_1 = some r) : CallOK Try.prog 170 .fresh [(.int .i64 n_1)] (encGJson r) := by
  refine CallOK.of_awp mixed Try.func170 fc170 nle ?_
  rw [argT_eq]
  unfold spec_l13N at hf
  unfold c170
  refine (show awp Try.prog true 0 _ (ofL [(0, (.int .i64 n_1))]) [] _ from ?_)
  refine awp_seq ?_
  refine w_reg ?_
  refine s_do (o_box (j := 0) (c := (.agg [(.int .i64 0), (.int .i64 0), (.str []), .nil, .nil])) rfl trivial rfl rfl) ?_
  refine w_done ?_
  refine k_seq ?_
  refine awp_seq ?_
  refine w_reg ?_
  refine s_do (o_mov (.int .i64 n_1) rfl) ?_
  refine s_do (o_q (.agg [(.int .i64 2), (.int .i64 n_1), (.str []), .nil, .nil]) rfl ⟨⟨rfl, nle, trivial⟩, ⟨⟨rfl, nle, trivial⟩, trivial⟩⟩ rfl) ?_
  refine s_do0 (o_storebox (v := (.agg [(.int .i64 2), (.int .i64 n_1), (.str []), .nil, .nil])) (y' := (.agg [(.int .i64 2), (.int .i64 n_1), (.str []), .nil, .nil])) rfl rfl rfl trivial ⟨rfl, nle⟩ ⟨⟨rfl, trivial⟩, ⟨⟨rfl, trivial⟩, ⟨⟨rfl, trivial⟩, ⟨⟨rfl, trivial⟩, ⟨⟨rfl, trivial⟩, trivial⟩⟩⟩⟩⟩ rfl) ?_
  refine w_done ?_
  refine k_seq ?_
  refine w_ret ?_
  obtain rfl := os hf
  exact r_fresh ⟨nle, trivial⟩ rfl (by decide) (leJ (x := (⟨2, n_1, [], [], []⟩ : GJson)) (.agg (.cons (.refl _) (.cons (.refl _) (.cons (.refl _) (.cons (.nil _) (.cons (.nil _) .nil)))))))

/- spec.l13T -/
def c171 : ACode :=
 (.seq (.reg (tq 2 (.box 5 (.c (.agg [(.int .i64 0), (.int .i64 0), (.str []), .nil, .nil]))) .done))
 (.seq (.reg (tm 3 (.t 0) (tq 4 (.build [(.int .i64 0), (.int .i64 0), (.str []), .nil, .nil] [(0, 1, (.c (.int .i64 3))), (2, 1, (.t 3))]) (.q ⟨none, none, .store 5 (.t 2) (.t 4)⟩
 .done))))
 .ret))
theorem fc171 : fcomp Try.prog Try.f171 = some (c171.erase, [.load 5 true (.t 2)], 5) := by kernel_rfl
def spec_l13T (t_1 : Str) : Option GJson :=
    some (⟨3, 0, t_1, [], []⟩ : GJson)
theorem w_spec_l13T (t_1 : Str) (r : GJson) (hf : spec_l13T t_1 = some r) : CallOK Try.prog 171 .fresh [(.str t_1)] (encGJson r) := by
  refine CallOK.of_awp mixed Try.func171 fc171 nle ?_
  rw [argT_eq]
  unfold spec_l13T at hf
  unfold c171
  refine (show awp Try.prog true 0 _ (ofL [(0, (.str t_1))]) [] _ from ?_)
  refine awp_seq ?_
  refine w_reg ?_
  refine s_do (o_box (j := 0) (c := (.agg [(.int .i64 0), (.int .i64 0), (.str []), .nil, .nil])) rfl trivial rfl rfl) ?_
  refine w_done ?_
  refine k_seq ?_
  refine awp_seq ?_
  refine w_reg ?_
  refine s_do (o_mov (.str t_1) rfl) ?_
  refine s_do (o_q (.agg [(.int .i64 3), (.int .i64 0), (.str t_1), .nil, .nil]) rfl ⟨⟨rfl, nle, trivial⟩, ⟨⟨rfl, nle, trivial⟩, trivial⟩⟩ rfl) ?_
  refine s_do0 (o_storebox (v := (.agg [(.int .i64 3), (.int .i64 0), (.str t_1), .nil, .nil])) (y' := (.agg [(.int .i64 3), (.int .i64 0), (.str t_1), .nil, .nil])) rfl rfl rfl trivial ⟨rfl, nle⟩ ⟨⟨rfl, trivial⟩, ⟨⟨rfl, trivial⟩, ⟨⟨rfl, trivial⟩, ⟨⟨rfl, trivial⟩, ⟨⟨rfl, trivial⟩, trivial⟩⟩⟩⟩⟩ rfl) ?_
  refine w_done ?_
  refine k_seq ?_
  refine w_ret ?_
  obtain rfl := os hf
  exact r_fresh ⟨nle, trivial⟩ rfl (by decide) (leJ (x := (⟨3, 0, t_1, [], []⟩ : GJson)) (.agg (.cons (.refl _) (.cons (.refl _) (.cons (.refl _) (.cons (.nil _) (.cons (.nil _) .nil)))))))

/- spec.l01Bit -/
def c215 : ACode :=
 (.seq (.reg (tm 2 (.c (.int .i64 0)) .done))
 (.seq (.seq (.reg (tm 3 (.t 0) .done))
 (.cond (.t 3) (.seq (.reg (tm 2 (.c (.int .i64 1)) .done))
 .ret)
 .skip))
 (.seq (.reg (tm 2 (.c (.int .i64 0)) .done))
 .ret)))
theorem fc215 : fcomp Try.prog Try.f215 = some (c215.erase, [.mov (.t 2)], 4) := by kernel_rfl
def spec_l01Bit (b_1 : Bool) : Option Int :=
    if b_1 then
    some 1
    else
    some 0
theorem w_spec_l01Bit (b_1 : Bool) (r : Int) (hf : spec_l01Bit b_1 = some r) : CallOK Try.prog 215 .flat [(.bool b_1)] (.int .i64 r) := by
  refine CallOK.of_awp mixed Try.func215 fc215 nle ?_
  rw [argT_eq]
  unfold spec_l01Bit at hf
  unfold c215
  refine (show awp Try.prog false 0 _ (ofL [(0, (.bool b_1))]) [] _ from ?_)
  refine awp_seq ?_
  refine w_reg ?_
  refine s_do (o_mov (.int .i64 0) rfl) ?_
  refine w_done ?_
  refine k_seq ?_
  refine awp_seq ?_
  refine awp_seq ?_
  refine w_reg ?_
  refine s_do (o_mov (.bool b_1) rfl) ?_
  refine w_done ?_
  refine k_seq ?_
  rcases oi hf with ⟨c2, hf⟩ | ⟨c2, hf⟩
  · refine w_condt rfl c2 ?_
    refine awp_seq ?_
    refine w_reg ?_
    refine s_do (o_mov (.int .i64 1) rfl) ?_
    refine w_done ?_
    refine k_seq ?_
    refine w_ret ?_
    obtain rfl := os hf
    exact r_flat ⟨trivial, trivial⟩ rfl (.refl _)
  · refine w_condf rfl (bf c2) ?_
    refine w_skip ?_
    refine k_seq ?_
    refine awp_seq ?_
    refine w_reg ?_
    refine s_do (o_mov (.int .i64 0) rfl) ?_
    refine w_done ?_
    refine k_seq ?_
    refine w_ret ?_
    obtain rfl := os hf
    exact r_flat ⟨trivial, trivial⟩ rfl (.refl _)

/- spec.l13B -/
def c172 : ACode :=
 (.seq (.reg (tq 2 (.box 5 (.c (.agg [(.int .i64 0), (.int .i64 0), (.str []), .nil, .nil]))) .done))
 (.seq (.reg (tm 3 (.t 0) (tq 4 (.call 215 [(.t 3)]) (tq 5 (.build [(.int .i64 0), (.int .i64 0), (.str []), .nil, .nil] [(0, 1, (.c (.int .i64 1))), (1, 1, (.t 4))]) (.q ⟨none, none, .store 5 (.t 2) (.t 5)⟩
 .done)))))
 .ret))
theorem fc172 : fcomp Try.prog Try.f172 = some (c172.erase, [.load 5 true (.t 2)], 6) := by kernel_rfl
def spec_l13B (b_1 : Bool) : Option GJson :=
    (spec_l01Bit b_1).bind fun r_2 =>
    some (⟨1, r_2, [], [], []⟩ : GJson)
theorem w_spec_l13B (b_1 : Bool) (r : GJson) (hf : spec_l13B b_1 = some r) : CallOK Try.prog 172 .fresh [(.bool b_1)] (encGJson r) := by
  refine CallOK.of_awp mixed Try.func172 fc172 nle ?_
  rw [argT_eq]
  unfold spec_l13B at hf
  unfold c172
  refine (show awp Try.prog true 0 _ (ofL [(0, (.bool b_1))]) [] _ from ?_)
  refine awp_seq ?_
  refine w_reg ?_
  refine s_do (o_box (j := 0) (c := (.agg [(.int .i64 0), (.int .i64 0), (.str []), .nil, .nil])) rfl trivial rfl rfl) ?_
  refine w_done ?_
  refine k_seq ?_
  refine awp_seq ?_
  refine w_reg ?_
  obtain ⟨r_2, er3, hf⟩ := ob hf
  refine s_do (o_mov (.bool b_1) rfl) ?_
  refine s_do (o_call (w_spec_l01Bit _ _ er3) rfl (.refl _) rfl) ?_
  refine s_do (o_q (.agg [(.int .i64 1), (.int .i64 r_2), (.str []), .nil, .nil]) rfl ⟨⟨rfl, nle, trivial⟩, ⟨⟨rfl, nle, trivial⟩, trivial⟩⟩ rfl) ?_
  refine s_do0 (o_storebox (v := (.agg [(.int .i64 1), (.int .i64 r_2), (.str []), .nil, .nil])) (y' := (.agg [(.int .i64 1), (.int .i64 r_2), (.str []), .nil, .nil])) rfl rfl rfl trivial ⟨rfl, nle⟩ ⟨⟨rfl, trivial⟩, ⟨⟨rfl, trivial⟩, ⟨⟨rfl, trivial⟩, ⟨⟨rfl, trivial⟩, ⟨⟨rfl, trivial⟩, trivial⟩⟩⟩⟩⟩ rfl) ?_
  refine w_done ?_
  refine k_seq ?_
  refine w_ret ?_
  obtain rfl := os hf
  exact r_fresh ⟨nle, trivial⟩ rfl (by decide) (leJ (x := (⟨1, r_2, [], [], []⟩ : GJson)) (.agg (.cons (.refl _) (.cons (.refl _) (.cons (.refl _) (.cons (.nil _) (.cons (.nil _) .nil)))))))

/- spec.l13L -/
def c173 : ACode :=
 (.seq (.reg (tq 2 (.box 5 (.c (.agg [(.int .i64 0), (.int .i64 0), (.str []), .nil, .nil]))) .done))
 (.seq (.reg (tq 3 (.bslice 5 []) (tm 4 (.t 0) (tq 5 (.append 5 80 (.t 3) (.t 4)) (tq 6 (.build [(.int .i64 0), (.int .i64 0), (.str []), .nil, .nil] [(0, 1, (.c (.int .i64 4))), (4, 1, (.t 5))]) (.q ⟨none, none, .store 5 (.t 2) (.t 6)⟩
 .done))))))
 .ret))
theorem fc173 : fcomp Try.prog Try.f173 = some (c173.erase, [.load 5 true (.t 2)], 7) := by kernel_rfl
def spec_l13L (list_1 : (List GJson)) : Option GJson :=
    if ([] ++ list_1).length ≤ 2 ^ 30 then
    some (⟨4, 0, [], [], [] ++ list_1⟩ : GJson)
    else none
theorem w_spec_l13L (list_1 : (List GJson)) (r : GJson) (hf : spec_l13L list_1 = some r) : CallOK Try.prog 173 .weak [(.lst 5 (list_1.map encGJson))] (encGJson r) := by
 refine CallOK.of_awp mixed Try.func173 fc173 nle ?_; rw [argT_eq]; unfold spec_l13L at hf; unfold c173; refine (show awp Try.prog false 0 _ (ofL [(0, (.lst 5 (list_1.map encGJson)))]) [] _ from ?_); refine awp_seq <| w_reg <| s_do (o_box (j := 0) (c := (.agg [(.int .i64 0), (.int .i64 0), (.str []), .nil, .nil])) rfl trivial rfl rfl) <| w_done <| k_seq <| awp_seq <| w_reg <| ?_
 obtain ⟨g2, hf⟩ := og hf
 refine s_do (o_bslice (j := 1) (as' := []) rfl (fun _ => by decide) trivial (.refl _) rfl rfl rfl) ?_; refine s_mov (.lst 5 (list_1.map encGJson)) rfl ?_
 refine s_do (o_appendw (j := 2) (L := (([] ++ list_1).map encGJson)) (len := ([] ++ list_1).length) rfl rfl ((by simp)) (by simp <;> omega) g2 rfl rfl) ?_
 refine s_q (.agg [(.int .i64 4), (.int .i64 0), (.str []), .nil, (.own 2 0 (([] ++ list_1).length))]) rfl ⟨⟨rfl, nle, trivial⟩, ⟨⟨rfl, nle, trivial⟩, trivial⟩⟩ rfl <| s_do0 (o_storebox (v := (.agg [(.int .i64 4), (.int .i64 0), (.str []), .nil, (.own 2 0 (([] ++ list_1).length))])) (y' := (.agg [(.int .i64 4), (.int .i64 0), (.str []), .nil, (.own 2 0 (([] ++ list_1).length))])) rfl rfl rfl trivial ⟨rfl, nle⟩ ⟨⟨rfl, trivial⟩, ⟨⟨rfl, trivial⟩, ⟨⟨rfl, trivial⟩, ⟨⟨rfl, trivial⟩, ⟨⟨rfl, trivial⟩, trivial⟩⟩⟩⟩⟩ rfl) <| w_done <| k_seq <| w_ret <| ?_; obtain rfl := os hf; exact r_weak ⟨nle, trivial⟩ rfl (leJ (x := (⟨4, 0, [], [], [] ++ list_1⟩ : GJson)) (.agg (.cons (.refl _) (.cons (.refl _) (.cons (.refl _) (.cons (.nil _) (.cons (.of_eq (congrArg (AV.lst _) (tko (enc := encGJson) ([] ++ list_1)))) .nil)))))))

/- spec.l13L -/
def c173_h0 : ACode :=
 (.seq (.reg (tq 2 (.box 5 (.c (.agg [(.int .i64 0), (.int .i64 0), (.str []), .nil, .nil]))) .done))
 (.seq (.reg (tq 3 (.bslice 5 []) (tm 4 (.t 0) (tq 5 (.append 5 80 (.t 3) (.t 4)) (tq 6 (.build [(.int .i64 0), (.int .i64 0), (.str []), .nil, .nil] [(0, 1, (.c (.int .i64 4))), (4, 1, (.t 5))]) (.q ⟨none, none, .store 5 (.t 2) (.t 6)⟩
 .done))))))
 .ret))
theorem fc173_h0 : fcomp Try.prog Try.f173 = some (c173_h0.erase, [.load 5 true (.t 2)], 7) := by kernel_rfl
def spec_l13L_h0 (list_1 : (List GJson)) : Option GJson :=
    if ([] ++ list_1).length ≤ 2 ^ 30 then
    some (⟨4, 0, [], [], [] ++ list_1⟩ : GJson)
    else none
theorem w_spec_l13L_h0 (list_1 : (List GJson)) (r : GJson) (hf : spec_l13L_h0 list_1 = some r) : CallHeap Try.prog true 173 [(.own 0 0 list_1.length)] [.row 5 (list_1.map encGJson)] (.agg [(.int .i64 r.Kind), (.int .i64 r.N), (.str r.T), (.own 1 0 r.Keys.length), (.own 2 0 r.Items.length)]) [.dead, .row 1 (r.Keys.map AV.str), .row 5 (r.Items.map encGJson)] := by
 refine CallHeap.of_awp mixed Try.func173 fc173_h0 nle ?_; rw [argT_eq]; unfold spec_l13L_h0 at hf; unfold c173_h0; refine (show awp Try.prog true 1 _ (ofL [(0, (.own 0 0 list_1.length))]) [.row 5 (list_1.map encGJson)] _ from ?_); refine awp_seq <| w_reg <| s_do (o_box (j := 1) (c := (.agg [(.int .i64 0), (.int .i64 0), (.str []), .nil, .nil])) rfl trivial rfl rfl) <| w_done <| k_seq <| awp_seq <| w_reg <| ?_
 obtain ⟨g2, hf⟩ := og hf
 refine s_do (o_bslice (j := 2) (as' := []) rfl (fun _ => by decide) trivial (.refl _) rfl rfl rfl) ?_; refine s_mov (.own 0 0 list_1.length) rfl ?_
 refine s_do (o_appendd (j := 3) (L := (([] ++ list_1).map encGJson)) (len := ([] ++ list_1).length) rfl true rfl rfl (fun h => Bool.noConfusion h) (fun _ _ h => (ownl (show AV.own _ _ _ = AV.lst _ _ from h)).elim) (by decide) ((by simp [← List.map_take])) (by simp <;> omega) g2 rfl rfl) ?_
 refine s_q (.agg [(.int .i64 4), (.int .i64 0), (.str []), .nil, (.own 3 0 (([] ++ list_1).length))]) rfl ⟨⟨rfl, nle, trivial⟩, ⟨⟨rfl, nle, trivial⟩, trivial⟩⟩ rfl <| s_do0 (o_storebox (v := (.agg [(.int .i64 4), (.int .i64 0), (.str []), .nil, (.own 3 0 (([] ++ list_1).length))])) (y' := (.agg [(.int .i64 4), (.int .i64 0), (.str []), .nil, (.own 3 0 (([] ++ list_1).length))])) rfl rfl rfl trivial ⟨rfl, nle⟩ ⟨⟨rfl, trivial⟩, ⟨⟨rfl, trivial⟩, ⟨⟨rfl, trivial⟩, ⟨⟨rfl, trivial⟩, ⟨⟨rfl, trivial⟩, trivial⟩⟩⟩⟩⟩ rfl) <| w_done <| k_seq <| w_ret <| ?_; obtain rfl := os hf; exact r_heap [.nilC 1 3 1] [0, 4, 3] rfl ⟨nle, trivial⟩ rfl (.refl _) (.refl _)

/- spec.l13Atom -/
def c108 : ACode :=
 (.seq (.reg (tq 1 (.box 3 (.t 0)) (tq 2 (.box 5 (.c (.agg [(.int .i64 0), (.int .i64 0), (.str []), .nil, .nil]))) .done)))
 (.seq (.seq (.reg (tq 3 (.faddr 0 (.t 1)) (tq 4 (.load 1 false (.t 3)) .done)))
 (.block 0 (.seq (.reg (tq 6 (.bin .eql (.t 4) (.c (.int .i64 1))) (tm 5 (.t 6) .done)))
 (.cond (.t 5) (.seq (.reg (tq 7 (.faddr 1 (.t 1)) (tq 8 (.load 1 false (.t 7)) (tq 9 (.call 170 [(.t 8)]) (.q ⟨none, none, .store 5 (.t 2) (.t 9)⟩
 .done)))))
 .ret)
 (.seq (.reg (tq 11 (.bin .eql (.t 4) (.c (.int .i64 2))) (tm 10 (.t 11) .done)))
 (.cond (.t 10) (.seq (.reg (tq 12 (.faddr 2 (.t 1)) (tq 13 (.load 1 false (.t 12)) (tq 14 (.call 171 [(.t 13)]) (.q ⟨none, none, .store 5 (.t 2) (.t 14)⟩
 .done)))))
 .ret)
 (.seq (.reg (tq 16 (.bin .eql (.t 4) (.c (.int .i64 3))) (tm 15 (.t 16) .done)))
 (.cond (.t 15) (.seq (.reg (tq 17 (.faddr 1 (.t 1)) (tq 18 (.load 1 false (.t 17)) (tq 19 (.bin .eql (.t 18) (.c (.int .i64 1))) (tq 20 (.call 172 [(.t 19)]) (.q ⟨none, none, .store 5 (.t 2) (.t 20)⟩
 .done))))))
 .ret)
 .skip))))))))
 (.seq (.reg (tq 22 (.faddr 1 (.t 1)) (tq 23 (.load 1 false (.t 22)) (.l ⟨(some 21), none, .call 171 [(.c (.str [117, 117, 105, 100]))]⟩ [⟨(some 23), none, .load 1 false (.t 22)⟩, ⟨(some 22), none, .faddr 1 (.t 1)⟩]
 (.l ⟨(some 24), none, .call 170 [(.t 23)]⟩ []
 (.l ⟨(some 25), none, .bslice 5 [(.t 21), (.t 24)]⟩ []
 (.l ⟨(some 26), none, .call 173 [(.t 25)]⟩ []
 (.l ⟨none, none, .store 5 (.t 2) (.t 26)⟩ []
 .done .non) .non) .non) .non) .non))))
 .ret)))
theorem fc108 : fcomp Try.prog Try.f108 = some (c108.erase, [.load 5 true (.t 2)], 27) := by kernel_rfl
def spec_l13Atom (a_1 : GAtom) : Option GJson :=
    if (a_1.Kind == 1) then
    (spec_l13N a_1.N).bind fun r_3 =>
    some r_3
    else
    if (a_1.Kind == 2) then
    (spec_l13T a_1.T).bind fun r_6 =>
    some r_6
    else
    if (a_1.Kind == 3) then
    (spec_l13B (a_1.N == 1)).bind fun r_9 =>
    some r_9
    else
    (spec_l13T [117, 117, 105, 100]).bind fun r_11 =>
    (spec_l13N a_1.N).bind fun r_13 =>
    (spec_l13L_h0 [r_11, r_13]).bind fun r_15 =>
    some r_15
theorem w_spec_l13Atom (a_1 : GAtom) (r : GJson) (hf : spec_l13Atom a_1 = some r) : CallOK Try.prog 108 .fresh [(encGAtom a_1)] (encGJson r) := by
 refine CallOK.of_awp mixed Try.func108 fc108 nle ?_; rw [argT_eq]; unfold spec_l13Atom at hf; unfold c108; refine (show awp Try.prog true 0 _ (ofL [(0, (encGAtom a_1))]) [] _ from ?_); refine awp_seq <| w_reg <| s_do (o_box (j := 0) (c := (.agg [(.int .i64 a_1.Kind), (.int .i64 a_1.N), (.str a_1.T)])) rfl trivial rfl rfl) <| s_do (o_box (j := 1) (c := (.agg [(.int .i64 0), (.int .i64 0), (.str []), .nil, .nil])) rfl trivial rfl rfl) <| w_done <| k_seq <| awp_seq <| awp_seq <| w_reg <| s_q (.ptr 0 0 0) rfl trivial rfl <| s_q (.int .i64 a_1.Kind) rfl nle rfl <| w_done <| k_seq <| w_blk <| awp_seq <| w_reg <| s_q (.bool (a_1.Kind == 1)) rfl rfl rfl <| s_mov (.bool (a_1.Kind == 1)) rfl <| w_done <| k_seq <| ?_
 rcases oi hf with ⟨c2, hf⟩ | ⟨c2, hf⟩
 ·refine w_condt rfl c2 <| awp_seq <| w_reg <| ?_
  obtain ⟨r_3, er4, hf⟩ := ob hf
  refine s_q (.ptr 0 0 1) rfl trivial rfl <| s_q (.int .i64 a_1.N) rfl nle rfl <| s_do (o_callf (v := (.agg [(.int .i64 r_3.Kind), (.int .i64 r_3.N), (.str r_3.T), (.own 2 0 r_3.Keys.length), (.own 3 0 r_3.Items.length)])) (h' := [.row 1 (r_3.Keys.map AV.str), .row 5 (r_3.Items.map encGJson)]) (w_spec_l13N _ _ er4) rfl (.refl _) (by simp only [openV, openVs, List.length_map, encGJson_eq, List.nil_append, List.append_nil, List.cons_append]; rfl)) <| s_do0 (o_storebox (v := (.agg [(.int .i64 r_3.Kind), (.int .i64 r_3.N), (.str r_3.T), (.own 2 0 r_3.Keys.length), (.own 3 0 r_3.Items.length)])) (y' := (.agg [(.int .i64 r_3.Kind), (.int .i64 r_3.N), (.str r_3.T), (.own 2 0 r_3.Keys.length), (.own 3 0 r_3.Items.length)])) rfl rfl rfl trivial ⟨rfl, nle⟩ ⟨⟨rfl, trivial⟩, ⟨⟨rfl, trivial⟩, ⟨⟨rfl, trivial⟩, ⟨⟨rfl, trivial⟩, ⟨⟨rfl, trivial⟩, trivial⟩⟩⟩⟩⟩ rfl) <| ?_
  refine w_done <| k_seq <| w_ret <| ?_; obtain rfl := os hf; exact r_fresh ⟨nle, trivial⟩ rfl (by decide) (leJ (x := r_3) (.agg (.cons (.refl _) (.cons (.refl _) (.cons (.refl _) (.cons (.of_eq (congrArg (AV.lst _) (tk (enc := AV.str) r_3.Keys))) (.cons (.of_eq (congrArg (AV.lst _) (tk (enc := encGJson) r_3.Items))) .nil)))))))
 ·refine w_condf rfl (bf c2) <| awp_seq <| w_reg <| s_q (.bool (a_1.Kind == 2)) rfl rfl rfl <| s_mov (.bool (a_1.Kind == 2)) rfl <| w_done <| k_seq <| ?_
  rcases oi hf with ⟨c5, hf⟩ | ⟨c5, hf⟩
  ·refine w_condt rfl c5 <| awp_seq <| w_reg <| ?_
   obtain ⟨r_6, er7, hf⟩ := ob hf
   refine s_q (.ptr 0 0 2) rfl trivial rfl <| s_q (.str a_1.T) rfl nle rfl <| s_do (o_callf (v := (.agg [(.int .i64 r_6.Kind), (.int .i64 r_6.N), (.str r_6.T), (.own 2 0 r_6.Keys.length), (.own 3 0 r_6.Items.length)])) (h' := [.row 1 (r_6.Keys.map AV.str), .row 5 (r_6.Items.map encGJson)]) (w_spec_l13T _ _ er7) rfl (.refl _) (by simp only [openV, openVs, List.length_map, encGJson_eq, List.nil_append, List.append_nil, List.cons_append]; rfl)) <| s_do0 (o_storebox (v := (.agg [(.int .i64 r_6.Kind), (.int .i64 r_6.N), (.str r_6.T), (.own 2 0 r_6.Keys.length), (.own 3 0 r_6.Items.length)])) (y' := (.agg [(.int .i64 r_6.Kind), (.int .i64 r_6.N), (.str r_6.T), (.own 2 0 r_6.Keys.length), (.own 3 0 r_6.Items.length)])) rfl rfl rfl trivial ⟨rfl, nle⟩ ⟨⟨rfl, trivial⟩, ⟨⟨rfl, trivial⟩, ⟨⟨rfl, trivial⟩, ⟨⟨rfl, trivial⟩, ⟨⟨rfl, trivial⟩, trivial⟩⟩⟩⟩⟩ rfl) <| ?_
   refine w_done <| k_seq <| w_ret <| ?_; obtain rfl := os hf; exact r_fresh ⟨nle, trivial⟩ rfl (by decide) (leJ (x := r_6) (.agg (.cons (.refl _) (.cons (.refl _) (.cons (.refl _) (.cons (.of_eq (congrArg (AV.lst _) (tk (enc := AV.str) r_6.Keys))) (.cons (.of_eq (congrArg (AV.lst _) (tk (enc := encGJson) r_6.Items))) .nil)))))))
  ·refine w_condf rfl (bf c5) <| awp_seq <| w_reg <| s_q (.bool (a_1.Kind == 3)) rfl rfl rfl <| s_mov (.bool (a_1.Kind == 3)) rfl <| w_done <| k_seq <| ?_
   rcases oi hf with ⟨c8, hf⟩ | ⟨c8, hf⟩
   ·refine w_condt rfl c8 <| awp_seq <| w_reg <| ?_
    obtain ⟨r_9, er10, hf⟩ := ob hf
    refine s_q (.ptr 0 0 1) rfl trivial rfl <| s_q (.int .i64 a_1.N) rfl nle rfl <| s_q (.bool (a_1.N == 1)) rfl rfl rfl <| s_do (o_callf (v := (.agg [(.int .i64 r_9.Kind), (.int .i64 r_9.N), (.str r_9.T), (.own 2 0 r_9.Keys.length), (.own 3 0 r_9.Items.length)])) (h' := [.row 1 (r_9.Keys.map AV.str), .row 5 (r_9.Items.map encGJson)]) (w_spec_l13B _ _ er10) rfl (.refl _) (by simp only [openV, openVs, List.length_map, encGJson_eq, List.nil_append, List.append_nil, List.cons_append]; rfl)) <| s_do0 (o_storebox (v := (.agg [(.int .i64 r_9.Kind), (.int .i64 r_9.N), (.str r_9.T), (.own 2 0 r_9.Keys.length), (.own 3 0 r_9.Items.length)])) (y' := (.agg [(.int .i64 r_9.Kind), (.int .i64 r_9.N), (.str r_9.T), (.own 2 0 r_9.Keys.length), (.own 3 0 r_9.Items.length)])) rfl rfl rfl trivial ⟨rfl, nle⟩ ⟨⟨rfl, trivial⟩, ⟨⟨rfl, trivial⟩, ⟨⟨rfl, trivial⟩, ⟨⟨rfl, trivial⟩, ⟨⟨rfl, trivial⟩, trivial⟩⟩⟩⟩⟩ rfl) <| ?_
    refine w_done <| k_seq <| w_ret <| ?_; obtain rfl := os hf; exact r_fresh ⟨nle, trivial⟩ rfl (by decide) (leJ (x := r_9) (.agg (.cons (.refl _) (.cons (.refl _) (.cons (.refl _) (.cons (.of_eq (congrArg (AV.lst _) (tk (enc := AV.str) r_9.Keys))) (.cons (.of_eq (congrArg (AV.lst _) (tk (enc := encGJson) r_9.Items))) .nil)))))))
   ·refine w_condf rfl (bf c8) <| w_skip <| k_blk <| k_seq <| awp_seq <| w_reg <| ?_
    obtain ⟨r_11, er12, hf⟩ := ob hf
    obtain ⟨r_13, er14, hf⟩ := ob hf
    obtain ⟨r_15, er16, hf⟩ := ob hf
    refine s_q (.ptr 0 0 1) rfl trivial rfl <| s_q (.int .i64 a_1.N) rfl nle rfl <| s_dol (o_callf (v := (.agg [(.int .i64 r_11.Kind), (.int .i64 r_11.N), (.str r_11.T), (.own 2 0 r_11.Keys.length), (.own 3 0 r_11.Items.length)])) (h' := [.row 1 (r_11.Keys.map AV.str), .row 5 (r_11.Items.map encGJson)]) (w_spec_l13T _ _ er12) rfl (.refl _) (by simp only [openV, openVs, List.length_map, encGJson_eq, List.nil_append, List.append_nil, List.cons_append]; rfl)) (.inr ⟨⟨nle, rfl⟩, ⟨⟨trivial, rfl⟩, trivial⟩⟩) trivial <| s_dol (o_callf (v := (.agg [(.int .i64 r_13.Kind), (.int .i64 r_13.N), (.str r_13.T), (.own 4 0 r_13.Keys.length), (.own 5 0 r_13.Items.length)])) (h' := [.row 1 (r_13.Keys.map AV.str), .row 5 (r_13.Items.map encGJson)]) (w_spec_l13N _ _ er14) rfl (.refl _) (by simp only [openV, openVs, List.length_map, encGJson_eq, List.nil_append, List.append_nil, List.cons_append]; rfl)) trivial trivial <| ?_
    refine s_dol (o_bslice (j := 6) (as' := [(encGJson r_11), (encGJson r_13)]) rfl (fun _ => by decide) ⟨rfl, ⟨rfl, trivial⟩⟩ (.cons (leJ (x := r_11) (.agg (.cons (.refl _) (.cons (.refl _) (.cons (.refl _) (.cons (.of_eq (congrArg (AV.lst _) (tk (enc := AV.str) r_11.Keys))) (.cons (.of_eq (congrArg (AV.lst _) (tk (enc := encGJson) r_11.Items))) .nil))))))) (.cons (leJ (x := r_13) (.agg (.cons (.refl _) (.cons (.refl _) (.cons (.refl _) (.cons (.of_eq (congrArg (AV.lst _) (tk (enc := AV.str) r_13.Keys))) (.cons (.of_eq (congrArg (AV.lst _) (tk (enc := encGJson) r_13.Items))) .nil))))))) .nil)) rfl rfl rfl) trivial trivial ?_; refine s_dol (o_callh (v := (.agg [(.int .i64 r_15.Kind), (.int .i64 r_15.N), (.str r_15.T), (.own 7 0 r_15.Keys.length), (.own 8 0 r_15.Items.length)])) (h2 := [.box 3 (.agg [(.int .i64 a_1.Kind), (.int .i64 a_1.N), (.str a_1.T)]), .box 5 (.agg [(.int .i64 0), (.int .i64 0), (.str []), .nil, .nil]), .dead, .dead, .dead, .dead, .dead, .row 1 (r_15.Keys.map AV.str), .row 5 (r_15.Items.map encGJson)]) [] [6] (fun _ => rfl) (w_spec_l13L_h0 _ _ er16) rfl (.cons (.of_eq (congrArg (AV.own _ 0) (by simp))) .nil) (.refl _) rfl rfl) trivial trivial ?_
    refine s_dol0 (o_storebox (v := (.agg [(.int .i64 r_15.Kind), (.int .i64 r_15.N), (.str r_15.T), (.own 7 0 r_15.Keys.length), (.own 8 0 r_15.Items.length)])) (y' := (.agg [(.int .i64 r_15.Kind), (.int .i64 r_15.N), (.str r_15.T), (.own 7 0 r_15.Keys.length), (.own 8 0 r_15.Items.length)])) rfl rfl rfl trivial ⟨rfl, nle⟩ ⟨⟨rfl, trivial⟩, ⟨⟨rfl, trivial⟩, ⟨⟨rfl, trivial⟩, ⟨⟨rfl, trivial⟩, ⟨⟨rfl, trivial⟩, trivial⟩⟩⟩⟩⟩ rfl) trivial trivial <| w_done <| k_seq <| w_ret <| ?_; obtain rfl := os hf; exact r_fresh ⟨nle, trivial⟩ rfl (by decide) (leJ (x := r_15) (.agg (.cons (.refl _) (.cons (.refl _) (.cons (.refl _) (.cons (.of_eq (congrArg (AV.lst _) (tk (enc := AV.str) r_15.Keys))) (.cons (.of_eq (congrArg (AV.lst _) (tk (enc := encGJson) r_15.Items))) .nil)))))))

/- spec.l01Own -/
def c107 : ACode :=
 (.seq (.reg (tq 1 (.box 5 (.t 0)) (tq 2 (.box 5 (.c (.agg [(.int .i64 0), (.int .i64 0), (.str []), .nil, .nil]))) .done)))
 (.seq (.reg (tq 5 (.faddr 0 (.t 1)) (tq 6 (.load 1 false (.t 5)) (tq 7 (.faddr 1 (.t 1)) (tq 8 (.load 1 false (.t 7)) (tq 9 (.faddr 2 (.t 1)) (tq 10 (.load 1 false (.t 9)) (tq 12 (.faddr 3 (.t 1)) (tq 13 (.load 1 false (.t 12)) (.l ⟨(some 11), none, .bslice 1 []⟩ [⟨(some 13), none, .load 1 false (.t 12)⟩, ⟨(some 12), none, .faddr 3 (.t 1)⟩, ⟨(some 10), none, .load 1 false (.t 9)⟩, ⟨(some 9), none, .faddr 2 (.t 1)⟩, ⟨(some 8), none, .load 1 false (.t 7)⟩, ⟨(some 7), none, .faddr 1 (.t 1)⟩, ⟨(some 6), none, .load 1 false (.t 5)⟩, ⟨(some 5), none, .faddr 0 (.t 1)⟩]
 (.l ⟨(some 14), none, .append 1 16 (.t 11) (.t 13)⟩ [⟨(some 10), none, .load 1 false (.t 9)⟩, ⟨(some 9), none, .faddr 2 (.t 1)⟩, ⟨(some 8), none, .load 1 false (.t 7)⟩, ⟨(some 7), none, .faddr 1 (.t 1)⟩, ⟨(some 6), none, .load 1 false (.t 5)⟩, ⟨(some 5), none, .faddr 0 (.t 1)⟩]
 (.l ⟨(some 15), none, .bslice 5 []⟩ [⟨(some 13), none, .load 1 false (.t 12)⟩, ⟨(some 12), none, .faddr 3 (.t 1)⟩, ⟨(some 10), none, .load 1 false (.t 9)⟩, ⟨(some 9), none, .faddr 2 (.t 1)⟩, ⟨(some 8), none, .load 1 false (.t 7)⟩, ⟨(some 7), none, .faddr 1 (.t 1)⟩, ⟨(some 6), none, .load 1 false (.t 5)⟩, ⟨(some 5), none, .faddr 0 (.t 1)⟩]
 (tq 16 (.build [(.int .i64 0), (.int .i64 0), (.str []), .nil, .nil] [(0, 1, (.t 6)), (1, 1, (.t 8)), (2, 1, (.t 10)), (3, 1, (.t 14)), (4, 1, (.t 15))]) (.l ⟨(some 3), none, .box 5 (.c (.agg [(.int .i64 0), (.int .i64 0), (.str []), .nil, .nil]))⟩ [⟨(some 16), none, .build [(.int .i64 0), (.int .i64 0), (.str []), .nil, .nil] [(0, 1, (.t 6)), (1, 1, (.t 8)), (2, 1, (.t 10)), (3, 1, (.t 14)), (4, 1, (.t 15))]⟩, ⟨(some 13), none, .load 1 false (.t 12)⟩, ⟨(some 12), none, .faddr 3 (.t 1)⟩, ⟨(some 10), none, .load 1 false (.t 9)⟩, ⟨(some 9), none, .faddr 2 (.t 1)⟩, ⟨(some 8), none, .load 1 false (.t 7)⟩, ⟨(some 7), none, .faddr 1 (.t 1)⟩, ⟨(some 6), none, .load 1 false (.t 5)⟩, ⟨(some 5), none, .faddr 0 (.t 1)⟩]
 (.l ⟨none, none, .store 5 (.t 3) (.t 16)⟩ []
 .done .non) .non)) (.l ⟨(some 3), none, .box 5 (.c (.agg [(.int .i64 0), (.int .i64 0), (.str []), .nil, .nil]))⟩ [⟨(some 13), none, .load 1 false (.t 12)⟩, ⟨(some 12), none, .faddr 3 (.t 1)⟩, ⟨(some 10), none, .load 1 false (.t 9)⟩, ⟨(some 9), none, .faddr 2 (.t 1)⟩, ⟨(some 8), none, .load 1 false (.t 7)⟩, ⟨(some 7), none, .faddr 1 (.t 1)⟩, ⟨(some 6), none, .load 1 false (.t 5)⟩, ⟨(some 5), none, .faddr 0 (.t 1)⟩]
 (.l ⟨(some 15), none, .bslice 5 []⟩ [⟨(some 13), none, .load 1 false (.t 12)⟩, ⟨(some 12), none, .faddr 3 (.t 1)⟩, ⟨(some 10), none, .load 1 false (.t 9)⟩, ⟨(some 9), none, .faddr 2 (.t 1)⟩, ⟨(some 8), none, .load 1 false (.t 7)⟩, ⟨(some 7), none, .faddr 1 (.t 1)⟩, ⟨(some 6), none, .load 1 false (.t 5)⟩, ⟨(some 5), none, .faddr 0 (.t 1)⟩]
 (tq 16 (.build [(.int .i64 0), (.int .i64 0), (.str []), .nil, .nil] [(0, 1, (.t 6)), (1, 1, (.t 8)), (2, 1, (.t 10)), (3, 1, (.t 14)), (4, 1, (.t 15))]) (.l ⟨none, none, .store 5 (.t 3) (.t 16)⟩ []
 .done .non)) .non) .non)) (.l ⟨(some 15), none, .bslice 5 []⟩ [⟨(some 13), none, .load 1 false (.t 12)⟩, ⟨(some 12), none, .faddr 3 (.t 1)⟩, ⟨(some 10), none, .load 1 false (.t 9)⟩, ⟨(some 9), none, .faddr 2 (.t 1)⟩, ⟨(some 8), none, .load 1 false (.t 7)⟩, ⟨(some 7), none, .faddr 1 (.t 1)⟩, ⟨(some 6), none, .load 1 false (.t 5)⟩, ⟨(some 5), none, .faddr 0 (.t 1)⟩]
 (.l ⟨(some 14), none, .append 1 16 (.t 11) (.t 13)⟩ [⟨(some 10), none, .load 1 false (.t 9)⟩, ⟨(some 9), none, .faddr 2 (.t 1)⟩, ⟨(some 8), none, .load 1 false (.t 7)⟩, ⟨(some 7), none, .faddr 1 (.t 1)⟩, ⟨(some 6), none, .load 1 false (.t 5)⟩, ⟨(some 5), none, .faddr 0 (.t 1)⟩]
 (tq 16 (.build [(.int .i64 0), (.int .i64 0), (.str []), .nil, .nil] [(0, 1, (.t 6)), (1, 1, (.t 8)), (2, 1, (.t 10)), (3, 1, (.t 14)), (4, 1, (.t 15))]) (.l ⟨(some 3), none, .box 5 (.c (.agg [(.int .i64 0), (.int .i64 0), (.str []), .nil, .nil]))⟩ [⟨(some 16), none, .build [(.int .i64 0), (.int .i64 0), (.str []), .nil, .nil] [(0, 1, (.t 6)), (1, 1, (.t 8)), (2, 1, (.t 10)), (3, 1, (.t 14)), (4, 1, (.t 15))]⟩, ⟨(some 13), none, .load 1 false (.t 12)⟩, ⟨(some 12), none, .faddr 3 (.t 1)⟩, ⟨(some 10), none, .load 1 false (.t 9)⟩, ⟨(some 9), none, .faddr 2 (.t 1)⟩, ⟨(some 8), none, .load 1 false (.t 7)⟩, ⟨(some 7), none, .faddr 1 (.t 1)⟩, ⟨(some 6), none, .load 1 false (.t 5)⟩, ⟨(some 5), none, .faddr 0 (.t 1)⟩]
 (.l ⟨none, none, .store 5 (.t 3) (.t 16)⟩ []
 .done .non) .non)) (.l ⟨(some 3), none, .box 5 (.c (.agg [(.int .i64 0), (.int .i64 0), (.str []), .nil, .nil]))⟩ [⟨(some 13), none, .load 1 false (.t 12)⟩, ⟨(some 12), none, .faddr 3 (.t 1)⟩, ⟨(some 10), none, .load 1 false (.t 9)⟩, ⟨(some 9), none, .faddr 2 (.t 1)⟩, ⟨(some 8), none, .load 1 false (.t 7)⟩, ⟨(some 7), none, .faddr 1 (.t 1)⟩, ⟨(some 6), none, .load 1 false (.t 5)⟩, ⟨(some 5), none, .faddr 0 (.t 1)⟩]
 (.l ⟨(some 14), none, .append 1 16 (.t 11) (.t 13)⟩ [⟨(some 10), none, .load 1 false (.t 9)⟩, ⟨(some 9), none, .faddr 2 (.t 1)⟩, ⟨(some 8), none, .load 1 false (.t 7)⟩, ⟨(some 7), none, .faddr 1 (.t 1)⟩, ⟨(some 6), none, .load 1 false (.t 5)⟩, ⟨(some 5), none, .faddr 0 (.t 1)⟩]
 (tq 16 (.build [(.int .i64 0), (.int .i64 0), (.str []), .nil, .nil] [(0, 1, (.t 6)), (1, 1, (.t 8)), (2, 1, (.t 10)), (3, 1, (.t 14)), (4, 1, (.t 15))]) (.l ⟨none, none, .store 5 (.t 3) (.t 16)⟩ []
 .done .non)) .non) .non)) (.l ⟨(some 3), none, .box 5 (.c (.agg [(.int .i64 0), (.int .i64 0), (.str []), .nil, .nil]))⟩ [⟨(some 13), none, .load 1 false (.t 12)⟩, ⟨(some 12), none, .faddr 3 (.t 1)⟩, ⟨(some 10), none, .load 1 false (.t 9)⟩, ⟨(some 9), none, .faddr 2 (.t 1)⟩, ⟨(some 8), none, .load 1 false (.t 7)⟩, ⟨(some 7), none, .faddr 1 (.t 1)⟩, ⟨(some 6), none, .load 1 false (.t 5)⟩, ⟨(some 5), none, .faddr 0 (.t 1)⟩]
 (.l ⟨(some 14), none, .append 1 16 (.t 11) (.t 13)⟩ [⟨(some 10), none, .load 1 false (.t 9)⟩, ⟨(some 9), none, .faddr 2 (.t 1)⟩, ⟨(some 8), none, .load 1 false (.t 7)⟩, ⟨(some 7), none, .faddr 1 (.t 1)⟩, ⟨(some 6), none, .load 1 false (.t 5)⟩, ⟨(some 5), none, .faddr 0 (.t 1)⟩]
 (.l ⟨(some 15), none, .bslice 5 []⟩ [⟨(some 13), none, .load 1 false (.t 12)⟩, ⟨(some 12), none, .faddr 3 (.t 1)⟩, ⟨(some 10), none, .load 1 false (.t 9)⟩, ⟨(some 9), none, .faddr 2 (.t 1)⟩, ⟨(some 8), none, .load 1 false (.t 7)⟩, ⟨(some 7), none, .faddr 1 (.t 1)⟩, ⟨(some 6), none, .load 1 false (.t 5)⟩, ⟨(some 5), none, .faddr 0 (.t 1)⟩]
 (tq 16 (.build [(.int .i64 0), (.int .i64 0), (.str []), .nil, .nil] [(0, 1, (.t 6)), (1, 1, (.t 8)), (2, 1, (.t 10)), (3, 1, (.t 14)), (4, 1, (.t 15))]) (.l ⟨none, none, .store 5 (.t 3) (.t 16)⟩ []
 .done .non)) .non) (.l ⟨(some 15), none, .bslice 5 []⟩ [⟨(some 13), none, .load 1 false (.t 12)⟩, ⟨(some 12), none, .faddr 3 (.t 1)⟩, ⟨(some 10), none, .load 1 false (.t 9)⟩, ⟨(some 9), none, .faddr 2 (.t 1)⟩, ⟨(some 8), none, .load 1 false (.t 7)⟩, ⟨(some 7), none, .faddr 1 (.t 1)⟩, ⟨(some 6), none, .load 1 false (.t 5)⟩, ⟨(some 5), none, .faddr 0 (.t 1)⟩]
 (.l ⟨(some 14), none, .append 1 16 (.t 11) (.t 13)⟩ [⟨(some 10), none, .load 1 false (.t 9)⟩, ⟨(some 9), none, .faddr 2 (.t 1)⟩, ⟨(some 8), none, .load 1 false (.t 7)⟩, ⟨(some 7), none, .faddr 1 (.t 1)⟩, ⟨(some 6), none, .load 1 false (.t 5)⟩, ⟨(some 5), none, .faddr 0 (.t 1)⟩]
 (tq 16 (.build [(.int .i64 0), (.int .i64 0), (.str []), .nil, .nil] [(0, 1, (.t 6)), (1, 1, (.t 8)), (2, 1, (.t 10)), (3, 1, (.t 14)), (4, 1, (.t 15))]) (.l ⟨none, none, .store 5 (.t 3) (.t 16)⟩ []
 .done .non)) .non) .non)) .non))) (.l ⟨(some 15), none, .bslice 5 []⟩ [⟨(some 13), none, .load 1 false (.t 12)⟩, ⟨(some 12), none, .faddr 3 (.t 1)⟩, ⟨(some 10), none, .load 1 false (.t 9)⟩, ⟨(some 9), none, .faddr 2 (.t 1)⟩, ⟨(some 8), none, .load 1 false (.t 7)⟩, ⟨(some 7), none, .faddr 1 (.t 1)⟩, ⟨(some 6), none, .load 1 false (.t 5)⟩, ⟨(some 5), none, .faddr 0 (.t 1)⟩]
 (.l ⟨(some 11), none, .bslice 1 []⟩ [⟨(some 13), none, .load 1 false (.t 12)⟩, ⟨(some 12), none, .faddr 3 (.t 1)⟩, ⟨(some 10), none, .load 1 false (.t 9)⟩, ⟨(some 9), none, .faddr 2 (.t 1)⟩, ⟨(some 8), none, .load 1 false (.t 7)⟩, ⟨(some 7), none, .faddr 1 (.t 1)⟩, ⟨(some 6), none, .load 1 false (.t 5)⟩, ⟨(some 5), none, .faddr 0 (.t 1)⟩]
 (.l ⟨(some 14), none, .append 1 16 (.t 11) (.t 13)⟩ [⟨(some 10), none, .load 1 false (.t 9)⟩, ⟨(some 9), none, .faddr 2 (.t 1)⟩, ⟨(some 8), none, .load 1 false (.t 7)⟩, ⟨(some 7), none, .faddr 1 (.t 1)⟩, ⟨(some 6), none, .load 1 false (.t 5)⟩, ⟨(some 5), none, .faddr 0 (.t 1)⟩]
 (tq 16 (.build [(.int .i64 0), (.int .i64 0), (.str []), .nil, .nil] [(0, 1, (.t 6)), (1, 1, (.t 8)), (2, 1, (.t 10)), (3, 1, (.t 14)), (4, 1, (.t 15))]) (.l ⟨(some 3), none, .box 5 (.c (.agg [(.int .i64 0), (.int .i64 0), (.str []), .nil, .nil]))⟩ [⟨(some 16), none, .build [(.int .i64 0), (.int .i64 0), (.str []), .nil, .nil] [(0, 1, (.t 6)), (1, 1, (.t 8)), (2, 1, (.t 10)), (3, 1, (.t 14)), (4, 1, (.t 15))]⟩, ⟨(some 13), none, .load 1 false (.t 12)⟩, ⟨(some 12), none, .faddr 3 (.t 1)⟩, ⟨(some 10), none, .load 1 false (.t 9)⟩, ⟨(some 9), none, .faddr 2 (.t 1)⟩, ⟨(some 8), none, .load 1 false (.t 7)⟩, ⟨(some 7), none, .faddr 1 (.t 1)⟩, ⟨(some 6), none, .load 1 false (.t 5)⟩, ⟨(some 5), none, .faddr 0 (.t 1)⟩]
 (.l ⟨none, none, .store 5 (.t 3) (.t 16)⟩ []
 .done .non) .non)) (.l ⟨(some 3), none, .box 5 (.c (.agg [(.int .i64 0), (.int .i64 0), (.str []), .nil, .nil]))⟩ [⟨(some 13), none, .load 1 false (.t 12)⟩, ⟨(some 12), none, .faddr 3 (.t 1)⟩, ⟨(some 10), none, .load 1 false (.t 9)⟩, ⟨(some 9), none, .faddr 2 (.t 1)⟩, ⟨(some 8), none, .load 1 false (.t 7)⟩, ⟨(some 7), none, .faddr 1 (.t 1)⟩, ⟨(some 6), none, .load 1 false (.t 5)⟩, ⟨(some 5), none, .faddr 0 (.t 1)⟩]
 (.l ⟨(some 14), none, .append 1 16 (.t 11) (.t 13)⟩ [⟨(some 10), none, .load 1 false (.t 9)⟩, ⟨(some 9), none, .faddr 2 (.t 1)⟩, ⟨(some 8), none, .load 1 false (.t 7)⟩, ⟨(some 7), none, .faddr 1 (.t 1)⟩, ⟨(some 6), none, .load 1 false (.t 5)⟩, ⟨(some 5), none, .faddr 0 (.t 1)⟩]
 (tq 16 (.build [(.int .i64 0), (.int .i64 0), (.str []), .nil, .nil] [(0, 1, (.t 6)), (1, 1, (.t 8)), (2, 1, (.t 10)), (3, 1, (.t 14)), (4, 1, (.t 15))]) (.l ⟨none, none, .store 5 (.t 3) (.t 16)⟩ []
 .done .non)) .non) .non)) (.l ⟨(some 3), none, .box 5 (.c (.agg [(.int .i64 0), (.int .i64 0), (.str []), .nil, .nil]))⟩ [⟨(some 13), none, .load 1 false (.t 12)⟩, ⟨(some 12), none, .faddr 3 (.t 1)⟩, ⟨(some 10), none, .load 1 false (.t 9)⟩, ⟨(some 9), none, .faddr 2 (.t 1)⟩, ⟨(some 8), none, .load 1 false (.t 7)⟩, ⟨(some 7), none, .faddr 1 (.t 1)⟩, ⟨(some 6), none, .load 1 false (.t 5)⟩, ⟨(some 5), none, .faddr 0 (.t 1)⟩]
 (.l ⟨(some 11), none, .bslice 1 []⟩ [⟨(some 13), none, .load 1 false (.t 12)⟩, ⟨(some 12), none, .faddr 3 (.t 1)⟩, ⟨(some 10), none, .load 1 false (.t 9)⟩, ⟨(some 9), none, .faddr 2 (.t 1)⟩, ⟨(some 8), none, .load 1 false (.t 7)⟩, ⟨(some 7), none, .faddr 1 (.t 1)⟩, ⟨(some 6), none, .load 1 false (.t 5)⟩, ⟨(some 5), none, .faddr 0 (.t 1)⟩]
 (.l ⟨(some 14), none, .append 1 16 (.t 11) (.t 13)⟩ [⟨(some 10), none, .load 1 false (.t 9)⟩, ⟨(some 9), none, .faddr 2 (.t 1)⟩, ⟨(some 8), none, .load 1 false (.t 7)⟩, ⟨(some 7), none, .faddr 1 (.t 1)⟩, ⟨(some 6), none, .load 1 false (.t 5)⟩, ⟨(some 5), none, .faddr 0 (.t 1)⟩]
 (tq 16 (.build [(.int .i64 0), (.int .i64 0), (.str []), .nil, .nil] [(0, 1, (.t 6)), (1, 1, (.t 8)), (2, 1, (.t 10)), (3, 1, (.t 14)), (4, 1, (.t 15))]) (.l ⟨none, none, .store 5 (.t 3) (.t 16)⟩ []
 .done .non)) .non) .non) .non)) (.l ⟨(some 3), none, .box 5 (.c (.agg [(.int .i64 0), (.int .i64 0), (.str []), .nil, .nil]))⟩ [⟨(some 13), none, .load 1 false (.t 12)⟩, ⟨(some 12), none, .faddr 3 (.t 1)⟩, ⟨(some 10), none, .load 1 false (.t 9)⟩, ⟨(some 9), none, .faddr 2 (.t 1)⟩, ⟨(some 8), none, .load 1 false (.t 7)⟩, ⟨(some 7), none, .faddr 1 (.t 1)⟩, ⟨(some 6), none, .load 1 false (.t 5)⟩, ⟨(some 5), none, .faddr 0 (.t 1)⟩]
 (.l ⟨(some 11), none, .bslice 1 []⟩ [⟨(some 13), none, .load 1 false (.t 12)⟩, ⟨(some 12), none, .faddr 3 (.t 1)⟩, ⟨(some 10), none, .load 1 false (.t 9)⟩, ⟨(some 9), none, .faddr 2 (.t 1)⟩, ⟨(some 8), none, .load 1 false (.t 7)⟩, ⟨(some 7), none, .faddr 1 (.t 1)⟩, ⟨(some 6), none, .load 1 false (.t 5)⟩, ⟨(some 5), none, .faddr 0 (.t 1)⟩]
 (.l ⟨(some 14), none, .append 1 16 (.t 11) (.t 13)⟩ [⟨(some 10), none, .load 1 false (.t 9)⟩, ⟨(some 9), none, .faddr 2 (.t 1)⟩, ⟨(some 8), none, .load 1 false (.t 7)⟩, ⟨(some 7), none, .faddr 1 (.t 1)⟩, ⟨(some 6), none, .load 1 false (.t 5)⟩, ⟨(some 5), none, .faddr 0 (.t 1)⟩]
 (.l ⟨(some 15), none, .bslice 5 []⟩ [⟨(some 13), none, .load 1 false (.t 12)⟩, ⟨(some 12), none, .faddr 3 (.t 1)⟩, ⟨(some 10), none, .load 1 false (.t 9)⟩, ⟨(some 9), none, .faddr 2 (.t 1)⟩, ⟨(some 8), none, .load 1 false (.t 7)⟩, ⟨(some 7), none, .faddr 1 (.t 1)⟩, ⟨(some 6), none, .load 1 false (.t 5)⟩, ⟨(some 5), none, .faddr 0 (.t 1)⟩]
 (tq 16 (.build [(.int .i64 0), (.int .i64 0), (.str []), .nil, .nil] [(0, 1, (.t 6)), (1, 1, (.t 8)), (2, 1, (.t 10)), (3, 1, (.t 14)), (4, 1, (.t 15))]) (.l ⟨none, none, .store 5 (.t 3) (.t 16)⟩ []
 .done .non)) .non) (.l ⟨(some 15), none, .bslice 5 []⟩ [⟨(some 13), none, .load 1 false (.t 12)⟩, ⟨(some 12), none, .faddr 3 (.t 1)⟩, ⟨(some 10), none, .load 1 false (.t 9)⟩, ⟨(some 9), none, .faddr 2 (.t 1)⟩, ⟨(some 8), none, .load 1 false (.t 7)⟩, ⟨(some 7), none, .faddr 1 (.t 1)⟩, ⟨(some 6), none, .load 1 false (.t 5)⟩, ⟨(some 5), none, .faddr 0 (.t 1)⟩]
 (.l ⟨(some 14), none, .append 1 16 (.t 11) (.t 13)⟩ [⟨(some 10), none, .load 1 false (.t 9)⟩, ⟨(some 9), none, .faddr 2 (.t 1)⟩, ⟨(some 8), none, .load 1 false (.t 7)⟩, ⟨(some 7), none, .faddr 1 (.t 1)⟩, ⟨(some 6), none, .load 1 false (.t 5)⟩, ⟨(some 5), none, .faddr 0 (.t 1)⟩]
 (tq 16 (.build [(.int .i64 0), (.int .i64 0), (.str []), .nil, .nil] [(0, 1, (.t 6)), (1, 1, (.t 8)), (2, 1, (.t 10)), (3, 1, (.t 14)), (4, 1, (.t 15))]) (.l ⟨none, none, .store 5 (.t 3) (.t 16)⟩ []
 .done .non)) .non) .non)) (.l ⟨(some 15), none, .bslice 5 []⟩ [⟨(some 13), none, .load 1 false (.t 12)⟩, ⟨(some 12), none, .faddr 3 (.t 1)⟩, ⟨(some 10), none, .load 1 false (.t 9)⟩, ⟨(some 9), none, .faddr 2 (.t 1)⟩, ⟨(some 8), none, .load 1 false (.t 7)⟩, ⟨(some 7), none, .faddr 1 (.t 1)⟩, ⟨(some 6), none, .load 1 false (.t 5)⟩, ⟨(some 5), none, .faddr 0 (.t 1)⟩]
 (.l ⟨(some 11), none, .bslice 1 []⟩ [⟨(some 13), none, .load 1 false (.t 12)⟩, ⟨(some 12), none, .faddr 3 (.t 1)⟩, ⟨(some 10), none, .load 1 false (.t 9)⟩, ⟨(some 9), none, .faddr 2 (.t 1)⟩, ⟨(some 8), none, .load 1 false (.t 7)⟩, ⟨(some 7), none, .faddr 1 (.t 1)⟩, ⟨(some 6), none, .load 1 false (.t 5)⟩, ⟨(some 5), none, .faddr 0 (.t 1)⟩]
 (.l ⟨(some 14), none, .append 1 16 (.t 11) (.t 13)⟩ [⟨(some 10), none, .load 1 false (.t 9)⟩, ⟨(some 9), none, .faddr 2 (.t 1)⟩, ⟨(some 8), none, .load 1 false (.t 7)⟩, ⟨(some 7), none, .faddr 1 (.t 1)⟩, ⟨(some 6), none, .load 1 false (.t 5)⟩, ⟨(some 5), none, .faddr 0 (.t 1)⟩]
 (tq 16 (.build [(.int .i64 0), (.int .i64 0), (.str []), .nil, .nil] [(0, 1, (.t 6)), (1, 1, (.t 8)), (2, 1, (.t 10)), (3, 1, (.t 14)), (4, 1, (.t 15))]) (.l ⟨none, none, .store 5 (.t 3) (.t 16)⟩ []
 .done .non)) .non) .non) .non)) .non))))))))))))
 (.cut (.seq (.seq (.reg (tm 4 (.c (.int .i64 0)) .done))
 (.block 0 (.loop (.seq (.seq (.reg (tm 17 (.t 4) (tq 18 (.faddr 4 (.t 1)) (tq 19 (.load 1 false (.t 18)) (tq 20 (.len (.t 19)) (tq 21 (.bin .lss (.t 17) (.t 20)) .done))))))
 (.cond (.t 21) .skip
 (.exit 0)))
 (.seq (.block 1 (.reg (tq 24 (.faddr 4 (.t 3)) (tq 25 (.load 1 false (.t 24)) (tq 26 (.faddr 4 (.t 1)) (tq 27 (.load 1 false (.t 26)) (tm 28 (.t 4) (tq 29 (.iaddr 5 (.t 27) (.t 28)) (tq 30 (.load 5 true (.t 29)) (.l ⟨(some 31), none, .call 107 [(.t 30)]⟩ [⟨(some 25), none, .load 1 false (.t 24)⟩, ⟨(some 24), none, .faddr 4 (.t 3)⟩]
 (.l ⟨(some 32), none, .bslice 5 [(.t 31)]⟩ [⟨(some 25), none, .load 1 false (.t 24)⟩, ⟨(some 24), none, .faddr 4 (.t 3)⟩]
 (.l ⟨(some 33), none, .append 5 80 (.t 25) (.t 32)⟩ []
 (tq 34 (.faddr 4 (.t 3)) (.l ⟨none, none, .store 1 (.t 34) (.t 33)⟩ []
 .done .non)) .non) .non) .non))))))))))
 (.reg (tm 22 (.t 4) (tq 23 (.bin .add (.t 22) (.c (.int .i64 1))) (tm 4 (.t 23) .done)))))))))
 (.cut (.seq (.reg (tq 35 (.load 5 true (.t 3)) (.q ⟨none, none, .store 5 (.t 2) (.t 35)⟩
 .done)))
 .ret))))))
theorem fc107 : fcomp Try.prog Try.f107 = some (c107.erase, [.load 5 true (.t 2)], 36) := by kernel_rfl
def spec_l01Own_B_L1 (rec : (GJson → Option GJson)) : List GJson → (List GJson) → Option (List GJson)
  | [], x_22 =>
    some x_22
  | x_39 :: xs, x_22 =>
    (rec x_39).bind fun r_42 =>
    if (x_22 ++ [r_42]).length ≤ 2 ^ 30 then
    spec_l01Own_B_L1 rec xs  (x_22 ++ [r_42])
    else none

def spec_l01Own_B (rec : (GJson → Option GJson)) (j_1 : GJson) : Option GJson :=
    ((if ([] ++ j_1.Keys).length ≤ 2 ^ 30 then
    some ()
    else none : Option Unit)).bind fun _ =>
    (spec_l01Own_B_L1 rec j_1.Items []).bind fun x_31 =>
    some (⟨j_1.Kind, j_1.N, j_1.T, [] ++ j_1.Keys, x_31⟩ : GJson)
theorem w_spec_l01Own_B (rec : (GJson → Option GJson)) (hrec : ∀ a0 r, rec a0 = some r → CallOK Try.prog 107 .fresh [(encGJson a0)] (encGJson r)) (j_1 : GJson) (r : GJson) (hf : spec_l01Own_B rec j_1 = some r) : CallOK Try.prog 107 .fresh [(encGJson j_1)] (encGJson r) := by
 refine CallOK.of_awp mixed Try.func107 fc107 nle ?_; rw [argT_eq]; rw [encGJson_eq j_1]; unfold spec_l01Own_B at hf; unfold c107; refine (show awp Try.prog true 0 _ (ofL [(0, (.agg [(.int .i64 j_1.Kind), (.int .i64 j_1.N), (.str j_1.T), (.lst 1 (j_1.Keys.map AV.str)), (.lst 5 (j_1.Items.map encGJson))]))]) [] _ from ?_); refine awp_seq <| w_reg <| s_do (o_box (j := 0) (c := (.agg [(.int .i64 j_1.Kind), (.int .i64 j_1.N), (.str j_1.T), (.lst 1 (j_1.Keys.map AV.str)), (.lst 5 (j_1.Items.map encGJson))])) rfl trivial rfl rfl) <| s_do (o_box (j := 1) (c := (.agg [(.int .i64 0), (.int .i64 0), (.str []), .nil, .nil])) rfl trivial rfl rfl) <| w_done <| k_seq <| awp_seq <| ?_
 obtain ⟨p3, hb1, hf⟩ := ob hf
 refine awp_cut ([(1, (.ptr 0 0 0)), (2, (.ptr 1 0 0)), (3, (.ptr 2 0 0))], [.box 5 (.agg [(.int .i64 j_1.Kind), (.int .i64 j_1.N), (.str j_1.T), (.lst 1 (j_1.Keys.map AV.str)), (.lst 5 (j_1.Items.map encGJson))]), .box 5 (.agg [(.int .i64 0), (.int .i64 0), (.str []), .nil, .nil]), .box 5 (.agg [(.int .i64 j_1.Kind), (.int .i64 j_1.N), (.str j_1.T), (.own 3 0 (([] ++ j_1.Keys).length)), (.own 4 0 0)]), .row 1 (([] ++ j_1.Keys).map AV.str), .row 5 ([].map encGJson)]) ?_ ?_
 ·refine w_reg ?_
  obtain ⟨g4, hb1⟩ := og hb1
  refine s_q (.ptr 0 0 0) rfl trivial rfl <| s_q (.int .i64 j_1.Kind) rfl nle rfl <| s_q (.ptr 0 0 1) rfl trivial rfl <| s_q (.int .i64 j_1.N) rfl nle rfl <| s_q (.ptr 0 0 2) rfl trivial rfl <| s_q (.str j_1.T) rfl nle rfl <| s_q (.ptr 0 0 3) rfl trivial rfl <| s_q (.lst 1 (j_1.Keys.map AV.str)) rfl nle rfl <| ?_; refine s_dol (o_bslice (j := 2) (as' := []) rfl (fun _ => by decide) trivial (.refl _) rfl rfl rfl) (.inr ⟨⟨nle, rfl⟩, ⟨⟨trivial, rfl⟩, ⟨⟨nle, rfl⟩, ⟨⟨trivial, rfl⟩, ⟨⟨nle, rfl⟩, ⟨⟨trivial, rfl⟩, ⟨⟨nle, rfl⟩, ⟨⟨trivial, rfl⟩, trivial⟩⟩⟩⟩⟩⟩⟩⟩) ?_ ?_
  ·refine s_dol (o_bslice (j := 2) (as' := []) rfl (fun _ => by decide) trivial (.refl _) rfl rfl rfl) (.inr ⟨⟨nle, rfl⟩, ⟨⟨trivial, rfl⟩, ⟨⟨nle, rfl⟩, ⟨⟨trivial, rfl⟩, ⟨⟨nle, rfl⟩, ⟨⟨trivial, rfl⟩, ⟨⟨nle, rfl⟩, ⟨⟨trivial, rfl⟩, trivial⟩⟩⟩⟩⟩⟩⟩⟩) ?_ ?_
   ·refine s_dol (o_box (j := 2) (c := (.agg [(.int .i64 0), (.int .i64 0), (.str []), .nil, .nil])) rfl trivial rfl rfl) (.inr ⟨⟨nle, rfl⟩, ⟨⟨trivial, rfl⟩, ⟨⟨nle, rfl⟩, ⟨⟨trivial, rfl⟩, ⟨⟨nle, rfl⟩, ⟨⟨trivial, rfl⟩, ⟨⟨nle, rfl⟩, ⟨⟨trivial, rfl⟩, trivial⟩⟩⟩⟩⟩⟩⟩⟩) trivial ?_; refine s_dol (o_bslice (j := 3) (as' := []) rfl (fun _ => by decide) trivial (.refl _) rfl rfl rfl) (.inr ⟨⟨nle, rfl⟩, ⟨⟨trivial, rfl⟩, ⟨⟨nle, rfl⟩, ⟨⟨trivial, rfl⟩, ⟨⟨nle, rfl⟩, ⟨⟨trivial, rfl⟩, ⟨⟨nle, rfl⟩, ⟨⟨trivial, rfl⟩, trivial⟩⟩⟩⟩⟩⟩⟩⟩) ?_ ?_
    ·refine s_dol (o_bslice (j := 3) (as' := []) rfl (fun _ => by decide) trivial (.refl _) rfl rfl rfl) (.inr ⟨⟨nle, rfl⟩, ⟨⟨trivial, rfl⟩, ⟨⟨nle, rfl⟩, ⟨⟨trivial, rfl⟩, ⟨⟨nle, rfl⟩, ⟨⟨trivial, rfl⟩, ⟨⟨nle, rfl⟩, ⟨⟨trivial, rfl⟩, trivial⟩⟩⟩⟩⟩⟩⟩⟩) trivial ?_; refine s_dol (o_bslice (j := 4) (as' := []) rfl (fun _ => by decide) trivial (.refl _) rfl rfl rfl) (.inr ⟨⟨nle, rfl⟩, ⟨⟨trivial, rfl⟩, ⟨⟨nle, rfl⟩, ⟨⟨trivial, rfl⟩, ⟨⟨nle, rfl⟩, ⟨⟨trivial, rfl⟩, ⟨⟨nle, rfl⟩, ⟨⟨trivial, rfl⟩, trivial⟩⟩⟩⟩⟩⟩⟩⟩) trivial ?_
     refine s_dol (o_appendd (j := 5) (L := (([] ++ j_1.Keys).map AV.str)) (len := ([] ++ j_1.Keys).length) rfl false rfl rfl (fun _ => flm (fun _ => rfl) _) (fun _ _ _ => flm (fun _ => rfl) _) (by decide) ((by simp)) (by simp <;> omega) g4 rfl rfl) (.inr ⟨⟨nle, rfl⟩, ⟨⟨trivial, rfl⟩, ⟨⟨nle, rfl⟩, ⟨⟨trivial, rfl⟩, ⟨⟨nle, rfl⟩, ⟨⟨trivial, rfl⟩, trivial⟩⟩⟩⟩⟩⟩) trivial ?_
     refine s_q (.agg [(.int .i64 j_1.Kind), (.int .i64 j_1.N), (.str j_1.T), (.own 5 0 (([] ++ j_1.Keys).length)), (.own 3 0 0)]) rfl ⟨⟨rfl, nle, trivial⟩, ⟨⟨rfl, nle, trivial⟩, ⟨⟨rfl, nle, trivial⟩, ⟨⟨rfl, nle, trivial⟩, ⟨⟨rfl, nle, trivial⟩, trivial⟩⟩⟩⟩⟩ rfl <| s_dol0 (o_storebox (v := (.agg [(.int .i64 j_1.Kind), (.int .i64 j_1.N), (.str j_1.T), (.own 5 0 (([] ++ j_1.Keys).length)), (.own 3 0 0)])) (y' := (.agg [(.int .i64 j_1.Kind), (.int .i64 j_1.N), (.str j_1.T), (.own 5 0 (([] ++ j_1.Keys).length)), (.own 3 0 0)])) rfl rfl rfl trivial ⟨rfl, nle⟩ ⟨⟨rfl, trivial⟩, ⟨⟨rfl, trivial⟩, ⟨⟨rfl, trivial⟩, ⟨⟨rfl, trivial⟩, ⟨⟨rfl, trivial⟩, trivial⟩⟩⟩⟩⟩ rfl) trivial trivial <| w_done <| ?_; obtain rfl := os hb1; exact ⟨[], [0, 1, 2, 5, 3], _, _, rfl, rfl, ⟨.refl _, ⟨.refl _, ⟨.refl _, trivial⟩⟩⟩, (.cons (.refl _) (.cons (.refl _) (.cons (.box (.agg (.cons (.refl _) (.cons (.refl _) (.cons (.refl _) (.cons (.refl _) (.cons (.of_eq (congrArg (AV.own _ 0) (by simp))) .nil))))))) (.cons (.refl _) (.cons (.refl _) .nil)))))⟩
    ·refine s_dol (o_appendd (j := 4) (L := (([] ++ j_1.Keys).map AV.str)) (len := ([] ++ j_1.Keys).length) rfl false rfl rfl (fun _ => flm (fun _ => rfl) _) (fun _ _ _ => flm (fun _ => rfl) _) (by decide) ((by simp)) (by simp <;> omega) g4 rfl rfl) (.inr ⟨⟨nle, rfl⟩, ⟨⟨trivial, rfl⟩, ⟨⟨nle, rfl⟩, ⟨⟨trivial, rfl⟩, ⟨⟨nle, rfl⟩, ⟨⟨trivial, rfl⟩, trivial⟩⟩⟩⟩⟩⟩) ?_ ?_
     ·refine s_dol (o_bslice (j := 4) (as' := []) rfl (fun _ => by decide) trivial (.refl _) rfl rfl rfl) (.inr ⟨⟨nle, rfl⟩, ⟨⟨trivial, rfl⟩, ⟨⟨nle, rfl⟩, ⟨⟨trivial, rfl⟩, ⟨⟨nle, rfl⟩, ⟨⟨trivial, rfl⟩, ⟨⟨nle, rfl⟩, ⟨⟨trivial, rfl⟩, trivial⟩⟩⟩⟩⟩⟩⟩⟩) trivial ?_
      refine s_dol (o_appendd (j := 5) (L := (([] ++ j_1.Keys).map AV.str)) (len := ([] ++ j_1.Keys).length) rfl false rfl rfl (fun _ => flm (fun _ => rfl) _) (fun _ _ _ => flm (fun _ => rfl) _) (by decide) ((by simp)) (by simp <;> omega) g4 rfl rfl) (.inr ⟨⟨nle, rfl⟩, ⟨⟨trivial, rfl⟩, ⟨⟨nle, rfl⟩, ⟨⟨trivial, rfl⟩, ⟨⟨nle, rfl⟩, ⟨⟨trivial, rfl⟩, trivial⟩⟩⟩⟩⟩⟩) trivial ?_
      refine s_q (.agg [(.int .i64 j_1.Kind), (.int .i64 j_1.N), (.str j_1.T), (.own 5 0 (([] ++ j_1.Keys).length)), (.own 4 0 0)]) rfl ⟨⟨rfl, nle, trivial⟩, ⟨⟨rfl, nle, trivial⟩, ⟨⟨rfl, nle, trivial⟩, ⟨⟨rfl, nle, trivial⟩, ⟨⟨rfl, nle, trivial⟩, trivial⟩⟩⟩⟩⟩ rfl <| s_dol0 (o_storebox (v := (.agg [(.int .i64 j_1.Kind), (.int .i64 j_1.N), (.str j_1.T), (.own 5 0 (([] ++ j_1.Keys).length)), (.own 4 0 0)])) (y' := (.agg [(.int .i64 j_1.Kind), (.int .i64 j_1.N), (.str j_1.T), (.own 5 0 (([] ++ j_1.Keys).length)), (.own 4 0 0)])) rfl rfl rfl trivial ⟨rfl, nle⟩ ⟨⟨rfl, trivial⟩, ⟨⟨rfl, trivial⟩, ⟨⟨rfl, trivial⟩, ⟨⟨rfl, trivial⟩, ⟨⟨rfl, trivial⟩, trivial⟩⟩⟩⟩⟩ rfl) trivial trivial <| w_done <| ?_; obtain rfl := os hb1; exact ⟨[], [0, 1, 2, 5, 4], _, _, rfl, rfl, ⟨.refl _, ⟨.refl _, ⟨.refl _, trivial⟩⟩⟩, (.cons (.refl _) (.cons (.refl _) (.cons (.box (.agg (.cons (.refl _) (.cons (.refl _) (.cons (.refl _) (.cons (.refl _) (.cons (.of_eq (congrArg (AV.own _ 0) (by simp))) .nil))))))) (.cons (.refl _) (.cons (.refl _) .nil)))))⟩
     ·refine s_dol (o_bslice (j := 5) (as' := []) rfl (fun _ => by decide) trivial (.refl _) rfl rfl rfl) (.inr ⟨⟨nle, rfl⟩, ⟨⟨trivial, rfl⟩, ⟨⟨nle, rfl⟩, ⟨⟨trivial, rfl⟩, ⟨⟨nle, rfl⟩, ⟨⟨trivial, rfl⟩, ⟨⟨nle, rfl⟩, ⟨⟨trivial, rfl⟩, trivial⟩⟩⟩⟩⟩⟩⟩⟩) trivial ?_; refine s_q (.agg [(.int .i64 j_1.Kind), (.int .i64 j_1.N), (.str j_1.T), (.own 4 0 (([] ++ j_1.Keys).length)), (.own 5 0 0)]) rfl ⟨⟨rfl, nle, trivial⟩, ⟨⟨rfl, nle, trivial⟩, ⟨⟨rfl, nle, trivial⟩, ⟨⟨rfl, nle, trivial⟩, ⟨⟨rfl, nle, trivial⟩, trivial⟩⟩⟩⟩⟩ rfl <| s_dol0 (o_storebox (v := (.agg [(.int .i64 j_1.Kind), (.int .i64 j_1.N), (.str j_1.T), (.own 4 0 (([] ++ j_1.Keys).length)), (.own 5 0 0)])) (y' := (.agg [(.int .i64 j_1.Kind), (.int .i64 j_1.N), (.str j_1.T), (.own 4 0 (([] ++ j_1.Keys).length)), (.own 5 0 0)])) rfl rfl rfl trivial ⟨rfl, nle⟩ ⟨⟨rfl, trivial⟩, ⟨⟨rfl, trivial⟩, ⟨⟨rfl, trivial⟩, ⟨⟨rfl, trivial⟩, ⟨⟨rfl, trivial⟩, trivial⟩⟩⟩⟩⟩ rfl) trivial trivial <| ?_
      refine w_done ?_; obtain rfl := os hb1; exact ⟨[], [0, 1, 2, 4, 5], _, _, rfl, rfl, ⟨.refl _, ⟨.refl _, ⟨.refl _, trivial⟩⟩⟩, (.cons (.refl _) (.cons (.refl _) (.cons (.box (.agg (.cons (.refl _) (.cons (.refl _) (.cons (.refl _) (.cons (.refl _) (.cons (.of_eq (congrArg (AV.own _ 0) (by simp))) .nil))))))) (.cons (.refl _) (.cons (.refl _) .nil)))))⟩
   ·refine s_dol (o_bslice (j := 3) (as' := []) rfl (fun _ => by decide) trivial (.refl _) rfl rfl rfl) (.inr ⟨⟨nle, rfl⟩, ⟨⟨trivial, rfl⟩, ⟨⟨nle, rfl⟩, ⟨⟨trivial, rfl⟩, ⟨⟨nle, rfl⟩, ⟨⟨trivial, rfl⟩, ⟨⟨nle, rfl⟩, ⟨⟨trivial, rfl⟩, trivial⟩⟩⟩⟩⟩⟩⟩⟩) ?_ ?_
    ·refine s_dol (o_box (j := 3) (c := (.agg [(.int .i64 0), (.int .i64 0), (.str []), .nil, .nil])) rfl trivial rfl rfl) (.inr ⟨⟨nle, rfl⟩, ⟨⟨trivial, rfl⟩, ⟨⟨nle, rfl⟩, ⟨⟨trivial, rfl⟩, ⟨⟨nle, rfl⟩, ⟨⟨trivial, rfl⟩, ⟨⟨nle, rfl⟩, ⟨⟨trivial, rfl⟩, trivial⟩⟩⟩⟩⟩⟩⟩⟩) trivial ?_; refine s_dol (o_bslice (j := 4) (as' := []) rfl (fun _ => by decide) trivial (.refl _) rfl rfl rfl) (.inr ⟨⟨nle, rfl⟩, ⟨⟨trivial, rfl⟩, ⟨⟨nle, rfl⟩, ⟨⟨trivial, rfl⟩, ⟨⟨nle, rfl⟩, ⟨⟨trivial, rfl⟩, ⟨⟨nle, rfl⟩, ⟨⟨trivial, rfl⟩, trivial⟩⟩⟩⟩⟩⟩⟩⟩) trivial ?_
     refine s_dol (o_appendd (j := 5) (L := (([] ++ j_1.Keys).map AV.str)) (len := ([] ++ j_1.Keys).length) rfl false rfl rfl (fun _ => flm (fun _ => rfl) _) (fun _ _ _ => flm (fun _ => rfl) _) (by decide) ((by simp)) (by simp <;> omega) g4 rfl rfl) (.inr ⟨⟨nle, rfl⟩, ⟨⟨trivial, rfl⟩, ⟨⟨nle, rfl⟩, ⟨⟨trivial, rfl⟩, ⟨⟨nle, rfl⟩, ⟨⟨trivial, rfl⟩, trivial⟩⟩⟩⟩⟩⟩) trivial ?_
     refine s_q (.agg [(.int .i64 j_1.Kind), (.int .i64 j_1.N), (.str j_1.T), (.own 5 0 (([] ++ j_1.Keys).length)), (.own 2 0 0)]) rfl ⟨⟨rfl, nle, trivial⟩, ⟨⟨rfl, nle, trivial⟩, ⟨⟨rfl, nle, trivial⟩, ⟨⟨rfl, nle, trivial⟩, ⟨⟨rfl, nle, trivial⟩, trivial⟩⟩⟩⟩⟩ rfl <| s_dol0 (o_storebox (v := (.agg [(.int .i64 j_1.Kind), (.int .i64 j_1.N), (.str j_1.T), (.own 5 0 (([] ++ j_1.Keys).length)), (.own 2 0 0)])) (y' := (.agg [(.int .i64 j_1.Kind), (.int .i64 j_1.N), (.str j_1.T), (.own 5 0 (([] ++ j_1.Keys).length)), (.own 2 0 0)])) rfl rfl rfl trivial ⟨rfl, nle⟩ ⟨⟨rfl, trivial⟩, ⟨⟨rfl, trivial⟩, ⟨⟨rfl, trivial⟩, ⟨⟨rfl, trivial⟩, ⟨⟨rfl, trivial⟩, trivial⟩⟩⟩⟩⟩ rfl) trivial trivial <| w_done <| ?_; obtain rfl := os hb1; exact ⟨[], [0, 1, 3, 5, 2], _, _, rfl, rfl, ⟨.refl _, ⟨.refl _, ⟨.refl _, trivial⟩⟩⟩, (.cons (.refl _) (.cons (.refl _) (.cons (.box (.agg (.cons (.refl _) (.cons (.refl _) (.cons (.refl _) (.cons (.refl _) (.cons (.of_eq (congrArg (AV.own _ 0) (by simp))) .nil))))))) (.cons (.refl _) (.cons (.refl _) .nil)))))⟩
    ·refine s_dol (o_appendd (j := 4) (L := (([] ++ j_1.Keys).map AV.str)) (len := ([] ++ j_1.Keys).length) rfl false rfl rfl (fun _ => flm (fun _ => rfl) _) (fun _ _ _ => flm (fun _ => rfl) _) (by decide) ((by simp)) (by simp <;> omega) g4 rfl rfl) (.inr ⟨⟨nle, rfl⟩, ⟨⟨trivial, rfl⟩, ⟨⟨nle, rfl⟩, ⟨⟨trivial, rfl⟩, ⟨⟨nle, rfl⟩, ⟨⟨trivial, rfl⟩, trivial⟩⟩⟩⟩⟩⟩) ?_ ?_
     ·refine s_dol (o_box (j := 4) (c := (.agg [(.int .i64 0), (.int .i64 0), (.str []), .nil, .nil])) rfl trivial rfl rfl) (.inr ⟨⟨nle, rfl⟩, ⟨⟨trivial, rfl⟩, ⟨⟨nle, rfl⟩, ⟨⟨trivial, rfl⟩, ⟨⟨nle, rfl⟩, ⟨⟨trivial, rfl⟩, ⟨⟨nle, rfl⟩, ⟨⟨trivial, rfl⟩, trivial⟩⟩⟩⟩⟩⟩⟩⟩) trivial ?_
      refine s_dol (o_appendd (j := 5) (L := (([] ++ j_1.Keys).map AV.str)) (len := ([] ++ j_1.Keys).length) rfl false rfl rfl (fun _ => flm (fun _ => rfl) _) (fun _ _ _ => flm (fun _ => rfl) _) (by decide) ((by simp)) (by simp <;> omega) g4 rfl rfl) (.inr ⟨⟨nle, rfl⟩, ⟨⟨trivial, rfl⟩, ⟨⟨nle, rfl⟩, ⟨⟨trivial, rfl⟩, ⟨⟨nle, rfl⟩, ⟨⟨trivial, rfl⟩, trivial⟩⟩⟩⟩⟩⟩) trivial ?_
      refine s_q (.agg [(.int .i64 j_1.Kind), (.int .i64 j_1.N), (.str j_1.T), (.own 5 0 (([] ++ j_1.Keys).length)), (.own 2 0 0)]) rfl ⟨⟨rfl, nle, trivial⟩, ⟨⟨rfl, nle, trivial⟩, ⟨⟨rfl, nle, trivial⟩, ⟨⟨rfl, nle, trivial⟩, ⟨⟨rfl, nle, trivial⟩, trivial⟩⟩⟩⟩⟩ rfl <| s_dol0 (o_storebox (v := (.agg [(.int .i64 j_1.Kind), (.int .i64 j_1.N), (.str j_1.T), (.own 5 0 (([] ++ j_1.Keys).length)), (.own 2 0 0)])) (y' := (.agg [(.int .i64 j_1.Kind), (.int .i64 j_1.N), (.str j_1.T), (.own 5 0 (([] ++ j_1.Keys).length)), (.own 2 0 0)])) rfl rfl rfl trivial ⟨rfl, nle⟩ ⟨⟨rfl, trivial⟩, ⟨⟨rfl, trivial⟩, ⟨⟨rfl, trivial⟩, ⟨⟨rfl, trivial⟩, ⟨⟨rfl, trivial⟩, trivial⟩⟩⟩⟩⟩ rfl) trivial trivial <| w_done <| ?_; obtain rfl := os hb1; exact ⟨[], [0, 1, 4, 5, 2], _, _, rfl, rfl, ⟨.refl _, ⟨.refl _, ⟨.refl _, trivial⟩⟩⟩, (.cons (.refl _) (.cons (.refl _) (.cons (.box (.agg (.cons (.refl _) (.cons (.refl _) (.cons (.refl _) (.cons (.refl _) (.cons (.of_eq (congrArg (AV.own _ 0) (by simp))) .nil))))))) (.cons (.refl _) (.cons (.refl _) .nil)))))⟩
     ·refine s_q (.agg [(.int .i64 j_1.Kind), (.int .i64 j_1.N), (.str j_1.T), (.own 4 0 (([] ++ j_1.Keys).length)), (.own 2 0 0)]) rfl ⟨⟨rfl, nle, trivial⟩, ⟨⟨rfl, nle, trivial⟩, ⟨⟨rfl, nle, trivial⟩, ⟨⟨rfl, nle, trivial⟩, ⟨⟨rfl, nle, trivial⟩, trivial⟩⟩⟩⟩⟩ rfl <| s_dol (o_box (j := 5) (c := (.agg [(.int .i64 0), (.int .i64 0), (.str []), .nil, .nil])) rfl trivial rfl rfl) (.inr ⟨⟨⟨⟨rfl, nle, trivial⟩, ⟨⟨rfl, nle, trivial⟩, ⟨⟨rfl, nle, trivial⟩, ⟨⟨rfl, nle, trivial⟩, ⟨⟨rfl, nle, trivial⟩, trivial⟩⟩⟩⟩⟩, rfl⟩, ⟨⟨nle, rfl⟩, ⟨⟨trivial, rfl⟩, ⟨⟨nle, rfl⟩, ⟨⟨trivial, rfl⟩, ⟨⟨nle, rfl⟩, ⟨⟨trivial, rfl⟩, ⟨⟨nle, rfl⟩, ⟨⟨trivial, rfl⟩, trivial⟩⟩⟩⟩⟩⟩⟩⟩⟩) trivial <| s_dol0 (o_storebox (v := (.agg [(.int .i64 j_1.Kind), (.int .i64 j_1.N), (.str j_1.T), (.own 4 0 (([] ++ j_1.Keys).length)), (.own 2 0 0)])) (y' := (.agg [(.int .i64 j_1.Kind), (.int .i64 j_1.N), (.str j_1.T), (.own 4 0 (([] ++ j_1.Keys).length)), (.own 2 0 0)])) rfl rfl rfl trivial ⟨rfl, nle⟩ ⟨⟨rfl, trivial⟩, ⟨⟨rfl, trivial⟩, ⟨⟨rfl, trivial⟩, ⟨⟨rfl, trivial⟩, ⟨⟨rfl, trivial⟩, trivial⟩⟩⟩⟩⟩ rfl) trivial trivial <| ?_
      refine w_done ?_; obtain rfl := os hb1; exact ⟨[], [0, 1, 5, 4, 2], _, _, rfl, rfl, ⟨.refl _, ⟨.refl _, ⟨.refl _, trivial⟩⟩⟩, (.cons (.refl _) (.cons (.refl _) (.cons (.box (.agg (.cons (.refl _) (.cons (.refl _) (.cons (.refl _) (.cons (.refl _) (.cons (.of_eq (congrArg (AV.own _ 0) (by simp))) .nil))))))) (.cons (.refl _) (.cons (.refl _) .nil)))))⟩
  ·refine s_dol (o_appendd (j := 3) (L := (([] ++ j_1.Keys).map AV.str)) (len := ([] ++ j_1.Keys).length) rfl false rfl rfl (fun _ => flm (fun _ => rfl) _) (fun _ _ _ => flm (fun _ => rfl) _) (by decide) ((by simp)) (by simp <;> omega) g4 rfl rfl) (.inr ⟨⟨nle, rfl⟩, ⟨⟨trivial, rfl⟩, ⟨⟨nle, rfl⟩, ⟨⟨trivial, rfl⟩, ⟨⟨nle, rfl⟩, ⟨⟨trivial, rfl⟩, trivial⟩⟩⟩⟩⟩⟩) ?_ ?_
   ·refine s_dol (o_bslice (j := 3) (as' := []) rfl (fun _ => by decide) trivial (.refl _) rfl rfl rfl) (.inr ⟨⟨nle, rfl⟩, ⟨⟨trivial, rfl⟩, ⟨⟨nle, rfl⟩, ⟨⟨trivial, rfl⟩, ⟨⟨nle, rfl⟩, ⟨⟨trivial, rfl⟩, ⟨⟨nle, rfl⟩, ⟨⟨trivial, rfl⟩, trivial⟩⟩⟩⟩⟩⟩⟩⟩) ?_ ?_
    ·refine s_dol (o_box (j := 3) (c := (.agg [(.int .i64 0), (.int .i64 0), (.str []), .nil, .nil])) rfl trivial rfl rfl) (.inr ⟨⟨nle, rfl⟩, ⟨⟨trivial, rfl⟩, ⟨⟨nle, rfl⟩, ⟨⟨trivial, rfl⟩, ⟨⟨nle, rfl⟩, ⟨⟨trivial, rfl⟩, ⟨⟨nle, rfl⟩, ⟨⟨trivial, rfl⟩, trivial⟩⟩⟩⟩⟩⟩⟩⟩) trivial ?_
     refine s_dol (o_appendd (j := 4) (L := (([] ++ j_1.Keys).map AV.str)) (len := ([] ++ j_1.Keys).length) rfl false rfl rfl (fun _ => flm (fun _ => rfl) _) (fun _ _ _ => flm (fun _ => rfl) _) (by decide) ((by simp)) (by simp <;> omega) g4 rfl rfl) (.inr ⟨⟨nle, rfl⟩, ⟨⟨trivial, rfl⟩, ⟨⟨nle, rfl⟩, ⟨⟨trivial, rfl⟩, ⟨⟨nle, rfl⟩, ⟨⟨trivial, rfl⟩, trivial⟩⟩⟩⟩⟩⟩) ?_ ?_
     ·refine s_dol (o_bslice (j := 4) (as' := []) rfl (fun _ => by decide) trivial (.refl _) rfl rfl rfl) (.inr ⟨⟨nle, rfl⟩, ⟨⟨trivial, rfl⟩, ⟨⟨nle, rfl⟩, ⟨⟨trivial, rfl⟩, ⟨⟨nle, rfl⟩, ⟨⟨trivial, rfl⟩, ⟨⟨nle, rfl⟩, ⟨⟨trivial, rfl⟩, trivial⟩⟩⟩⟩⟩⟩⟩⟩) trivial ?_
      refine s_dol (o_appendd (j := 5) (L := (([] ++ j_1.Keys).map AV.str)) (len := ([] ++ j_1.Keys).length) rfl false rfl rfl (fun _ => flm (fun _ => rfl) _) (fun _ _ _ => flm (fun _ => rfl) _) (by decide) ((by simp)) (by simp <;> omega) g4 rfl rfl) (.inr ⟨⟨nle, rfl⟩, ⟨⟨trivial, rfl⟩, ⟨⟨nle, rfl⟩, ⟨⟨trivial, rfl⟩, ⟨⟨nle, rfl⟩, ⟨⟨trivial, rfl⟩, trivial⟩⟩⟩⟩⟩⟩) trivial ?_
      refine s_q (.agg [(.int .i64 j_1.Kind), (.int .i64 j_1.N), (.str j_1.T), (.own 5 0 (([] ++ j_1.Keys).length)), (.own 4 0 0)]) rfl ⟨⟨rfl, nle, trivial⟩, ⟨⟨rfl, nle, trivial⟩, ⟨⟨rfl, nle, trivial⟩, ⟨⟨rfl, nle, trivial⟩, ⟨⟨rfl, nle, trivial⟩, trivial⟩⟩⟩⟩⟩ rfl <| s_dol0 (o_storebox (v := (.agg [(.int .i64 j_1.Kind), (.int .i64 j_1.N), (.str j_1.T), (.own 5 0 (([] ++ j_1.Keys).length)), (.own 4 0 0)])) (y' := (.agg [(.int .i64 j_1.Kind), (.int .i64 j_1.N), (.str j_1.T), (.own 5 0 (([] ++ j_1.Keys).length)), (.own 4 0 0)])) rfl rfl rfl trivial ⟨rfl, nle⟩ ⟨⟨rfl, trivial⟩, ⟨⟨rfl, trivial⟩, ⟨⟨rfl, trivial⟩, ⟨⟨rfl, trivial⟩, ⟨⟨rfl, trivial⟩, trivial⟩⟩⟩⟩⟩ rfl) trivial trivial <| w_done <| ?_; obtain rfl := os hb1; exact ⟨[], [0, 1, 3, 5, 4], _, _, rfl, rfl, ⟨.refl _, ⟨.refl _, ⟨.refl _, trivial⟩⟩⟩, (.cons (.refl _) (.cons (.refl _) (.cons (.box (.agg (.cons (.refl _) (.cons (.refl _) (.cons (.refl _) (.cons (.refl _) (.cons (.of_eq (congrArg (AV.own _ 0) (by simp))) .nil))))))) (.cons (.refl _) (.cons (.refl _) .nil)))))⟩
     ·refine s_dol (o_bslice (j := 5) (as' := []) rfl (fun _ => by decide) trivial (.refl _) rfl rfl rfl) (.inr ⟨⟨nle, rfl⟩, ⟨⟨trivial, rfl⟩, ⟨⟨nle, rfl⟩, ⟨⟨trivial, rfl⟩, ⟨⟨nle, rfl⟩, ⟨⟨trivial, rfl⟩, ⟨⟨nle, rfl⟩, ⟨⟨trivial, rfl⟩, trivial⟩⟩⟩⟩⟩⟩⟩⟩) trivial ?_; refine s_q (.agg [(.int .i64 j_1.Kind), (.int .i64 j_1.N), (.str j_1.T), (.own 4 0 (([] ++ j_1.Keys).length)), (.own 5 0 0)]) rfl ⟨⟨rfl, nle, trivial⟩, ⟨⟨rfl, nle, trivial⟩, ⟨⟨rfl, nle, trivial⟩, ⟨⟨rfl, nle, trivial⟩, ⟨⟨rfl, nle, trivial⟩, trivial⟩⟩⟩⟩⟩ rfl <| s_dol0 (o_storebox (v := (.agg [(.int .i64 j_1.Kind), (.int .i64 j_1.N), (.str j_1.T), (.own 4 0 (([] ++ j_1.Keys).length)), (.own 5 0 0)])) (y' := (.agg [(.int .i64 j_1.Kind), (.int .i64 j_1.N), (.str j_1.T), (.own 4 0 (([] ++ j_1.Keys).length)), (.own 5 0 0)])) rfl rfl rfl trivial ⟨rfl, nle⟩ ⟨⟨rfl, trivial⟩, ⟨⟨rfl, trivial⟩, ⟨⟨rfl, trivial⟩, ⟨⟨rfl, trivial⟩, ⟨⟨rfl, trivial⟩, trivial⟩⟩⟩⟩⟩ rfl) trivial trivial <| ?_
      refine w_done ?_; obtain rfl := os hb1; exact ⟨[], [0, 1, 3, 4, 5], _, _, rfl, rfl, ⟨.refl _, ⟨.refl _, ⟨.refl _, trivial⟩⟩⟩, (.cons (.refl _) (.cons (.refl _) (.cons (.box (.agg (.cons (.refl _) (.cons (.refl _) (.cons (.refl _) (.cons (.refl _) (.cons (.of_eq (congrArg (AV.own _ 0) (by simp))) .nil))))))) (.cons (.refl _) (.cons (.refl _) .nil)))))⟩
    ·refine s_dol (o_appendd (j := 4) (L := (([] ++ j_1.Keys).map AV.str)) (len := ([] ++ j_1.Keys).length) rfl false rfl rfl (fun _ => flm (fun _ => rfl) _) (fun _ _ _ => flm (fun _ => rfl) _) (by decide) ((by simp)) (by simp <;> omega) g4 rfl rfl) (.inr ⟨⟨nle, rfl⟩, ⟨⟨trivial, rfl⟩, ⟨⟨nle, rfl⟩, ⟨⟨trivial, rfl⟩, ⟨⟨nle, rfl⟩, ⟨⟨trivial, rfl⟩, trivial⟩⟩⟩⟩⟩⟩) ?_ ?_
     ·refine s_dol (o_box (j := 4) (c := (.agg [(.int .i64 0), (.int .i64 0), (.str []), .nil, .nil])) rfl trivial rfl rfl) (.inr ⟨⟨nle, rfl⟩, ⟨⟨trivial, rfl⟩, ⟨⟨nle, rfl⟩, ⟨⟨trivial, rfl⟩, ⟨⟨nle, rfl⟩, ⟨⟨trivial, rfl⟩, ⟨⟨nle, rfl⟩, ⟨⟨trivial, rfl⟩, trivial⟩⟩⟩⟩⟩⟩⟩⟩) trivial ?_
      refine s_dol (o_appendd (j := 5) (L := (([] ++ j_1.Keys).map AV.str)) (len := ([] ++ j_1.Keys).length) rfl false rfl rfl (fun _ => flm (fun _ => rfl) _) (fun _ _ _ => flm (fun _ => rfl) _) (by decide) ((by simp)) (by simp <;> omega) g4 rfl rfl) (.inr ⟨⟨nle, rfl⟩, ⟨⟨trivial, rfl⟩, ⟨⟨nle, rfl⟩, ⟨⟨trivial, rfl⟩, ⟨⟨nle, rfl⟩, ⟨⟨trivial, rfl⟩, trivial⟩⟩⟩⟩⟩⟩) trivial ?_
      refine s_q (.agg [(.int .i64 j_1.Kind), (.int .i64 j_1.N), (.str j_1.T), (.own 5 0 (([] ++ j_1.Keys).length)), (.own 3 0 0)]) rfl ⟨⟨rfl, nle, trivial⟩, ⟨⟨rfl, nle, trivial⟩, ⟨⟨rfl, nle, trivial⟩, ⟨⟨rfl, nle, trivial⟩, ⟨⟨rfl, nle, trivial⟩, trivial⟩⟩⟩⟩⟩ rfl <| s_dol0 (o_storebox (v := (.agg [(.int .i64 j_1.Kind), (.int .i64 j_1.N), (.str j_1.T), (.own 5 0 (([] ++ j_1.Keys).length)), (.own 3 0 0)])) (y' := (.agg [(.int .i64 j_1.Kind), (.int .i64 j_1.N), (.str j_1.T), (.own 5 0 (([] ++ j_1.Keys).length)), (.own 3 0 0)])) rfl rfl rfl trivial ⟨rfl, nle⟩ ⟨⟨rfl, trivial⟩, ⟨⟨rfl, trivial⟩, ⟨⟨rfl, trivial⟩, ⟨⟨rfl, trivial⟩, ⟨⟨rfl, trivial⟩, trivial⟩⟩⟩⟩⟩ rfl) trivial trivial <| w_done <| ?_; obtain rfl := os hb1; exact ⟨[], [0, 1, 4, 5, 3], _, _, rfl, rfl, ⟨.refl _, ⟨.refl _, ⟨.refl _, trivial⟩⟩⟩, (.cons (.refl _) (.cons (.refl _) (.cons (.box (.agg (.cons (.refl _) (.cons (.refl _) (.cons (.refl _) (.cons (.refl _) (.cons (.of_eq (congrArg (AV.own _ 0) (by simp))) .nil))))))) (.cons (.refl _) (.cons (.refl _) .nil)))))⟩
     ·refine s_q (.agg [(.int .i64 j_1.Kind), (.int .i64 j_1.N), (.str j_1.T), (.own 4 0 (([] ++ j_1.Keys).length)), (.own 3 0 0)]) rfl ⟨⟨rfl, nle, trivial⟩, ⟨⟨rfl, nle, trivial⟩, ⟨⟨rfl, nle, trivial⟩, ⟨⟨rfl, nle, trivial⟩, ⟨⟨rfl, nle, trivial⟩, trivial⟩⟩⟩⟩⟩ rfl <| s_dol (o_box (j := 5) (c := (.agg [(.int .i64 0), (.int .i64 0), (.str []), .nil, .nil])) rfl trivial rfl rfl) (.inr ⟨⟨⟨⟨rfl, nle, trivial⟩, ⟨⟨rfl, nle, trivial⟩, ⟨⟨rfl, nle, trivial⟩, ⟨⟨rfl, nle, trivial⟩, ⟨⟨rfl, nle, trivial⟩, trivial⟩⟩⟩⟩⟩, rfl⟩, ⟨⟨nle, rfl⟩, ⟨⟨trivial, rfl⟩, ⟨⟨nle, rfl⟩, ⟨⟨trivial, rfl⟩, ⟨⟨nle, rfl⟩, ⟨⟨trivial, rfl⟩, ⟨⟨nle, rfl⟩, ⟨⟨trivial, rfl⟩, trivial⟩⟩⟩⟩⟩⟩⟩⟩⟩) trivial <| s_dol0 (o_storebox (v := (.agg [(.int .i64 j_1.Kind), (.int .i64 j_1.N), (.str j_1.T), (.own 4 0 (([] ++ j_1.Keys).length)), (.own 3 0 0)])) (y' := (.agg [(.int .i64 j_1.Kind), (.int .i64 j_1.N), (.str j_1.T), (.own 4 0 (([] ++ j_1.Keys).length)), (.own 3 0 0)])) rfl rfl rfl trivial ⟨rfl, nle⟩ ⟨⟨rfl, trivial⟩, ⟨⟨rfl, trivial⟩, ⟨⟨rfl, trivial⟩, ⟨⟨rfl, trivial⟩, ⟨⟨rfl, trivial⟩, trivial⟩⟩⟩⟩⟩ rfl) trivial trivial <| ?_
      refine w_done ?_; obtain rfl := os hb1; exact ⟨[], [0, 1, 5, 4, 3], _, _, rfl, rfl, ⟨.refl _, ⟨.refl _, ⟨.refl _, trivial⟩⟩⟩, (.cons (.refl _) (.cons (.refl _) (.cons (.box (.agg (.cons (.refl _) (.cons (.refl _) (.cons (.refl _) (.cons (.refl _) (.cons (.of_eq (congrArg (AV.own _ 0) (by simp))) .nil))))))) (.cons (.refl _) (.cons (.refl _) .nil)))))⟩
   ·refine s_dol (o_bslice (j := 4) (as' := []) rfl (fun _ => by decide) trivial (.refl _) rfl rfl rfl) (.inr ⟨⟨nle, rfl⟩, ⟨⟨trivial, rfl⟩, ⟨⟨nle, rfl⟩, ⟨⟨trivial, rfl⟩, ⟨⟨nle, rfl⟩, ⟨⟨trivial, rfl⟩, ⟨⟨nle, rfl⟩, ⟨⟨trivial, rfl⟩, trivial⟩⟩⟩⟩⟩⟩⟩⟩) ?_ ?_
    ·refine s_dol (o_box (j := 4) (c := (.agg [(.int .i64 0), (.int .i64 0), (.str []), .nil, .nil])) rfl trivial rfl rfl) (.inr ⟨⟨nle, rfl⟩, ⟨⟨trivial, rfl⟩, ⟨⟨nle, rfl⟩, ⟨⟨trivial, rfl⟩, ⟨⟨nle, rfl⟩, ⟨⟨trivial, rfl⟩, ⟨⟨nle, rfl⟩, ⟨⟨trivial, rfl⟩, trivial⟩⟩⟩⟩⟩⟩⟩⟩) trivial ?_; refine s_dol (o_bslice (j := 5) (as' := []) rfl (fun _ => by decide) trivial (.refl _) rfl rfl rfl) (.inr ⟨⟨nle, rfl⟩, ⟨⟨trivial, rfl⟩, ⟨⟨nle, rfl⟩, ⟨⟨trivial, rfl⟩, ⟨⟨nle, rfl⟩, ⟨⟨trivial, rfl⟩, ⟨⟨nle, rfl⟩, ⟨⟨trivial, rfl⟩, trivial⟩⟩⟩⟩⟩⟩⟩⟩) trivial ?_; refine s_q (.agg [(.int .i64 j_1.Kind), (.int .i64 j_1.N), (.str j_1.T), (.own 3 0 (([] ++ j_1.Keys).length)), (.own 5 0 0)]) rfl ⟨⟨rfl, nle, trivial⟩, ⟨⟨rfl, nle, trivial⟩, ⟨⟨rfl, nle, trivial⟩, ⟨⟨rfl, nle, trivial⟩, ⟨⟨rfl, nle, trivial⟩, trivial⟩⟩⟩⟩⟩ rfl ?_
     refine s_dol0 (o_storebox (v := (.agg [(.int .i64 j_1.Kind), (.int .i64 j_1.N), (.str j_1.T), (.own 3 0 (([] ++ j_1.Keys).length)), (.own 5 0 0)])) (y' := (.agg [(.int .i64 j_1.Kind), (.int .i64 j_1.N), (.str j_1.T), (.own 3 0 (([] ++ j_1.Keys).length)), (.own 5 0 0)])) rfl rfl rfl trivial ⟨rfl, nle⟩ ⟨⟨rfl, trivial⟩, ⟨⟨rfl, trivial⟩, ⟨⟨rfl, trivial⟩, ⟨⟨rfl, trivial⟩, ⟨⟨rfl, trivial⟩, trivial⟩⟩⟩⟩⟩ rfl) trivial trivial <| w_done <| ?_; obtain rfl := os hb1; exact ⟨[], [0, 1, 4, 3, 5], _, _, rfl, rfl, ⟨.refl _, ⟨.refl _, ⟨.refl _, trivial⟩⟩⟩, (.cons (.refl _) (.cons (.refl _) (.cons (.box (.agg (.cons (.refl _) (.cons (.refl _) (.cons (.refl _) (.cons (.refl _) (.cons (.of_eq (congrArg (AV.own _ 0) (by simp))) .nil))))))) (.cons (.refl _) (.cons (.refl _) .nil)))))⟩
    ·refine s_q (.agg [(.int .i64 j_1.Kind), (.int .i64 j_1.N), (.str j_1.T), (.own 3 0 (([] ++ j_1.Keys).length)), (.own 4 0 0)]) rfl ⟨⟨rfl, nle, trivial⟩, ⟨⟨rfl, nle, trivial⟩, ⟨⟨rfl, nle, trivial⟩, ⟨⟨rfl, nle, trivial⟩, ⟨⟨rfl, nle, trivial⟩, trivial⟩⟩⟩⟩⟩ rfl <| s_dol (o_box (j := 5) (c := (.agg [(.int .i64 0), (.int .i64 0), (.str []), .nil, .nil])) rfl trivial rfl rfl) (.inr ⟨⟨⟨⟨rfl, nle, trivial⟩, ⟨⟨rfl, nle, trivial⟩, ⟨⟨rfl, nle, trivial⟩, ⟨⟨rfl, nle, trivial⟩, ⟨⟨rfl, nle, trivial⟩, trivial⟩⟩⟩⟩⟩, rfl⟩, ⟨⟨nle, rfl⟩, ⟨⟨trivial, rfl⟩, ⟨⟨nle, rfl⟩, ⟨⟨trivial, rfl⟩, ⟨⟨nle, rfl⟩, ⟨⟨trivial, rfl⟩, ⟨⟨nle, rfl⟩, ⟨⟨trivial, rfl⟩, trivial⟩⟩⟩⟩⟩⟩⟩⟩⟩) trivial <| s_dol0 (o_storebox (v := (.agg [(.int .i64 j_1.Kind), (.int .i64 j_1.N), (.str j_1.T), (.own 3 0 (([] ++ j_1.Keys).length)), (.own 4 0 0)])) (y' := (.agg [(.int .i64 j_1.Kind), (.int .i64 j_1.N), (.str j_1.T), (.own 3 0 (([] ++ j_1.Keys).length)), (.own 4 0 0)])) rfl rfl rfl trivial ⟨rfl, nle⟩ ⟨⟨rfl, trivial⟩, ⟨⟨rfl, trivial⟩, ⟨⟨rfl, trivial⟩, ⟨⟨rfl, trivial⟩, ⟨⟨rfl, trivial⟩, trivial⟩⟩⟩⟩⟩ rfl) trivial trivial <| ?_
     refine w_done ?_; obtain rfl := os hb1; exact ⟨[], [0, 1, 5, 3, 4], _, _, rfl, rfl, ⟨.refl _, ⟨.refl _, ⟨.refl _, trivial⟩⟩⟩, (.cons (.refl _) (.cons (.refl _) (.cons (.box (.agg (.cons (.refl _) (.cons (.refl _) (.cons (.refl _) (.cons (.refl _) (.cons (.of_eq (congrArg (AV.own _ 0) (by simp))) .nil))))))) (.cons (.refl _) (.cons (.refl _) .nil)))))⟩
 ·refine awp_seq <| awp_seq <| w_reg <| s_mov (.int .i64 0) rfl <| w_done <| k_seq <| ?_
  obtain ⟨x_31, hb1, hf⟩ := ob hf
  refine awp_cut ([(2, (.ptr 0 0 0)), (3, (.ptr 1 0 0))], [.box 5 (.agg [(.int .i64 0), (.int .i64 0), (.str []), .nil, .nil]), .box 5 (.agg [(.int .i64 j_1.Kind), (.int .i64 j_1.N), (.str j_1.T), (.own 2 0 (([] ++ j_1.Keys).length)), (.own 3 0 x_31.length)]), .row 1 (([] ++ j_1.Keys).map AV.str), .row 5 (x_31.map encGJson)]) ?_ ?_
  ·refine awp_loop (X := {q : (Nat × (List GJson)) // spec_l01Own_B_L1 rec (j_1.Items.drop q.1) q.2 = some x_31}) (fun q => ([(1, (.ptr 0 0 0)), (2, (.ptr 1 0 0)), (3, (.ptr 2 0 0)), (4, (.int .i64 (q.1.1 : Int)))], [.box 5 (.agg [(.int .i64 j_1.Kind), (.int .i64 j_1.N), (.str j_1.T), (.lst 1 (j_1.Keys.map AV.str)), (.lst 5 (j_1.Items.map encGJson))]), .box 5 (.agg [(.int .i64 0), (.int .i64 0), (.str []), .nil, .nil]), .box 5 (.agg [(.int .i64 j_1.Kind), (.int .i64 j_1.N), (.str j_1.T), (.own 3 0 (([] ++ j_1.Keys).length)), (.own 4 0 q.1.2.length)]), .row 1 (([] ++ j_1.Keys).map AV.str), .row 5 (q.1.2.map encGJson)])) (fun q => j_1.Items.length - q.1.1) ⟨(0, []), hb1⟩ ⟨[], [0, 1, 2, 3, 4], _, _, rfl, rfl, ⟨.refl _, ⟨.refl _, ⟨.refl _, ⟨.refl _, trivial⟩⟩⟩⟩, (.refl _)⟩ ?_
   rintro ⟨⟨i_21, x_22⟩, hc1⟩
   have hc1 : spec_l01Own_B_L1 rec (j_1.Items.drop i_21) x_22 = some x_31 := hc1
   refine (show awp Try.prog true 0 _ (ofL [(1, (.ptr 0 0 0)), (2, (.ptr 1 0 0)), (3, (.ptr 2 0 0)), (4, (.int .i64 (i_21 : Int)))]) [.box 5 (.agg [(.int .i64 j_1.Kind), (.int .i64 j_1.N), (.str j_1.T), (.lst 1 (j_1.Keys.map AV.str)), (.lst 5 (j_1.Items.map encGJson))]), .box 5 (.agg [(.int .i64 0), (.int .i64 0), (.str []), .nil, .nil]), .box 5 (.agg [(.int .i64 j_1.Kind), (.int .i64 j_1.N), (.str j_1.T), (.own 3 0 (([] ++ j_1.Keys).length)), (.own 4 0 x_22.length)]), .row 1 (([] ++ j_1.Keys).map AV.str), .row 5 (x_22.map encGJson)] _ from ?_)
   rcases dropc j_1.Items i_21 with ⟨hie35, hd38⟩ | ⟨hlt33, x_39, hx34, hd38⟩
   ·rw [hd38, spec_l01Own_B_L1.eq_1] at hc1
    have hq37 := dlf hie35
    refine awp_seq <| awp_seq <| w_reg <| s_mov (.int .i64 (i_21 : Int)) rfl <| s_q (.ptr 0 0 4) rfl trivial rfl <| s_q (.lst 5 (j_1.Items.map encGJson)) rfl nle rfl <| s_dof (o_len (enc := encGJson) rfl) fun hl40 => s_q (.bool (decide ((i_21 : Int) < (j_1.Items.length : Int)))) rfl rfl rfl <| w_done <| k_seq <| w_condf rfl hq37 <| w_exit <| k_seqx <| k_loopx <| k_blkx <| ?_; obtain rfl := os hc1; exact ⟨[], [1, 2, 3, 4], _, _, rfl, rfl, ⟨.refl _, ⟨.refl _, trivial⟩⟩, (.refl _)⟩
   ·rw [hd38, spec_l01Own_B_L1.eq_2] at hc1
    have hq37 := dlt hlt33
    refine awp_seq <| awp_seq <| w_reg <| s_mov (.int .i64 (i_21 : Int)) rfl <| s_q (.ptr 0 0 4) rfl trivial rfl <| s_q (.lst 5 (j_1.Items.map encGJson)) rfl nle rfl <| s_dof (o_len (enc := encGJson) rfl) fun hl41 => s_q (.bool (decide ((i_21 : Int) < (j_1.Items.length : Int)))) rfl rfl rfl <| w_done <| k_seq <| w_condt rfl hq37 <| w_skip <| k_seq <| awp_seq <| w_blk <| w_reg <| ?_
    obtain ⟨r_42, er43, hc1⟩ := ob hc1
    obtain ⟨g44, hc1⟩ := og hc1
    refine s_q (.ptr 2 0 4) rfl trivial rfl <| s_q (.own 4 0 x_22.length) rfl nle rfl <| s_q (.ptr 0 0 4) rfl trivial rfl <| s_q (.lst 5 (j_1.Items.map encGJson)) rfl nle rfl <| s_mov (.int .i64 (i_21 : Int)) rfl <| s_do (o_iaddrn (enc := encGJson) rfl rfl hx34) <| s_do (o_loadeq (v := (.agg [(.int .i64 x_39.Kind), (.int .i64 x_39.N), (.str x_39.T), (.lst 1 (x_39.Keys.map AV.str)), (.lst 5 (x_39.Items.map encGJson))])) rfl (encGJson_eq _) nle rfl) <| s_dol (o_callf (v := (.agg [(.int .i64 r_42.Kind), (.int .i64 r_42.N), (.str r_42.T), (.own 5 0 r_42.Keys.length), (.own 6 0 r_42.Items.length)])) (h' := [.row 1 (r_42.Keys.map AV.str), .row 5 (r_42.Items.map encGJson)]) (hrec _ _ er43) rfl (.cons (.of_eq (encGJson_eq x_39).symm) .nil) (by simp only [openV, openVs, List.length_map, encGJson_eq, List.nil_append, List.append_nil, List.cons_append]; rfl)) (.inr ⟨⟨nle, rfl⟩, ⟨⟨trivial, rfl⟩, trivial⟩⟩) trivial <| ?_
    refine s_dol (o_bslice (j := 7) (as' := [(encGJson r_42)]) rfl (fun _ => by decide) ⟨rfl, trivial⟩ (.cons (leJ (x := r_42) (.agg (.cons (.refl _) (.cons (.refl _) (.cons (.refl _) (.cons (.of_eq (congrArg (AV.lst _) (tk (enc := AV.str) r_42.Keys))) (.cons (.of_eq (congrArg (AV.lst _) (tk (enc := encGJson) r_42.Items))) .nil))))))) .nil) rfl rfl rfl) (.inr ⟨⟨nle, rfl⟩, ⟨⟨trivial, rfl⟩, trivial⟩⟩) trivial ?_
    refine s_dol (o_appendd (j := 8) (L := ((x_22 ++ [r_42]).map encGJson)) (len := (x_22 ++ [r_42]).length) rfl true rfl rfl (fun h => Bool.noConfusion h) (fun _ _ h => (ownl (show AV.own _ _ _ = AV.lst _ _ from h)).elim) (by decide) (apo (enc := encGJson) x_22 [r_42]) (by simp <;> omega) g44 rfl rfl) trivial trivial ?_
    refine s_q (.ptr 2 0 4) rfl trivial rfl <| s_dol0 (o_storebox (v := (.own 8 0 ((x_22 ++ [r_42]).length))) (y' := (.agg [(.int .i64 j_1.Kind), (.int .i64 j_1.N), (.str j_1.T), (.own 3 0 (([] ++ j_1.Keys).length)), (.own 8 0 ((x_22 ++ [r_42]).length))])) rfl rfl rfl trivial ⟨rfl, nle⟩ ⟨⟨rfl, trivial⟩, trivial⟩ rfl) trivial trivial <| w_done <| k_blk <| k_seq <| w_reg <| s_mov (.int .i64 (i_21 : Int)) rfl <| s_q (.int .i64 (w64 ((i_21 : Int) + 1))) rfl rfl rfl <| s_mov (.int .i64 (w64 ((i_21 : Int) + 1))) rfl <| w_done <| ?_; exact k_loopn ⟨((i_21 + 1), x_22 ++ [r_42]), hc1⟩ (mul hlt33) ⟨[], [0, 1, 2, 3, 8], _, _, rfl, rfl, ⟨.refl _, ⟨.refl _, ⟨.refl _, ⟨.of_eq (congrArg (AV.int _) (w64_incr hlt33 hl41)), trivial⟩⟩⟩⟩, (.refl _)⟩
  ·refine awp_seq <| w_reg <| s_q (.agg [(.int .i64 j_1.Kind), (.int .i64 j_1.N), (.str j_1.T), (.own 2 0 (([] ++ j_1.Keys).length)), (.own 3 0 x_31.length)]) rfl nle rfl <| s_do0 (o_storebox (v := (.agg [(.int .i64 j_1.Kind), (.int .i64 j_1.N), (.str j_1.T), (.own 2 0 (([] ++ j_1.Keys).length)), (.own 3 0 x_31.length)])) (y' := (.agg [(.int .i64 j_1.Kind), (.int .i64 j_1.N), (.str j_1.T), (.own 2 0 (([] ++ j_1.Keys).length)), (.own 3 0 x_31.length)])) rfl rfl rfl trivial ⟨rfl, nle⟩ ⟨⟨rfl, trivial⟩, ⟨⟨rfl, trivial⟩, ⟨⟨rfl, trivial⟩, ⟨⟨rfl, trivial⟩, ⟨⟨rfl, trivial⟩, trivial⟩⟩⟩⟩⟩ rfl) <| w_done <| k_seq <| w_ret <| ?_; obtain rfl := os hf; exact r_fresh ⟨nle, trivial⟩ rfl (by decide) (leJ (x := (⟨j_1.Kind, j_1.N, j_1.T, [] ++ j_1.Keys, x_31⟩ : GJson)) (.agg (.cons (.refl _) (.cons (.refl _) (.cons (.refl _) (.cons (.of_eq (congrArg (AV.lst _) (tk (enc := AV.str) ([] ++ j_1.Keys)))) (.cons (.of_eq (congrArg (AV.lst _) (tk (enc := encGJson) x_31))) .nil)))))))
def spec_l01Own : Nat → GJson → Option GJson
 | 0, _ => none
 | k + 1, j_1 => spec_l01Own_B (spec_l01Own k) j_1
theorem w_spec_l01Own : ∀ (k : Nat) (j_1 : GJson) (r : GJson), spec_l01Own k j_1 = some r → CallOK Try.prog 107 .fresh [(encGJson j_1)] (encGJson r)
 | 0, j_1, r, h => by rw [spec_l01Own.eq_1] at h; cases h
 | k + 1, j_1, r, h => by
  rw [spec_l01Own.eq_2] at h; exact w_spec_l01Own_B _ (w_spec_l01Own k) j_1 r h

/- spec.AtomJson -/
def c35 : ACode :=
 (.seq (.reg (tq 1 (.box 3 (.t 0)) (tq 2 (.box 5 (.c (.agg [(.int .i64 0), (.int .i64 0), (.str []), .nil, .nil]))) (tm 3 (.c (.int .i64 0)) .done))))
 (.seq (.seq (.reg (tq 4 (.load 3 true (.t 1)) (tq 5 (.call 106 [(.t 4)]) (tq 6 (.not (.t 5)) .done))))
 (.cond (.t 6) (.seq (.reg (tq 7 (.build [(.int .i64 0), (.int .i64 0), (.str []), .nil, .nil] []) (.q ⟨none, none, .store 5 (.t 2) (.t 7)⟩
 (tm 3 (.c (.int .i64 1)) .done))))
 .ret)
 .skip))
 (.seq (.reg (tq 8 (.load 3 true (.t 1)) (tq 9 (.call 108 [(.t 8)]) (tq 10 (.call 107 [(.t 9)]) (.q ⟨none, none, .store 5 (.t 2) (.t 10)⟩
 (tm 3 (.c (.int .i64 0)) .done))))))
 .ret)))
theorem fc35 : fcomp Try.prog Try.f35 = some (c35.erase, [.load 5 true (.t 2), .mov (.t 3)], 11) := by kernel_rfl
def spec_AtomJson (a_1 : GAtom) : Option (GJson × Int) :=
    (spec_AtomOK a_1).bind fun r_2 =>
    if (!r_2) then
    some ((⟨0, 0, [], [], []⟩ : GJson), 1)
    else
    (spec_l13Atom a_1).bind fun r_5 =>
    (spec_l01Own FUEL r_5).bind fun r_7 =>
    some (r_7, 0)
theorem w_spec_AtomJson (a_1 : GAtom) (r : (GJson × Int)) (hf : spec_AtomJson a_1 = some r) : CallOK Try.prog 35 .fresh [(encGAtom a_1)] (.tup [(encGJson r.1), (.int .i64 r.2)]) := by
 refine CallOK.of_awp mixed Try.func35 fc35 nle ?_; rw [argT_eq]; unfold spec_AtomJson at hf; unfold c35; refine (show awp Try.prog true 0 _ (ofL [(0, (encGAtom a_1))]) [] _ from ?_); refine awp_seq <| w_reg <| s_do (o_box (j := 0) (c := (.agg [(.int .i64 a_1.Kind), (.int .i64 a_1.N), (.str a_1.T)])) rfl trivial rfl rfl) <| s_do (o_box (j := 1) (c := (.agg [(.int .i64 0), (.int .i64 0), (.str []), .nil, .nil])) rfl trivial rfl rfl) <| s_mov (.int .i64 0) rfl <| w_done <| k_seq <| awp_seq <| awp_seq <| w_reg <| ?_
 obtain ⟨r_2, er3, hf⟩ := ob hf
 refine s_q (.agg [(.int .i64 a_1.Kind), (.int .i64 a_1.N), (.str a_1.T)]) rfl nle rfl <| s_do (o_call (w_spec_AtomOK _ _ er3) rfl (.refl _) rfl) <| s_q (.bool (!r_2)) rfl trivial rfl <| w_done <| k_seq <| ?_
 rcases oi hf with ⟨c4, hf⟩ | ⟨c4, hf⟩
 ·refine w_condt rfl c4 <| awp_seq <| w_reg <| s_q (.agg [(.int .i64 0), (.int .i64 0), (.str []), .nil, .nil]) rfl trivial rfl <| s_do0 (o_storebox (v := (.agg [(.int .i64 0), (.int .i64 0), (.str []), .nil, .nil])) (y' := (.agg [(.int .i64 0), (.int .i64 0), (.str []), .nil, .nil])) rfl rfl rfl trivial ⟨rfl, nle⟩ ⟨⟨rfl, trivial⟩, ⟨⟨rfl, trivial⟩, ⟨⟨rfl, trivial⟩, ⟨⟨rfl, trivial⟩, ⟨⟨rfl, trivial⟩, trivial⟩⟩⟩⟩⟩ rfl) <| s_mov (.int .i64 1) rfl <| w_done <| k_seq <| w_ret <| ?_; obtain rfl := os hf; exact r_fresh ⟨nle, ⟨trivial, trivial⟩⟩ rfl (by decide) (.tup (.cons (leJ (x := (⟨0, 0, [], [], []⟩ : GJson)) (.agg (.cons (.refl _) (.cons (.refl _) (.cons (.refl _) (.cons (.nil _) (.cons (.nil _) .nil))))))) (.cons (.refl _) .nil)))
 ·refine w_condf rfl (bf c4) <| w_skip <| k_seq <| awp_seq <| w_reg <| ?_
  obtain ⟨r_5, er6, hf⟩ := ob hf
  obtain ⟨r_7, er8, hf⟩ := ob hf
  refine s_q (.agg [(.int .i64 a_1.Kind), (.int .i64 a_1.N), (.str a_1.T)]) rfl nle rfl <| s_do (o_callf (v := (.agg [(.int .i64 r_5.Kind), (.int .i64 r_5.N), (.str r_5.T), (.own 2 0 r_5.Keys.length), (.own 3 0 r_5.Items.length)])) (h' := [.row 1 (r_5.Keys.map AV.str), .row 5 (r_5.Items.map encGJson)]) (w_spec_l13Atom _ _ er6) rfl (.refl _) (by simp only [openV, openVs, List.length_map, encGJson_eq, List.nil_append, List.append_nil, List.cons_append]; rfl)) <| s_do (o_callf (v := (.agg [(.int .i64 r_7.Kind), (.int .i64 r_7.N), (.str r_7.T), (.own 4 0 r_7.Keys.length), (.own 5 0 r_7.Items.length)])) (h' := [.row 1 (r_7.Keys.map AV.str), .row 5 (r_7.Items.map encGJson)]) (w_spec_l01Own FUEL _ _ er8) rfl (.cons (leJ (x := r_5) (.agg (.cons (.refl _) (.cons (.refl _) (.cons (.refl _) (.cons (.of_eq (congrArg (AV.lst _) (tko (enc := AV.str) r_5.Keys))) (.cons (.of_eq (congrArg (AV.lst _) (tko (enc := encGJson) r_5.Items))) .nil))))))) .nil) (by simp only [openV, openVs, List.length_map, encGJson_eq, List.nil_append, List.append_nil, List.cons_append]; rfl)) <| ?_
  refine s_do0 (o_storebox (v := (.agg [(.int .i64 r_7.Kind), (.int .i64 r_7.N), (.str r_7.T), (.own 4 0 r_7.Keys.length), (.own 5 0 r_7.Items.length)])) (y' := (.agg [(.int .i64 r_7.Kind), (.int .i64 r_7.N), (.str r_7.T), (.own 4 0 r_7.Keys.length), (.own 5 0 r_7.Items.length)])) rfl rfl rfl trivial ⟨rfl, nle⟩ ⟨⟨rfl, trivial⟩, ⟨⟨rfl, trivial⟩, ⟨⟨rfl, trivial⟩, ⟨⟨rfl, trivial⟩, ⟨⟨rfl, trivial⟩, trivial⟩⟩⟩⟩⟩ rfl) <| s_mov (.int .i64 0) rfl <| w_done <| k_seq <| w_ret <| ?_; obtain rfl := os hf; exact r_fresh ⟨nle, ⟨trivial, trivial⟩⟩ rfl (by decide) (.tup (.cons (leJ (x := r_7) (.agg (.cons (.refl _) (.cons (.refl _) (.cons (.refl _) (.cons (.of_eq (congrArg (AV.lst _) (tk (enc := AV.str) r_7.Keys))) (.cons (.of_eq (congrArg (AV.lst _) (tk (enc := encGJson) r_7.Items))) .nil))))))) (.cons (.refl _) .nil)))

/- impl.within -/
def c86 : ACode :=
 (.seq (.reg (tm 6 (.c (.bool false)) .done))
 (.seq (.reg (tm 7 (.t 0) (tm 8 (.t 1) (tq 9 (.bin .geq (.t 7) (.t 8)) (tm 10 (.t 9) (tg 11 10 true (.mov (.t 0)) (tg 12 10 true (.mov (.t 2)) (tg 13 10 true (.bin .leq (.t 11) (.t 12)) (tq 14 (.pick (.t 10) (.t 13) (.c (.bool false))) (tm 6 (.t 14) .done))))))))))
 .ret))
theorem fc86 : fcomp Try.prog Try.f86 = some (c86.erase, [.mov (.t 6)], 15) := by kernel_rfl
def impl_within (n_1 : Int) (low_2 : Int) (high_3 : Int) : Option Bool :=
    if (decide (n_1 ≥ low_2)) then
    some (decide (n_1 ≤ high_3))
    else
    some false
theorem w_impl_within (n_1 : Int) (low_2 : Int) (high_3 : Int) (r : Bool) (hf : impl_within n_1 low_2 high_3 = some r) : CallOK Try.prog 86 .flat [(.int .i64 n_1), (.int .i64 low_2), (.int .i64 high_3)] (.bool r) := by
 refine CallOK.of_awp mixed Try.func86 fc86 nle ?_; rw [argT_eq]; unfold impl_within at hf; unfold c86; refine (show awp Try.prog false 0 _ (ofL [(0, (.int .i64 n_1)), (1, (.int .i64 low_2)), (2, (.int .i64 high_3))]) [] _ from ?_); refine awp_seq <| w_reg <| s_mov (.bool false) rfl <| w_done <| k_seq <| awp_seq <| w_reg <| ?_
 rcases oi hf with ⟨c4, hf⟩ | ⟨c4, hf⟩
 ·refine s_mov (.int .i64 n_1) rfl <| s_mov (.int .i64 low_2) rfl <| s_q (.bool (decide (n_1 ≥ low_2))) rfl rfl rfl <| s_mov (.bool (decide (n_1 ≥ low_2))) rfl <| s_lit (s := 10) (b := true) rfl c4 <| s_on rfl <| s_mov (.int .i64 n_1) rfl <| s_on rfl <| s_mov (.int .i64 high_3) rfl <| s_on rfl <| s_q (.bool (decide (n_1 ≤ high_3))) rfl rfl rfl <| s_q (.bool (decide (n_1 ≤ high_3))) rfl trivial rfl <| s_mov (.bool (decide (n_1 ≤ high_3))) rfl <| w_done <| k_seq <| w_ret <| ?_; obtain rfl := os hf; exact r_flat ⟨trivial, trivial⟩ rfl (.refl _)
 ·refine s_mov (.int .i64 n_1) rfl <| s_mov (.int .i64 low_2) rfl <| s_q (.bool (decide (n_1 ≥ low_2))) rfl rfl rfl <| s_mov (.bool (decide (n_1 ≥ low_2))) rfl <| s_lit (s := 10) (b := false) rfl (bf c4) <| s_off rfl rfl <| s_off rfl rfl <| s_off rfl rfl <| s_q (.bool false) rfl trivial rfl <| s_mov (.bool false) rfl <| w_done <| k_seq <| w_ret <| ?_; obtain rfl := os hf; exact r_flat ⟨trivial, trivial⟩ rfl (.refl _)

/- impl.isNumber -/
def c136 : ACode :=
 (.seq (.reg (tm 2 (.c (.bool false)) .done))
 (.seq (.reg (tm 3 (.t 0) (tq 4 (.call 86 [(.t 3), (.c (.int .i64 (-1000000000))), (.c (.int .i64 1000000000))]) (tm 2 (.t 4) .done))))
 .ret))
theorem fc136 : fcomp Try.prog Try.f136 = some (c136.erase, [.mov (.t 2)], 5) := by kernel_rfl
def impl_isNumber (n_1 : Int) : Option Bool :=
    (impl_within n_1 (-1000000000) 1000000000).bind fun r_2 =>
    some r_2
theorem w_impl_isNumber (n_1 : Int) (r : Bool) (hf : impl_isNumber n_1 = some r) : CallOK Try.prog 136 .flat [(.int .i64 n_1)] (.bool r) := by
  refine CallOK.of_awp mixed Try.func136 fc136 nle ?_
  rw [argT_eq]
  unfold impl_isNumber at hf
  unfold c136
  refine (show awp Try.prog false 0 _ (ofL [(0, (.int .i64 n_1))]) [] _ from ?_)
  refine awp_seq ?_
  refine w_reg ?_
  refine s_do (o_mov (.bool false) rfl) ?_
  refine w_done ?_
  refine k_seq ?_
  refine awp_seq ?_
  refine w_reg ?_
  obtain ⟨r_2, er3, hf⟩ := ob hf
  refine s_do (o_mov (.int .i64 n_1) rfl) ?_
  refine s_do (o_call (w_impl_within _ _ _ _ er3) rfl (.refl _) rfl) ?_
  refine s_do (o_mov (.bool r_2) rfl) ?_
  refine w_done ?_
  refine k_seq ?_
  refine w_ret ?_
  obtain rfl := os hf
  exact r_flat ⟨trivial, trivial⟩ rfl (.refl _)

/- impl.isPlain -/
def c174 : ACode :=
 (.seq (.reg (tm 2 (.c (.bool false)) .done))
 (.seq (.seq (.reg (tm 4 (.t 0) (tq 5 (.lenS (.t 4)) (tm 6 (.c (.int .i64 0)) .done))))
 (.block 0 (.loop (.seq (.reg (tq 7 (.bin .lss (.t 6) (.t 5)) .done))
 (.seq (.cond (.t 7) .skip
 (.exit 0))
 (.seq (.block 1 (.seq (.reg (tm 8 (.t 6) (tm 3 (.t 8) .done)))
 (.seq (.reg (tm 9 (.t 0) (tm 10 (.t 3) (tq 11 (.idxs (.t 9) (.t 10)) (tq 12 (.bin .lss (.t 11) (.c (.int .u8 32))) (tm 13 (.t 12) (tg 14 13 false (.mov (.t 0)) (tg 15 13 false (.mov (.t 3)) (tg 16 13 false (.idxs (.t 14) (.t 15)) (tg 17 13 false (.bin .gtr (.t 16) (.c (.int .u8 126))) (tq 18 (.pick (.t 13) (.c (.bool true)) (.t 17)) .done)))))))))))
 (.cut (.cond (.t 18) (.seq (.reg (tm 2 (.c (.bool false)) .done))
 .ret)
 .skip)))))
 (.reg (tq 19 (.bin .add (.t 6) (.c (.int .i64 1))) (tm 6 (.t 19) .done)))))))))
 (.cut (.seq (.reg (tm 20 (.t 0) (tq 21 (.lenS (.t 20)) (tq 22 (.bin .leq (.t 21) (.c (.int .i64 200))) (tm 2 (.t 22) .done)))))
 .ret))))
theorem fc174 : fcomp Try.prog Try.f174 = some (c174.erase, [.mov (.t 2)], 23) := by kernel_rfl
def impl_isPlain_L1  : List UInt8 → Option (Fl Bool Unit)
  | [] =>
    some (.go ())
  | x_54 :: xs =>
    ((if (decide ((x_54.toNat : Int) < 32)) then
    some true
    else
    some (decide ((x_54.toNat : Int) > 126)) : Option Bool)).bind fun s18_56 =>
    if s18_56 then
    some (.ret false)
    else
    impl_isPlain_L1 xs 

def impl_isPlain (t_1 : Str) : Option Bool :=
    (impl_isPlain_L1 t_1 ).bind fun q => (match q with
    | .ret r => some r
    | .go _ =>
    some (decide ((t_1.length : Int) ≤ 200)))
theorem w_impl_isPlain (t_1 : Str) (r : Bool) (hf : impl_isPlain t_1 = some r) : CallOK Try.prog 174 .flat [(.str t_1)] (.bool r) := by
 refine CallOK.of_awp mixed Try.func174 fc174 nle ?_; rw [argT_eq]; unfold impl_isPlain at hf; unfold c174; refine (show awp Try.prog false 0 _ (ofL [(0, (.str t_1))]) [] _ from ?_); refine awp_seq <| w_reg <| s_mov (.bool false) rfl <| w_done <| k_seq <| awp_seq <| awp_seq <| w_reg <| s_mov (.str t_1) rfl <| s_dof (o_lenS rfl) fun hl2 => s_mov (.int .i64 0) rfl <| w_done <| k_seq <| ?_
 obtain ⟨p47, hb1, hf⟩ := ob hf
 refine awp_cutx (X := {q : Unit // p47 = .go q}) (fun q => ([(0, (.str t_1))], [])) ?_ ?_
 ·refine awp_loop (X := {q : Nat // impl_isPlain_L1 (t_1.drop q)  = some p47}) (fun q => ([(0, (.str t_1)), (5, (.int .i64 (t_1.length : Int))), (6, (.int .i64 (q.1 : Int)))], [])) (fun q => t_1.length - q.1) ⟨0, hb1⟩ ⟨[], [], _, _, rfl, rfl, ⟨.refl _, ⟨.refl _, ⟨.refl _, trivial⟩⟩⟩, (.refl _)⟩ ?_
  rintro ⟨s6_32, hc1⟩
  have hc1 : impl_isPlain_L1 (t_1.drop s6_32)  = some p47 := hc1
  refine (show awp Try.prog false 0 _ (ofL [(0, (.str t_1)), (5, (.int .i64 (t_1.length : Int))), (6, (.int .i64 (s6_32 : Int)))]) [] _ from ?_)
  rcases dropc t_1 s6_32 with ⟨hie50, hd53⟩ | ⟨hlt48, x_54, hx49, hd53⟩
  ·rw [hd53, impl_isPlain_L1.eq_1] at hc1
   have hq52 := dlf hie50
   refine awp_seq <| w_reg <| s_q (.bool (decide ((s6_32 : Int) < (t_1.length : Int)))) rfl rfl rfl <| w_done <| k_seq <| awp_seq <| w_condf rfl hq52 <| w_exit <| k_seqx <| k_loopx <| k_blkx <| ?_; obtain rfl := os hc1; exact k_cutn ⟨_, rfl⟩ ⟨[], [], _, _, rfl, rfl, ⟨.refl _, trivial⟩, (.refl _)⟩
  ·rw [hd53, impl_isPlain_L1.eq_2] at hc1
   have hq52 := dlt hlt48
   refine awp_seq <| w_reg <| s_q (.bool (decide ((s6_32 : Int) < (t_1.length : Int)))) rfl rfl rfl <| w_done <| k_seq <| awp_seq <| w_condt rfl hq52 <| w_skip <| k_seq <| awp_seq <| w_blk <| awp_seq <| w_reg <| s_mov (.int .i64 (s6_32 : Int)) rfl <| s_mov (.int .i64 (s6_32 : Int)) rfl <| w_done <| k_seq <| awp_seq <| ?_
   obtain ⟨s18_56, hb2, hc1⟩ := ob hc1
   refine awp_cut ([(0, (.str t_1)), (5, (.int .i64 (t_1.length : Int))), (6, (.int .i64 (s6_32 : Int))), (18, (.bool s18_56))], []) ?_ ?_
   ·refine w_reg ?_
    rcases oi hb2 with ⟨c58, hb2⟩ | ⟨c58, hb2⟩
    ·refine s_mov (.str t_1) rfl <| s_mov (.int .i64 (s6_32 : Int)) rfl <| s_do (o_idxsn rfl rfl hx49) <| s_q (.bool (decide ((x_54.toNat : Int) < 32))) rfl rfl rfl <| s_mov (.bool (decide ((x_54.toNat : Int) < 32))) rfl <| s_lit (s := 13) (b := true) rfl c58 <| s_off rfl rfl <| s_off rfl rfl <| s_off rfl rfl <| s_off rfl rfl <| s_q (.bool true) rfl trivial rfl <| w_done <| ?_; obtain rfl := os hb2; exact ⟨[], [], _, _, rfl, rfl, ⟨.refl _, ⟨.refl _, ⟨.refl _, ⟨.refl _, trivial⟩⟩⟩⟩, (.refl _)⟩
    ·refine s_mov (.str t_1) rfl <| s_mov (.int .i64 (s6_32 : Int)) rfl <| s_do (o_idxsn rfl rfl hx49) <| s_q (.bool (decide ((x_54.toNat : Int) < 32))) rfl rfl rfl <| s_mov (.bool (decide ((x_54.toNat : Int) < 32))) rfl <| s_lit (s := 13) (b := false) rfl (bf c58) <| s_on rfl <| s_mov (.str t_1) rfl <| s_on rfl <| s_mov (.int .i64 (s6_32 : Int)) rfl <| s_on rfl <| s_do (o_idxsn rfl rfl hx49) <| s_on rfl <| s_q (.bool (decide ((x_54.toNat : Int) > 126))) rfl rfl rfl <| s_q (.bool (decide ((x_54.toNat : Int) > 126))) rfl trivial rfl <| w_done <| ?_; obtain rfl := os hb2; exact ⟨[], [], _, _, rfl, rfl, ⟨.refl _, ⟨.refl _, ⟨.refl _, ⟨.refl _, trivial⟩⟩⟩⟩, (.refl _)⟩
   ·rcases oi hc1 with ⟨c59, hc1⟩ | ⟨c59, hc1⟩
    ·refine w_condt rfl c59 <| awp_seq <| w_reg <| s_mov (.bool false) rfl <| w_done <| k_seq <| w_ret <| ?_; obtain rfl := os hc1; obtain rfl := os hf; exact r_flat ⟨trivial, trivial⟩ rfl (.refl _)
    ·refine w_condf rfl (bf c59) <| w_skip <| k_blk <| k_seq <| w_reg <| s_q (.int .i64 (w64 ((s6_32 : Int) + 1))) rfl rfl rfl <| s_mov (.int .i64 (w64 ((s6_32 : Int) + 1))) rfl <| w_done <| ?_; exact k_loopn ⟨(s6_32 + 1), hc1⟩ (mul hlt48) ⟨[], [], _, _, rfl, rfl, ⟨.refl _, ⟨.refl _, ⟨.of_eq (congrArg (AV.int _) (w64_incr hlt48 hl2)), trivial⟩⟩⟩, (.refl _)⟩
 ·rintro ⟨_, rfl⟩
  refine awp_seq <| w_reg <| s_mov (.str t_1) rfl <| s_dof (o_lenS rfl) fun hl60 => s_q (.bool (decide ((t_1.length : Int) ≤ 200))) rfl rfl rfl <| s_mov (.bool (decide ((t_1.length : Int) ≤ 200))) rfl <| w_done <| k_seq <| w_ret <| ?_; obtain rfl := os hf; exact r_flat ⟨trivial, trivial⟩ rfl (.refl _)

/- impl.isId -/
def c175 : ACode :=
 (.seq (.reg (tm 2 (.c (.bool false)) .done))
 (.seq (.reg (tm 3 (.t 0) (tq 4 (.call 86 [(.t 3), (.c (.int .i64 1)), (.c (.int .i64 1000000))]) (tm 2 (.t 4) .done))))
 .ret))
theorem fc175 : fcomp Try.prog Try.f175 = some (c175.erase, [.mov (.t 2)], 5) := by kernel_rfl
def impl_isId (n_1 : Int) : Option Bool :=
    (impl_within n_1 1 1000000).bind fun r_2 =>
    some r_2
theorem w_impl_isId (n_1 : Int) (r : Bool) (hf : impl_isId n_1 = some r) : CallOK Try.prog 175 .flat [(.int .i64 n_1)] (.bool r) := by
  refine CallOK.of_awp mixed Try.func175 fc175 nle ?_
  rw [argT_eq]
  unfold impl_isId at hf
  unfold c175
  refine (show awp Try.prog false 0 _ (ofL [(0, (.int .i64 n_1))]) [] _ from ?_)
  refine awp_seq ?_
  refine w_reg ?_
  refine s_do (o_mov (.bool false) rfl) ?_
  refine w_done ?_
  refine k_seq ?_
  refine awp_seq ?_
  refine w_reg ?_
  obtain ⟨r_2, er3, hf⟩ := ob hf
  refine s_do (o_mov (.int .i64 n_1) rfl) ?_
  refine s_do (o_call (w_impl_within _ _ _ _ er3) rfl (.refl _) rfl) ?_
  refine s_do (o_mov (.bool r_2) rfl) ?_
  refine w_done ?_
  refine k_seq ?_
  refine w_ret ?_
  obtain rfl := os hf
  exact r_flat ⟨trivial, trivial⟩ rfl (.refl _)

/- impl.AtomOK -/
def c109 : ACode :=
 (.seq (.reg (tq 1 (.box 3 (.t 0)) (tm 2 (.c (.bool false)) .done)))
 (.seq (.seq (.reg (tq 3 (.faddr 0 (.t 1)) (tq 4 (.load 1 false (.t 3)) .done)))
 (.block 0 (.seq (.reg (tq 6 (.bin .eql (.t 4) (.c (.int .i64 1))) (tm 5 (.t 6) .done)))
 (.cond (.t 5) (.seq (.reg (tq 7 (.faddr 1 (.t 1)) (tq 8 (.load 1 false (.t 7)) (tq 9 (.call 136 [(.t 8)]) (tm 10 (.t 9) (tg 11 10 true (.faddr 2 (.t 1)) (tg 12 10 true (.load 1 false (.t 11)) (tg 13 10 true (.bin .eql (.t 12) (.c (.str []))) (tq 14 (.pick (.t 10) (.t 13) (.c (.bool false))) (tm 2 (.t 14) .done))))))))))
 .ret)
 (.seq (.reg (tq 16 (.bin .eql (.t 4) (.c (.int .i64 2))) (tm 15 (.t 16) .done)))
 (.cond (.t 15) (.seq (.reg (tq 17 (.faddr 1 (.t 1)) (tq 18 (.load 1 false (.t 17)) (tq 19 (.bin .eql (.t 18) (.c (.int .i64 0))) (tm 20 (.t 19) (tg 21 20 true (.faddr 2 (.t 1)) (tg 22 20 true (.load 1 false (.t 21)) (tg 23 20 true (.call 174 [(.t 22)]) (tq 24 (.pick (.t 20) (.t 23) (.c (.bool false))) (tm 2 (.t 24) .done))))))))))
 .ret)
 (.seq (.reg (tq 26 (.bin .eql (.t 4) (.c (.int .i64 3))) (tm 25 (.t 26) .done)))
 (.cond (.t 25) (.seq (.reg (tq 27 (.faddr 1 (.t 1)) (tq 28 (.load 1 false (.t 27)) (tq 29 (.call 86 [(.t 28), (.c (.int .i64 0)), (.c (.int .i64 1))]) (tm 30 (.t 29) (tg 31 30 true (.faddr 2 (.t 1)) (tg 32 30 true (.load 1 false (.t 31)) (tg 33 30 true (.bin .eql (.t 32) (.c (.str []))) (tq 34 (.pick (.t 30) (.t 33) (.c (.bool false))) (tm 2 (.t 34) .done))))))))))
 .ret)
 (.seq (.reg (tq 36 (.bin .eql (.t 4) (.c (.int .i64 4))) (tm 35 (.t 36) .done)))
 (.cond (.t 35) (.seq (.reg (tq 37 (.faddr 1 (.t 1)) (tq 38 (.load 1 false (.t 37)) (tq 39 (.call 175 [(.t 38)]) (tm 40 (.t 39) (tg 41 40 true (.faddr 2 (.t 1)) (tg 42 40 true (.load 1 false (.t 41)) (tg 43 40 true (.bin .eql (.t 42) (.c (.str []))) (tq 44 (.pick (.t 40) (.t 43) (.c (.bool false))) (tm 2 (.t 44) .done))))))))))
 .ret)
 .skip))))))))))
 (.seq (.reg (tm 2 (.c (.bool false)) .done))
 .ret)))
theorem fc109 : fcomp Try.prog Try.f109 = some (c109.erase, [.mov (.t 2)], 45) := by kernel_rfl
def impl_AtomOK (a_1 : GAtom) : Option Bool :=
    if (a_1.Kind == 1) then
    (impl_isNumber a_1.N).bind fun r_3 =>
    if r_3 then
    some (a_1.T == [])
    else
    some false
    else
    if (a_1.Kind == 2) then
    if (a_1.N == 0) then
    (impl_isPlain a_1.T).bind fun r_8 =>
    some r_8
    else
    some false
    else
    if (a_1.Kind == 3) then
    (impl_within a_1.N 0 1).bind fun r_11 =>
    if r_11 then
    some (a_1.T == [])
    else
    some false
    else
    if (a_1.Kind == 4) then
    (impl_isId a_1.N).bind fun r_15 =>
    if r_15 then
    some (a_1.T == [])
    else
    some false
    else
    some false
theorem w_impl_AtomOK (a_1 : GAtom) (r : Bool) (hf : impl_AtomOK a_1 = some r) : CallOK Try.prog 109 .flat [(encGAtom a_1)] (.bool r) := by
 refine CallOK.of_awp mixed Try.func109 fc109 nle ?_; rw [argT_eq]; unfold impl_AtomOK at hf; unfold c109; refine (show awp Try.prog false 0 _ (ofL [(0, (encGAtom a_1))]) [] _ from ?_); refine awp_seq <| w_reg <| s_do (o_box (j := 0) (c := (.agg [(.int .i64 a_1.Kind), (.int .i64 a_1.N), (.str a_1.T)])) rfl trivial rfl rfl) <| s_mov (.bool false) rfl <| w_done <| k_seq <| awp_seq <| awp_seq <| w_reg <| s_q (.ptr 0 0 0) rfl trivial rfl <| s_q (.int .i64 a_1.Kind) rfl nle rfl <| w_done <| k_seq <| w_blk <| awp_seq <| w_reg <| s_q (.bool (a_1.Kind == 1)) rfl rfl rfl <| s_mov (.bool (a_1.Kind == 1)) rfl <| w_done <| k_seq <| ?_
 rcases oi hf with ⟨c2, hf⟩ | ⟨c2, hf⟩
 ·refine w_condt rfl c2 <| awp_seq <| w_reg <| ?_
  obtain ⟨r_3, er4, hf⟩ := ob hf
  rcases oi hf with ⟨c5, hf⟩ | ⟨c5, hf⟩
  ·refine s_q (.ptr 0 0 1) rfl trivial rfl <| s_q (.int .i64 a_1.N) rfl nle rfl <| s_do (o_call (w_impl_isNumber _ _ er4) rfl (.refl _) rfl) <| s_mov (.bool r_3) rfl <| s_lit (s := 10) (b := true) rfl c5 <| s_on rfl <| s_q (.ptr 0 0 2) rfl trivial rfl <| s_on rfl <| s_q (.str a_1.T) rfl nle rfl <| s_on rfl <| s_q (.bool (a_1.T == [])) rfl trivial rfl <| s_q (.bool (a_1.T == [])) rfl trivial rfl <| s_mov (.bool (a_1.T == [])) rfl <| w_done <| k_seq <| w_ret <| ?_; obtain rfl := os hf; exact r_flat ⟨trivial, trivial⟩ rfl (.refl _)
  ·refine s_q (.ptr 0 0 1) rfl trivial rfl <| s_q (.int .i64 a_1.N) rfl nle rfl <| s_do (o_call (w_impl_isNumber _ _ er4) rfl (.refl _) rfl) <| s_mov (.bool r_3) rfl <| s_lit (s := 10) (b := false) rfl (bf c5) <| s_off rfl rfl <| s_off rfl rfl <| s_off rfl rfl <| s_q (.bool false) rfl trivial rfl <| s_mov (.bool false) rfl <| w_done <| k_seq <| w_ret <| ?_; obtain rfl := os hf; exact r_flat ⟨trivial, trivial⟩ rfl (.refl _)
 ·refine w_condf rfl (bf c2) <| awp_seq <| w_reg <| s_q (.bool (a_1.Kind == 2)) rfl rfl rfl <| s_mov (.bool (a_1.Kind == 2)) rfl <| w_done <| k_seq <| ?_
  rcases oi hf with ⟨c6, hf⟩ | ⟨c6, hf⟩
  ·refine w_condt rfl c6 <| awp_seq <| w_reg <| ?_
   rcases oi hf with ⟨c7, hf⟩ | ⟨c7, hf⟩
   ·obtain ⟨r_8, er9, hf⟩ := ob hf
    refine s_q (.ptr 0 0 1) rfl trivial rfl <| s_q (.int .i64 a_1.N) rfl nle rfl <| s_q (.bool (a_1.N == 0)) rfl rfl rfl <| s_mov (.bool (a_1.N == 0)) rfl <| s_lit (s := 20) (b := true) rfl c7 <| s_on rfl <| s_q (.ptr 0 0 2) rfl trivial rfl <| s_on rfl <| s_q (.str a_1.T) rfl nle rfl <| s_on rfl <| s_do (o_call (w_impl_isPlain _ _ er9) rfl (.refl _) rfl) <| s_q (.bool r_8) rfl trivial rfl <| s_mov (.bool r_8) rfl <| w_done <| k_seq <| w_ret <| ?_; obtain rfl := os hf; exact r_flat ⟨trivial, trivial⟩ rfl (.refl _)
   ·refine s_q (.ptr 0 0 1) rfl trivial rfl <| s_q (.int .i64 a_1.N) rfl nle rfl <| s_q (.bool (a_1.N == 0)) rfl rfl rfl <| s_mov (.bool (a_1.N == 0)) rfl <| s_lit (s := 20) (b := false) rfl (bf c7) <| s_off rfl rfl <| s_off rfl rfl <| s_off rfl rfl <| s_q (.bool false) rfl trivial rfl <| s_mov (.bool false) rfl <| w_done <| k_seq <| w_ret <| ?_; obtain rfl := os hf; exact r_flat ⟨trivial, trivial⟩ rfl (.refl _)
  ·refine w_condf rfl (bf c6) <| awp_seq <| w_reg <| s_q (.bool (a_1.Kind == 3)) rfl rfl rfl <| s_mov (.bool (a_1.Kind == 3)) rfl <| w_done <| k_seq <| ?_
   rcases oi hf with ⟨c10, hf⟩ | ⟨c10, hf⟩
   ·refine w_condt rfl c10 <| awp_seq <| w_reg <| ?_
    obtain ⟨r_11, er12, hf⟩ := ob hf
    rcases oi hf with ⟨c13, hf⟩ | ⟨c13, hf⟩
    ·refine s_q (.ptr 0 0 1) rfl trivial rfl <| s_q (.int .i64 a_1.N) rfl nle rfl <| s_do (o_call (w_impl_within _ _ _ _ er12) rfl (.refl _) rfl) <| s_mov (.bool r_11) rfl <| s_lit (s := 30) (b := true) rfl c13 <| s_on rfl <| s_q (.ptr 0 0 2) rfl trivial rfl <| s_on rfl <| s_q (.str a_1.T) rfl nle rfl <| s_on rfl <| s_q (.bool (a_1.T == [])) rfl trivial rfl <| s_q (.bool (a_1.T == [])) rfl trivial rfl <| s_mov (.bool (a_1.T == [])) rfl <| w_done <| k_seq <| w_ret <| ?_; obtain rfl := os hf; exact r_flat ⟨trivial, trivial⟩ rfl (.refl _)
    ·refine s_q (.ptr 0 0 1) rfl trivial rfl <| s_q (.int .i64 a_1.N) rfl nle rfl <| s_do (o_call (w_impl_within _ _ _ _ er12) rfl (.refl _) rfl) <| s_mov (.bool r_11) rfl <| s_lit (s := 30) (b := false) rfl (bf c13) <| s_off rfl rfl <| s_off rfl rfl <| s_off rfl rfl <| s_q (.bool false) rfl trivial rfl <| s_mov (.bool false) rfl <| w_done <| k_seq <| w_ret <| ?_; obtain rfl := os hf; exact r_flat ⟨trivial, trivial⟩ rfl (.refl _)
   ·refine w_condf rfl (bf c10) <| awp_seq <| w_reg <| s_q (.bool (a_1.Kind == 4)) rfl rfl rfl <| s_mov (.bool (a_1.Kind == 4)) rfl <| w_done <| k_seq <| ?_
    rcases oi hf with ⟨c14, hf⟩ | ⟨c14, hf⟩
    ·refine w_condt rfl c14 <| awp_seq <| w_reg <| ?_
     obtain ⟨r_15, er16, hf⟩ := ob hf
     rcases oi hf with ⟨c17, hf⟩ | ⟨c17, hf⟩
     ·refine s_q (.ptr 0 0 1) rfl trivial rfl <| s_q (.int .i64 a_1.N) rfl nle rfl <| s_do (o_call (w_impl_isId _ _ er16) rfl (.refl _) rfl) <| s_mov (.bool r_15) rfl <| s_lit (s := 40) (b := true) rfl c17 <| s_on rfl <| s_q (.ptr 0 0 2) rfl trivial rfl <| s_on rfl <| s_q (.str a_1.T) rfl nle rfl <| s_on rfl <| s_q (.bool (a_1.T == [])) rfl trivial rfl <| s_q (.bool (a_1.T == [])) rfl trivial rfl <| s_mov (.bool (a_1.T == [])) rfl <| w_done <| k_seq <| w_ret <| ?_; obtain rfl := os hf; exact r_flat ⟨trivial, trivial⟩ rfl (.refl _)
     ·refine s_q (.ptr 0 0 1) rfl trivial rfl <| s_q (.int .i64 a_1.N) rfl nle rfl <| s_do (o_call (w_impl_isId _ _ er16) rfl (.refl _) rfl) <| s_mov (.bool r_15) rfl <| s_lit (s := 40) (b := false) rfl (bf c17) <| s_off rfl rfl <| s_off rfl rfl <| s_off rfl rfl <| s_q (.bool false) rfl trivial rfl <| s_mov (.bool false) rfl <| w_done <| k_seq <| w_ret <| ?_; obtain rfl := os hf; exact r_flat ⟨trivial, trivial⟩ rfl (.refl _)
    ·refine w_condf rfl (bf c14) <| w_skip <| k_blk <| k_seq <| awp_seq <| w_reg <| s_mov (.bool false) rfl <| w_done <| k_seq <| w_ret <| ?_; obtain rfl := os hf; exact r_flat ⟨trivial, trivial⟩ rfl (.refl _)

/- impl.jsNumber -/
def c176 : ACode :=
 (.seq (.reg (tq 2 (.box 5 (.c (.agg [(.int .i64 0), (.int .i64 0), (.str []), .nil, .nil]))) .done))
 (.seq (.reg (tm 3 (.t 0) (tq 4 (.build [(.int .i64 0), (.int .i64 0), (.str []), .nil, .nil] [(0, 1, (.c (.int .i64 2))), (1, 1, (.t 3))]) (.q ⟨none, none, .store 5 (.t 2) (.t 4)⟩
 .done))))
 .ret))
theorem fc176 : fcomp Try.prog Try.f176 = some (c176.erase, [.load 5 true (.t 2)], 5) := by kernel_rfl
def impl_jsNumber (n_1 : Int) : Option GJson :=
    some (⟨2, n_1, [], [], []⟩ : GJson)
theorem w_impl_jsNumber (n_1 : Int) (r : GJson) (hf : impl_jsNumber n_1 = some r) : CallOK Try.prog 176 .fresh [(.int .i64 n_1)] (encGJson r) := by
  refine CallOK.of_awp mixed Try.func176 fc176 nle ?_
  rw [argT_eq]
  unfold impl_jsNumber at hf
  unfold c176
  refine (show awp Try.prog true 0 _ (ofL [(0, (.int .i64 n_1))]) [] _ from ?_)
  refine awp_seq ?_
  refine w_reg ?_
  refine s_do (o_box (j := 0) (c := (.agg [(.int .i64 0), (.int .i64 0), (.str []), .nil, .nil])) rfl trivial rfl rfl) ?_
  refine w_done ?_
  refine k_seq ?_
  refine awp_seq ?_
  refine w_reg ?_
  refine s_do (o_mov (.int .i64 n_1) rfl) ?_
  refine s_do (o_q (.agg [(.int .i64 2), (.int .i64 n_1), (.str []), .nil, .nil]) rfl ⟨⟨rfl, nle, trivial⟩, ⟨⟨rfl, nle, trivial⟩, trivial⟩⟩ rfl) ?_
  refine s_do0 (o_storebox (v := (.agg [(.int .i64 2), (.int .i64 n_1), (.str []), .nil, .nil])) (y' := (.agg [(.int .i64 2), (.int .i64 n_1), (.str []), .nil, .nil])) rfl rfl rfl trivial ⟨rfl, nle⟩ ⟨⟨rfl, trivial⟩, ⟨⟨rfl, trivial⟩, ⟨⟨rfl, trivial⟩, ⟨⟨rfl, trivial⟩, ⟨⟨rfl, trivial⟩, trivial⟩⟩⟩⟩⟩ rfl) ?_
  refine w_done ?_
  refine k_seq ?_
  refine w_ret ?_
  obtain rfl := os hf
  exact r_fresh ⟨nle, trivial⟩ rfl (by decide) (leJ (x := (⟨2, n_1, [], [], []⟩ : GJson)) (.agg (.cons (.refl _) (.cons (.refl _) (.cons (.refl _) (.cons (.nil _) (.cons (.nil _) .nil)))))))

/- impl.jsText -/
def c177 : ACode :=
 (.seq (.reg (tq 2 (.box 5 (.c (.agg [(.int .i64 0), (.int .i64 0), (.str []), .nil, .nil]))) .done))
 (.seq (.reg (tm 3 (.t 0) (tq 4 (.build [(.int .i64 0), (.int .i64 0), (.str []), .nil, .nil] [(0, 1, (.c (.int .i64 3))), (2, 1, (.t 3))]) (.q ⟨none, none, .store 5 (.t 2) (.t 4)⟩
 .done))))
 .ret))
theorem fc177 : fcomp Try.prog Try.f177 = some (c177.erase, [.load 5 true (.t 2)], 5) := by kernel_rfl
def impl_jsText (t_1 : Str) : Option GJson :=
    some (⟨3, 0, t_1, [], []⟩ : GJson)
theorem w_impl_jsText (t_1 : Str) (r : GJson) (hf : impl_jsText t_1 = some r) : CallOK Try.prog 177 .fresh [(.str t_1)] (encGJson r) := by
  refine CallOK.of_awp mixed Try.func177 fc177 nle ?_
  rw [argT_eq]
  unfold impl_jsText at hf
  unfold c177
  refine (show awp Try.prog true 0 _ (ofL [(0, (.str t_1))]) [] _ from ?_)
  refine awp_seq ?_
  refine w_reg ?_
  refine s_do (o_box (j := 0) (c := (.agg [(.int .i64 0), (.int .i64 0), (.str []), .nil, .nil])) rfl trivial rfl rfl) ?_
  refine w_done ?_
  refine k_seq ?_
  refine awp_seq ?_
  refine w_reg ?_
  refine s_do (o_mov (.str t_1) rfl) ?_
  refine s_do (o_q (.agg [(.int .i64 3), (.int .i64 0), (.str t_1), .nil, .nil]) rfl ⟨⟨rfl, nle, trivial⟩, ⟨⟨rfl, nle, trivial⟩, trivial⟩⟩ rfl) ?_
  refine s_do0 (o_storebox (v := (.agg [(.int .i64 3), (.int .i64 0), (.str t_1), .nil, .nil])) (y' := (.agg [(.int .i64 3), (.int .i64 0), (.str t_1), .nil, .nil])) rfl rfl rfl trivial ⟨rfl, nle⟩ ⟨⟨rfl, trivial⟩, ⟨⟨rfl, trivial⟩, ⟨⟨rfl, trivial⟩, ⟨⟨rfl, trivial⟩, ⟨⟨rfl, trivial⟩, trivial⟩⟩⟩⟩⟩ rfl) ?_
  refine w_done ?_
  refine k_seq ?_
  refine w_ret ?_
  obtain rfl := os hf
  exact r_fresh ⟨nle, trivial⟩ rfl (by decide) (leJ (x := (⟨3, 0, t_1, [], []⟩ : GJson)) (.agg (.cons (.refl _) (.cons (.refl _) (.cons (.refl _) (.cons (.nil _) (.cons (.nil _) .nil)))))))

/- impl.jsBool -/
def c178 : ACode :=
 (.seq (.reg (tq 2 (.box 5 (.c (.agg [(.int .i64 0), (.int .i64 0), (.str []), .nil, .nil]))) .done))
 (.seq (.seq (.reg (tm 3 (.t 0) .done))
 (.cond (.t 3) (.seq (.reg (tq 4 (.build [(.int .i64 0), (.int .i64 0), (.str []), .nil, .nil] [(0, 1, (.c (.int .i64 1))), (1, 1, (.c (.int .i64 1)))]) (.q ⟨none, none, .store 5 (.t 2) (.t 4)⟩
 .done)))
 .ret)
 .skip))
 (.seq (.reg (tq 5 (.build [(.int .i64 0), (.int .i64 0), (.str []), .nil, .nil] [(0, 1, (.c (.int .i64 1)))]) (.q ⟨none, none, .store 5 (.t 2) (.t 5)⟩
 .done)))
 .ret)))
theorem fc178 : fcomp Try.prog Try.f178 = some (c178.erase, [.load 5 true (.t 2)], 6) := by kernel_rfl
def impl_jsBool (holds_1 : Bool) : Option GJson :=
    if holds_1 then
    some (⟨1, 1, [], [], []⟩ : GJson)
    else
    some (⟨1, 0, [], [], []⟩ : GJson)
theorem w_impl_jsBool (holds_1 : Bool) (r : GJson) (hf : impl_jsBool holds_1 = some r) : CallOK Try.prog 178 .fresh [(.bool holds_1)] (encGJson r) := by
 refine CallOK.of_awp mixed Try.func178 fc178 nle ?_; rw [argT_eq]; unfold impl_jsBool at hf; unfold c178; refine (show awp Try.prog true 0 _ (ofL [(0, (.bool holds_1))]) [] _ from ?_); refine awp_seq <| w_reg <| s_do (o_box (j := 0) (c := (.agg [(.int .i64 0), (.int .i64 0), (.str []), .nil, .nil])) rfl trivial rfl rfl) <| w_done <| k_seq <| awp_seq <| awp_seq <| w_reg <| s_mov (.bool holds_1) rfl <| w_done <| k_seq <| ?_
 rcases oi hf with ⟨c2, hf⟩ | ⟨c2, hf⟩
 ·refine w_condt rfl c2 <| awp_seq <| w_reg <| s_q (.agg [(.int .i64 1), (.int .i64 1), (.str []), .nil, .nil]) rfl ⟨⟨rfl, nle, trivial⟩, ⟨⟨rfl, nle, trivial⟩, trivial⟩⟩ rfl <| s_do0 (o_storebox (v := (.agg [(.int .i64 1), (.int .i64 1), (.str []), .nil, .nil])) (y' := (.agg [(.int .i64 1), (.int .i64 1), (.str []), .nil, .nil])) rfl rfl rfl trivial ⟨rfl, nle⟩ ⟨⟨rfl, trivial⟩, ⟨⟨rfl, trivial⟩, ⟨⟨rfl, trivial⟩, ⟨⟨rfl, trivial⟩, ⟨⟨rfl, trivial⟩, trivial⟩⟩⟩⟩⟩ rfl) <| w_done <| k_seq <| w_ret <| ?_; obtain rfl := os hf; exact r_fresh ⟨nle, trivial⟩ rfl (by decide) (leJ (x := (⟨1, 1, [], [], []⟩ : GJson)) (.agg (.cons (.refl _) (.cons (.refl _) (.cons (.refl _) (.cons (.nil _) (.cons (.nil _) .nil)))))))
 ·refine w_condf rfl (bf c2) <| w_skip <| k_seq <| awp_seq <| w_reg <| s_q (.agg [(.int .i64 1), (.int .i64 0), (.str []), .nil, .nil]) rfl ⟨⟨rfl, nle, trivial⟩, trivial⟩ rfl <| s_do0 (o_storebox (v := (.agg [(.int .i64 1), (.int .i64 0), (.str []), .nil, .nil])) (y' := (.agg [(.int .i64 1), (.int .i64 0), (.str []), .nil, .nil])) rfl rfl rfl trivial ⟨rfl, nle⟩ ⟨⟨rfl, trivial⟩, ⟨⟨rfl, trivial⟩, ⟨⟨rfl, trivial⟩, ⟨⟨rfl, trivial⟩, ⟨⟨rfl, trivial⟩, trivial⟩⟩⟩⟩⟩ rfl) <| w_done <| k_seq <| w_ret <| ?_; obtain rfl := os hf; exact r_fresh ⟨nle, trivial⟩ rfl (by decide) (leJ (x := (⟨1, 0, [], [], []⟩ : GJson)) (.agg (.cons (.refl _) (.cons (.refl _) (.cons (.refl _) (.cons (.nil _) (.cons (.nil _) .nil)))))))

/- impl.jsList -/
def c179 : ACode :=
 (.seq (.reg (tq 2 (.box 5 (.c (.agg [(.int .i64 0), (.int .i64 0), (.str []), .nil, .nil]))) .done))
 (.seq (.reg (tm 3 (.t 0) (tq 4 (.build [(.int .i64 0), (.int .i64 0), (.str []), .nil, .nil] [(0, 1, (.c (.int .i64 4))), (4, 1, (.t 3))]) (.q ⟨none, none, .store 5 (.t 2) (.t 4)⟩
 .done))))
 .ret))
theorem fc179 : fcomp Try.prog Try.f179 = some (c179.erase, [.load 5 true (.t 2)], 5) := by kernel_rfl
def impl_jsList (list_1 : (List GJson)) : Option GJson :=
    some (⟨4, 0, [], [], list_1⟩ : GJson)
theorem w_impl_jsList (list_1 : (List GJson)) (r : GJson) (hf : impl_jsList list_1 = some r) : CallOK Try.prog 179 .weak [(.lst 5 (list_1.map encGJson))] (encGJson r) := by
  refine CallOK.of_awp mixed Try.func179 fc179 nle ?_
  rw [argT_eq]
  unfold impl_jsList at hf
  unfold c179
  refine (show awp Try.prog false 0 _ (ofL [(0, (.lst 5 (list_1.map encGJson)))]) [] _ from ?_)
  refine awp_seq ?_
  refine w_reg ?_
  refine s_do (o_box (j := 0) (c := (.agg [(.int .i64 0), (.int .i64 0), (.str []), .nil, .nil])) rfl trivial rfl rfl) ?_
  refine w_done ?_
  refine k_seq ?_
  refine awp_seq ?_
  refine w_reg ?_
  refine s_do (o_mov (.lst 5 (list_1.map encGJson)) rfl) ?_
  refine s_do (o_q (.agg [(.int .i64 4), (.int .i64 0), (.str []), .nil, (.lst 5 (list_1.map encGJson))]) rfl ⟨⟨rfl, nle, trivial⟩, ⟨⟨rfl, nle, trivial⟩, trivial⟩⟩ rfl) ?_
  refine s_do0 (o_storebox (v := (.agg [(.int .i64 4), (.int .i64 0), (.str []), .nil, (.lst 5 (list_1.map encGJson))])) (y' := (.agg [(.int .i64 4), (.int .i64 0), (.str []), .nil, (.lst 5 (list_1.map encGJson))])) rfl rfl rfl trivial ⟨rfl, nle⟩ ⟨⟨rfl, trivial⟩, ⟨⟨rfl, trivial⟩, ⟨⟨rfl, trivial⟩, ⟨⟨rfl, trivial⟩, ⟨⟨rfl, trivial⟩, trivial⟩⟩⟩⟩⟩ rfl) ?_
  refine w_done ?_
  refine k_seq ?_
  refine w_ret ?_
  obtain rfl := os hf
  exact r_weak ⟨nle, trivial⟩ rfl (leJ (x := (⟨4, 0, [], [], list_1⟩ : GJson)) (.agg (.cons (.refl _) (.cons (.refl _) (.cons (.refl _) (.cons (.nil _) (.cons (.refl _) .nil)))))))

/- impl.jsList -/
def c179_h0 : ACode :=
 (.seq (.reg (tq 2 (.box 5 (.c (.agg [(.int .i64 0), (.int .i64 0), (.str []), .nil, .nil]))) .done))
 (.seq (.reg (tm 3 (.t 0) (tq 4 (.build [(.int .i64 0), (.int .i64 0), (.str []), .nil, .nil] [(0, 1, (.c (.int .i64 4))), (4, 1, (.t 3))]) (.q ⟨none, none, .store 5 (.t 2) (.t 4)⟩
 .done))))
 .ret))
theorem fc179_h0 : fcomp Try.prog Try.f179 = some (c179_h0.erase, [.load 5 true (.t 2)], 5) := by kernel_rfl
def impl_jsList_h0 (list_1 : (List GJson)) : Option GJson :=
    some (⟨4, 0, [], [], list_1⟩ : GJson)
theorem w_impl_jsList_h0 (list_1 : (List GJson)) (r : GJson) (hf : impl_jsList_h0 list_1 = some r) : CallHeap Try.prog true 179 [(.own 0 0 list_1.length)] [.row 5 (list_1.map encGJson)] (.agg [(.int .i64 r.Kind), (.int .i64 r.N), (.str r.T), (.own 1 0 r.Keys.length), (.own 2 0 r.Items.length)]) [.dead, .row 1 (r.Keys.map AV.str), .row 5 (r.Items.map encGJson)] := by
 refine CallHeap.of_awp mixed Try.func179 fc179_h0 nle ?_; rw [argT_eq]; unfold impl_jsList_h0 at hf; unfold c179_h0; refine (show awp Try.prog true 1 _ (ofL [(0, (.own 0 0 list_1.length))]) [.row 5 (list_1.map encGJson)] _ from ?_); refine awp_seq <| w_reg <| s_do (o_box (j := 1) (c := (.agg [(.int .i64 0), (.int .i64 0), (.str []), .nil, .nil])) rfl trivial rfl rfl) <| w_done <| k_seq <| awp_seq <| w_reg <| s_mov (.own 0 0 list_1.length) rfl <| s_q (.agg [(.int .i64 4), (.int .i64 0), (.str []), .nil, (.own 0 0 list_1.length)]) rfl ⟨⟨rfl, nle, trivial⟩, ⟨⟨rfl, nle, trivial⟩, trivial⟩⟩ rfl <| s_do0 (o_storebox (v := (.agg [(.int .i64 4), (.int .i64 0), (.str []), .nil, (.own 0 0 list_1.length)])) (y' := (.agg [(.int .i64 4), (.int .i64 0), (.str []), .nil, (.own 0 0 list_1.length)])) rfl rfl rfl trivial ⟨rfl, nle⟩ ⟨⟨rfl, trivial⟩, ⟨⟨rfl, trivial⟩, ⟨⟨rfl, trivial⟩, ⟨⟨rfl, trivial⟩, ⟨⟨rfl, trivial⟩, trivial⟩⟩⟩⟩⟩ rfl) <| ?_
 refine w_done <| k_seq <| w_ret <| ?_; obtain rfl := os hf; exact r_heap [.nilC 1 3 1, .mv 0] [0, 2, 3] rfl ⟨nle, trivial⟩ rfl (.refl _) (.refl _)

/- impl.atomJson -/
def c110 : ACode :=
 (.seq (.reg (tq 1 (.box 3 (.t 0)) (tq 2 (.box 5 (.c (.agg [(.int .i64 0), (.int .i64 0), (.str []), .nil, .nil]))) .done)))
 (.seq (.seq (.reg (tq 3 (.faddr 0 (.t 1)) (tq 4 (.load 1 false (.t 3)) .done)))
 (.block 0 (.seq (.reg (tq 6 (.bin .eql (.t 4) (.c (.int .i64 1))) (tm 5 (.t 6) .done)))
 (.cond (.t 5) (.seq (.reg (tq 7 (.faddr 1 (.t 1)) (tq 8 (.load 1 false (.t 7)) (tq 9 (.call 176 [(.t 8)]) (.q ⟨none, none, .store 5 (.t 2) (.t 9)⟩
 .done)))))
 .ret)
 (.seq (.reg (tq 11 (.bin .eql (.t 4) (.c (.int .i64 2))) (tm 10 (.t 11) .done)))
 (.cond (.t 10) (.seq (.reg (tq 12 (.faddr 2 (.t 1)) (tq 13 (.load 1 false (.t 12)) (tq 14 (.call 177 [(.t 13)]) (.q ⟨none, none, .store 5 (.t 2) (.t 14)⟩
 .done)))))
 .ret)
 (.seq (.reg (tq 16 (.bin .eql (.t 4) (.c (.int .i64 3))) (tm 15 (.t 16) .done)))
 (.cond (.t 15) (.seq (.reg (tq 17 (.faddr 1 (.t 1)) (tq 18 (.load 1 false (.t 17)) (tq 19 (.bin .eql (.t 18) (.c (.int .i64 1))) (tq 20 (.call 178 [(.t 19)]) (.q ⟨none, none, .store 5 (.t 2) (.t 20)⟩
 .done))))))
 .ret)
 .skip))))))))
 (.seq (.reg (tq 22 (.faddr 1 (.t 1)) (tq 23 (.load 1 false (.t 22)) (.l ⟨(some 21), none, .call 177 [(.c (.str [117, 117, 105, 100]))]⟩ [⟨(some 23), none, .load 1 false (.t 22)⟩, ⟨(some 22), none, .faddr 1 (.t 1)⟩]
 (.l ⟨(some 24), none, .call 176 [(.t 23)]⟩ []
 (.l ⟨(some 25), none, .bslice 5 [(.t 21), (.t 24)]⟩ []
 (.l ⟨(some 26), none, .call 179 [(.t 25)]⟩ []
 (.l ⟨none, none, .store 5 (.t 2) (.t 26)⟩ []
 .done .non) .non) .non) .non) .non))))
 .ret)))
theorem fc110 : fcomp Try.prog Try.f110 = some (c110.erase, [.load 5 true (.t 2)], 27) := by kernel_rfl
def impl_atomJson (a_1 : GAtom) : Option GJson :=
    if (a_1.Kind == 1) then
    (impl_jsNumber a_1.N).bind fun r_3 =>
    some r_3
    else
    if (a_1.Kind == 2) then
    (impl_jsText a_1.T).bind fun r_6 =>
    some r_6
    else
    if (a_1.Kind == 3) then
    (impl_jsBool (a_1.N == 1)).bind fun r_9 =>
    some r_9
    else
    (impl_jsText [117, 117, 105, 100]).bind fun r_11 =>
    (impl_jsNumber a_1.N).bind fun r_13 =>
    (impl_jsList_h0 [r_11, r_13]).bind fun r_15 =>
    some r_15
theorem w_impl_atomJson (a_1 : GAtom) (r : GJson) (hf : impl_atomJson a_1 = some r) : CallOK Try.prog 110 .fresh [(encGAtom a_1)] (encGJson r) := by
 refine CallOK.of_awp mixed Try.func110 fc110 nle ?_; rw [argT_eq]; unfold impl_atomJson at hf; unfold c110; refine (show awp Try.prog true 0 _ (ofL [(0, (encGAtom a_1))]) [] _ from ?_); refine awp_seq <| w_reg <| s_do (o_box (j := 0) (c := (.agg [(.int .i64 a_1.Kind), (.int .i64 a_1.N), (.str a_1.T)])) rfl trivial rfl rfl) <| s_do (o_box (j := 1) (c := (.agg [(.int .i64 0), (.int .i64 0), (.str []), .nil, .nil])) rfl trivial rfl rfl) <| w_done <| k_seq <| awp_seq <| awp_seq <| w_reg <| s_q (.ptr 0 0 0) rfl trivial rfl <| s_q (.int .i64 a_1.Kind) rfl nle rfl <| w_done <| k_seq <| w_blk <| awp_seq <| w_reg <| s_q (.bool (a_1.Kind == 1)) rfl rfl rfl <| s_mov (.bool (a_1.Kind == 1)) rfl <| w_done <| k_seq <| ?_
 rcases oi hf with ⟨c2, hf⟩ | ⟨c2, hf⟩
 ·refine w_condt rfl c2 <| awp_seq <| w_reg <| ?_
  obtain ⟨r_3, er4, hf⟩ := ob hf
  refine s_q (.ptr 0 0 1) rfl trivial rfl <| s_q (.int .i64 a_1.N) rfl nle rfl <| s_do (o_callf (v := (.agg [(.int .i64 r_3.Kind), (.int .i64 r_3.N), (.str r_3.T), (.own 2 0 r_3.Keys.length), (.own 3 0 r_3.Items.length)])) (h' := [.row 1 (r_3.Keys.map AV.str), .row 5 (r_3.Items.map encGJson)]) (w_impl_jsNumber _ _ er4) rfl (.refl _) (by simp only [openV, openVs, List.length_map, encGJson_eq, List.nil_append, List.append_nil, List.cons_append]; rfl)) <| s_do0 (o_storebox (v := (.agg [(.int .i64 r_3.Kind), (.int .i64 r_3.N), (.str r_3.T), (.own 2 0 r_3.Keys.length), (.own 3 0 r_3.Items.length)])) (y' := (.agg [(.int .i64 r_3.Kind), (.int .i64 r_3.N), (.str r_3.T), (.own 2 0 r_3.Keys.length), (.own 3 0 r_3.Items.length)])) rfl rfl rfl trivial ⟨rfl, nle⟩ ⟨⟨rfl, trivial⟩, ⟨⟨rfl, trivial⟩, ⟨⟨rfl, trivial⟩, ⟨⟨rfl, trivial⟩, ⟨⟨rfl, trivial⟩, trivial⟩⟩⟩⟩⟩ rfl) <| ?_
  refine w_done <| k_seq <| w_ret <| ?_; obtain rfl := os hf; exact r_fresh ⟨nle, trivial⟩ rfl (by decide) (leJ (x := r_3) (.agg (.cons (.refl _) (.cons (.refl _) (.cons (.refl _) (.cons (.of_eq (congrArg (AV.lst _) (tk (enc := AV.str) r_3.Keys))) (.cons (.of_eq (congrArg (AV.lst _) (tk (enc := encGJson) r_3.Items))) .nil)))))))
 ·refine w_condf rfl (bf c2) <| awp_seq <| w_reg <| s_q (.bool (a_1.Kind == 2)) rfl rfl rfl <| s_mov (.bool (a_1.Kind == 2)) rfl <| w_done <| k_seq <| ?_
  rcases oi hf with ⟨c5, hf⟩ | ⟨c5, hf⟩
  ·refine w_condt rfl c5 <| awp_seq <| w_reg <| ?_
   obtain ⟨r_6, er7, hf⟩ := ob hf
   refine s_q (.ptr 0 0 2) rfl trivial rfl <| s_q (.str a_1.T) rfl nle rfl <| s_do (o_callf (v := (.agg [(.int .i64 r_6.Kind), (.int .i64 r_6.N), (.str r_6.T), (.own 2 0 r_6.Keys.length), (.own 3 0 r_6.Items.length)])) (h' := [.row 1 (r_6.Keys.map AV.str), .row 5 (r_6.Items.map encGJson)]) (w_impl_jsText _ _ er7) rfl (.refl _) (by simp only [openV, openVs, List.length_map, encGJson_eq, List.nil_append, List.append_nil, List.cons_append]; rfl)) <| s_do0 (o_storebox (v := (.agg [(.int .i64 r_6.Kind), (.int .i64 r_6.N), (.str r_6.T), (.own 2 0 r_6.Keys.length), (.own 3 0 r_6.Items.length)])) (y' := (.agg [(.int .i64 r_6.Kind), (.int .i64 r_6.N), (.str r_6.T), (.own 2 0 r_6.Keys.length), (.own 3 0 r_6.Items.length)])) rfl rfl rfl trivial ⟨rfl, nle⟩ ⟨⟨rfl, trivial⟩, ⟨⟨rfl, trivial⟩, ⟨⟨rfl, trivial⟩, ⟨⟨rfl, trivial⟩, ⟨⟨rfl, trivial⟩, trivial⟩⟩⟩⟩⟩ rfl) <| ?_
   refine w_done <| k_seq <| w_ret <| ?_; obtain rfl := os hf; exact r_fresh ⟨nle, trivial⟩ rfl (by decide) (leJ (x := r_6) (.agg (.cons (.refl _) (.cons (.refl _) (.cons (.refl _) (.cons (.of_eq (congrArg (AV.lst _) (tk (enc := AV.str) r_6.Keys))) (.cons (.of_eq (congrArg (AV.lst _) (tk (enc := encGJson) r_6.Items))) .nil)))))))
  ·refine w_condf rfl (bf c5) <| awp_seq <| w_reg <| s_q (.bool (a_1.Kind == 3)) rfl rfl rfl <| s_mov (.bool (a_1.Kind == 3)) rfl <| w_done <| k_seq <| ?_
   rcases oi hf with ⟨c8, hf⟩ | ⟨c8, hf⟩
   ·refine w_condt rfl c8 <| awp_seq <| w_reg <| ?_
    obtain ⟨r_9, er10, hf⟩ := ob hf
    refine s_q (.ptr 0 0 1) rfl trivial rfl <| s_q (.int .i64 a_1.N) rfl nle rfl <| s_q (.bool (a_1.N == 1)) rfl rfl rfl <| s_do (o_callf (v := (.agg [(.int .i64 r_9.Kind), (.int .i64 r_9.N), (.str r_9.T), (.own 2 0 r_9.Keys.length), (.own 3 0 r_9.Items.length)])) (h' := [.row 1 (r_9.Keys.map AV.str), .row 5 (r_9.Items.map encGJson)]) (w_impl_jsBool _ _ er10) rfl (.refl _) (by simp only [openV, openVs, List.length_map, encGJson_eq, List.nil_append, List.append_nil, List.cons_append]; rfl)) <| s_do0 (o_storebox (v := (.agg [(.int .i64 r_9.Kind), (.int .i64 r_9.N), (.str r_9.T), (.own 2 0 r_9.Keys.length), (.own 3 0 r_9.Items.length)])) (y' := (.agg [(.int .i64 r_9.Kind), (.int .i64 r_9.N), (.str r_9.T), (.own 2 0 r_9.Keys.length), (.own 3 0 r_9.Items.length)])) rfl rfl rfl trivial ⟨rfl, nle⟩ ⟨⟨rfl, trivial⟩, ⟨⟨rfl, trivial⟩, ⟨⟨rfl, trivial⟩, ⟨⟨rfl, trivial⟩, ⟨⟨rfl, trivial⟩, trivial⟩⟩⟩⟩⟩ rfl) <| ?_
    refine w_done <| k_seq <| w_ret <| ?_; obtain rfl := os hf; exact r_fresh ⟨nle, trivial⟩ rfl (by decide) (leJ (x := r_9) (.agg (.cons (.refl _) (.cons (.refl _) (.cons (.refl _) (.cons (.of_eq (congrArg (AV.lst _) (tk (enc := AV.str) r_9.Keys))) (.cons (.of_eq (congrArg (AV.lst _) (tk (enc := encGJson) r_9.Items))) .nil)))))))
   ·refine w_condf rfl (bf c8) <| w_skip <| k_blk <| k_seq <| awp_seq <| w_reg <| ?_
    obtain ⟨r_11, er12, hf⟩ := ob hf
    obtain ⟨r_13, er14, hf⟩ := ob hf
    obtain ⟨r_15, er16, hf⟩ := ob hf
    refine s_q (.ptr 0 0 1) rfl trivial rfl <| s_q (.int .i64 a_1.N) rfl nle rfl <| s_dol (o_callf (v := (.agg [(.int .i64 r_11.Kind), (.int .i64 r_11.N), (.str r_11.T), (.own 2 0 r_11.Keys.length), (.own 3 0 r_11.Items.length)])) (h' := [.row 1 (r_11.Keys.map AV.str), .row 5 (r_11.Items.map encGJson)]) (w_impl_jsText _ _ er12) rfl (.refl _) (by simp only [openV, openVs, List.length_map, encGJson_eq, List.nil_append, List.append_nil, List.cons_append]; rfl)) (.inr ⟨⟨nle, rfl⟩, ⟨⟨trivial, rfl⟩, trivial⟩⟩) trivial <| s_dol (o_callf (v := (.agg [(.int .i64 r_13.Kind), (.int .i64 r_13.N), (.str r_13.T), (.own 4 0 r_13.Keys.length), (.own 5 0 r_13.Items.length)])) (h' := [.row 1 (r_13.Keys.map AV.str), .row 5 (r_13.Items.map encGJson)]) (w_impl_jsNumber _ _ er14) rfl (.refl _) (by simp only [openV, openVs, List.length_map, encGJson_eq, List.nil_append, List.append_nil, List.cons_append]; rfl)) trivial trivial <| ?_
    refine s_dol (o_bslice (j := 6) (as' := [(encGJson r_11), (encGJson r_13)]) rfl (fun _ => by decide) ⟨rfl, ⟨rfl, trivial⟩⟩ (.cons (leJ (x := r_11) (.agg (.cons (.refl _) (.cons (.refl _) (.cons (.refl _) (.cons (.of_eq (congrArg (AV.lst _) (tk (enc := AV.str) r_11.Keys))) (.cons (.of_eq (congrArg (AV.lst _) (tk (enc := encGJson) r_11.Items))) .nil))))))) (.cons (leJ (x := r_13) (.agg (.cons (.refl _) (.cons (.refl _) (.cons (.refl _) (.cons (.of_eq (congrArg (AV.lst _) (tk (enc := AV.str) r_13.Keys))) (.cons (.of_eq (congrArg (AV.lst _) (tk (enc := encGJson) r_13.Items))) .nil))))))) .nil)) rfl rfl rfl) trivial trivial ?_; refine s_dol (o_callh (v := (.agg [(.int .i64 r_15.Kind), (.int .i64 r_15.N), (.str r_15.T), (.own 7 0 r_15.Keys.length), (.own 8 0 r_15.Items.length)])) (h2 := [.box 3 (.agg [(.int .i64 a_1.Kind), (.int .i64 a_1.N), (.str a_1.T)]), .box 5 (.agg [(.int .i64 0), (.int .i64 0), (.str []), .nil, .nil]), .dead, .dead, .dead, .dead, .dead, .row 1 (r_15.Keys.map AV.str), .row 5 (r_15.Items.map encGJson)]) [] [6] (fun _ => rfl) (w_impl_jsList_h0 _ _ er16) rfl (.cons (.of_eq (congrArg (AV.own _ 0) (by simp))) .nil) (.refl _) rfl rfl) trivial trivial ?_
    refine s_dol0 (o_storebox (v := (.agg [(.int .i64 r_15.Kind), (.int .i64 r_15.N), (.str r_15.T), (.own 7 0 r_15.Keys.length), (.own 8 0 r_15.Items.length)])) (y' := (.agg [(.int .i64 r_15.Kind), (.int .i64 r_15.N), (.str r_15.T), (.own 7 0 r_15.Keys.length), (.own 8 0 r_15.Items.length)])) rfl rfl rfl trivial ⟨rfl, nle⟩ ⟨⟨rfl, trivial⟩, ⟨⟨rfl, trivial⟩, ⟨⟨rfl, trivial⟩, ⟨⟨rfl, trivial⟩, ⟨⟨rfl, trivial⟩, trivial⟩⟩⟩⟩⟩ rfl) trivial trivial <| w_done <| k_seq <| w_ret <| ?_; obtain rfl := os hf; exact r_fresh ⟨nle, trivial⟩ rfl (by decide) (leJ (x := r_15) (.agg (.cons (.refl _) (.cons (.refl _) (.cons (.refl _) (.cons (.of_eq (congrArg (AV.lst _) (tk (enc := AV.str) r_15.Keys))) (.cons (.of_eq (congrArg (AV.lst _) (tk (enc := encGJson) r_15.Items))) .nil)))))))

/- impl.AtomJson -/
def c37 : ACode :=
 (.seq (.reg (tq 1 (.box 3 (.t 0)) (tq 2 (.box 5 (.c (.agg [(.int .i64 0), (.int .i64 0), (.str []), .nil, .nil]))) (tm 3 (.c (.int .i64 0)) .done))))
 (.seq (.seq (.reg (tq 4 (.load 3 true (.t 1)) (tq 5 (.call 109 [(.t 4)]) (tq 6 (.not (.t 5)) .done))))
 (.cond (.t 6) (.seq (.reg (tq 7 (.build [(.int .i64 0), (.int .i64 0), (.str []), .nil, .nil] []) (.q ⟨none, none, .store 5 (.t 2) (.t 7)⟩
 (tm 3 (.c (.int .i64 1)) .done))))
 .ret)
 .skip))
 (.seq (.reg (tq 8 (.load 3 true (.t 1)) (tq 9 (.call 110 [(.t 8)]) (.q ⟨none, none, .store 5 (.t 2) (.t 9)⟩
 (tm 3 (.c (.int .i64 0)) .done)))))
 .ret)))
theorem fc37 : fcomp Try.prog Try.f37 = some (c37.erase, [.load 5 true (.t 2), .mov (.t 3)], 10) := by kernel_rfl
def impl_AtomJson (a_1 : GAtom) : Option (GJson × Int) :=
    (impl_AtomOK a_1).bind fun r_2 =>
    if (!r_2) then
    some ((⟨0, 0, [], [], []⟩ : GJson), 1)
    else
    (impl_atomJson a_1).bind fun r_5 =>
    some (r_5, 0)
theorem w_impl_AtomJson (a_1 : GAtom) (r : (GJson × Int)) (hf : impl_AtomJson a_1 = some r) : CallOK Try.prog 37 .fresh [(encGAtom a_1)] (.tup [(encGJson r.1), (.int .i64 r.2)]) := by
 refine CallOK.of_awp mixed Try.func37 fc37 nle ?_; rw [argT_eq]; unfold impl_AtomJson at hf; unfold c37; refine (show awp Try.prog true 0 _ (ofL [(0, (encGAtom a_1))]) [] _ from ?_); refine awp_seq <| w_reg <| s_do (o_box (j := 0) (c := (.agg [(.int .i64 a_1.Kind), (.int .i64 a_1.N), (.str a_1.T)])) rfl trivial rfl rfl) <| s_do (o_box (j := 1) (c := (.agg [(.int .i64 0), (.int .i64 0), (.str []), .nil, .nil])) rfl trivial rfl rfl) <| s_mov (.int .i64 0) rfl <| w_done <| k_seq <| awp_seq <| awp_seq <| w_reg <| ?_
 obtain ⟨r_2, er3, hf⟩ := ob hf
 refine s_q (.agg [(.int .i64 a_1.Kind), (.int .i64 a_1.N), (.str a_1.T)]) rfl nle rfl <| s_do (o_call (w_impl_AtomOK _ _ er3) rfl (.refl _) rfl) <| s_q (.bool (!r_2)) rfl trivial rfl <| w_done <| k_seq <| ?_
 rcases oi hf with ⟨c4, hf⟩ | ⟨c4, hf⟩
 ·refine w_condt rfl c4 <| awp_seq <| w_reg <| s_q (.agg [(.int .i64 0), (.int .i64 0), (.str []), .nil, .nil]) rfl trivial rfl <| s_do0 (o_storebox (v := (.agg [(.int .i64 0), (.int .i64 0), (.str []), .nil, .nil])) (y' := (.agg [(.int .i64 0), (.int .i64 0), (.str []), .nil, .nil])) rfl rfl rfl trivial ⟨rfl, nle⟩ ⟨⟨rfl, trivial⟩, ⟨⟨rfl, trivial⟩, ⟨⟨rfl, trivial⟩, ⟨⟨rfl, trivial⟩, ⟨⟨rfl, trivial⟩, trivial⟩⟩⟩⟩⟩ rfl) <| s_mov (.int .i64 1) rfl <| w_done <| k_seq <| w_ret <| ?_; obtain rfl := os hf; exact r_fresh ⟨nle, ⟨trivial, trivial⟩⟩ rfl (by decide) (.tup (.cons (leJ (x := (⟨0, 0, [], [], []⟩ : GJson)) (.agg (.cons (.refl _) (.cons (.refl _) (.cons (.refl _) (.cons (.nil _) (.cons (.nil _) .nil))))))) (.cons (.refl _) .nil)))
 ·refine w_condf rfl (bf c4) <| w_skip <| k_seq <| awp_seq <| w_reg <| ?_
  obtain ⟨r_5, er6, hf⟩ := ob hf
  refine s_q (.agg [(.int .i64 a_1.Kind), (.int .i64 a_1.N), (.str a_1.T)]) rfl nle rfl <| s_do (o_callf (v := (.agg [(.int .i64 r_5.Kind), (.int .i64 r_5.N), (.str r_5.T), (.own 2 0 r_5.Keys.length), (.own 3 0 r_5.Items.length)])) (h' := [.row 1 (r_5.Keys.map AV.str), .row 5 (r_5.Items.map encGJson)]) (w_impl_atomJson _ _ er6) rfl (.refl _) (by simp only [openV, openVs, List.length_map, encGJson_eq, List.nil_append, List.append_nil, List.cons_append]; rfl)) <| s_do0 (o_storebox (v := (.agg [(.int .i64 r_5.Kind), (.int .i64 r_5.N), (.str r_5.T), (.own 2 0 r_5.Keys.length), (.own 3 0 r_5.Items.length)])) (y' := (.agg [(.int .i64 r_5.Kind), (.int .i64 r_5.N), (.str r_5.T), (.own 2 0 r_5.Keys.length), (.own 3 0 r_5.Items.length)])) rfl rfl rfl trivial ⟨rfl, nle⟩ ⟨⟨rfl, trivial⟩, ⟨⟨rfl, trivial⟩, ⟨⟨rfl, trivial⟩, ⟨⟨rfl, trivial⟩, ⟨⟨rfl, trivial⟩, trivial⟩⟩⟩⟩⟩ rfl) <| ?_
  refine s_mov (.int .i64 0) rfl <| w_done <| k_seq <| w_ret <| ?_; obtain rfl := os hf; exact r_fresh ⟨nle, ⟨trivial, trivial⟩⟩ rfl (by decide) (.tup (.cons (leJ (x := r_5) (.agg (.cons (.refl _) (.cons (.refl _) (.cons (.refl _) (.cons (.of_eq (congrArg (AV.lst _) (tk (enc := AV.str) r_5.Keys))) (.cons (.of_eq (congrArg (AV.lst _) (tk (enc := encGJson) r_5.Items))) .nil))))))) (.cons (.refl _) .nil)))

/- laws.eqStringS -/
def c43 : ACode :=
 (.seq (.reg (tm 4 (.c (.bool false)) .done))
 (.seq (.seq (.reg (tm 6 (.t 0) (tq 7 (.len (.t 6)) (tm 8 (.t 1) (tq 9 (.len (.t 8)) (tq 10 (.bin .neq (.t 7) (.t 9)) .done))))))
 (.cond (.t 10) (.seq (.reg (tm 4 (.c (.bool false)) .done))
 .ret)
 .skip))
 (.seq (.seq (.reg (tm 5 (.c (.int .i64 0)) .done))
 (.block 0 (.loop (.seq (.seq (.reg (tm 11 (.t 5) (tm 12 (.t 0) (tq 13 (.len (.t 12)) (tq 14 (.bin .lss (.t 11) (.t 13)) .done)))))
 (.cond (.t 14) .skip
 (.exit 0)))
 (.seq (.block 1 (.seq (.reg (tm 17 (.t 0) (tm 18 (.t 5) (tq 19 (.iaddr 1 (.t 17) (.t 18)) (tq 20 (.load 1 false (.t 19)) (tm 21 (.t 1) (tm 22 (.t 5) (tq 23 (.iaddr 1 (.t 21) (.t 22)) (tq 24 (.load 1 false (.t 23)) (tq 25 (.bin .neq (.t 20) (.t 24)) .done))))))))))
 (.cond (.t 25) (.seq (.reg (tm 4 (.c (.bool false)) .done))
 .ret)
 .skip)))
 (.reg (tm 15 (.t 5) (tq 16 (.bin .add (.t 15) (.c (.int .i64 1))) (tm 5 (.t 16) .done)))))))))
 (.cut (.seq (.reg (tm 4 (.c (.bool true)) .done))
 .ret)))))
theorem fc43 : fcomp Try.prog Try.f43 = some (c43.erase, [.mov (.t 4)], 26) := by kernel_rfl
def laws_eqStringS_L1 (b_2 : (List Str)) : List Str → Nat → Option (Fl Bool Unit)
  | [], i_21 =>
    some (.go ())
  | x_37 :: xs, i_21 =>
    (idx b_2 (i_21 : Int)).bind fun x_40 =>
    if (!(x_37 == x_40)) then
    some (.ret false)
    else
    laws_eqStringS_L1 b_2 xs (i_21 + 1)

def laws_eqStringS (a_1 : (List Str)) (b_2 : (List Str)) : Option Bool :=
    if ((a_1.length : Int) != (b_2.length : Int)) then
    some false
    else
    (laws_eqStringS_L1 b_2 a_1 0).bind fun q => (match q with
    | .ret r => some r
    | .go _ =>
    some true)
theorem w_laws_eqStringS (a_1 : (List Str)) (b_2 : (List Str)) (r : Bool) (hf : laws_eqStringS a_1 b_2 = some r) : CallOK Try.prog 43 .flat [(.lst 1 (a_1.map AV.str)), (.lst 1 (b_2.map AV.str))] (.bool r) := by
 refine CallOK.of_awp mixed Try.func43 fc43 nle ?_; rw [argT_eq]; unfold laws_eqStringS at hf; unfold c43; refine (show awp Try.prog false 0 _ (ofL [(0, (.lst 1 (a_1.map AV.str))), (1, (.lst 1 (b_2.map AV.str)))]) [] _ from ?_); refine awp_seq <| w_reg <| s_mov (.bool false) rfl <| w_done <| k_seq <| awp_seq <| awp_seq <| w_reg <| s_mov (.lst 1 (a_1.map AV.str)) rfl <| s_dof (o_len (enc := AV.str) rfl) fun hl3 => s_mov (.lst 1 (b_2.map AV.str)) rfl <| s_dof (o_len (enc := AV.str) rfl) fun hl4 => s_q (.bool ((a_1.length : Int) != (b_2.length : Int))) rfl rfl rfl <| w_done <| k_seq <| ?_
 rcases oi hf with ⟨c5, hf⟩ | ⟨c5, hf⟩
 ·refine w_condt rfl c5 <| awp_seq <| w_reg <| s_mov (.bool false) rfl <| w_done <| k_seq <| w_ret <| ?_; obtain rfl := os hf; exact r_flat ⟨trivial, trivial⟩ rfl (.refl _)
 ·refine w_condf rfl (bf c5) <| w_skip <| k_seq <| awp_seq <| awp_seq <| w_reg <| s_mov (.int .i64 0) rfl <| w_done <| k_seq <| ?_
  obtain ⟨p30, hb1, hf⟩ := ob hf
  refine awp_cutx (X := {q : Unit // p30 = .go q}) (fun q => ([], [])) ?_ ?_
  ·refine awp_loop (X := {q : Nat // laws_eqStringS_L1 b_2 (a_1.drop q) q = some p30}) (fun q => ([(0, (.lst 1 (a_1.map AV.str))), (1, (.lst 1 (b_2.map AV.str))), (5, (.int .i64 (q.1 : Int)))], [])) (fun q => a_1.length - q.1) ⟨0, hb1⟩ ⟨[], [], _, _, rfl, rfl, ⟨.refl _, ⟨.refl _, ⟨.refl _, trivial⟩⟩⟩, (.refl _)⟩ ?_
   rintro ⟨i_21, hc1⟩
   have hc1 : laws_eqStringS_L1 b_2 (a_1.drop i_21) i_21 = some p30 := hc1
   refine (show awp Try.prog false 0 _ (ofL [(0, (.lst 1 (a_1.map AV.str))), (1, (.lst 1 (b_2.map AV.str))), (5, (.int .i64 (i_21 : Int)))]) [] _ from ?_)
   rcases dropc a_1 i_21 with ⟨hie33, hd36⟩ | ⟨hlt31, x_37, hx32, hd36⟩
   ·rw [hd36, laws_eqStringS_L1.eq_1] at hc1
    have hq35 := dlf hie33
    refine awp_seq <| awp_seq <| w_reg <| s_mov (.int .i64 (i_21 : Int)) rfl <| s_mov (.lst 1 (a_1.map AV.str)) rfl <| s_dof (o_len (enc := AV.str) rfl) fun hl38 => s_q (.bool (decide ((i_21 : Int) < (a_1.length : Int)))) rfl rfl rfl <| w_done <| k_seq <| w_condf rfl hq35 <| w_exit <| k_seqx <| k_loopx <| k_blkx <| ?_; obtain rfl := os hc1; exact k_cutn ⟨_, rfl⟩ ⟨[], [], _, _, rfl, rfl, trivial, (.refl _)⟩
   ·rw [hd36, laws_eqStringS_L1.eq_2] at hc1
    have hq35 := dlt hlt31
    refine awp_seq <| awp_seq <| w_reg <| s_mov (.int .i64 (i_21 : Int)) rfl <| s_mov (.lst 1 (a_1.map AV.str)) rfl <| s_dof (o_len (enc := AV.str) rfl) fun hl39 => s_q (.bool (decide ((i_21 : Int) < (a_1.length : Int)))) rfl rfl rfl <| w_done <| k_seq <| w_condt rfl hq35 <| w_skip <| k_seq <| awp_seq <| w_blk <| awp_seq <| w_reg <| ?_
    obtain ⟨x_40, ex41, hc1⟩ := ob hc1
    refine s_mov (.lst 1 (a_1.map AV.str)) rfl <| s_mov (.int .i64 (i_21 : Int)) rfl <| s_do (o_iaddrn (enc := AV.str) rfl rfl hx32) <| s_q (.str x_37) rfl ⟨rfl, rfl⟩ rfl <| s_mov (.lst 1 (b_2.map AV.str)) rfl <| s_mov (.int .i64 (i_21 : Int)) rfl <| s_do (o_iaddr (enc := AV.str) rfl rfl (idx0 ex41) (idx1 ex41)) <| s_q (.str x_40) rfl ⟨rfl, rfl⟩ rfl <| s_q (.bool (!(x_37 == x_40))) rfl trivial rfl <| w_done <| k_seq <| ?_
    rcases oi hc1 with ⟨c42, hc1⟩ | ⟨c42, hc1⟩
    ·refine w_condt rfl c42 <| awp_seq <| w_reg <| s_mov (.bool false) rfl <| w_done <| k_seq <| w_ret <| ?_; obtain rfl := os hc1; obtain rfl := os hf; exact r_flat ⟨trivial, trivial⟩ rfl (.refl _)
    ·refine w_condf rfl (bf c42) <| w_skip <| k_blk <| k_seq <| w_reg <| s_mov (.int .i64 (i_21 : Int)) rfl <| s_q (.int .i64 (w64 ((i_21 : Int) + 1))) rfl rfl rfl <| s_mov (.int .i64 (w64 ((i_21 : Int) + 1))) rfl <| w_done <| ?_; exact k_loopn ⟨(i_21 + 1), hc1⟩ (mul hlt31) ⟨[], [], _, _, rfl, rfl, ⟨.refl _, ⟨.refl _, ⟨.of_eq (congrArg (AV.int _) (w64_incr hlt31 hl39)), trivial⟩⟩⟩, (.refl _)⟩
  ·rintro ⟨_, rfl⟩
   refine awp_seq <| w_reg <| s_mov (.bool true) rfl <| w_done <| k_seq <| w_ret <| ?_; obtain rfl := os hf; exact r_flat ⟨trivial, trivial⟩ rfl (.refl _)

/- laws.eqJsonS -/
def c111 : ACode :=
 (.seq (.reg (tm 4 (.c (.bool false)) .done))
 (.seq (.seq (.reg (tm 6 (.t 0) (tq 7 (.len (.t 6)) (tm 8 (.t 1) (tq 9 (.len (.t 8)) (tq 10 (.bin .neq (.t 7) (.t 9)) .done))))))
 (.cond (.t 10) (.seq (.reg (tm 4 (.c (.bool false)) .done))
 .ret)
 .skip))
 (.seq (.seq (.reg (tm 5 (.c (.int .i64 0)) .done))
 (.block 0 (.loop (.seq (.seq (.reg (tm 11 (.t 5) (tm 12 (.t 0) (tq 13 (.len (.t 12)) (tq 14 (.bin .lss (.t 11) (.t 13)) .done)))))
 (.cond (.t 14) .skip
 (.exit 0)))
 (.seq (.block 1 (.seq (.reg (tm 17 (.t 0) (tm 18 (.t 5) (tq 19 (.iaddr 5 (.t 17) (.t 18)) (tq 20 (.load 5 true (.t 19)) (tm 21 (.t 1) (tm 22 (.t 5) (tq 23 (.iaddr 5 (.t 21) (.t 22)) (tq 24 (.load 5 true (.t 23)) (.l ⟨(some 25), none, .call 38 [(.t 20), (.t 24)]⟩ []
 (tq 26 (.not (.t 25)) .done) .non))))))))))
 (.cond (.t 26) (.seq (.reg (tm 4 (.c (.bool false)) .done))
 .ret)
 .skip)))
 (.reg (tm 15 (.t 5) (tq 16 (.bin .add (.t 15) (.c (.int .i64 1))) (tm 5 (.t 16) .done)))))))))
 (.cut (.seq (.reg (tm 4 (.c (.bool true)) .done))
 .ret)))))
theorem fc111 : fcomp Try.prog Try.f111 = some (c111.erase, [.mov (.t 4)], 27) := by kernel_rfl
def laws_eqJsonS_L1 (b_2 : (List GJson)) (rec : (GJson → GJson → Option Bool)) : List GJson → Nat → Option (Fl Bool Unit)
  | [], i_25 =>
    some (.go ())
  | x_43 :: xs, i_25 =>
    (idx b_2 (i_25 : Int)).bind fun x_46 =>
    (rec x_43 x_46).bind fun r_48 =>
    if (!r_48) then
    some (.ret false)
    else
    laws_eqJsonS_L1 b_2 rec xs (i_25 + 1)

def laws_eqJsonS (rec : (GJson → GJson → Option Bool)) (a_1 : (List GJson)) (b_2 : (List GJson)) : Option Bool :=
    if ((a_1.length : Int) != (b_2.length : Int)) then
    some false
    else
    (laws_eqJsonS_L1 b_2 rec a_1 0).bind fun q => (match q with
    | .ret r => some r
    | .go _ =>
    some true)
theorem w_laws_eqJsonS (rec : (GJson → GJson → Option Bool)) (hrec : ∀ a0 a1 r, rec a0 a1 = some r → CallOK Try.prog 38 .flat [(encGJson a0), (encGJson a1)] (.bool r)) (a_1 : (List GJson)) (b_2 : (List GJson)) (r : Bool) (hf : laws_eqJsonS rec a_1 b_2 = some r) : CallOK Try.prog 111 .flat [(.lst 5 (a_1.map encGJson)), (.lst 5 (b_2.map encGJson))] (.bool r) := by
 refine CallOK.of_awp mixed Try.func111 fc111 nle ?_; rw [argT_eq]; unfold laws_eqJsonS at hf; unfold c111; refine (show awp Try.prog false 0 _ (ofL [(0, (.lst 5 (a_1.map encGJson))), (1, (.lst 5 (b_2.map encGJson)))]) [] _ from ?_); refine awp_seq <| w_reg <| s_mov (.bool false) rfl <| w_done <| k_seq <| awp_seq <| awp_seq <| w_reg <| s_mov (.lst 5 (a_1.map encGJson)) rfl <| s_dof (o_len (enc := encGJson) rfl) fun hl3 => s_mov (.lst 5 (b_2.map encGJson)) rfl <| s_dof (o_len (enc := encGJson) rfl) fun hl4 => s_q (.bool ((a_1.length : Int) != (b_2.length : Int))) rfl rfl rfl <| w_done <| k_seq <| ?_
 rcases oi hf with ⟨c5, hf⟩ | ⟨c5, hf⟩
 ·refine w_condt rfl c5 <| awp_seq <| w_reg <| s_mov (.bool false) rfl <| w_done <| k_seq <| w_ret <| ?_; obtain rfl := os hf; exact r_flat ⟨trivial, trivial⟩ rfl (.refl _)
 ·refine w_condf rfl (bf c5) <| w_skip <| k_seq <| awp_seq <| awp_seq <| w_reg <| s_mov (.int .i64 0) rfl <| w_done <| k_seq <| ?_
  obtain ⟨p36, hb1, hf⟩ := ob hf
  refine awp_cutx (X := {q : Unit // p36 = .go q}) (fun q => ([], [])) ?_ ?_
  ·refine awp_loop (X := {q : Nat // laws_eqJsonS_L1 b_2 rec (a_1.drop q) q = some p36}) (fun q => ([(0, (.lst 5 (a_1.map encGJson))), (1, (.lst 5 (b_2.map encGJson))), (5, (.int .i64 (q.1 : Int)))], [])) (fun q => a_1.length - q.1) ⟨0, hb1⟩ ⟨[], [], _, _, rfl, rfl, ⟨.refl _, ⟨.refl _, ⟨.refl _, trivial⟩⟩⟩, (.refl _)⟩ ?_
   rintro ⟨i_25, hc1⟩
   have hc1 : laws_eqJsonS_L1 b_2 rec (a_1.drop i_25) i_25 = some p36 := hc1
   refine (show awp Try.prog false 0 _ (ofL [(0, (.lst 5 (a_1.map encGJson))), (1, (.lst 5 (b_2.map encGJson))), (5, (.int .i64 (i_25 : Int)))]) [] _ from ?_)
   rcases dropc a_1 i_25 with ⟨hie39, hd42⟩ | ⟨hlt37, x_43, hx38, hd42⟩
   ·rw [hd42, laws_eqJsonS_L1.eq_1] at hc1
    have hq41 := dlf hie39
    refine awp_seq <| awp_seq <| w_reg <| s_mov (.int .i64 (i_25 : Int)) rfl <| s_mov (.lst 5 (a_1.map encGJson)) rfl <| s_dof (o_len (enc := encGJson) rfl) fun hl44 => s_q (.bool (decide ((i_25 : Int) < (a_1.length : Int)))) rfl rfl rfl <| w_done <| k_seq <| w_condf rfl hq41 <| w_exit <| k_seqx <| k_loopx <| k_blkx <| ?_; obtain rfl := os hc1; exact k_cutn ⟨_, rfl⟩ ⟨[], [], _, _, rfl, rfl, trivial, (.refl _)⟩
   ·rw [hd42, laws_eqJsonS_L1.eq_2] at hc1
    have hq41 := dlt hlt37
    refine awp_seq <| awp_seq <| w_reg <| s_mov (.int .i64 (i_25 : Int)) rfl <| s_mov (.lst 5 (a_1.map encGJson)) rfl <| s_dof (o_len (enc := encGJson) rfl) fun hl45 => s_q (.bool (decide ((i_25 : Int) < (a_1.length : Int)))) rfl rfl rfl <| w_done <| k_seq <| w_condt rfl hq41 <| w_skip <| k_seq <| awp_seq <| w_blk <| awp_seq <| w_reg <| ?_
    obtain ⟨x_46, ex47, hc1⟩ := ob hc1
    obtain ⟨r_48, er49, hc1⟩ := ob hc1
    refine s_mov (.lst 5 (a_1.map encGJson)) rfl <| s_mov (.int .i64 (i_25 : Int)) rfl <| s_do (o_iaddrn (enc := encGJson) rfl rfl hx38) <| s_do (o_loadeq (v := (.agg [(.int .i64 x_43.Kind), (.int .i64 x_43.N), (.str x_43.T), (.lst 1 (x_43.Keys.map AV.str)), (.lst 5 (x_43.Items.map encGJson))])) rfl (encGJson_eq _) nle rfl) <| s_mov (.lst 5 (b_2.map encGJson)) rfl <| s_mov (.int .i64 (i_25 : Int)) rfl <| s_do (o_iaddr (enc := encGJson) rfl rfl (idx0 ex47) (idx1 ex47)) <| s_do (o_loadeq (v := (.agg [(.int .i64 x_46.Kind), (.int .i64 x_46.N), (.str x_46.T), (.lst 1 (x_46.Keys.map AV.str)), (.lst 5 (x_46.Items.map encGJson))])) rfl (encGJson_eq _) nle rfl) <| s_dol (o_call (hrec _ _ _ er49) rfl (.cons (.of_eq (encGJson_eq x_43).symm) (.cons (.of_eq (encGJson_eq x_46).symm) .nil)) rfl) a_same trivial <| ?_
    refine s_q (.bool (!r_48)) rfl trivial rfl <| w_done <| k_seq <| ?_
    rcases oi hc1 with ⟨c50, hc1⟩ | ⟨c50, hc1⟩
    ·refine w_condt rfl c50 <| awp_seq <| w_reg <| s_mov (.bool false) rfl <| w_done <| k_seq <| w_ret <| ?_; obtain rfl := os hc1; obtain rfl := os hf; exact r_flat ⟨trivial, trivial⟩ rfl (.refl _)
    ·refine w_condf rfl (bf c50) <| w_skip <| k_blk <| k_seq <| w_reg <| s_mov (.int .i64 (i_25 : Int)) rfl <| s_q (.int .i64 (w64 ((i_25 : Int) + 1))) rfl rfl rfl <| s_mov (.int .i64 (w64 ((i_25 : Int) + 1))) rfl <| w_done <| ?_; exact k_loopn ⟨(i_25 + 1), hc1⟩ (mul hlt37) ⟨[], [], _, _, rfl, rfl, ⟨.refl _, ⟨.refl _, ⟨.of_eq (congrArg (AV.int _) (w64_incr hlt37 hl45)), trivial⟩⟩⟩, (.refl _)⟩
  ·rintro ⟨_, rfl⟩
   refine awp_seq <| w_reg <| s_mov (.bool true) rfl <| w_done <| k_seq <| w_ret <| ?_; obtain rfl := os hf; exact r_flat ⟨trivial, trivial⟩ rfl (.refl _)

/- laws.eqJson -/
def c38 : ACode :=
 (.seq (.reg (tq 2 (.box 5 (.t 0)) (tq 3 (.box 5 (.t 1)) (tm 4 (.c (.bool false)) .done))))
 (.seq (.seq (.reg (tq 5 (.faddr 0 (.t 2)) (tq 6 (.load 1 false (.t 5)) (tq 7 (.faddr 0 (.t 3)) (tq 8 (.load 1 false (.t 7)) (tq 9 (.bin .neq (.t 6) (.t 8)) .done))))))
 (.cond (.t 9) (.seq (.reg (tm 4 (.c (.bool false)) .done))
 .ret)
 .skip))
 (.seq (.seq (.reg (tq 10 (.faddr 1 (.t 2)) (tq 11 (.load 1 false (.t 10)) (tq 12 (.faddr 1 (.t 3)) (tq 13 (.load 1 false (.t 12)) (tq 14 (.bin .neq (.t 11) (.t 13)) .done))))))
 (.cond (.t 14) (.seq (.reg (tm 4 (.c (.bool false)) .done))
 .ret)
 .skip))
 (.seq (.seq (.reg (tq 15 (.faddr 2 (.t 2)) (tq 16 (.load 1 false (.t 15)) (tq 17 (.faddr 2 (.t 3)) (tq 18 (.load 1 false (.t 17)) (tq 19 (.bin .neq (.t 16) (.t 18)) .done))))))
 (.cond (.t 19) (.seq (.reg (tm 4 (.c (.bool false)) .done))
 .ret)
 .skip))
 (.seq (.seq (.reg (tq 20 (.faddr 3 (.t 2)) (tq 21 (.load 1 false (.t 20)) (tq 22 (.faddr 3 (.t 3)) (tq 23 (.load 1 false (.t 22)) (tq 24 (.call 43 [(.t 21), (.t 23)]) (tq 25 (.not (.t 24)) .done)))))))
 (.cond (.t 25) (.seq (.reg (tm 4 (.c (.bool false)) .done))
 .ret)
 .skip))
 (.seq (.seq (.reg (tq 26 (.faddr 4 (.t 2)) (tq 27 (.load 1 false (.t 26)) (tq 28 (.faddr 4 (.t 3)) (tq 29 (.load 1 false (.t 28)) (tq 30 (.call 111 [(.t 27), (.t 29)]) (tq 31 (.not (.t 30)) .done)))))))
 (.cond (.t 31) (.seq (.reg (tm 4 (.c (.bool false)) .done))
 .ret)
 .skip))
 (.seq (.reg (tm 4 (.c (.bool true)) .done))
 .ret)))))))
theorem fc38 : fcomp Try.prog Try.f38 = some (c38.erase, [.mov (.t 4)], 32) := by kernel_rfl
def laws_eqJson_B (rec : (GJson → GJson → Option Bool)) (a_1 : GJson) (b_2 : GJson) : Option Bool :=
    if (a_1.Kind != b_2.Kind) then
    some false
    else
    if (a_1.N != b_2.N) then
    some false
    else
    if (!(a_1.T == b_2.T)) then
    some false
    else
    (laws_eqStringS a_1.Keys b_2.Keys).bind fun r_6 =>
    if (!r_6) then
    some false
    else
    (laws_eqJsonS rec a_1.Items b_2.Items).bind fun r_9 =>
    if (!r_9) then
    some false
    else
    some true
theorem w_laws_eqJson_B (rec : (GJson → GJson → Option Bool)) (hrec : ∀ a0 a1 r, rec a0 a1 = some r → CallOK Try.prog 38 .flat [(encGJson a0), (encGJson a1)] (.bool r)) (a_1 : GJson) (b_2 : GJson) (r : Bool) (hf : laws_eqJson_B rec a_1 b_2 = some r) : CallOK Try.prog 38 .flat [(encGJson a_1), (encGJson b_2)] (.bool r) := by
 refine CallOK.of_awp mixed Try.func38 fc38 nle ?_; rw [argT_eq]; rw [encGJson_eq a_1, encGJson_eq b_2]; unfold laws_eqJson_B at hf; unfold c38; refine (show awp Try.prog false 0 _ (ofL [(0, (.agg [(.int .i64 a_1.Kind), (.int .i64 a_1.N), (.str a_1.T), (.lst 1 (a_1.Keys.map AV.str)), (.lst 5 (a_1.Items.map encGJson))])), (1, (.agg [(.int .i64 b_2.Kind), (.int .i64 b_2.N), (.str b_2.T), (.lst 1 (b_2.Keys.map AV.str)), (.lst 5 (b_2.Items.map encGJson))]))]) [] _ from ?_); refine awp_seq <| w_reg <| s_do (o_box (j := 0) (c := (.agg [(.int .i64 a_1.Kind), (.int .i64 a_1.N), (.str a_1.T), (.lst 1 (a_1.Keys.map AV.str)), (.lst 5 (a_1.Items.map encGJson))])) rfl trivial rfl rfl) <| s_do (o_box (j := 1) (c := (.agg [(.int .i64 b_2.Kind), (.int .i64 b_2.N), (.str b_2.T), (.lst 1 (b_2.Keys.map AV.str)), (.lst 5 (b_2.Items.map encGJson))])) rfl trivial rfl rfl) <| ?_
 refine s_mov (.bool false) rfl <| w_done <| k_seq <| awp_seq <| awp_seq <| w_reg <| s_q (.ptr 0 0 0) rfl trivial rfl <| s_q (.int .i64 a_1.Kind) rfl nle rfl <| s_q (.ptr 1 0 0) rfl trivial rfl <| s_q (.int .i64 b_2.Kind) rfl nle rfl <| s_q (.bool (a_1.Kind != b_2.Kind)) rfl rfl rfl <| w_done <| k_seq <| ?_
 rcases oi hf with ⟨c3, hf⟩ | ⟨c3, hf⟩
 ·refine w_condt rfl c3 <| awp_seq <| w_reg <| s_mov (.bool false) rfl <| w_done <| k_seq <| w_ret <| ?_; obtain rfl := os hf; exact r_flat ⟨trivial, trivial⟩ rfl (.refl _)
 ·refine w_condf rfl (bf c3) <| w_skip <| k_seq <| awp_seq <| awp_seq <| w_reg <| s_q (.ptr 0 0 1) rfl trivial rfl <| s_q (.int .i64 a_1.N) rfl nle rfl <| s_q (.ptr 1 0 1) rfl trivial rfl <| s_q (.int .i64 b_2.N) rfl nle rfl <| s_q (.bool (a_1.N != b_2.N)) rfl rfl rfl <| w_done <| k_seq <| ?_
  rcases oi hf with ⟨c4, hf⟩ | ⟨c4, hf⟩
  ·refine w_condt rfl c4 <| awp_seq <| w_reg <| s_mov (.bool false) rfl <| w_done <| k_seq <| w_ret <| ?_; obtain rfl := os hf; exact r_flat ⟨trivial, trivial⟩ rfl (.refl _)
  ·refine w_condf rfl (bf c4) <| w_skip <| k_seq <| awp_seq <| awp_seq <| w_reg <| s_q (.ptr 0 0 2) rfl trivial rfl <| s_q (.str a_1.T) rfl nle rfl <| s_q (.ptr 1 0 2) rfl trivial rfl <| s_q (.str b_2.T) rfl nle rfl <| s_q (.bool (!(a_1.T == b_2.T))) rfl trivial rfl <| w_done <| k_seq <| ?_
   rcases oi hf with ⟨c5, hf⟩ | ⟨c5, hf⟩
   ·refine w_condt rfl c5 <| awp_seq <| w_reg <| s_mov (.bool false) rfl <| w_done <| k_seq <| w_ret <| ?_; obtain rfl := os hf; exact r_flat ⟨trivial, trivial⟩ rfl (.refl _)
   ·refine w_condf rfl (bf c5) <| w_skip <| k_seq <| awp_seq <| awp_seq <| w_reg <| ?_
    obtain ⟨r_6, er7, hf⟩ := ob hf
    refine s_q (.ptr 0 0 3) rfl trivial rfl <| s_q (.lst 1 (a_1.Keys.map AV.str)) rfl nle rfl <| s_q (.ptr 1 0 3) rfl trivial rfl <| s_q (.lst 1 (b_2.Keys.map AV.str)) rfl nle rfl <| s_do (o_call (w_laws_eqStringS _ _ _ er7) rfl (.refl _) rfl) <| s_q (.bool (!r_6)) rfl trivial rfl <| w_done <| k_seq <| ?_
    rcases oi hf with ⟨c8, hf⟩ | ⟨c8, hf⟩
    ·refine w_condt rfl c8 <| awp_seq <| w_reg <| s_mov (.bool false) rfl <| w_done <| k_seq <| w_ret <| ?_; obtain rfl := os hf; exact r_flat ⟨trivial, trivial⟩ rfl (.refl _)
    ·refine w_condf rfl (bf c8) <| w_skip <| k_seq <| awp_seq <| awp_seq <| w_reg <| ?_
     obtain ⟨r_9, er10, hf⟩ := ob hf
     refine s_q (.ptr 0 0 4) rfl trivial rfl <| s_q (.lst 5 (a_1.Items.map encGJson)) rfl nle rfl <| s_q (.ptr 1 0 4) rfl trivial rfl <| s_q (.lst 5 (b_2.Items.map encGJson)) rfl nle rfl <| s_do (o_call (w_laws_eqJsonS rec hrec _ _ _ er10) rfl (.refl _) rfl) <| s_q (.bool (!r_9)) rfl trivial rfl <| w_done <| k_seq <| ?_
     rcases oi hf with ⟨c11, hf⟩ | ⟨c11, hf⟩
     ·refine w_condt rfl c11 <| awp_seq <| w_reg <| s_mov (.bool false) rfl <| w_done <| k_seq <| w_ret <| ?_; obtain rfl := os hf; exact r_flat ⟨trivial, trivial⟩ rfl (.refl _)
     ·refine w_condf rfl (bf c11) <| w_skip <| k_seq <| awp_seq <| w_reg <| s_mov (.bool true) rfl <| w_done <| k_seq <| w_ret <| ?_; obtain rfl := os hf; exact r_flat ⟨trivial, trivial⟩ rfl (.refl _)
def laws_eqJson : Nat → GJson → GJson → Option Bool
 | 0, _, _ => none
 | k + 1, a_1, b_2 => laws_eqJson_B (laws_eqJson k) a_1 b_2
theorem w_laws_eqJson : ∀ (k : Nat) (a_1 : GJson) (b_2 : GJson) (r : Bool), laws_eqJson k a_1 b_2 = some r → CallOK Try.prog 38 .flat [(encGJson a_1), (encGJson b_2)] (.bool r)
 | 0, a_1, b_2, r, h => by rw [laws_eqJson.eq_1] at h; cases h
 | k + 1, a_1, b_2, r, h => by
  rw [laws_eqJson.eq_2] at h; exact w_laws_eqJson_B _ (w_laws_eqJson k) a_1 b_2 r h

/- laws.markText -/
def c117 : ACode :=
 (.seq (.reg (tm 2 (.c (.str [])) .done))
 (.seq (.seq (.reg (tm 4 (.t 0) (tq 5 (.bin .leq (.t 4) (.c (.int .i64 0))) .done)))
 (.cond (.t 5) (.seq (.reg (tm 2 (.c (.str [109, 48])) .done))
 .ret)
 .skip))
 (.seq (.reg (tm 3 (.c (.str [])) .done))
 (.seq (.block 0 (.loop (.seq (.seq (.reg (tm 6 (.t 0) (tq 7 (.bin .gtr (.t 6) (.c (.int .i64 0))) .done)))
 (.cond (.t 7) .skip
 (.exit 0)))
 (.block 1 (.seq (.reg (tm 8 (.t 0) (tq 9 (.bin .rem (.t 8) (.c (.int .i64 10))) (tq 10 (.bin .add (.c (.int .i64 48)) (.t 9)) (tq 11 (.convI .u8 (.t 10)) (tq 12 (.bslice 1 [(.t 11)]) (tq 13 (.convBS (.t 12)) (tm 14 (.t 3) (tq 15 (.bin .add (.t 13) (.t 14)) (tm 3 (.t 15) .done))))))))))
 (.reg (tm 16 (.t 0) (tq 17 (.bin .quo (.t 16) (.c (.int .i64 10))) (tm 0 (.t 17) .done)))))))))
 (.cut (.seq (.reg (tm 18 (.t 3) (tq 19 (.bin .add (.c (.str [109])) (.t 18)) (tm 2 (.t 19) .done))))
 .ret))))))
theorem fc117 : fcomp Try.prog Try.f117 = some (c117.erase, [.mov (.t 2)], 20) := by kernel_rfl
def laws_markText_L1  : Nat → Int → Str → Option Str
  | 0, _, _ => none
  | k + 1, k_9, out_10 =>
    if (decide (k_9 > 0)) then
    if (bstr [IntKind.u8.wrap (w64 (48 + (k_9.tmod 10)))]).length + out_10.length ≤ maxLen then
    laws_markText_L1 k (w64 (k_9.tdiv 10)) ((bstr [IntKind.u8.wrap (w64 (48 + (k_9.tmod 10)))]) ++ out_10)
    else none
    else
    some out_10

def laws_markText (k_1 : Int) : Option Str :=
    if (decide (k_1 ≤ 0)) then
    some [109, 48]
    else
    (laws_markText_L1 FUEL k_1 []).bind fun out_13 =>
    if [109].length + out_13.length ≤ maxLen then
    some ([109] ++ out_13)
    else none
theorem w_laws_markText (k_1 : Int) (r : Str) (hf : laws_markText k_1 = some r) : CallOK Try.prog 117 .flat [(.int .i64 k_1)] (.str r) := by
 refine CallOK.of_awp mixed Try.func117 fc117 nle ?_; rw [argT_eq]; unfold laws_markText at hf; unfold c117; refine (show awp Try.prog false 0 _ (ofL [(0, (.int .i64 k_1))]) [] _ from ?_); refine awp_seq <| w_reg <| s_mov (.str []) rfl <| w_done <| k_seq <| awp_seq <| awp_seq <| w_reg <| s_mov (.int .i64 k_1) rfl <| s_q (.bool (decide (k_1 ≤ 0))) rfl rfl rfl <| w_done <| k_seq <| ?_
 rcases oi hf with ⟨c2, hf⟩ | ⟨c2, hf⟩
 ·refine w_condt rfl c2 <| awp_seq <| w_reg <| s_mov (.str [109, 48]) rfl <| w_done <| k_seq <| w_ret <| ?_; obtain rfl := os hf; exact r_flat ⟨trivial, trivial⟩ rfl (.refl _)
 ·refine w_condf rfl (bf c2) <| w_skip <| k_seq <| awp_seq <| w_reg <| s_mov (.str []) rfl <| w_done <| k_seq <| awp_seq <| ?_
  obtain ⟨out_13, hb1, hf⟩ := ob hf
  refine awp_cut ([(3, (.str out_13))], []) ?_ ?_
  ·refine awp_loop (X := {q : (Nat × Int × Str) // laws_markText_L1 q.1 q.2.1 q.2.2 = some out_13}) (fun q => ([(0, (.int .i64 q.1.2.1)), (3, (.str q.1.2.2))], [])) (fun q => q.1.1) ⟨(FUEL, k_1, []), hb1⟩ ⟨[], [], _, _, rfl, rfl, ⟨.refl _, ⟨.refl _, trivial⟩⟩, (.refl _)⟩ ?_
   rintro ⟨⟨k, k_9, out_10⟩, hc1⟩
   have hc1 : laws_markText_L1 k k_9 out_10 = some out_13 := hc1
   refine (show awp Try.prog false 0 _ (ofL [(0, (.int .i64 k_9)), (3, (.str out_10))]) [] _ from ?_)
   rcases k with _ | k
   ·rw [laws_markText_L1.eq_1] at hc1
    cases hc1
   ·rw [laws_markText_L1.eq_2] at hc1; refine awp_seq <| awp_seq <| w_reg <| s_mov (.int .i64 k_9) rfl <| s_q (.bool (decide (k_9 > 0))) rfl rfl rfl <| w_done <| k_seq <| ?_
    rcases oi hc1 with ⟨c15, hc1⟩ | ⟨c15, hc1⟩
    ·refine w_condt rfl c15 <| w_skip <| k_seq <| w_blk <| awp_seq <| w_reg <| ?_
     obtain ⟨g16, hc1⟩ := og hc1
     refine s_mov (.int .i64 k_9) rfl <| s_q (.int .i64 (k_9.tmod 10)) rfl ⟨rfl, by decide⟩ rfl <| s_q (.int .i64 (w64 (48 + (k_9.tmod 10)))) rfl rfl rfl <| s_q (.int .u8 (IntKind.u8.wrap (w64 (48 + (k_9.tmod 10))))) rfl trivial rfl <| ?_; refine s_do (o_bslice (j := 0) (as' := [(.int .u8 (IntKind.u8.wrap (w64 (48 + (k_9.tmod 10)))))]) rfl (fun _ => by decide) ⟨rfl, trivial⟩ (.refl _) rfl rfl rfl) ?_; refine s_do (o_convbso (l := [IntKind.u8.wrap (w64 (48 + (k_9.tmod 10)))]) rfl rfl (by simp)) <| s_mov (.str out_10) rfl <| s_q (.str ((bstr [IntKind.u8.wrap (w64 (48 + (k_9.tmod 10)))]) ++ out_10)) rfl g16 rfl <| s_mov (.str ((bstr [IntKind.u8.wrap (w64 (48 + (k_9.tmod 10)))]) ++ out_10)) rfl <| w_done <| k_seq <| w_reg <| s_mov (.int .i64 k_9) rfl <| ?_
     refine s_q (.int .i64 (w64 (k_9.tdiv 10))) rfl ⟨rfl, by decide⟩ rfl <| s_mov (.int .i64 (w64 (k_9.tdiv 10))) rfl <| w_done <| k_blk <| ?_; exact k_loopn ⟨(k, w64 (k_9.tdiv 10), (bstr [IntKind.u8.wrap (w64 (48 + (k_9.tmod 10)))]) ++ out_10), hc1⟩ (Nat.lt_succ_self _) ⟨[], [], _, _, rfl, rfl, ⟨.refl _, ⟨.refl _, trivial⟩⟩, (.refl _)⟩
    ·refine w_condf rfl (bf c15) <| w_exit <| k_seqx <| k_loopx <| k_blkx <| ?_; obtain rfl := os hc1; exact ⟨[], [], _, _, rfl, rfl, ⟨.refl _, trivial⟩, (.refl _)⟩
  ·refine awp_seq <| w_reg <| ?_
   obtain ⟨g17, hf⟩ := og hf
   refine s_mov (.str out_13) rfl <| s_q (.str ([109] ++ out_13)) rfl g17 rfl <| s_mov (.str ([109] ++ out_13)) rfl <| w_done <| k_seq <| w_ret <| ?_; obtain rfl := os hf; exact r_flat ⟨trivial, trivial⟩ rfl (.refl _)

/- laws.markStringS -/
def c45_h0 : ACode :=
 (.seq (.reg (tm 4 (.c (.int .i64 0)) .done))
 (.seq (.seq (.reg (tm 5 (.c (.int .i64 0)) .done))
 (.block 0 (.loop (.seq (.seq (.reg (tm 6 (.t 5) (tm 7 (.t 0) (tq 8 (.len (.t 7)) (tq 9 (.bin .lss (.t 6) (.t 8)) .done)))))
 (.cond (.t 9) .skip
 (.exit 0)))
 (.seq (.block 1 (.seq (.reg (tm 12 (.t 0) (tm 13 (.t 5) (tm 14 (.t 1) (tq 15 (.call 117 [(.t 14)]) (tq 16 (.iaddr 1 (.t 12) (.t 13)) (.q ⟨none, none, .store 1 (.t 16) (.t 15)⟩
 .done)))))))
 (.reg (tm 17 (.t 1) (tq 18 (.bin .add (.t 17) (.c (.int .i64 1))) (tm 1 (.t 18) .done))))))
 (.reg (tm 10 (.t 5) (tq 11 (.bin .add (.t 10) (.c (.int .i64 1))) (tm 5 (.t 11) .done)))))))))
 (.cut (.seq (.reg (tm 19 (.t 1) (tm 4 (.t 19) .done)))
 .ret))))
theorem fc45_h0 : fcomp Try.prog Try.f45 = some (c45_h0.erase, [.mov (.t 4)], 20) := by kernel_rfl
def laws_markStringS_L1  : Nat → Int → Int → (List Str) → Option (Int × (List Str))
  | 0, _, _, _ => none
  | k + 1, k_48, i_49, a_50 =>
    if (decide (i_49 < (a_50.length : Int))) then
    (laws_markText k_48).bind fun r_63 =>
    if 0 ≤ i_49 ∧ i_49 < (a_50.length : Int) then
    (a_50[(0 + i_49.toNat)]?).bind fun x_66 =>
    laws_markStringS_L1 k (w64 (k_48 + 1)) (w64 (i_49 + 1)) (a_50.set (0 + i_49.toNat) r_63)
    else none
    else
    some (k_48, a_50)

def laws_markStringS (a_1 : (List Str)) (k_2 : Int) : Option (Int × (List Str)) :=
    (laws_markStringS_L1 FUEL k_2 0 a_1).bind fun p60 =>
    (match p60 with
    | (k_58, l_59) =>
    some (k_58, l_59))
theorem w_laws_markStringS (a_1 : (List Str)) (k_2 : Int) (r : (Int × (List Str))) (hf : laws_markStringS a_1 k_2 = some r) : CallHeap Try.prog ⟨true, true⟩ 45 [(.own 0 0 a_1.length), (.int .i64 k_2)] [.row 1 (a_1.map AV.str)] (.int .i64 r.1) [.row 1 (r.2.map AV.str)] := by
 refine CallHeap.of_awp mixed Try.func45 fc45_h0 nle ?_; rw [argT_eq]; unfold laws_markStringS at hf; unfold c45_h0; refine (show awp Try.prog ⟨true, true⟩ 1 _ (ofL [(0, (.own 0 0 a_1.length)), (1, (.int .i64 k_2))]) [.row 1 (a_1.map AV.str)] _ from ?_); refine awp_seq <| w_reg <| s_mov (.int .i64 0) rfl <| w_done <| k_seq <| awp_seq <| awp_seq <| w_reg <| s_mov (.int .i64 0) rfl <| w_done <| k_seq <| ?_
 obtain ⟨p60, hb1, hf⟩ := ob hf
 refine awp_cut ([(1, (.int .i64 p60.1))], [.row 1 (p60.2.map AV.str)]) ?_ ?_
 ·refine awp_loop (X := {q : (Nat × Int × Int × (List Str)) // laws_markStringS_L1 q.1 q.2.1 q.2.2.1 q.2.2.2 = some p60}) (fun q => ([(0, (.own 0 0 q.1.2.2.2.length)), (1, (.int .i64 q.1.2.1)), (5, (.int .i64 q.1.2.2.1))], [.row 1 (q.1.2.2.2.map AV.str)])) (fun q => q.1.1) ⟨(FUEL, k_2, 0, a_1), hb1⟩ ⟨[], [0], _, _, rfl, rfl, ⟨.refl _, ⟨.refl _, ⟨.refl _, trivial⟩⟩⟩, (.refl _)⟩ ?_
  rintro ⟨⟨k, k_48, i_49, a_50⟩, hc1⟩
  have hc1 : laws_markStringS_L1 k k_48 i_49 a_50 = some p60 := hc1
  refine (show awp Try.prog ⟨true, true⟩ 1 _ (ofL [(0, (.own 0 0 a_50.length)), (1, (.int .i64 k_48)), (5, (.int .i64 i_49))]) [.row 1 (a_50.map AV.str)] _ from ?_)
  rcases k with _ | k
  ·rw [laws_markStringS_L1.eq_1] at hc1
   cases hc1
  ·rw [laws_markStringS_L1.eq_2] at hc1; refine awp_seq <| awp_seq <| w_reg <| s_mov (.int .i64 i_49) rfl <| s_mov (.own 0 0 a_50.length) rfl <| s_dof (o_lenown rfl rfl) fun hl61 => s_q (.bool (decide (i_49 < (a_50.length : Int)))) rfl (.of rfl trivial) rfl <| w_done <| k_seq <| ?_
   rcases oi hc1 with ⟨c62, hc1⟩ | ⟨c62, hc1⟩
   ·refine w_condt rfl c62 <| w_skip <| k_seq <| awp_seq <| w_blk <| awp_seq <| w_reg <| ?_
    obtain ⟨r_63, er64, hc1⟩ := ob hc1
    obtain ⟨g65, hc1⟩ := og hc1
    obtain ⟨x_66, ex67, hc1⟩ := ob hc1
    refine s_mov (.own 0 0 a_50.length) rfl <| s_mov (.int .i64 i_49) rfl <| s_mov (.int .i64 k_48) rfl <| s_do (o_call (w_laws_markText _ _ er64) rfl (.refl _) rfl) <| s_do (o_iaddrown rfl rfl g65.1 g65.2 rfl rfl) <| ?_; refine s_do0 (o_storerow (v' := (.str r_63)) (e' := r_63) rfl rfl ex67 rfl rfl rfl (by decide) (fun _ => by decide) ⟨rfl, rfl, rfl⟩ (.refl _) rfl) ?_; refine w_done <| k_seq <| w_reg <| s_mov (.int .i64 k_48) rfl <| s_q (.int .i64 (w64 (k_48 + 1))) rfl (.of rfl trivial) rfl <| s_mov (.int .i64 (w64 (k_48 + 1))) rfl <| w_done <| k_blk <| k_seq <| w_reg <| s_mov (.int .i64 i_49) rfl <| s_q (.int .i64 (w64 (i_49 + 1))) rfl (.of rfl trivial) rfl <| s_mov (.int .i64 (w64 (i_49 + 1))) rfl <| w_done <| ?_; exact k_loopn ⟨(k, w64 (k_48 + 1), w64 (i_49 + 1), a_50.set (0 + i_49.toNat) r_63), hc1⟩ (Nat.lt_succ_self _) ⟨[], [0], _, _, rfl, rfl, ⟨.of_eq (congrArg (AV.own _ 0) (by simp)), ⟨.refl _, ⟨.refl _, trivial⟩⟩⟩, (.refl _)⟩
   ·refine w_condf rfl (bf c62) <| w_exit <| k_seqx <| k_loopx <| k_blkx <| ?_; obtain rfl := os hc1; exact ⟨[], [0], _, _, rfl, rfl, ⟨.refl _, trivial⟩, (.refl _)⟩
 ·obtain ⟨k_58, l_59⟩ := p60
  refine awp_seq <| w_reg <| s_mov (.int .i64 k_58) rfl <| s_mov (.int .i64 k_58) rfl <| w_done <| k_seq <| w_ret <| ?_; obtain rfl := os hf; exact r_heap [] [0] rfl ⟨.of trivial trivial, trivial⟩ rfl (.refl _) (.refl _)

/- laws.markJsonS -/
def c112_h0 : ACode :=
 (.seq (.reg (tm 4 (.c (.int .i64 0)) .done))
 (.seq (.seq (.reg (tm 5 (.c (.int .i64 0)) .done))
 (.block 0 (.loop (.seq (.seq (.reg (tm 6 (.t 5) (tm 7 (.t 0) (tq 8 (.len (.t 7)) (tq 9 (.bin .lss (.t 6) (.t 8)) .done)))))
 (.cond (.t 9) .skip
 (.exit 0)))
 (.seq (.block 1 (.seq (.reg (tm 12 (.t 0) (tm 13 (.t 5) (tm 14 (.t 1) (tq 15 (.iaddr 5 (.t 12) (.t 13)) (tq 16 (.faddr 0 (.t 15)) (.q ⟨none, none, .store 1 (.t 16) (.t 14)⟩
 .done)))))))
 (.seq (.reg (tm 17 (.t 1) (tq 18 (.bin .add (.t 17) (.c (.int .i64 1))) (tm 1 (.t 18) .done))))
 (.seq (.reg (tm 19 (.t 0) (tm 20 (.t 5) (tm 21 (.t 1) (tq 22 (.iaddr 5 (.t 19) (.t 20)) (tq 23 (.faddr 1 (.t 22)) (.q ⟨none, none, .store 1 (.t 23) (.t 21)⟩
 .done)))))))
 (.seq (.reg (tm 24 (.t 1) (tq 25 (.bin .add (.t 24) (.c (.int .i64 1))) (tm 1 (.t 25) .done))))
 (.seq (.reg (tm 26 (.t 0) (tm 27 (.t 5) (tm 28 (.t 1) (tq 29 (.call 117 [(.t 28)]) (tq 30 (.iaddr 5 (.t 26) (.t 27)) (tq 31 (.faddr 2 (.t 30)) (.q ⟨none, none, .store 1 (.t 31) (.t 29)⟩
 .done))))))))
 (.seq (.reg (tm 32 (.t 1) (tq 33 (.bin .add (.t 32) (.c (.int .i64 1))) (tm 1 (.t 33) .done))))
 (.seq (.rev (.reg (tm 34 (.t 0) (tm 35 (.t 5) (tq 36 (.iaddr 5 (.t 34) (.t 35)) (tq 37 (.faddr 3 (.t 36)) (tq 38 (.load 1 false (.t 37)) (tm 39 (.t 1) (tq 40 (.call 45 [(.t 38), (.t 39)]) (tm 1 (.t 40) .done))))))))))
 (.rev (.reg (tm 41 (.t 0) (tm 42 (.t 5) (tq 43 (.iaddr 5 (.t 41) (.t 42)) (tq 44 (.faddr 4 (.t 43)) (tq 45 (.load 1 false (.t 44)) (tm 46 (.t 1) (tq 47 (.call 112 [(.t 45), (.t 46)]) (tm 1 (.t 47) .done))))))))))))))))))
 (.reg (tm 10 (.t 5) (tq 11 (.bin .add (.t 10) (.c (.int .i64 1))) (tm 5 (.t 11) .done)))))))))
 (.cut (.seq (.reg (tm 48 (.t 1) (tm 4 (.t 48) .done)))
 .ret))))
theorem fc112_h0 : fcomp Try.prog Try.f112 = some (c112_h0.erase, [.mov (.t 4)], 49) := by kernel_rfl
def laws_markJsonS_B_L1 (rec : ((List GJson) → Int → Option (Int × (List GJson)))) : Nat → Int → Int → (List GJson) → Option (Int × (List GJson))
  | 0, _, _, _ => none
  | k + 1, k_108, i_109, a_110 =>
    if (decide (i_109 < (a_110.length : Int))) then
    if 0 ≤ i_109 ∧ i_109 < (a_110.length : Int) then
    (a_110[(0 + i_109.toNat)]?).bind fun x_136 =>
    if 0 ≤ i_109 ∧ i_109 < (a_110.length : Int) then
    (laws_markText (w64 ((w64 (k_108 + 1)) + 1))).bind fun r_139 =>
    if 0 ≤ i_109 ∧ i_109 < (a_110.length : Int) then
    if 0 ≤ i_109 ∧ i_109 < (a_110.length : Int) then
    (laws_markStringS x_136.Keys (w64 ((w64 ((w64 (k_108 + 1)) + 1)) + 1))).bind fun r_145 =>
    if 0 ≤ i_109 ∧ i_109 < (a_110.length : Int) then
    (rec x_136.Items r_145.1).bind fun r_150 =>
    laws_markJsonS_B_L1 rec k r_150.1 (w64 (i_109 + 1)) (((((a_110.set (0 + i_109.toNat) (⟨k_108, x_136.N, x_136.T, x_136.Keys, x_136.Items⟩ : GJson)).set (0 + i_109.toNat) (⟨k_108, w64 (k_108 + 1), x_136.T, x_136.Keys, x_136.Items⟩ : GJson)).set (0 + i_109.toNat) (⟨k_108, w64 (k_108 + 1), r_139, x_136.Keys, x_136.Items⟩ : GJson)).set (0 + i_109.toNat) (⟨k_108, w64 (k_108 + 1), r_139, r_145.2, x_136.Items⟩ : GJson)).set (0 + i_109.toNat) (⟨k_108, w64 (k_108 + 1), r_139, r_145.2, r_150.2⟩ : GJson))
    else none
    else none
    else none
    else none
    else none
    else
    some (k_108, a_110)

def laws_markJsonS_B (rec : ((List GJson) → Int → Option (Int × (List GJson)))) (a_1 : (List GJson)) (k_2 : Int) : Option (Int × (List GJson)) :=
    (laws_markJsonS_B_L1 rec FUEL k_2 0 a_1).bind fun p132 =>
    (match p132 with
    | (k_130, l_131) =>
    some (k_130, l_131))
theorem w_laws_markJsonS_B (rec : ((List GJson) → Int → Option (Int × (List GJson)))) (hrec : ∀ a0 a1 r, rec a0 a1 = some r → CallHeap Try.prog ⟨true, true⟩ 112 [(.own 0 0 a0.length), (.int .i64 a1)] [.row 5 (a0.map encGJson)] (.int .i64 r.1) [.row 5 (r.2.map encGJson)]) (a_1 : (List GJson)) (k_2 : Int) (r : (Int × (List GJson))) (hf : laws_markJsonS_B rec a_1 k_2 = some r) : CallHeap Try.prog ⟨true, true⟩ 112 [(.own 0 0 a_1.length), (.int .i64 k_2)] [.row 5 (a_1.map encGJson)] (.int .i64 r.1) [.row 5 (r.2.map encGJson)] := by
 refine CallHeap.of_awp mixed Try.func112 fc112_h0 nle ?_; rw [argT_eq]; unfold laws_markJsonS_B at hf; unfold c112_h0; refine (show awp Try.prog ⟨true, true⟩ 1 _ (ofL [(0, (.own 0 0 a_1.length)), (1, (.int .i64 k_2))]) [.row 5 (a_1.map encGJson)] _ from ?_); refine awp_seq <| w_reg <| s_mov (.int .i64 0) rfl <| w_done <| k_seq <| awp_seq <| awp_seq <| w_reg <| s_mov (.int .i64 0) rfl <| w_done <| k_seq <| ?_
 obtain ⟨p132, hb1, hf⟩ := ob hf
 refine awp_cut ([(1, (.int .i64 p132.1))], [.row 5 (p132.2.map encGJson)]) ?_ ?_
 ·refine awp_loop (X := {q : (Nat × Int × Int × (List GJson)) // laws_markJsonS_B_L1 rec q.1 q.2.1 q.2.2.1 q.2.2.2 = some p132}) (fun q => ([(0, (.own 0 0 q.1.2.2.2.length)), (1, (.int .i64 q.1.2.1)), (5, (.int .i64 q.1.2.2.1))], [.row 5 (q.1.2.2.2.map encGJson)])) (fun q => q.1.1) ⟨(FUEL, k_2, 0, a_1), hb1⟩ ⟨[], [0], _, _, rfl, rfl, ⟨.refl _, ⟨.refl _, ⟨.refl _, trivial⟩⟩⟩, (.refl _)⟩ ?_
  rintro ⟨⟨k, k_108, i_109, a_110⟩, hc1⟩
  have hc1 : laws_markJsonS_B_L1 rec k k_108 i_109 a_110 = some p132 := hc1
  refine (show awp Try.prog ⟨true, true⟩ 1 _ (ofL [(0, (.own 0 0 a_110.length)), (1, (.int .i64 k_108)), (5, (.int .i64 i_109))]) [.row 5 (a_110.map encGJson)] _ from ?_)
  rcases k with _ | k
  ·rw [laws_markJsonS_B_L1.eq_1] at hc1
   cases hc1
  ·rw [laws_markJsonS_B_L1.eq_2] at hc1; refine awp_seq <| awp_seq <| w_reg <| s_mov (.int .i64 i_109) rfl <| s_mov (.own 0 0 a_110.length) rfl <| s_dof (o_lenown rfl rfl) fun hl133 => s_q (.bool (decide (i_109 < (a_110.length : Int)))) rfl (.of rfl trivial) rfl <| w_done <| k_seq <| ?_
   rcases oi hc1 with ⟨c134, hc1⟩ | ⟨c134, hc1⟩
   ·refine w_condt rfl c134 <| w_skip <| k_seq <| awp_seq <| w_blk <| awp_seq <| w_reg <| ?_
    obtain ⟨g135, hc1⟩ := og hc1
    obtain ⟨x_136, ex137, hc1⟩ := ob hc1
    refine s_mov (.own 0 0 a_110.length) rfl <| s_mov (.int .i64 i_109) rfl <| s_mov (.int .i64 k_108) rfl <| s_do (o_iaddrown rfl rfl g135.1 g135.2 rfl rfl) <| s_q (.ptr 0 (0 + i_109.toNat) 0) rfl (.of trivial trivial) rfl <| ?_; refine s_do0 (o_storeroweq (v' := (.int .i64 k_108)) (e' := (⟨k_108, x_136.N, x_136.T, x_136.Keys, x_136.Items⟩ : GJson)) rfl rfl ex137 (encGJson_eq _) rfl rfl rfl (by decide) (fun _ => by decide) ⟨rfl, nle⟩ (.of_eq (encGJson_eq (⟨k_108, x_136.N, x_136.T, x_136.Keys, x_136.Items⟩ : GJson)).symm) rfl) ?_; refine w_done <| k_seq <| awp_seq <| w_reg <| s_mov (.int .i64 k_108) rfl <| s_q (.int .i64 (w64 (k_108 + 1))) rfl (.of rfl trivial) rfl <| s_mov (.int .i64 (w64 (k_108 + 1))) rfl <| w_done <| k_seq <| ?_
    refine awp_seq <| w_reg <| ?_
    obtain ⟨g138, hc1⟩ := og hc1
    refine s_mov (.own 0 0 a_110.length) rfl <| s_mov (.int .i64 i_109) rfl <| s_mov (.int .i64 (w64 (k_108 + 1))) rfl <| s_do (o_iaddrown rfl rfl g138.1 g138.2 rfl rfl) <| s_q (.ptr 0 (0 + i_109.toNat) 1) rfl (.of trivial trivial) rfl <| ?_; refine s_do0 (o_storeroweq (v' := (.int .i64 (w64 (k_108 + 1)))) (e' := (⟨k_108, w64 (k_108 + 1), x_136.T, x_136.Keys, x_136.Items⟩ : GJson)) rfl rfl (setget ex137) (encGJson_eq _) rfl rfl rfl (by decide) (fun _ => by decide) ⟨rfl, nle⟩ (.of_eq (encGJson_eq (⟨k_108, w64 (k_108 + 1), x_136.T, x_136.Keys, x_136.Items⟩ : GJson)).symm) rfl) ?_; refine w_done <| k_seq <| awp_seq <| w_reg <| s_mov (.int .i64 (w64 (k_108 + 1))) rfl <| s_q (.int .i64 (w64 ((w64 (k_108 + 1)) + 1))) rfl (.of rfl trivial) rfl <| ?_
    refine s_mov (.int .i64 (w64 ((w64 (k_108 + 1)) + 1))) rfl <| w_done <| k_seq <| awp_seq <| w_reg <| ?_
    obtain ⟨r_139, er140, hc1⟩ := ob hc1
    obtain ⟨g141, hc1⟩ := og hc1
    refine s_mov (.own 0 0 a_110.length) rfl <| s_mov (.int .i64 i_109) rfl <| s_mov (.int .i64 (w64 ((w64 (k_108 + 1)) + 1))) rfl <| s_do (o_call (w_laws_markText _ _ er140) rfl (.refl _) rfl) <| s_do (o_iaddrown rfl rfl g141.1 g141.2 rfl rfl) <| s_q (.ptr 0 (0 + i_109.toNat) 2) rfl (.of trivial trivial) rfl <| ?_; refine s_do0 (o_storeroweq (v' := (.str r_139)) (e' := (⟨k_108, w64 (k_108 + 1), r_139, x_136.Keys, x_136.Items⟩ : GJson)) rfl rfl (setget (setget ex137)) (encGJson_eq _) rfl rfl rfl (by decide) (fun _ => by decide) ⟨rfl, nle⟩ (.of_eq (encGJson_eq (⟨k_108, w64 (k_108 + 1), r_139, x_136.Keys, x_136.Items⟩ : GJson)).symm) rfl) ?_; refine w_done <| k_seq <| awp_seq <| w_reg <| s_mov (.int .i64 (w64 ((w64 (k_108 + 1)) + 1))) rfl <| ?_
    refine s_q (.int .i64 (w64 ((w64 ((w64 (k_108 + 1)) + 1)) + 1))) rfl (.of rfl trivial) rfl <| s_mov (.int .i64 (w64 ((w64 ((w64 (k_108 + 1)) + 1)) + 1))) rfl <| w_done <| k_seq <| awp_seq <| ?_; refine w_rev (o := 0) (f := 3) (l' := x_136.Keys) (enc' := AV.str) (el := (.agg [(.int .i64 k_108), (.int .i64 (w64 (k_108 + 1))), (.str r_139), (.lst 1 (x_136.Keys.map AV.str)), (.lst 5 (x_136.Items.map encGJson))])) rfl (setget (setget (setget ex137))) (encGJson_eq _) rfl fun v_143 => ?_; refine w_reg ?_
    obtain ⟨g144, hc1⟩ := og hc1
    obtain ⟨r_145, er146, hc1⟩ := ob hc1
    refine s_mov (.own 0 0 a_110.length) rfl <| s_mov (.int .i64 i_109) rfl <| s_do (o_iaddrown rfl rfl g144.1 g144.2 rfl rfl) <| s_q (.ptr 0 (0 + i_109.toNat) 3) rfl (.of trivial trivial) rfl <| s_do (o_loadhdr rfl rfl (getset (setget (setget (setget ex137)))) nle rfl) <| s_mov (.int .i64 (w64 ((w64 ((w64 (k_108 + 1)) + 1)) + 1))) rfl <| s_do (o_callm (o := 0) (l := (((a_110.set (0 + i_109.toNat) (⟨k_108, x_136.N, x_136.T, x_136.Keys, x_136.Items⟩ : GJson)).set (0 + i_109.toNat) (⟨k_108, w64 (k_108 + 1), x_136.T, x_136.Keys, x_136.Items⟩ : GJson)).set (0 + i_109.toNat) (⟨k_108, w64 (k_108 + 1), r_139, x_136.Keys, x_136.Items⟩ : GJson))) (enc := encGJson) (enc' := AV.str) (l'' := r_145.2) (y := (⟨k_108, w64 (k_108 + 1), r_139, r_145.2, x_136.Items⟩ : GJson)) (j := 3) (el := (.agg [(.int .i64 k_108), (.int .i64 (w64 (k_108 + 1))), (.str r_139), (.hdr v_143 1 (x_136.Keys.map AV.str)), (.lst 5 (x_136.Items.map encGJson))])) rfl rfl (w_laws_markStringS _ _ _ er146) rfl rfl (setget (setget (setget ex137))) rfl (by decide) (encGJson_eq (⟨k_108, w64 (k_108 + 1), r_139, r_145.2, x_136.Items⟩ : GJson)).symm) <| ?_
    refine s_mov (.int .i64 r_145.1) rfl <| w_done <| k_seq <| ?_; refine w_rev (o := 0) (f := 4) (l' := x_136.Items) (enc' := encGJson) (el := (.agg [(.int .i64 k_108), (.int .i64 (w64 (k_108 + 1))), (.str r_139), (.lst 1 (r_145.2.map AV.str)), (.lst 5 (x_136.Items.map encGJson))])) rfl (setget (setget (setget (setget ex137)))) (encGJson_eq _) rfl fun v_148 => ?_; refine w_reg ?_
    obtain ⟨g149, hc1⟩ := og hc1
    obtain ⟨r_150, er151, hc1⟩ := ob hc1
    refine s_mov (.own 0 0 a_110.length) rfl <| s_mov (.int .i64 i_109) rfl <| s_do (o_iaddrown rfl rfl g149.1 g149.2 rfl rfl) <| s_q (.ptr 0 (0 + i_109.toNat) 4) rfl (.of trivial trivial) rfl <| s_do (o_loadhdr rfl rfl (getset (setget (setget (setget (setget ex137))))) nle rfl) <| s_mov (.int .i64 r_145.1) rfl <| s_do (o_callm (o := 0) (l := ((((a_110.set (0 + i_109.toNat) (⟨k_108, x_136.N, x_136.T, x_136.Keys, x_136.Items⟩ : GJson)).set (0 + i_109.toNat) (⟨k_108, w64 (k_108 + 1), x_136.T, x_136.Keys, x_136.Items⟩ : GJson)).set (0 + i_109.toNat) (⟨k_108, w64 (k_108 + 1), r_139, x_136.Keys, x_136.Items⟩ : GJson)).set (0 + i_109.toNat) (⟨k_108, w64 (k_108 + 1), r_139, r_145.2, x_136.Items⟩ : GJson))) (enc := encGJson) (enc' := encGJson) (l'' := r_150.2) (y := (⟨k_108, w64 (k_108 + 1), r_139, r_145.2, r_150.2⟩ : GJson)) (j := 4) (el := (.agg [(.int .i64 k_108), (.int .i64 (w64 (k_108 + 1))), (.str r_139), (.lst 1 (r_145.2.map AV.str)), (.hdr v_148 5 (x_136.Items.map encGJson))])) rfl rfl (hrec _ _ _ er151) rfl rfl (setget (setget (setget (setget ex137)))) rfl (by decide) (encGJson_eq (⟨k_108, w64 (k_108 + 1), r_139, r_145.2, r_150.2⟩ : GJson)).symm) <| ?_
    refine s_mov (.int .i64 r_150.1) rfl <| w_done <| k_blk <| k_seq <| w_reg <| s_mov (.int .i64 i_109) rfl <| s_q (.int .i64 (w64 (i_109 + 1))) rfl (.of rfl trivial) rfl <| s_mov (.int .i64 (w64 (i_109 + 1))) rfl <| w_done <| ?_; exact k_loopn ⟨(k, r_150.1, w64 (i_109 + 1), ((((a_110.set (0 + i_109.toNat) (⟨k_108, x_136.N, x_136.T, x_136.Keys, x_136.Items⟩ : GJson)).set (0 + i_109.toNat) (⟨k_108, w64 (k_108 + 1), x_136.T, x_136.Keys, x_136.Items⟩ : GJson)).set (0 + i_109.toNat) (⟨k_108, w64 (k_108 + 1), r_139, x_136.Keys, x_136.Items⟩ : GJson)).set (0 + i_109.toNat) (⟨k_108, w64 (k_108 + 1), r_139, r_145.2, x_136.Items⟩ : GJson)).set (0 + i_109.toNat) (⟨k_108, w64 (k_108 + 1), r_139, r_145.2, r_150.2⟩ : GJson)), hc1⟩ (Nat.lt_succ_self _) ⟨[], [0], _, _, rfl, rfl, ⟨.of_eq (congrArg (AV.own _ 0) (by simp)), ⟨.refl _, ⟨.refl _, trivial⟩⟩⟩, (.refl _)⟩
   ·refine w_condf rfl (bf c134) <| w_exit <| k_seqx <| k_loopx <| k_blkx <| ?_; obtain rfl := os hc1; exact ⟨[], [0], _, _, rfl, rfl, ⟨.refl _, trivial⟩, (.refl _)⟩
 ·obtain ⟨k_130, l_131⟩ := p132
  refine awp_seq <| w_reg <| s_mov (.int .i64 k_130) rfl <| s_mov (.int .i64 k_130) rfl <| w_done <| k_seq <| w_ret <| ?_; obtain rfl := os hf; exact r_heap [] [0] rfl ⟨.of trivial trivial, trivial⟩ rfl (.refl _) (.refl _)
def laws_markJsonS : Nat → (List GJson) → Int → Option (Int × (List GJson))
 | 0, _, _ => none
 | k + 1, a_1, k_2 => laws_markJsonS_B (laws_markJsonS k) a_1 k_2
theorem w_laws_markJsonS : ∀ (k : Nat) (a_1 : (List GJson)) (k_2 : Int) (r : (Int × (List GJson))), laws_markJsonS k a_1 k_2 = some r → CallHeap Try.prog ⟨true, true⟩ 112 [(.own 0 0 a_1.length), (.int .i64 k_2)] [.row 5 (a_1.map encGJson)] (.int .i64 r.1) [.row 5 (r.2.map encGJson)]
 | 0, a_1, k_2, r, h => by rw [laws_markJsonS.eq_1] at h; cases h
 | k + 1, a_1, k_2, r, h => by
  rw [laws_markJsonS.eq_2] at h; exact w_laws_markJsonS_B _ (w_laws_markJsonS k) a_1 k_2 r h

/- laws.markJson -/
def c39_h0 : ACode :=
 (.seq (.reg (tq 2 (.box 5 (.t 0)) (tm 4 (.c (.int .i64 0)) .done)))
 (.seq (.reg (tq 5 (.faddr 3 (.t 2)) (tq 6 (.load 1 false (.t 5)) (tm 7 (.t 1) (tq 8 (.call 45 [(.t 6), (.t 7)]) (tm 1 (.t 8) .done))))))
 (.seq (.reg (tq 9 (.faddr 4 (.t 2)) (tq 10 (.load 1 false (.t 9)) (tm 11 (.t 1) (tq 12 (.call 112 [(.t 10), (.t 11)]) (tm 1 (.t 12) .done))))))
 (.seq (.reg (tm 13 (.t 1) (tm 4 (.t 13) .done)))
 .ret))))
theorem fc39_h0 : fcomp Try.prog Try.f39 = some (c39_h0.erase, [.mov (.t 4)], 14) := by kernel_rfl
def laws_markJson (a_1 : GJson) (k_2 : Int) : Option (Int × GJson) :=
    (laws_markStringS a_1.Keys k_2).bind fun r_3 =>
    (laws_markJsonS FUEL a_1.Items r_3.1).bind fun r_6 =>
    some (r_6.1, (⟨a_1.Kind, a_1.N, a_1.T, r_3.2, r_6.2⟩ : GJson))
theorem w_laws_markJson (a_1 : GJson) (k_2 : Int) (r : (Int × GJson)) (hf : laws_markJson a_1 k_2 = some r) : CallHeap Try.prog ⟨true, true⟩ 39 [(.agg [(.int .i64 a_1.Kind), (.int .i64 a_1.N), (.str a_1.T), (.own 0 0 a_1.Keys.length), (.own 1 0 a_1.Items.length)]), (.int .i64 k_2)] [.row 1 (a_1.Keys.map AV.str), .row 5 (a_1.Items.map encGJson)] (.int .i64 r.1) [.row 1 (r.2.Keys.map AV.str), .row 5 (r.2.Items.map encGJson)] := by
 refine CallHeap.of_awp mixed Try.func39 fc39_h0 nle ?_; rw [argT_eq]; unfold laws_markJson at hf; unfold c39_h0; refine (show awp Try.prog ⟨true, true⟩ 2 _ (ofL [(0, (.agg [(.int .i64 a_1.Kind), (.int .i64 a_1.N), (.str a_1.T), (.own 0 0 a_1.Keys.length), (.own 1 0 a_1.Items.length)])), (1, (.int .i64 k_2))]) [.row 1 (a_1.Keys.map AV.str), .row 5 (a_1.Items.map encGJson)] _ from ?_); refine awp_seq <| w_reg <| s_do (o_box (j := 2) (c := (.agg [(.int .i64 a_1.Kind), (.int .i64 a_1.N), (.str a_1.T), (.own 0 0 a_1.Keys.length), (.own 1 0 a_1.Items.length)])) rfl trivial rfl rfl) <| s_mov (.int .i64 0) rfl <| w_done <| k_seq <| awp_seq <| w_reg <| ?_
 obtain ⟨r_3, er4, hf⟩ := ob hf
 refine s_q (.ptr 2 0 3) rfl (.of trivial trivial) rfl <| s_q (.own 0 0 a_1.Keys.length) rfl (.of nle trivial) rfl <| s_mov (.int .i64 k_2) rfl <| ?_; refine s_dof (o_callhs (v := (.int .i64 r_3.1)) (h2 := [.row 1 (r_3.2.map AV.str), .row 5 (a_1.Items.map encGJson), .box 5 (.agg [(.int .i64 a_1.Kind), (.int .i64 a_1.N), (.str a_1.T), (.own 0 0 a_1.Keys.length), (.own 1 0 a_1.Items.length)])]) [] [0] (fun _ => rfl) (w_laws_markStringS _ _ _ er4) rfl (.refl _) (.refl _) rfl rfl) fun hl5 => ?_; refine s_mov (.int .i64 r_3.1) rfl <| w_done <| k_seq <| awp_seq <| w_reg <| ?_
 obtain ⟨r_6, er7, hf⟩ := ob hf
 refine s_q (.ptr 2 0 4) rfl (.of trivial trivial) rfl <| s_q (.own 1 0 a_1.Items.length) rfl (.of nle trivial) rfl <| s_mov (.int .i64 r_3.1) rfl <| ?_; refine s_dof (o_callhs (v := (.int .i64 r_6.1)) (h2 := [.row 1 (r_3.2.map AV.str), .row 5 (r_6.2.map encGJson), .box 5 (.agg [(.int .i64 a_1.Kind), (.int .i64 a_1.N), (.str a_1.T), (.own 0 0 a_1.Keys.length), (.own 1 0 a_1.Items.length)])]) [] [1] (fun _ => rfl) (w_laws_markJsonS FUEL _ _ _ er7) rfl (.refl _) (.refl _) rfl rfl) fun hl8 => ?_; refine s_mov (.int .i64 r_6.1) rfl <| w_done <| k_seq <| awp_seq <| w_reg <| s_mov (.int .i64 r_6.1) rfl <| s_mov (.int .i64 r_6.1) rfl <| w_done <| k_seq <| w_ret <| ?_; obtain rfl := os hf; exact r_heap [] [0, 1] rfl ⟨.of trivial trivial, trivial⟩ rfl (.refl _) (.refl _)

end Go.R
