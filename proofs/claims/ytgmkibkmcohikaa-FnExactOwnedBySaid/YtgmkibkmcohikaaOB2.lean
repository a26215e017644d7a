/- Walks. -/
import Derived.Test.YtgmkibkmcohikaaOB1
set_option linter.all false
namespace Go.R
open Go Go.Proofs
set_option linter.unusedVariables false
set_option linter.unusedSimpArgs false
set_option maxHeartbeats 8000000
/- laws.heldStringS -/
def c46 : ACode :=
 (.seq (.reg (tm 4 (.c (.int .i64 0)) .done))
 (.seq (.seq (.reg (tm 5 (.c (.int .i64 0)) .done))
 (.block 0 (.loop (.seq (.seq (.reg (tm 6 (.t 5) (tm 7 (.t 0) (tq 8 (.len (.t 7)) (tq 9 (.bin .lss (.t 6) (.t 8)) .done)))))
 (.cond (.t 9) .skip
 (.exit 0)))
 (.seq (.block 1 (.seq (.seq (.reg (tm 12 (.t 0) (tm 13 (.t 5) (tq 14 (.iaddr 1 (.t 12) (.t 13)) (tq 15 (.load 1 false (.t 14)) (tm 16 (.t 1) (.l ⟨(some 17), none, .call 117 [(.t 16)]⟩ [⟨(some 15), none, .load 1 false (.t 14)⟩, ⟨(some 14), none, .iaddr 1 (.t 12) (.t 13)⟩]
 (tq 18 (.bin .neq (.t 15) (.t 17)) .done) .non)))))))
 (.cond (.t 18) (.seq (.reg (tq 4 (.mov (.c (.int .i64 (-1)))) .done))
 .ret)
 .skip))
 (.reg (tm 19 (.t 1) (tq 20 (.bin .add (.t 19) (.c (.int .i64 1))) (tm 1 (.t 20) .done))))))
 (.reg (tm 10 (.t 5) (tq 11 (.bin .add (.t 10) (.c (.int .i64 1))) (tm 5 (.t 11) .done)))))))))
 (.cut (.seq (.reg (tm 21 (.t 1) (tm 4 (.t 21) .done)))
 .ret))))
theorem fc46 : fcomp Try.prog Try.f46 = some (c46.erase, [.mov (.t 4)], 22) := by kernel_rfl
def laws_heldStringS_L1  : List Str → Int → Option (Fl Int Int)
  | [], k_19 =>
    some (.go k_19)
  | x_37 :: xs, k_19 =>
    (laws_markText k_19).bind fun r_40 =>
    if (!(x_37 == r_40)) then
    some (.ret (-1))
    else
    laws_heldStringS_L1 xs (w64 (k_19 + 1)) 

def laws_heldStringS (a_1 : (List Str)) (k_2 : Int) : Option Int :=
    (laws_heldStringS_L1 a_1 k_2).bind fun q => (match q with
    | .ret r => some r
    | .go k_29 =>
    some k_29)
theorem w_laws_heldStringS (a_1 : (List Str)) (k_2 : Int) (r : Int) (hf : laws_heldStringS a_1 k_2 = some r) : CallOK Try.prog 46 .flat [(.lst 1 (a_1.map AV.str)), (.int .i64 k_2)] (.int .i64 r) := by
 refine CallOK.of_awp mixed Try.func46 fc46 nle ?_; rw [argT_eq]; unfold laws_heldStringS at hf; unfold c46; refine (show awp Try.prog false 0 _ (ofL [(0, (.lst 1 (a_1.map AV.str))), (1, (.int .i64 k_2))]) [] _ from ?_); refine awp_seq <| w_reg <| s_mov (.int .i64 0) rfl <| w_done <| k_seq <| awp_seq <| awp_seq <| w_reg <| s_mov (.int .i64 0) rfl <| w_done <| k_seq <| ?_
 obtain ⟨p30, hb1, hf⟩ := ob hf
 refine awp_cutx (X := {q : Int // p30 = .go q}) (fun q => ([(1, (.int .i64 q.1))], [])) ?_ ?_
 ·refine awp_loop (X := {q : (Int × Nat) // laws_heldStringS_L1 (a_1.drop q.2) q.1 = some p30}) (fun q => ([(0, (.lst 1 (a_1.map AV.str))), (1, (.int .i64 q.1.1)), (5, (.int .i64 (q.1.2 : Int)))], [])) (fun q => a_1.length - q.1.2) ⟨(k_2, 0), hb1⟩ ⟨[], [], _, _, rfl, rfl, ⟨.refl _, ⟨.refl _, ⟨.refl _, trivial⟩⟩⟩, (.refl _)⟩ ?_
  rintro ⟨⟨k_19, i_20⟩, hc1⟩
  have hc1 : laws_heldStringS_L1 (a_1.drop i_20) k_19 = some p30 := hc1
  refine (show awp Try.prog false 0 _ (ofL [(0, (.lst 1 (a_1.map AV.str))), (1, (.int .i64 k_19)), (5, (.int .i64 (i_20 : Int)))]) [] _ from ?_)
  rcases dropc a_1 i_20 with ⟨hie33, hd36⟩ | ⟨hlt31, x_37, hx32, hd36⟩
  ·rw [hd36, laws_heldStringS_L1.eq_1] at hc1
   have hq35 := dlf hie33
   refine awp_seq <| awp_seq <| w_reg <| s_mov (.int .i64 (i_20 : Int)) rfl <| s_mov (.lst 1 (a_1.map AV.str)) rfl <| s_dof (o_len (enc := AV.str) rfl) fun hl38 => s_q (.bool (decide ((i_20 : Int) < (a_1.length : Int)))) rfl rfl rfl <| w_done <| k_seq <| w_condf rfl hq35 <| w_exit <| k_seqx <| k_loopx <| k_blkx <| ?_; obtain rfl := os hc1; exact k_cutn ⟨_, rfl⟩ ⟨[], [], _, _, rfl, rfl, ⟨.refl _, trivial⟩, (.refl _)⟩
  ·rw [hd36, laws_heldStringS_L1.eq_2] at hc1
   have hq35 := dlt hlt31
   refine awp_seq <| awp_seq <| w_reg <| s_mov (.int .i64 (i_20 : Int)) rfl <| s_mov (.lst 1 (a_1.map AV.str)) rfl <| s_dof (o_len (enc := AV.str) rfl) fun hl39 => s_q (.bool (decide ((i_20 : Int) < (a_1.length : Int)))) rfl rfl rfl <| w_done <| k_seq <| w_condt rfl hq35 <| w_skip <| k_seq <| awp_seq <| w_blk <| awp_seq <| awp_seq <| w_reg <| ?_
   obtain ⟨r_40, er41, hc1⟩ := ob hc1
   refine s_mov (.lst 1 (a_1.map AV.str)) rfl <| s_mov (.int .i64 (i_20 : Int)) rfl <| s_do (o_iaddrn (enc := AV.str) rfl rfl hx32) <| s_q (.str x_37) rfl ⟨rfl, rfl⟩ rfl <| s_mov (.int .i64 k_19) rfl <| s_dol (o_call (w_laws_markText _ _ er41) rfl (.refl _) rfl) a_same trivial <| s_q (.bool (!(x_37 == r_40))) rfl trivial rfl <| w_done <| k_seq <| ?_
   rcases oi hc1 with ⟨c42, hc1⟩ | ⟨c42, hc1⟩
   ·refine w_condt rfl c42 <| awp_seq <| w_reg <| s_mov (.int .i64 (-1)) rfl <| w_done <| k_seq <| w_ret <| ?_; obtain rfl := os hc1; obtain rfl := os hf; exact r_flat ⟨trivial, trivial⟩ rfl (.refl _)
   ·refine w_condf rfl (bf c42) <| w_skip <| k_seq <| w_reg <| s_mov (.int .i64 k_19) rfl <| s_q (.int .i64 (w64 (k_19 + 1))) rfl rfl rfl <| s_mov (.int .i64 (w64 (k_19 + 1))) rfl <| w_done <| k_blk <| k_seq <| w_reg <| s_mov (.int .i64 (i_20 : Int)) rfl <| s_q (.int .i64 (w64 ((i_20 : Int) + 1))) rfl rfl rfl <| s_mov (.int .i64 (w64 ((i_20 : Int) + 1))) rfl <| w_done <| ?_; exact k_loopn ⟨(w64 (k_19 + 1), (i_20 + 1)), hc1⟩ (mul hlt31) ⟨[], [], _, _, rfl, rfl, ⟨.refl _, ⟨.refl _, ⟨.of_eq (congrArg (AV.int _) (w64_incr hlt31 hl39)), trivial⟩⟩⟩, (.refl _)⟩
 ·rintro ⟨k_29, rfl⟩
  refine awp_seq <| w_reg <| s_mov (.int .i64 k_29) rfl <| s_mov (.int .i64 k_29) rfl <| w_done <| k_seq <| w_ret <| ?_; obtain rfl := os hf; exact r_flat ⟨trivial, trivial⟩ rfl (.refl _)

/- laws.FnExactOwnedBy -/
def c8 : ACode :=
 (.seq (.reg (tm 4 (.c (.bool false)) .done))
 (.seq (.reg (tm 5 (.c (.int .i64 1048576)) .done))
 (.seq (.reg (tm 16 (.t 0) (tm 17 (.t 5) (tq 18 (.call 15 [(.t 16), (.t 17)]) (tm 5 (.t 18) .done)))))
 (.seq (.seq (.reg (tm 19 (.t 5) (tq 20 (.bin .lss (.t 19) (.c (.int .i64 0))) .done)))
 (.cond (.t 20) (.seq (.reg (tm 4 (.c (.bool true)) .done))
 .ret)
 .skip))
 (.seq (.reg (tm 22 (.t 0) (tq 23 (.call 17 [(.t 22)]) (tm 24 (.t 1) (tq 25 (.call 41 [(.t 23), (.t 24)]) (tm 21 (.t 25) (tq 26 (.extract 0 (.t 21)) (tq 27 (.extract 1 (.t 21)) (tm 6 (.t 26) (tm 7 (.t 27) .done))))))))))
 (.seq (.reg (tm 28 (.t 0) (tq 29 (.call 17 [(.t 28)]) (tm 8 (.t 29) .done))))
 (.seq (.reg (tm 31 (.t 8) (tm 32 (.t 1) (tq 33 (.call 42 [(.t 31), (.t 32)]) (tm 30 (.t 33) (tq 34 (.extract 0 (.t 30)) (tq 35 (.extract 1 (.t 30)) (tm 9 (.t 34) (tm 10 (.t 35) .done)))))))))
 (.seq (.seq (.reg (tm 36 (.t 9) (tm 37 (.t 6) (tq 38 (.call 43 [(.t 36), (.t 37)]) (tq 39 (.not (.t 38)) (tm 40 (.t 39) (tg 41 40 false (.mov (.t 10)) (tg 42 40 false (.mov (.t 7)) (tg 43 40 false (.bin .neq (.t 41) (.t 42)) (tq 44 (.pick (.t 40) (.c (.bool true)) (.t 43)) .done))))))))))
 (.cut (.cond (.t 44) (.seq (.reg (tm 4 (.c (.bool false)) .done))
 .ret)
 .skip)))
 (.seq (.seq (.reg (tm 45 (.t 8) (tm 46 (.t 0) (tq 47 (.call 17 [(.t 46)]) (tq 48 (.call 19 [(.t 45), (.t 47)]) (tq 49 (.not (.t 48)) .done))))))
 (.cond (.t 49) (.seq (.reg (tm 4 (.c (.bool false)) .done))
 .ret)
 .skip))
 (.seq (.reg (tm 11 (.c (.int .i64 1)) .done))
 (.seq (.reg (tm 50 (.t 8) (tm 51 (.t 11) (tq 52 (.call 44 [(.t 50), (.t 51)]) (tm 11 (.t 52) .done)))))
 (.seq (.seq (.reg (tm 53 (.t 11) (tq 54 (.bin .lss (.t 53) (.c (.int .i64 0))) (tm 55 (.t 54) (tg 56 55 false (.mov (.t 9)) (tg 57 55 false (.mov (.t 6)) (tg 58 55 false (.call 43 [(.t 56), (.t 57)]) (tg 59 55 false (.not (.t 58)) (tq 60 (.pick (.t 55) (.c (.bool true)) (.t 59)) (tm 61 (.t 60) (tg 62 61 false (.mov (.t 10)) (tg 63 61 false (.mov (.t 7)) (tg 64 61 false (.bin .neq (.t 62) (.t 63)) (tq 65 (.pick (.t 61) (.c (.bool true)) (.t 64)) .done))))))))))))))
 (.cut (.cond (.t 65) (.seq (.reg (tm 4 (.c (.bool false)) .done))
 .ret)
 .skip)))
 (.seq (.reg (tm 12 (.c (.int .i64 1)) .done))
 (.seq (.reg (tm 66 (.t 9) (tm 67 (.t 12) (tq 68 (.call 45 [(.t 66), (.t 67)]) (tm 12 (.t 68) .done)))))
 (.seq (.reg (tm 13 (.c (.int .i64 1)) .done))
 (.seq (.reg (tm 69 (.t 9) (tm 70 (.t 13) (tq 71 (.call 46 [(.t 69), (.t 70)]) (tm 13 (.t 71) .done)))))
 (.seq (.seq (.reg (tm 72 (.t 13) (tq 73 (.bin .lss (.t 72) (.c (.int .i64 0))) .done)))
 (.cond (.t 73) (.seq (.reg (tm 4 (.c (.bool false)) .done))
 .ret)
 .skip))
 (.seq (.seq (.reg (tm 74 (.t 13) (tm 75 (.t 12) (tq 76 (.bin .neq (.t 74) (.t 75)) .done))))
 (.cond (.t 76) (.seq (.reg (tm 4 (.c (.bool false)) .done))
 .ret)
 .skip))
 (.seq (.reg (tm 78 (.t 0) (tq 79 (.call 17 [(.t 78)]) (tm 80 (.t 1) (tq 81 (.call 42 [(.t 79), (.t 80)]) (tm 77 (.t 81) (tq 82 (.extract 0 (.t 77)) (tq 83 (.extract 1 (.t 77)) (tm 14 (.t 82) (tm 15 (.t 83) .done))))))))))
 (.seq (.seq (.reg (tm 84 (.t 14) (tm 85 (.t 6) (tq 86 (.call 43 [(.t 84), (.t 85)]) (tq 87 (.not (.t 86)) (tm 88 (.t 87) (tg 89 88 false (.mov (.t 15)) (tg 90 88 false (.mov (.t 7)) (tg 91 88 false (.bin .neq (.t 89) (.t 90)) (tq 92 (.pick (.t 88) (.c (.bool true)) (.t 91)) .done))))))))))
 (.cut (.cond (.t 92) (.seq (.reg (tm 4 (.c (.bool false)) .done))
 .ret)
 .skip)))
 (.seq (.reg (tm 13 (.c (.int .i64 1)) .done))
 (.seq (.reg (tm 93 (.t 9) (tm 94 (.t 13) (tq 95 (.call 46 [(.t 93), (.t 94)]) (tm 13 (.t 95) .done)))))
 (.seq (.seq (.reg (tm 96 (.t 13) (tq 97 (.bin .lss (.t 96) (.c (.int .i64 0))) .done)))
 (.cond (.t 97) (.seq (.reg (tm 4 (.c (.bool false)) .done))
 .ret)
 .skip))
 (.seq (.seq (.reg (tm 98 (.t 13) (tm 99 (.t 12) (tq 100 (.bin .neq (.t 98) (.t 99)) .done))))
 (.cond (.t 100) (.seq (.reg (tm 4 (.c (.bool false)) .done))
 .ret)
 .skip))
 (.seq (.reg (tm 4 (.c (.bool true)) .done))
 .ret)))))))))))))))))))))))))
theorem fc8 : fcomp Try.prog Try.f8 = some (c8.erase, [.mov (.t 4)], 101) := by kernel_rfl
def laws_FnExactOwnedBy (aList_1 : (List GLock)) (aSession_2 : Int) : Option Bool :=
    (laws_szLockS aList_1 1048576).bind fun r_3 =>
    if (decide (r_3 < 0)) then
    some true
    else
    (laws_toLockS aList_1).bind fun r_6 =>
    (spec_OwnedBy r_6 aSession_2).bind fun r_8 =>
    (laws_toLockS aList_1).bind fun r_10 =>
    (impl_OwnedBy r_10 aSession_2).bind fun r_12 =>
    (((laws_eqStringS r_12.1 r_8.1).bind fun r_19 =>
    if (!r_19) then
    some true
    else
    some (r_12.2 != r_8.2) : Option Bool)).bind fun s44_17 =>
    if s44_17 then
    some false
    else
    (laws_toLockS aList_1).bind fun r_23 =>
    (laws_eqLockS r_10 r_23).bind fun r_25 =>
    if (!r_25) then
    some false
    else
    (laws_markLockS r_10 1).bind fun r_28 =>
    ((if (decide (r_28.1 < 0)) then
    some true
    else
    (laws_eqStringS r_12.1 r_8.1).bind fun r_37 =>
    some (bif (!r_37) then true else (r_12.2 != r_8.2)) : Option Bool)).bind fun s65_34 =>
    if s65_34 then
    some false
    else
    (laws_markStringS r_12.1 1).bind fun r_40 =>
    (laws_heldStringS r_40.2 1).bind fun r_43 =>
    if (decide (r_43 < 0)) then
    some false
    else
    if (r_43 != r_40.1) then
    some false
    else
    (laws_toLockS aList_1).bind fun r_47 =>
    (impl_OwnedBy r_47 aSession_2).bind fun r_49 =>
    (((laws_eqStringS r_49.1 r_8.1).bind fun r_56 =>
    if (!r_56) then
    some true
    else
    some (r_49.2 != r_8.2) : Option Bool)).bind fun s92_54 =>
    if s92_54 then
    some false
    else
    (laws_heldStringS r_40.2 1).bind fun r_60 =>
    if (decide (r_60 < 0)) then
    some false
    else
    if (r_60 != r_40.1) then
    some false
    else
    some true
theorem w_laws_FnExactOwnedBy (aList_1 : (List GLock)) (aSession_2 : Int) (r : Bool) (hf : laws_FnExactOwnedBy aList_1 aSession_2 = some r) : CallOK Try.prog 8 .flat [(.lst 2 (aList_1.map encGLock)), (.int .i64 aSession_2)] (.bool r) := by
 refine CallOK.of_awp' (md := ⟨true, true⟩) (fun _ => rfl) (fun h => by cases h) (fun h => by cases h) mixed Try.func8 fc8 nle ?_; rw [argT_eq]; unfold laws_FnExactOwnedBy at hf; unfold c8; refine (show awp Try.prog ⟨true, true⟩ 0 _ (ofL [(0, (.lst 2 (aList_1.map encGLock))), (1, (.int .i64 aSession_2))]) [] _ from ?_); refine awp_seq <| w_reg <| s_mov (.bool false) rfl <| w_done <| k_seq <| awp_seq <| w_reg <| s_mov (.int .i64 1048576) rfl <| w_done <| k_seq <| awp_seq <| w_reg <| ?_
 obtain ⟨r_3, er4, hf⟩ := ob hf
 refine s_mov (.lst 2 (aList_1.map encGLock)) rfl <| s_mov (.int .i64 1048576) rfl <| s_do (o_call (w_laws_szLockS _ _ _ er4) rfl (.refl _) rfl) <| s_mov (.int .i64 r_3) rfl <| w_done <| k_seq <| awp_seq <| awp_seq <| w_reg <| s_mov (.int .i64 r_3) rfl <| s_q (.bool (decide (r_3 < 0))) rfl (.of rfl trivial) rfl <| w_done <| k_seq <| ?_
 rcases oi hf with ⟨c5, hf⟩ | ⟨c5, hf⟩
 ·refine w_condt rfl c5 <| awp_seq <| w_reg <| s_mov (.bool true) rfl <| w_done <| k_seq <| w_ret <| ?_; obtain rfl := os hf; exact r_flat ⟨.of trivial trivial, trivial⟩ rfl (.refl _)
 ·refine w_condf rfl (bf c5) <| w_skip <| k_seq <| awp_seq <| w_reg <| ?_
  obtain ⟨r_6, er7, hf⟩ := ob hf
  obtain ⟨r_8, er9, hf⟩ := ob hf
  refine s_mov (.lst 2 (aList_1.map encGLock)) rfl <| s_do (o_callf (v := (.own 0 0 r_6.length)) (h' := [.row 2 (r_6.map encGLock)]) (w_laws_toLockS _ _ er7) rfl (.refl _) (by simp only [openV, openVs, List.length_map, List.nil_append, List.append_nil, List.cons_append]; rfl)) <| s_mov (.int .i64 aSession_2) rfl <| s_do (o_callf (v := (.tup [(.own 1 0 r_8.1.length), (.int .i64 r_8.2)])) (h' := [.row 1 (r_8.1.map AV.str)]) (w_spec_OwnedBy _ _ _ er9) rfl (.cons (.of_eq (congrArg (AV.lst _) (tko r_6))) (.cons (.refl _) .nil)) (by simp only [openV, openVs, List.length_map, List.nil_append, List.append_nil, List.cons_append]; rfl)) <| s_mov (.tup [(.own 1 0 r_8.1.length), (.int .i64 r_8.2)]) rfl <| s_q (.own 1 0 r_8.1.length) rfl (.of nle trivial) rfl <| ?_
  refine s_q (.int .i64 r_8.2) rfl (.of nle trivial) rfl <| s_mov (.own 1 0 r_8.1.length) rfl <| s_mov (.int .i64 r_8.2) rfl <| w_done <| k_seq <| awp_seq <| w_reg <| ?_
  obtain ⟨r_10, er11, hf⟩ := ob hf
  refine s_mov (.lst 2 (aList_1.map encGLock)) rfl <| s_do (o_callf (v := (.own 2 0 r_10.length)) (h' := [.row 2 (r_10.map encGLock)]) (w_laws_toLockS _ _ er11) rfl (.refl _) (by simp only [openV, openVs, List.length_map, List.nil_append, List.append_nil, List.cons_append]; rfl)) <| s_mov (.own 2 0 r_10.length) rfl <| w_done <| k_seq <| awp_seq <| w_reg <| ?_
  obtain ⟨r_12, er13, hf⟩ := ob hf
  refine s_mov (.own 2 0 r_10.length) rfl <| s_mov (.int .i64 aSession_2) rfl <| s_do (o_callf (v := (.tup [(.own 3 0 r_12.1.length), (.int .i64 r_12.2)])) (h' := [.row 1 (r_12.1.map AV.str)]) (w_impl_OwnedBy _ _ _ er13) rfl (.cons (.of_eq (congrArg (AV.lst _) (tko r_10))) (.cons (.refl _) .nil)) (by simp only [openV, openVs, List.length_map, List.nil_append, List.append_nil, List.cons_append]; rfl)) <| s_mov (.tup [(.own 3 0 r_12.1.length), (.int .i64 r_12.2)]) rfl <| s_q (.own 3 0 r_12.1.length) rfl (.of nle trivial) rfl <| s_q (.int .i64 r_12.2) rfl (.of nle trivial) rfl <| s_mov (.own 3 0 r_12.1.length) rfl <| s_mov (.int .i64 r_12.2) rfl <| w_done <| k_seq <| awp_seq <| awp_seq <| ?_
  obtain ⟨s44_17, hb1, hf⟩ := ob hf
  refine awp_cut ([(0, (.lst 2 (aList_1.map encGLock))), (1, (.int .i64 aSession_2)), (6, (.own 0 0 r_8.1.length)), (7, (.int .i64 r_8.2)), (8, (.own 1 0 r_10.length)), (9, (.own 2 0 r_12.1.length)), (10, (.int .i64 r_12.2)), (44, (.bool s44_17))], [.row 1 (r_8.1.map AV.str), .row 2 (r_10.map encGLock), .row 1 (r_12.1.map AV.str)]) ?_ ?_
  ·refine w_reg ?_
   obtain ⟨r_19, er20, hb1⟩ := ob hb1
   rcases oi hb1 with ⟨c21, hb1⟩ | ⟨c21, hb1⟩
   ·refine s_mov (.own 3 0 r_12.1.length) rfl <| s_mov (.own 1 0 r_8.1.length) rfl <| s_do (o_call (w_laws_eqStringS _ _ _ er20) rfl (.cons (.of_eq (congrArg (AV.lst _) (tko r_12.1))) (.cons (.of_eq (congrArg (AV.lst _) (tko r_8.1))) .nil)) rfl) <| s_q (.bool (!r_19)) rfl (.of trivial trivial) rfl <| s_mov (.bool (!r_19)) rfl <| s_lit (s := 40) (b := true) rfl c21 <| s_off rfl rfl <| s_off rfl rfl <| s_off rfl rfl <| s_q (.bool true) rfl (.of trivial trivial) rfl <| w_done <| ?_; obtain rfl := os hb1; exact ⟨[], [1, 2, 3], _, _, rfl, rfl, ⟨.refl _, ⟨.refl _, ⟨.refl _, ⟨.refl _, ⟨.refl _, ⟨.refl _, ⟨.refl _, ⟨.refl _, trivial⟩⟩⟩⟩⟩⟩⟩⟩, (.refl _)⟩
   ·refine s_mov (.own 3 0 r_12.1.length) rfl <| s_mov (.own 1 0 r_8.1.length) rfl <| s_do (o_call (w_laws_eqStringS _ _ _ er20) rfl (.cons (.of_eq (congrArg (AV.lst _) (tko r_12.1))) (.cons (.of_eq (congrArg (AV.lst _) (tko r_8.1))) .nil)) rfl) <| s_q (.bool (!r_19)) rfl (.of trivial trivial) rfl <| s_mov (.bool (!r_19)) rfl <| s_lit (s := 40) (b := false) rfl (bf c21) <| s_on rfl <| s_mov (.int .i64 r_12.2) rfl <| s_on rfl <| s_mov (.int .i64 r_8.2) rfl <| s_on rfl <| s_q (.bool (r_12.2 != r_8.2)) rfl (.of rfl trivial) rfl <| s_q (.bool (r_12.2 != r_8.2)) rfl (.of trivial trivial) rfl <| w_done <| ?_; obtain rfl := os hb1; exact ⟨[], [1, 2, 3], _, _, rfl, rfl, ⟨.refl _, ⟨.refl _, ⟨.refl _, ⟨.refl _, ⟨.refl _, ⟨.refl _, ⟨.refl _, ⟨.refl _, trivial⟩⟩⟩⟩⟩⟩⟩⟩, (.refl _)⟩
  ·rcases oi hf with ⟨c22, hf⟩ | ⟨c22, hf⟩
   ·refine w_condt rfl c22 <| awp_seq <| w_reg <| s_mov (.bool false) rfl <| w_done <| k_seq <| w_ret <| ?_; obtain rfl := os hf; exact r_flat ⟨.of trivial trivial, trivial⟩ rfl (.refl _)
   ·refine w_condf rfl (bf c22) <| w_skip <| k_seq <| awp_seq <| awp_seq <| w_reg <| ?_
    obtain ⟨r_23, er24, hf⟩ := ob hf
    obtain ⟨r_25, er26, hf⟩ := ob hf
    refine s_mov (.own 1 0 r_10.length) rfl <| s_mov (.lst 2 (aList_1.map encGLock)) rfl <| s_do (o_callf (v := (.own 3 0 r_23.length)) (h' := [.row 2 (r_23.map encGLock)]) (w_laws_toLockS _ _ er24) rfl (.refl _) (by simp only [openV, openVs, List.length_map, List.nil_append, List.append_nil, List.cons_append]; rfl)) <| s_do (o_call (w_laws_eqLockS _ _ _ er26) rfl (.cons (.of_eq (congrArg (AV.lst _) (tko r_10))) (.cons (.of_eq (congrArg (AV.lst _) (tko r_23))) .nil)) rfl) <| s_q (.bool (!r_25)) rfl (.of trivial trivial) rfl <| w_done <| k_seq <| ?_
    rcases oi hf with ⟨c27, hf⟩ | ⟨c27, hf⟩
    ·refine w_condt rfl c27 <| awp_seq <| w_reg <| s_mov (.bool false) rfl <| w_done <| k_seq <| w_ret <| ?_; obtain rfl := os hf; exact r_flat ⟨.of trivial trivial, trivial⟩ rfl (.refl _)
    ·refine w_condf rfl (bf c27) <| w_skip <| k_seq <| awp_seq <| w_reg <| s_mov (.int .i64 1) rfl <| w_done <| k_seq <| awp_seq <| w_reg <| ?_
     obtain ⟨r_28, er29, hf⟩ := ob hf
     refine s_mov (.own 1 0 r_10.length) rfl <| s_mov (.int .i64 1) rfl <| ?_; refine s_dof (o_callhs (v := (.int .i64 r_28.1)) (h2 := [.row 1 (r_8.1.map AV.str), .row 2 (r_28.2.map encGLock), .row 1 (r_12.1.map AV.str), .row 2 (r_23.map encGLock)]) [] [1] (fun _ => rfl) (w_laws_markLockS _ _ _ er29) rfl (.refl _) (.refl _) rfl rfl) fun hl30 => ?_; refine s_mov (.int .i64 r_28.1) rfl <| w_done <| k_seq <| awp_seq <| awp_seq <| ?_
     obtain ⟨s65_34, hb1, hf⟩ := ob hf
     refine awp_cut ([(0, (.lst 2 (aList_1.map encGLock))), (1, (.int .i64 aSession_2)), (6, (.own 0 0 r_8.1.length)), (7, (.int .i64 r_8.2)), (9, (.own 1 0 r_12.1.length)), (65, (.bool s65_34))], [.row 1 (r_8.1.map AV.str), .row 1 (r_12.1.map AV.str)]) ?_ ?_
     ·refine w_reg <| s_mov (.int .i64 r_28.1) rfl <| s_q (.bool (decide (r_28.1 < 0))) rfl (.of rfl trivial) rfl <| s_mov (.bool (decide (r_28.1 < 0))) rfl <| ?_
      rcases oi hb1 with ⟨c36, hb1⟩ | ⟨c36, hb1⟩
      ·refine s_lit (s := 55) (b := true) rfl c36 <| s_off rfl rfl <| s_off rfl rfl <| s_off rfl rfl <| s_off rfl rfl <| s_q (.bool true) rfl (.of trivial trivial) rfl <| s_mov (.bool true) rfl <| s_off rfl rfl <| s_off rfl rfl <| s_off rfl rfl <| s_q (.bool true) rfl (.of trivial trivial) rfl <| w_done <| ?_; obtain rfl := os hb1; exact ⟨[], [0, 2], _, _, rfl, rfl, ⟨.refl _, ⟨.refl _, ⟨.refl _, ⟨.refl _, ⟨.refl _, ⟨.refl _, trivial⟩⟩⟩⟩⟩⟩, (.refl _)⟩
      ·refine s_lit (s := 55) (b := false) rfl (bf c36) <| s_on rfl <| s_mov (.own 2 0 r_12.1.length) rfl <| s_on rfl <| s_mov (.own 0 0 r_8.1.length) rfl <| s_on rfl <| ?_
       obtain ⟨r_37, er38, hb1⟩ := ob hb1
       refine s_do (o_call (w_laws_eqStringS _ _ _ er38) rfl (.cons (.of_eq (congrArg (AV.lst _) (tko r_12.1))) (.cons (.of_eq (congrArg (AV.lst _) (tko r_8.1))) .nil)) rfl) <| s_on rfl <| s_q (.bool (!r_37)) rfl (.of trivial trivial) rfl <| s_q (.bool (!r_37)) rfl (.of trivial trivial) rfl <| s_mov (.bool (!r_37)) rfl <| ?_; refine s_g (v := (!r_37)) (.int .i64 r_12.2) rfl (fun hv => by (try simp only [gs_on hv]); exact ⟨rfl, .of trivial trivial, rfl⟩) ?_; refine s_g (v := (!r_37)) (.int .i64 r_8.2) rfl (fun hv => by (try simp only [gs_on hv]); exact ⟨rfl, .of trivial trivial, rfl⟩) ?_; refine s_g (v := (!r_37)) (.bool (r_12.2 != r_8.2)) rfl (fun hv => by (try simp only [gs_on hv]); exact ⟨rfl, (.of rfl trivial), rfl⟩) ?_
       refine s_pick (x := true) (y := (r_12.2 != r_8.2)) rfl (fun hv => by (try simp only [gs_on hv]); rfl) (fun hv => by (try simp only [gs_on hv]); rfl) ?_; refine w_done ?_; obtain rfl := os hb1; exact ⟨[], [0, 2], _, _, rfl, rfl, ⟨.refl _, ⟨.refl _, ⟨.refl _, ⟨.refl _, ⟨.refl _, ⟨.refl _, trivial⟩⟩⟩⟩⟩⟩, (.refl _)⟩
     ·rcases oi hf with ⟨c39, hf⟩ | ⟨c39, hf⟩
      ·refine w_condt rfl c39 <| awp_seq <| w_reg <| s_mov (.bool false) rfl <| w_done <| k_seq <| w_ret <| ?_; obtain rfl := os hf; exact r_flat ⟨.of trivial trivial, trivial⟩ rfl (.refl _)
      ·refine w_condf rfl (bf c39) <| w_skip <| k_seq <| awp_seq <| w_reg <| s_mov (.int .i64 1) rfl <| w_done <| k_seq <| awp_seq <| w_reg <| ?_
       obtain ⟨r_40, er41, hf⟩ := ob hf
       refine s_mov (.own 1 0 r_12.1.length) rfl <| s_mov (.int .i64 1) rfl <| ?_; refine s_dof (o_callhs (v := (.int .i64 r_40.1)) (h2 := [.row 1 (r_8.1.map AV.str), .row 1 (r_40.2.map AV.str)]) [] [1] (fun _ => rfl) (w_laws_markStringS _ _ _ er41) rfl (.refl _) (.refl _) rfl rfl) fun hl42 => ?_; refine s_mov (.int .i64 r_40.1) rfl <| w_done <| k_seq <| awp_seq <| w_reg <| s_mov (.int .i64 1) rfl <| w_done <| k_seq <| awp_seq <| w_reg <| ?_
       obtain ⟨r_43, er44, hf⟩ := ob hf
       refine s_mov (.own 1 0 r_12.1.length) rfl <| s_mov (.int .i64 1) rfl <| s_do (o_call (w_laws_heldStringS _ _ _ er44) rfl (.cons (.of_eq (congrArg (AV.lst _) (tkol (hl42 0 _ _ _ _ rfl rfl)))) (.cons (.refl _) .nil)) rfl) <| s_mov (.int .i64 r_43) rfl <| w_done <| k_seq <| awp_seq <| awp_seq <| w_reg <| s_mov (.int .i64 r_43) rfl <| s_q (.bool (decide (r_43 < 0))) rfl (.of rfl trivial) rfl <| w_done <| k_seq <| ?_
       rcases oi hf with ⟨c45, hf⟩ | ⟨c45, hf⟩
       ·refine w_condt rfl c45 <| awp_seq <| w_reg <| s_mov (.bool false) rfl <| w_done <| k_seq <| w_ret <| ?_; obtain rfl := os hf; exact r_flat ⟨.of trivial trivial, trivial⟩ rfl (.refl _)
       ·refine w_condf rfl (bf c45) <| w_skip <| k_seq <| awp_seq <| awp_seq <| w_reg <| s_mov (.int .i64 r_43) rfl <| s_mov (.int .i64 r_40.1) rfl <| s_q (.bool (r_43 != r_40.1)) rfl (.of rfl trivial) rfl <| w_done <| k_seq <| ?_
        rcases oi hf with ⟨c46, hf⟩ | ⟨c46, hf⟩
        ·refine w_condt rfl c46 <| awp_seq <| w_reg <| s_mov (.bool false) rfl <| w_done <| k_seq <| w_ret <| ?_; obtain rfl := os hf; exact r_flat ⟨.of trivial trivial, trivial⟩ rfl (.refl _)
        ·refine w_condf rfl (bf c46) <| w_skip <| k_seq <| awp_seq <| w_reg <| ?_
         obtain ⟨r_47, er48, hf⟩ := ob hf
         obtain ⟨r_49, er50, hf⟩ := ob hf
         refine s_mov (.lst 2 (aList_1.map encGLock)) rfl <| s_do (o_callf (v := (.own 2 0 r_47.length)) (h' := [.row 2 (r_47.map encGLock)]) (w_laws_toLockS _ _ er48) rfl (.refl _) (by simp only [openV, openVs, List.length_map, List.nil_append, List.append_nil, List.cons_append]; rfl)) <| s_mov (.int .i64 aSession_2) rfl <| s_do (o_callf (v := (.tup [(.own 3 0 r_49.1.length), (.int .i64 r_49.2)])) (h' := [.row 1 (r_49.1.map AV.str)]) (w_impl_OwnedBy _ _ _ er50) rfl (.cons (.of_eq (congrArg (AV.lst _) (tko r_47))) (.cons (.refl _) .nil)) (by simp only [openV, openVs, List.length_map, List.nil_append, List.append_nil, List.cons_append]; rfl)) <| s_mov (.tup [(.own 3 0 r_49.1.length), (.int .i64 r_49.2)]) rfl <| ?_
         refine s_q (.own 3 0 r_49.1.length) rfl (.of nle trivial) rfl <| s_q (.int .i64 r_49.2) rfl (.of nle trivial) rfl <| s_mov (.own 3 0 r_49.1.length) rfl <| s_mov (.int .i64 r_49.2) rfl <| w_done <| k_seq <| awp_seq <| awp_seq <| ?_
         obtain ⟨s92_54, hb1, hf⟩ := ob hf
         refine awp_cut ([(9, (.own 0 0 r_40.2.length)), (12, (.int .i64 r_40.1)), (92, (.bool s92_54))], [.row 1 (r_40.2.map AV.str)]) ?_ ?_
         ·refine w_reg ?_
          obtain ⟨r_56, er57, hb1⟩ := ob hb1
          rcases oi hb1 with ⟨c58, hb1⟩ | ⟨c58, hb1⟩
          ·refine s_mov (.own 3 0 r_49.1.length) rfl <| s_mov (.own 0 0 r_8.1.length) rfl <| s_do (o_call (w_laws_eqStringS _ _ _ er57) rfl (.cons (.of_eq (congrArg (AV.lst _) (tko r_49.1))) (.cons (.of_eq (congrArg (AV.lst _) (tko r_8.1))) .nil)) rfl) <| s_q (.bool (!r_56)) rfl (.of trivial trivial) rfl <| s_mov (.bool (!r_56)) rfl <| s_lit (s := 88) (b := true) rfl c58 <| s_off rfl rfl <| s_off rfl rfl <| s_off rfl rfl <| s_q (.bool true) rfl (.of trivial trivial) rfl <| w_done <| ?_; obtain rfl := os hb1; exact ⟨[], [1], _, _, rfl, rfl, ⟨.of_eq (congrArg (AV.own _ 0) (by have h := (hl42 0 _ _ _ _ rfl rfl); simpa using h.symm)), ⟨.refl _, ⟨.refl _, trivial⟩⟩⟩, (.refl _)⟩
          ·refine s_mov (.own 3 0 r_49.1.length) rfl <| s_mov (.own 0 0 r_8.1.length) rfl <| s_do (o_call (w_laws_eqStringS _ _ _ er57) rfl (.cons (.of_eq (congrArg (AV.lst _) (tko r_49.1))) (.cons (.of_eq (congrArg (AV.lst _) (tko r_8.1))) .nil)) rfl) <| s_q (.bool (!r_56)) rfl (.of trivial trivial) rfl <| s_mov (.bool (!r_56)) rfl <| s_lit (s := 88) (b := false) rfl (bf c58) <| s_on rfl <| s_mov (.int .i64 r_49.2) rfl <| s_on rfl <| s_mov (.int .i64 r_8.2) rfl <| s_on rfl <| s_q (.bool (r_49.2 != r_8.2)) rfl (.of rfl trivial) rfl <| s_q (.bool (r_49.2 != r_8.2)) rfl (.of trivial trivial) rfl <| w_done <| ?_; obtain rfl := os hb1; exact ⟨[], [1], _, _, rfl, rfl, ⟨.of_eq (congrArg (AV.own _ 0) (by have h := (hl42 0 _ _ _ _ rfl rfl); simpa using h.symm)), ⟨.refl _, ⟨.refl _, trivial⟩⟩⟩, (.refl _)⟩
         ·rcases oi hf with ⟨c59, hf⟩ | ⟨c59, hf⟩
          ·refine w_condt rfl c59 <| awp_seq <| w_reg <| s_mov (.bool false) rfl <| w_done <| k_seq <| w_ret <| ?_; obtain rfl := os hf; exact r_flat ⟨.of trivial trivial, trivial⟩ rfl (.refl _)
          ·refine w_condf rfl (bf c59) <| w_skip <| k_seq <| awp_seq <| w_reg <| s_mov (.int .i64 1) rfl <| w_done <| k_seq <| awp_seq <| w_reg <| ?_
           obtain ⟨r_60, er61, hf⟩ := ob hf
           refine s_mov (.own 0 0 r_40.2.length) rfl <| s_mov (.int .i64 1) rfl <| s_do (o_call (w_laws_heldStringS _ _ _ er61) rfl (.cons (.of_eq (congrArg (AV.lst _) (tko r_40.2))) (.cons (.refl _) .nil)) rfl) <| s_mov (.int .i64 r_60) rfl <| w_done <| k_seq <| awp_seq <| awp_seq <| w_reg <| s_mov (.int .i64 r_60) rfl <| s_q (.bool (decide (r_60 < 0))) rfl (.of rfl trivial) rfl <| w_done <| k_seq <| ?_
           rcases oi hf with ⟨c62, hf⟩ | ⟨c62, hf⟩
           ·refine w_condt rfl c62 <| awp_seq <| w_reg <| s_mov (.bool false) rfl <| w_done <| k_seq <| w_ret <| ?_; obtain rfl := os hf; exact r_flat ⟨.of trivial trivial, trivial⟩ rfl (.refl _)
           ·refine w_condf rfl (bf c62) <| w_skip <| k_seq <| awp_seq <| awp_seq <| w_reg <| s_mov (.int .i64 r_60) rfl <| s_mov (.int .i64 r_40.1) rfl <| s_q (.bool (r_60 != r_40.1)) rfl (.of rfl trivial) rfl <| w_done <| k_seq <| ?_
            rcases oi hf with ⟨c63, hf⟩ | ⟨c63, hf⟩
            ·refine w_condt rfl c63 <| awp_seq <| w_reg <| s_mov (.bool false) rfl <| w_done <| k_seq <| w_ret <| ?_; obtain rfl := os hf; exact r_flat ⟨.of trivial trivial, trivial⟩ rfl (.refl _)
            ·refine w_condf rfl (bf c63) <| w_skip <| k_seq <| awp_seq <| w_reg <| s_mov (.bool true) rfl <| w_done <| k_seq <| w_ret <| ?_; obtain rfl := os hf; exact r_flat ⟨.of trivial trivial, trivial⟩ rfl (.refl _)

end Go.R
