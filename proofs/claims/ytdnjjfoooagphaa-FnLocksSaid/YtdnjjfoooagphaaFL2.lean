/- Walks. -/
import Derived.Test.YtdnjjfoooagphaaFL1
set_option linter.all false
namespace Go.R
open Go Go.Proofs
set_option linter.unusedVariables false
set_option linter.unusedSimpArgs false
set_option maxHeartbeats 8000000
/- impl.LocksOK -/
def c31 : ACode :=
 (.seq (.reg (tm 2 (.c (.bool false)) .done))
 (.seq (.seq (.reg (tm 7 (.t 0) (tq 8 (.len (.t 7)) (tm 9 (.c (.int .i64 0)) .done))))
 (.block 0 (.loop (.seq (.reg (tq 10 (.bin .lss (.t 9) (.t 8)) .done))
 (.seq (.cond (.t 10) .skip
 (.exit 0))
 (.seq (.block 1 (.seq (.reg (tm 11 (.t 9) (tq 12 (.iaddr 2 (.t 7) (.t 9)) (tq 13 (.load 2 true (.t 12)) (tq 4 (.box 2 (.c (.agg [(.str []), .nil]))) (tm 3 (.t 11) (.q ⟨none, none, .store 2 (.t 4) (.t 13)⟩
 .done)))))))
 (.seq (.seq (.reg (tq 14 (.faddr 0 (.t 4)) (tq 15 (.load 1 false (.t 14)) (.l ⟨(some 16), none, .call 105 [(.t 15)]⟩ []
 (tq 17 (.not (.t 16)) (tm 18 (.t 17) (tg 19 18 false (.mov (.t 3)) (tg 20 18 false (.bin .gtr (.t 19) (.c (.int .i64 0))) (tg 21 18 false (.mov (.t 20)) (tg 22 21 true (.mov (.t 0)) (tg 23 21 true (.mov (.t 3)) (tg 24 21 true (.bin .sub (.t 23) (.c (.int .i64 1))) (tg 25 21 true (.iaddr 2 (.t 22) (.t 24)) (tg 26 21 true (.faddr 0 (.t 25)) (tg 27 21 true (.load 1 false (.t 26)) (tg 28 21 true (.faddr 0 (.t 4)) (tg 29 21 true (.load 1 false (.t 28)) (tg 30 21 true (.bin .geq (.t 27) (.t 29)) (tg 31 18 false (.pick (.t 21) (.t 30) (.c (.bool false))) (tq 32 (.pick (.t 18) (.c (.bool true)) (.t 31)) (tm 33 (.t 32) (tg 34 33 false (.faddr 1 (.t 4)) (tg 35 33 false (.load 1 false (.t 34)) (tg 36 33 false (.len (.t 35)) (.l ⟨(some 37), (some (33, false)), .call 106 [(.t 36), (.c (.int .i64 1)), (.c (.int .i64 3))]⟩ []
 (tg 38 33 false (.not (.t 37)) (tq 39 (.pick (.t 33) (.c (.bool true)) (.t 38)) .done)) .non))))))))))))))))))))) .non))))
 (.cut (.cond (.t 39) (.seq (.reg (tm 2 (.c (.bool false)) .done))
 .ret)
 .skip)))
 (.seq (.reg (tq 40 (.faddr 1 (.t 4)) (tq 41 (.load 1 false (.t 40)) (tq 42 (.len (.t 41)) (tm 43 (.c (.int .i64 0)) .done)))))
 (.block 2 (.loop (.seq (.reg (tq 44 (.bin .lss (.t 43) (.t 42)) .done))
 (.seq (.cond (.t 44) .skip
 (.exit 2))
 (.seq (.block 3 (.seq (.reg (tm 45 (.t 43) (tq 46 (.iaddr 1 (.t 41) (.t 43)) (tq 47 (.load 1 false (.t 46)) (tm 5 (.t 45) (tm 6 (.t 47) .done))))))
 (.seq (.reg (tm 48 (.t 6) (tq 49 (.call 107 [(.t 48)]) (tq 50 (.not (.t 49)) (tm 51 (.t 50) (tg 52 51 false (.faddr 1 (.t 4)) (tg 53 51 false (.load 1 false (.t 52)) (tg 54 51 false (.mov (.t 5)) (tg 55 51 false (.slice 1 (.t 53) none (some (.t 54))) (tg 56 51 false (.mov (.t 6)) (tg 57 51 false (.call 100 [(.t 55), (.t 56)]) (tq 58 (.pick (.t 51) (.c (.bool true)) (.t 57)) .done))))))))))))
 (.cut (.cond (.t 58) (.seq (.reg (tm 2 (.c (.bool false)) .done))
 .ret)
 .skip)))))
 (.reg (tq 59 (.bin .add (.t 43) (.c (.int .i64 1))) (tm 43 (.t 59) .done))))))))))))
 (.cut (.reg (tq 60 (.bin .add (.t 9) (.c (.int .i64 1))) (tm 9 (.t 60) .done))))))))))
 (.cut (.seq (.reg (tm 61 (.t 0) (tq 62 (.len (.t 61)) (tq 63 (.bin .leq (.t 62) (.c (.int .i64 6))) (tm 2 (.t 63) .done)))))
 .ret))))
theorem fc31 : fcomp Try.prog Try.f31 = some (c31.erase, [.mov (.t 2)], 64) := by kernel_rfl
def impl_LocksOK_L2 (x_354 : GLock) : List Int → Nat → Option (Fl Bool Unit)
  | [], s43_424 =>
    some (.go ())
  | x_450 :: xs, s43_424 =>
    (((impl_isSession x_450).bind fun r_459 =>
    if (!r_459) then
    some true
    else
    if (0 : Int) ≤ (s43_424 : Int) ∧ (s43_424 : Int) ≤ (x_354.Queue.length : Int) then
    (slices_Contains_int_int (x_354.Queue.take s43_424) x_450).bind fun r_463 =>
    some r_463
    else none : Option Bool)).bind fun s58_457 =>
    if s58_457 then
    some (.ret false)
    else
    impl_LocksOK_L2 x_354 xs (s43_424 + 1)

def impl_LocksOK_L1 (list_1 : (List GLock)) : List GLock → Nat → Option (Fl Bool Unit)
  | [], s9_232 =>
    some (.go ())
  | x_354 :: xs, s9_232 =>
    (((impl_NameOK x_354.Name).bind fun r_371 =>
    if (!r_371) then
    some true
    else
    if (decide ((s9_232 : Int) > 0)) then
    (idx list_1 (w64 ((s9_232 : Int) - 1))).bind fun x_375 =>
    if (!Op.bytesLess x_375.Name x_354.Name) then
    some true
    else
    (impl_within (x_354.Queue.length : Int) 1 3).bind fun r_380 =>
    some (!r_380)
    else
    (impl_within (x_354.Queue.length : Int) 1 3).bind fun r_383 =>
    some (!r_383) : Option Bool)).bind fun s39_369 =>
    if s39_369 then
    some (.ret false)
    else
    (impl_LocksOK_L2 x_354 x_354.Queue 0).bind fun q => (match q with
    | .ret r => some (.ret r)
    | .go _ =>
    impl_LocksOK_L1 list_1 xs (s9_232 + 1))

def impl_LocksOK (list_1 : (List GLock)) : Option Bool :=
    (impl_LocksOK_L1 list_1 list_1 0).bind fun q => (match q with
    | .ret r => some r
    | .go _ =>
    some (decide ((list_1.length : Int) ≤ 6)))
theorem w_impl_LocksOK (list_1 : (List GLock)) (r : Bool) (hf : impl_LocksOK list_1 = some r) : CallOK Try.prog 31 .flat [(.lst 2 (list_1.map encGLock))] (.bool r) := by
 refine CallOK.of_awp mixed Try.func31 fc31 nle ?_; rw [argT_eq]; unfold impl_LocksOK at hf; unfold c31; refine (show awp Try.prog false 0 _ (ofL [(0, (.lst 2 (list_1.map encGLock)))]) [] _ from ?_); refine awp_seq <| w_reg <| s_mov (.bool false) rfl <| w_done <| k_seq <| awp_seq <| awp_seq <| w_reg <| s_mov (.lst 2 (list_1.map encGLock)) rfl <| s_dof (o_len (enc := encGLock) rfl) fun hl2 => s_mov (.int .i64 0) rfl <| w_done <| k_seq <| ?_
 obtain ⟨p347, hb1, hf⟩ := ob hf
 refine awp_cutx (X := {q : Unit // p347 = .go q}) (fun q => ([(0, (.lst 2 (list_1.map encGLock)))], [])) ?_ ?_
 ·refine awp_loop (X := {q : Nat // impl_LocksOK_L1 list_1 (list_1.drop q) q = some p347}) (fun q => ([(0, (.lst 2 (list_1.map encGLock))), (7, (.lst 2 (list_1.map encGLock))), (8, (.int .i64 (list_1.length : Int))), (9, (.int .i64 (q.1 : Int)))], [])) (fun q => list_1.length - q.1) ⟨0, hb1⟩ ⟨[], [], _, _, rfl, rfl, ⟨.refl _, ⟨.refl _, ⟨.refl _, ⟨.refl _, trivial⟩⟩⟩⟩, (.refl _)⟩ ?_
  rintro ⟨s9_232, hc1⟩
  have hc1 : impl_LocksOK_L1 list_1 (list_1.drop s9_232) s9_232 = some p347 := hc1
  refine (show awp Try.prog false 0 _ (ofL [(0, (.lst 2 (list_1.map encGLock))), (7, (.lst 2 (list_1.map encGLock))), (8, (.int .i64 (list_1.length : Int))), (9, (.int .i64 (s9_232 : Int)))]) [] _ from ?_)
  rcases dropc list_1 s9_232 with ⟨hie350, hd353⟩ | ⟨hlt348, x_354, hx349, hd353⟩
  ·rw [hd353, impl_LocksOK_L1.eq_1] at hc1
   have hq352 := dlf hie350
   refine awp_seq <| w_reg <| s_q (.bool (decide ((s9_232 : Int) < (list_1.length : Int)))) rfl rfl rfl <| w_done <| k_seq <| awp_seq <| w_condf rfl hq352 <| w_exit <| k_seqx <| k_loopx <| k_blkx <| ?_; obtain rfl := os hc1; exact k_cutn ⟨_, rfl⟩ ⟨[], [], _, _, rfl, rfl, ⟨.refl _, trivial⟩, (.refl _)⟩
  ·rw [hd353, impl_LocksOK_L1.eq_2] at hc1
   have hq352 := dlt hlt348
   refine awp_seq <| w_reg <| s_q (.bool (decide ((s9_232 : Int) < (list_1.length : Int)))) rfl rfl rfl <| w_done <| k_seq <| awp_seq <| w_condt rfl hq352 <| w_skip <| k_seq <| awp_seq <| w_blk <| awp_seq <| w_reg <| s_mov (.int .i64 (s9_232 : Int)) rfl <| s_do (o_iaddrn (enc := encGLock) rfl rfl hx349) <| s_q (encGLock x_354) rfl nle rfl <| s_do (o_box (j := 0) (c := (.agg [(.str []), .nil])) rfl trivial rfl rfl) <| s_mov (.int .i64 (s9_232 : Int)) rfl <| s_do0 (o_storebox (v := (.agg [(.str x_354.Name), (.lst 1 (x_354.Queue.map encI))])) (y' := (.agg [(.str x_354.Name), (.lst 1 (x_354.Queue.map encI))])) rfl rfl rfl trivial ⟨rfl, nle⟩ ⟨⟨rfl, trivial⟩, ⟨⟨rfl, trivial⟩, trivial⟩⟩ rfl) <| w_done <| k_seq <| ?_
   refine awp_seq <| awp_seq <| ?_
   obtain ⟨s39_369, hb2, hc1⟩ := ob hc1
   refine awp_cut ([(0, (.lst 2 (list_1.map encGLock))), (4, (.ptr 0 0 0)), (7, (.lst 2 (list_1.map encGLock))), (8, (.int .i64 (list_1.length : Int))), (9, (.int .i64 (s9_232 : Int))), (39, (.bool s39_369))], [.box 2 (.agg [(.str x_354.Name), (.lst 1 (x_354.Queue.map encI))])]) ?_ ?_
   ·refine w_reg <| s_q (.ptr 0 0 0) rfl trivial rfl <| s_q (.str x_354.Name) rfl nle rfl <| ?_
    obtain ⟨r_371, er372, hb2⟩ := ob hb2
    refine s_dol (o_call (w_impl_NameOK _ _ er372) rfl (.refl _) rfl) a_same trivial <| s_q (.bool (!r_371)) rfl trivial rfl <| s_mov (.bool (!r_371)) rfl <| ?_
    rcases oi hb2 with ⟨c373, hb2⟩ | ⟨c373, hb2⟩
    ·refine s_lit (s := 18) (b := true) rfl c373 <| s_off rfl rfl <| s_off rfl rfl <| s_off rfl rfl <| s_offs rfl <| s_offs rfl <| s_offs rfl <| s_offs rfl <| s_offs rfl <| s_offs rfl <| s_offs rfl <| s_offs rfl <| s_offs rfl <| s_off rfl rfl <| s_q (.bool true) rfl trivial rfl <| s_mov (.bool true) rfl <| s_off rfl rfl <| s_off rfl rfl <| s_off rfl rfl <| s_offl rfl rfl trivial <| s_off rfl rfl <| s_q (.bool true) rfl trivial rfl <| w_done <| ?_; obtain rfl := os hb2; exact ⟨[], [0], _, _, rfl, rfl, ⟨.refl _, ⟨.refl _, ⟨.refl _, ⟨.refl _, ⟨.refl _, ⟨.refl _, trivial⟩⟩⟩⟩⟩⟩, (.refl _)⟩
    ·refine s_lit (s := 18) (b := false) rfl (bf c373) <| s_on rfl <| s_mov (.int .i64 (s9_232 : Int)) rfl <| s_on rfl <| s_q (.bool (decide ((s9_232 : Int) > 0))) rfl rfl rfl <| s_on rfl <| s_mov (.bool (decide ((s9_232 : Int) > 0))) rfl <| ?_
     rcases oi hb2 with ⟨c374, hb2⟩ | ⟨c374, hb2⟩
     ·refine s_lit (s := 21) (b := true) rfl c374 <| s_on rfl <| s_mov (.lst 2 (list_1.map encGLock)) rfl <| s_on rfl <| s_mov (.int .i64 (s9_232 : Int)) rfl <| s_on rfl <| s_q (.int .i64 (w64 ((s9_232 : Int) - 1))) rfl rfl rfl <| s_on rfl <| ?_
      obtain ⟨x_375, ex376, hb2⟩ := ob hb2
      refine s_do (o_iaddr (enc := encGLock) rfl rfl (idx0 ex376) (idx1 ex376)) <| s_on rfl <| s_q (.iptr (encGLock x_375) 0) rfl trivial rfl <| s_on rfl <| s_q (.str x_375.Name) rfl nle rfl <| s_on rfl <| s_q (.ptr 0 0 0) rfl trivial rfl <| s_on rfl <| s_q (.str x_354.Name) rfl nle rfl <| s_on rfl <| s_q (.bool (!Op.bytesLess x_375.Name x_354.Name)) rfl trivial rfl <| s_on rfl <| s_q (.bool (!Op.bytesLess x_375.Name x_354.Name)) rfl trivial rfl <| s_q (.bool (!Op.bytesLess x_375.Name x_354.Name)) rfl trivial rfl <| s_mov (.bool (!Op.bytesLess x_375.Name x_354.Name)) rfl <| ?_
      rcases oi hb2 with ⟨c378, hb2⟩ | ⟨c378, hb2⟩
      ·refine s_lit (s := 33) (b := true) rfl c378 <| s_off rfl rfl <| s_off rfl rfl <| s_off rfl rfl <| s_offl rfl rfl trivial <| s_off rfl rfl <| s_q (.bool true) rfl trivial rfl <| w_done <| ?_; obtain rfl := os hb2; exact ⟨[], [0], _, _, rfl, rfl, ⟨.refl _, ⟨.refl _, ⟨.refl _, ⟨.refl _, ⟨.refl _, ⟨.refl _, trivial⟩⟩⟩⟩⟩⟩, (.refl _)⟩
      ·refine s_lit (s := 33) (b := false) rfl (bf c378) <| s_on rfl <| s_q (.ptr 0 0 1) rfl trivial rfl <| s_on rfl <| s_q (.lst 1 (x_354.Queue.map encI)) rfl nle rfl <| s_on rfl <| s_dof (o_len (enc := encI) rfl) fun hl379 => s_onl rfl <| ?_
       obtain ⟨r_380, er381, hb2⟩ := ob hb2
       refine s_dol (o_call (w_impl_within _ _ _ _ er381) rfl (.refl _) rfl) a_same trivial <| s_on rfl <| s_q (.bool (!r_380)) rfl trivial rfl <| s_q (.bool (!r_380)) rfl trivial rfl <| w_done <| ?_; obtain rfl := os hb2; exact ⟨[], [0], _, _, rfl, rfl, ⟨.refl _, ⟨.refl _, ⟨.refl _, ⟨.refl _, ⟨.refl _, ⟨.refl _, trivial⟩⟩⟩⟩⟩⟩, (.refl _)⟩
     ·refine s_lit (s := 21) (b := false) rfl (bf c374) <| s_off rfl rfl <| s_off rfl rfl <| s_off rfl rfl <| s_off rfl rfl <| s_off rfl rfl <| s_off rfl rfl <| s_off rfl rfl <| s_off rfl rfl <| s_off rfl rfl <| s_on rfl <| s_q (.bool false) rfl trivial rfl <| s_q (.bool false) rfl trivial rfl <| s_mov (.bool false) rfl <| s_on rfl <| s_q (.ptr 0 0 1) rfl trivial rfl <| s_on rfl <| s_q (.lst 1 (x_354.Queue.map encI)) rfl nle rfl <| s_on rfl <| s_dof (o_len (enc := encI) rfl) fun hl382 => s_onl rfl <| ?_
      obtain ⟨r_383, er384, hb2⟩ := ob hb2
      refine s_dol (o_call (w_impl_within _ _ _ _ er384) rfl (.refl _) rfl) a_same trivial <| s_on rfl <| s_q (.bool (!r_383)) rfl trivial rfl <| s_q (.bool (!r_383)) rfl trivial rfl <| w_done <| ?_; obtain rfl := os hb2; exact ⟨[], [0], _, _, rfl, rfl, ⟨.refl _, ⟨.refl _, ⟨.refl _, ⟨.refl _, ⟨.refl _, ⟨.refl _, trivial⟩⟩⟩⟩⟩⟩, (.refl _)⟩
   ·rcases oi hc1 with ⟨c385, hc1⟩ | ⟨c385, hc1⟩
    ·refine w_condt rfl c385 <| awp_seq <| w_reg <| s_mov (.bool false) rfl <| w_done <| k_seq <| w_ret <| ?_; obtain rfl := os hc1; obtain rfl := os hf; exact r_flat ⟨trivial, trivial⟩ rfl (.refl _)
    ·refine w_condf rfl (bf c385) <| w_skip <| k_seq <| awp_seq <| w_reg <| s_q (.ptr 0 0 1) rfl trivial rfl <| s_q (.lst 1 (x_354.Queue.map encI)) rfl nle rfl <| s_dof (o_len (enc := encI) rfl) fun hl386 => s_mov (.int .i64 0) rfl <| w_done <| k_seq <| ?_
     obtain ⟨p443, hb2, hc1⟩ := ob hc1
     refine awp_cutxb (X := {q : Unit // p443 = .go q}) (fun q => ([(0, (.lst 2 (list_1.map encGLock))), (7, (.lst 2 (list_1.map encGLock))), (8, (.int .i64 (list_1.length : Int))), (9, (.int .i64 (s9_232 : Int)))], [])) ?_ ?_
     ·refine awp_loop (X := {q : Nat // impl_LocksOK_L2 x_354 (x_354.Queue.drop q) q = some p443}) (fun q => ([(0, (.lst 2 (list_1.map encGLock))), (4, (.ptr 0 0 0)), (7, (.lst 2 (list_1.map encGLock))), (8, (.int .i64 (list_1.length : Int))), (9, (.int .i64 (s9_232 : Int))), (41, (.lst 1 (x_354.Queue.map encI))), (42, (.int .i64 (x_354.Queue.length : Int))), (43, (.int .i64 (q.1 : Int)))], [.box 2 (.agg [(.str x_354.Name), (.lst 1 (x_354.Queue.map encI))])])) (fun q => x_354.Queue.length - q.1) ⟨0, hb2⟩ ⟨[], [0], _, _, rfl, rfl, ⟨.refl _, ⟨.refl _, ⟨.refl _, ⟨.refl _, ⟨.refl _, ⟨.refl _, ⟨.refl _, ⟨.refl _, trivial⟩⟩⟩⟩⟩⟩⟩⟩, (.refl _)⟩ ?_
      rintro ⟨s43_424, hc2⟩
      have hc2 : impl_LocksOK_L2 x_354 (x_354.Queue.drop s43_424) s43_424 = some p443 := hc2
      refine (show awp Try.prog false 0 _ (ofL [(0, (.lst 2 (list_1.map encGLock))), (4, (.ptr 0 0 0)), (7, (.lst 2 (list_1.map encGLock))), (8, (.int .i64 (list_1.length : Int))), (9, (.int .i64 (s9_232 : Int))), (41, (.lst 1 (x_354.Queue.map encI))), (42, (.int .i64 (x_354.Queue.length : Int))), (43, (.int .i64 (s43_424 : Int)))]) [.box 2 (.agg [(.str x_354.Name), (.lst 1 (x_354.Queue.map encI))])] _ from ?_)
      rcases dropc x_354.Queue s43_424 with ⟨hie446, hd449⟩ | ⟨hlt444, x_450, hx445, hd449⟩
      ·rw [hd449, impl_LocksOK_L2.eq_1] at hc2
       have hq448 := dlf hie446
       refine awp_seq <| w_reg <| s_q (.bool (decide ((s43_424 : Int) < (x_354.Queue.length : Int)))) rfl rfl rfl <| w_done <| k_seq <| awp_seq <| w_condf rfl hq448 <| w_exit <| k_seqx <| k_loopx <| k_blkx <| ?_; refine k_blk ?_; obtain rfl := os hc2; exact k_cutn ⟨_, rfl⟩ ⟨[], [], _, _, rfl, rfl, ⟨.refl _, ⟨.refl _, ⟨.refl _, ⟨.refl _, trivial⟩⟩⟩⟩, (.refl _)⟩
      ·rw [hd449, impl_LocksOK_L2.eq_2] at hc2
       have hq448 := dlt hlt444
       refine awp_seq <| w_reg <| s_q (.bool (decide ((s43_424 : Int) < (x_354.Queue.length : Int)))) rfl rfl rfl <| w_done <| k_seq <| awp_seq <| w_condt rfl hq448 <| w_skip <| k_seq <| awp_seq <| w_blk <| awp_seq <| w_reg <| s_mov (.int .i64 (s43_424 : Int)) rfl <| s_do (o_iaddrn (enc := encI) rfl rfl hx445) <| s_q (.int .i64 x_450) rfl ⟨rfl, rfl⟩ rfl <| s_mov (.int .i64 (s43_424 : Int)) rfl <| s_mov (.int .i64 x_450) rfl <| w_done <| k_seq <| awp_seq <| ?_
       obtain ⟨s58_457, hb3, hc2⟩ := ob hc2
       refine awp_cut ([(0, (.lst 2 (list_1.map encGLock))), (4, (.ptr 0 0 0)), (7, (.lst 2 (list_1.map encGLock))), (8, (.int .i64 (list_1.length : Int))), (9, (.int .i64 (s9_232 : Int))), (41, (.lst 1 (x_354.Queue.map encI))), (42, (.int .i64 (x_354.Queue.length : Int))), (43, (.int .i64 (s43_424 : Int))), (58, (.bool s58_457))], [.box 2 (.agg [(.str x_354.Name), (.lst 1 (x_354.Queue.map encI))])]) ?_ ?_
       ·refine w_reg ?_
        obtain ⟨r_459, er460, hb3⟩ := ob hb3
        rcases oi hb3 with ⟨c461, hb3⟩ | ⟨c461, hb3⟩
        ·refine s_mov (.int .i64 x_450) rfl <| s_do (o_call (w_impl_isSession _ _ er460) rfl (.refl _) rfl) <| s_q (.bool (!r_459)) rfl trivial rfl <| s_mov (.bool (!r_459)) rfl <| s_lit (s := 51) (b := true) rfl c461 <| s_off rfl rfl <| s_off rfl rfl <| s_off rfl rfl <| s_off rfl rfl <| s_off rfl rfl <| s_off rfl rfl <| s_q (.bool true) rfl trivial rfl <| w_done <| ?_; obtain rfl := os hb3; exact ⟨[], [0], _, _, rfl, rfl, ⟨.refl _, ⟨.refl _, ⟨.refl _, ⟨.refl _, ⟨.refl _, ⟨.refl _, ⟨.refl _, ⟨.refl _, ⟨.refl _, trivial⟩⟩⟩⟩⟩⟩⟩⟩⟩, (.refl _)⟩
        ·obtain ⟨g462, hb3⟩ := og hb3
         obtain ⟨r_463, er464, hb3⟩ := ob hb3
         refine s_mov (.int .i64 x_450) rfl <| s_do (o_call (w_impl_isSession _ _ er460) rfl (.refl _) rfl) <| s_q (.bool (!r_459)) rfl trivial rfl <| s_mov (.bool (!r_459)) rfl <| s_lit (s := 51) (b := false) rfl (bf c461) <| s_on rfl <| s_q (.ptr 0 0 1) rfl trivial rfl <| s_on rfl <| s_q (.lst 1 (x_354.Queue.map encI)) rfl nle rfl <| s_on rfl <| s_mov (.int .i64 (s43_424 : Int)) rfl <| s_on rfl <| s_do (o_slt (enc := encI) rfl rfl g462.1 g462.2) <| s_on rfl <| s_mov (.int .i64 x_450) rfl <| s_on rfl <| s_do (o_call (w_slices_Contains_int_int _ _ _ er464) rfl (.refl _) rfl) <| s_q (.bool r_463) rfl trivial rfl <| w_done <| ?_; obtain rfl := os hb3; exact ⟨[], [0], _, _, rfl, rfl, ⟨.refl _, ⟨.refl _, ⟨.refl _, ⟨.refl _, ⟨.refl _, ⟨.refl _, ⟨.refl _, ⟨.refl _, ⟨.refl _, trivial⟩⟩⟩⟩⟩⟩⟩⟩⟩, (.refl _)⟩
       ·rcases oi hc2 with ⟨c465, hc2⟩ | ⟨c465, hc2⟩
        ·refine w_condt rfl c465 <| awp_seq <| w_reg <| s_mov (.bool false) rfl <| w_done <| k_seq <| w_ret <| ?_; obtain rfl := os hc2; obtain rfl := os hc1; obtain rfl := os hf; exact r_flat ⟨trivial, trivial⟩ rfl (.refl _)
        ·refine w_condf rfl (bf c465) <| w_skip <| k_blk <| k_seq <| w_reg <| s_q (.int .i64 (w64 ((s43_424 : Int) + 1))) rfl rfl rfl <| s_mov (.int .i64 (w64 ((s43_424 : Int) + 1))) rfl <| w_done <| ?_; exact k_loopn ⟨(s43_424 + 1), hc2⟩ (mul hlt444) ⟨[], [0], _, _, rfl, rfl, ⟨.refl _, ⟨.refl _, ⟨.refl _, ⟨.refl _, ⟨.refl _, ⟨.refl _, ⟨.refl _, ⟨.of_eq (congrArg (AV.int _) (w64_incr hlt444 hl386)), trivial⟩⟩⟩⟩⟩⟩⟩⟩, (.refl _)⟩
     ·rintro ⟨_, rfl⟩
      refine w_reg <| s_q (.int .i64 (w64 ((s9_232 : Int) + 1))) rfl rfl rfl <| s_mov (.int .i64 (w64 ((s9_232 : Int) + 1))) rfl <| w_done <| ?_; exact k_loopn ⟨(s9_232 + 1), hc1⟩ (mul hlt348) ⟨[], [], _, _, rfl, rfl, ⟨.refl _, ⟨.refl _, ⟨.refl _, ⟨.of_eq (congrArg (AV.int _) (w64_incr hlt348 hl2)), trivial⟩⟩⟩⟩, (.refl _)⟩
 ·rintro ⟨_, rfl⟩
  refine awp_seq <| w_reg <| s_mov (.lst 2 (list_1.map encGLock)) rfl <| s_dof (o_len (enc := encGLock) rfl) fun hl466 => s_q (.bool (decide ((list_1.length : Int) ≤ 6))) rfl rfl rfl <| s_mov (.bool (decide ((list_1.length : Int) ≤ 6))) rfl <| w_done <| k_seq <| w_ret <| ?_; obtain rfl := os hf; exact r_flat ⟨trivial, trivial⟩ rfl (.refl _)

/- impl.locksCode -/
def c111 : ACode :=
 (.seq (.reg (tm 6 (.c (.int .i64 0)) .done))
 (.seq (.block 0 (.seq (.reg (tm 8 (.t 0) (tq 9 (.call 197 [(.t 8)]) (tq 10 (.not (.t 9)) (tm 11 (.t 10) (tg 12 11 false (.mov (.t 2)) (tg 13 11 false (.call 198 [(.t 12)]) (tg 14 11 false (.not (.t 13)) (tq 15 (.pick (.t 11) (.c (.bool true)) (.t 14)) (tm 7 (.t 15) .done))))))))))
 (.cut (.cond (.t 7) (.seq (.reg (tm 6 (.c (.int .i64 2)) .done))
 .ret)
 (.seq (.reg (tm 17 (.t 0) (tq 18 (.call 31 [(.t 17)]) (tq 19 (.not (.t 18)) (tm 16 (.t 19) .done)))))
 (.cond (.t 16) (.seq (.reg (tm 6 (.c (.int .i64 1)) .done))
 .ret)
 (.seq (.reg (tm 21 (.t 1) (tq 22 (.call 107 [(.t 21)]) (tq 23 (.not (.t 22)) (tm 24 (.t 23) (tg 25 24 false (.mov (.t 2)) (tg 26 24 false (.call 105 [(.t 25)]) (tg 27 24 false (.not (.t 26)) (tq 28 (.pick (.t 24) (.c (.bool true)) (.t 27)) (tm 20 (.t 28) .done))))))))))
 (.cut (.cond (.t 20) (.seq (.reg (tm 6 (.c (.int .i64 4)) .done))
 .ret)
 .skip)))))))))
 (.seq (.reg (tm 6 (.c (.int .i64 0)) .done))
 .ret)))
theorem fc111 : fcomp Try.prog Try.f111 = some (c111.erase, [.mov (.t 6)], 29) := by kernel_rfl
def impl_locksCode (list_1 : (List GLock)) (session_2 : Int) (name_3 : Str) : Option Int :=
    (((impl_isList_impl_Lock list_1).bind fun r_11 =>
    if (!r_11) then
    some true
    else
    (impl_isText name_3).bind fun r_14 =>
    some (!r_14) : Option Bool)).bind fun s7_9 =>
    if s7_9 then
    some 2
    else
    (impl_LocksOK list_1).bind fun r_17 =>
    if (!r_17) then
    some 1
    else
    (((impl_isSession session_2).bind fun r_27 =>
    if (!r_27) then
    some true
    else
    (impl_NameOK name_3).bind fun r_30 =>
    some (!r_30) : Option Bool)).bind fun s20_25 =>
    if s20_25 then
    some 4
    else
    some 0
theorem w_impl_locksCode (list_1 : (List GLock)) (session_2 : Int) (name_3 : Str) (r : Int) (hf : impl_locksCode list_1 session_2 name_3 = some r) : CallOK Try.prog 111 .flat [(.lst 2 (list_1.map encGLock)), (.int .i64 session_2), (.str name_3)] (.int .i64 r) := by
 refine CallOK.of_awp mixed Try.func111 fc111 nle ?_; rw [argT_eq]; unfold impl_locksCode at hf; unfold c111; refine (show awp Try.prog false 0 _ (ofL [(0, (.lst 2 (list_1.map encGLock))), (1, (.int .i64 session_2)), (2, (.str name_3))]) [] _ from ?_); refine awp_seq <| w_reg <| s_mov (.int .i64 0) rfl <| w_done <| k_seq <| awp_seq <| w_blk <| awp_seq <| ?_
 obtain ⟨s7_9, hb1, hf⟩ := ob hf
 refine awp_cut ([(0, (.lst 2 (list_1.map encGLock))), (1, (.int .i64 session_2)), (2, (.str name_3)), (7, (.bool s7_9))], []) ?_ ?_
 ·refine w_reg ?_
  obtain ⟨r_11, er12, hb1⟩ := ob hb1
  rcases oi hb1 with ⟨c13, hb1⟩ | ⟨c13, hb1⟩
  ·refine s_mov (.lst 2 (list_1.map encGLock)) rfl <| s_do (o_call (w_impl_isList_impl_Lock _ _ er12) rfl (.refl _) rfl) <| s_q (.bool (!r_11)) rfl trivial rfl <| s_mov (.bool (!r_11)) rfl <| s_lit (s := 11) (b := true) rfl c13 <| s_off rfl rfl <| s_off rfl rfl <| s_off rfl rfl <| s_q (.bool true) rfl trivial rfl <| s_mov (.bool true) rfl <| w_done <| ?_; obtain rfl := os hb1; exact ⟨[], [], _, _, rfl, rfl, ⟨.refl _, ⟨.refl _, ⟨.refl _, ⟨.refl _, trivial⟩⟩⟩⟩, (.refl _)⟩
  ·obtain ⟨r_14, er15, hb1⟩ := ob hb1
   refine s_mov (.lst 2 (list_1.map encGLock)) rfl <| s_do (o_call (w_impl_isList_impl_Lock _ _ er12) rfl (.refl _) rfl) <| s_q (.bool (!r_11)) rfl trivial rfl <| s_mov (.bool (!r_11)) rfl <| s_lit (s := 11) (b := false) rfl (bf c13) <| s_on rfl <| s_mov (.str name_3) rfl <| s_on rfl <| s_do (o_call (w_impl_isText _ _ er15) rfl (.refl _) rfl) <| s_on rfl <| s_q (.bool (!r_14)) rfl trivial rfl <| s_q (.bool (!r_14)) rfl trivial rfl <| s_mov (.bool (!r_14)) rfl <| w_done <| ?_; obtain rfl := os hb1; exact ⟨[], [], _, _, rfl, rfl, ⟨.refl _, ⟨.refl _, ⟨.refl _, ⟨.refl _, trivial⟩⟩⟩⟩, (.refl _)⟩
 ·rcases oi hf with ⟨c16, hf⟩ | ⟨c16, hf⟩
  ·refine w_condt rfl c16 <| awp_seq <| w_reg <| s_mov (.int .i64 2) rfl <| w_done <| k_seq <| w_ret <| ?_; obtain rfl := os hf; exact r_flat ⟨trivial, trivial⟩ rfl (.refl _)
  ·refine w_condf rfl (bf c16) <| awp_seq <| w_reg <| ?_
   obtain ⟨r_17, er18, hf⟩ := ob hf
   refine s_mov (.lst 2 (list_1.map encGLock)) rfl <| s_do (o_call (w_impl_LocksOK _ _ er18) rfl (.refl _) rfl) <| s_q (.bool (!r_17)) rfl trivial rfl <| s_mov (.bool (!r_17)) rfl <| w_done <| k_seq <| ?_
   rcases oi hf with ⟨c19, hf⟩ | ⟨c19, hf⟩
   ·refine w_condt rfl c19 <| awp_seq <| w_reg <| s_mov (.int .i64 1) rfl <| w_done <| k_seq <| w_ret <| ?_; obtain rfl := os hf; exact r_flat ⟨trivial, trivial⟩ rfl (.refl _)
   ·refine w_condf rfl (bf c19) <| awp_seq <| ?_
    obtain ⟨s20_25, hb1, hf⟩ := ob hf
    refine awp_cut ([(20, (.bool s20_25))], []) ?_ ?_
    ·refine w_reg ?_
     obtain ⟨r_27, er28, hb1⟩ := ob hb1
     rcases oi hb1 with ⟨c29, hb1⟩ | ⟨c29, hb1⟩
     ·refine s_mov (.int .i64 session_2) rfl <| s_do (o_call (w_impl_isSession _ _ er28) rfl (.refl _) rfl) <| s_q (.bool (!r_27)) rfl trivial rfl <| s_mov (.bool (!r_27)) rfl <| s_lit (s := 24) (b := true) rfl c29 <| s_off rfl rfl <| s_off rfl rfl <| s_off rfl rfl <| s_q (.bool true) rfl trivial rfl <| s_mov (.bool true) rfl <| w_done <| ?_; obtain rfl := os hb1; exact ⟨[], [], _, _, rfl, rfl, ⟨.refl _, trivial⟩, (.refl _)⟩
     ·obtain ⟨r_30, er31, hb1⟩ := ob hb1
      refine s_mov (.int .i64 session_2) rfl <| s_do (o_call (w_impl_isSession _ _ er28) rfl (.refl _) rfl) <| s_q (.bool (!r_27)) rfl trivial rfl <| s_mov (.bool (!r_27)) rfl <| s_lit (s := 24) (b := false) rfl (bf c29) <| s_on rfl <| s_mov (.str name_3) rfl <| s_on rfl <| s_do (o_call (w_impl_NameOK _ _ er31) rfl (.refl _) rfl) <| s_on rfl <| s_q (.bool (!r_30)) rfl trivial rfl <| s_q (.bool (!r_30)) rfl trivial rfl <| s_mov (.bool (!r_30)) rfl <| w_done <| ?_; obtain rfl := os hb1; exact ⟨[], [], _, _, rfl, rfl, ⟨.refl _, trivial⟩, (.refl _)⟩
    ·rcases oi hf with ⟨c32, hf⟩ | ⟨c32, hf⟩
     ·refine w_condt rfl c32 <| awp_seq <| w_reg <| s_mov (.int .i64 4) rfl <| w_done <| k_seq <| w_ret <| ?_; obtain rfl := os hf; exact r_flat ⟨trivial, trivial⟩ rfl (.refl _)
     ·refine w_condf rfl (bf c32) <| w_skip <| k_blk <| k_seq <| awp_seq <| w_reg <| s_mov (.int .i64 0) rfl <| w_done <| k_seq <| w_ret <| ?_; obtain rfl := os hf; exact r_flat ⟨trivial, trivial⟩ rfl (.refl _)

/- slices.Clone[[]int,int] -/
def c120 : ACode :=
 (.seq (.reg (tm 2 (.c .nil) .done))
 (.seq (.seq (.reg (tm 3 (.t 0) (tq 4 (.isnil false (.t 3)) .done)))
 (.cond (.t 4) (.seq (.reg (tm 2 (.c .nil) .done))
 .ret)
 .skip))
 (.seq (.reg (tq 5 (.bslice 1 []) (tm 6 (.t 0) (tq 7 (.append 1 8 (.t 5) (.t 6)) (tm 2 (.t 7) .done)))))
 .ret)))
theorem fc120 : fcomp Try.prog Try.f120 = some (c120.erase, [.mov (.t 2)], 8) := by kernel_rfl
def slices_Clone_int_int (s_1 : (List Int)) : Option (List Int) :=
    if ([] ++ s_1).length ≤ 2 ^ 30 then
    some ([] ++ s_1)
    else none
theorem w_slices_Clone_int_int (s_1 : (List Int)) (r : (List Int)) (hf : slices_Clone_int_int s_1 = some r) : CallOK Try.prog 120 .fresh [(.lst 1 (s_1.map encI))] (.lst 1 (r.map encI)) := by
 refine CallOK.of_awp mixed Try.func120 fc120 nle ?_; rw [argT_eq]; unfold slices_Clone_int_int at hf; unfold c120; refine (show awp Try.prog true 0 _ (ofL [(0, (.lst 1 (s_1.map encI)))]) [] _ from ?_); refine awp_seq <| w_reg <| s_mov .nil rfl <| w_done <| k_seq <| awp_seq <| awp_seq <| w_reg <| s_mov (.lst 1 (s_1.map encI)) rfl <| s_isn (l := s_1.map encI) rfl <| ?_
 intro b hb3
 rcases b with _ | _
 ·refine w_done <| k_seq <| w_condf rfl rfl <| w_skip <| k_seq <| awp_seq <| w_reg <| ?_
  obtain ⟨g2, hf⟩ := og hf
  refine s_do (o_bslice (j := 0) (as' := []) rfl (fun _ => by decide) trivial (.refl _) rfl rfl rfl) ?_; refine s_mov (.lst 1 (s_1.map encI)) rfl ?_
  refine s_do (o_appendd (j := 1) (L := (([] ++ s_1).map encI)) (len := ([] ++ s_1).length) rfl false rfl rfl (fun _ => flm (fun _ => rfl) _) (fun _ _ _ => flm (fun _ => rfl) _) (by decide) ((by simp)) (by simp <;> omega) g2 rfl rfl) ?_
  refine s_mov (.own 1 0 (([] ++ s_1).length)) rfl <| w_done <| k_seq <| w_ret <| ?_; obtain rfl := os hf; exact r_fresh ⟨trivial, trivial⟩ rfl (by decide) (.of_eq (congrArg (AV.lst _) (tk (enc := encI) ([] ++ s_1))))
 ·have he4 : s_1 = [] := mapnil (hb3 rfl)
  have hE : (if ([] ++ s_1).length ≤ 2 ^ 30 then some ([] ++ s_1) else none) = (some []) := by simp [he4]
  rw [hE] at hf; refine w_done <| k_seq <| w_condt rfl rfl <| awp_seq <| w_reg <| s_mov .nil rfl <| w_done <| k_seq <| w_ret <| ?_; obtain rfl := os hf; exact r_fresh ⟨trivial, trivial⟩ rfl (by decide) (.nil _)

/- impl.copyLocks -/
def c98 : ACode :=
 (.seq (.reg (tm 2 (.c .nil) .done))
 (.seq (.reg (tq 6 (.bslice 2 []) (tm 3 (.t 6) .done)))
 (.seq (.seq (.reg (tm 7 (.t 0) (tq 8 (.len (.t 7)) (tm 9 (.c (.int .i64 0)) .done))))
 (.block 0 (.loop (.seq (.reg (tq 10 (.bin .lss (.t 9) (.t 8)) .done))
 (.seq (.cond (.t 10) .skip
 (.exit 0))
 (.seq (.block 1 (.seq (.reg (tq 11 (.iaddr 2 (.t 7) (.t 9)) (tq 12 (.load 2 true (.t 11)) (tq 5 (.box 2 (.c (.agg [(.str []), .nil]))) (.q ⟨none, none, .store 2 (.t 5) (.t 12)⟩
 .done)))))
 (.reg (tm 13 (.t 3) (tq 14 (.faddr 0 (.t 5)) (tq 15 (.load 1 false (.t 14)) (tq 16 (.faddr 1 (.t 5)) (tq 17 (.load 1 false (.t 16)) (.l ⟨(some 18), none, .call 120 [(.t 17)]⟩ [⟨(some 15), none, .load 1 false (.t 14)⟩, ⟨(some 14), none, .faddr 0 (.t 5)⟩]
 (tq 19 (.build [(.str []), .nil] [(0, 1, (.t 15)), (1, 1, (.t 18))]) (.l ⟨(some 20), none, .bslice 2 [(.t 19)]⟩ []
 (.l ⟨(some 21), none, .append 2 40 (.t 13) (.t 20)⟩ []
 (.l ⟨(some 3), none, .mov (.t 21)⟩ []
 .done .non) .non) .non)) .non)))))))))
 (.reg (tq 22 (.bin .add (.t 9) (.c (.int .i64 1))) (tm 9 (.t 22) .done)))))))))
 (.cut (.seq (.reg (tm 23 (.t 3) (tm 2 (.t 23) .done)))
 .ret)))))
theorem fc98 : fcomp Try.prog Try.f98 = some (c98.erase, [.mov (.t 2)], 24) := by kernel_rfl
def impl_copyLocks_L1  : List GLock → (List GLock) → Option (List GLock)
  | [], out_18 =>
    some out_18
  | x_33 :: xs, out_18 =>
    (slices_Clone_int_int x_33.Queue).bind fun r_34 =>
    if (out_18 ++ [(⟨x_33.Name, r_34⟩ : GLock)]).length ≤ 2 ^ 30 then
    impl_copyLocks_L1 xs  (out_18 ++ [(⟨x_33.Name, r_34⟩ : GLock)])
    else none

def impl_copyLocks (list_1 : (List GLock)) : Option (List GLock) :=
    (impl_copyLocks_L1 list_1 []).bind fun out_25 =>
    some out_25
theorem w_impl_copyLocks (list_1 : (List GLock)) (r : (List GLock)) (hf : impl_copyLocks list_1 = some r) : CallOK Try.prog 98 .fresh [(.lst 2 (list_1.map encGLock))] (.lst 2 (r.map encGLock)) := by
 refine CallOK.of_awp mixed Try.func98 fc98 nle ?_; rw [argT_eq]; unfold impl_copyLocks at hf; unfold c98; refine (show awp Try.prog true 0 _ (ofL [(0, (.lst 2 (list_1.map encGLock)))]) [] _ from ?_); refine awp_seq <| w_reg <| s_mov .nil rfl <| w_done <| k_seq <| awp_seq <| w_reg <| ?_; refine s_do (o_bslice (j := 0) (as' := []) rfl (fun _ => by decide) trivial (.refl _) rfl rfl rfl) ?_; refine s_mov (.own 0 0 0) rfl <| w_done <| k_seq <| awp_seq <| awp_seq <| w_reg <| s_mov (.lst 2 (list_1.map encGLock)) rfl <| s_dof (o_len (enc := encGLock) rfl) fun hl2 => s_mov (.int .i64 0) rfl <| w_done <| k_seq <| ?_
 obtain ⟨out_25, hb1, hf⟩ := ob hf
 refine awp_cut ([(3, (.own 0 0 out_25.length))], [.row 2 (out_25.map encGLock)]) ?_ ?_
 ·refine awp_loop (X := {q : (Nat × (List GLock)) // impl_copyLocks_L1 (list_1.drop q.1) q.2 = some out_25}) (fun q => ([(3, (.own 0 0 q.1.2.length)), (7, (.lst 2 (list_1.map encGLock))), (8, (.int .i64 (list_1.length : Int))), (9, (.int .i64 (q.1.1 : Int)))], [.row 2 (q.1.2.map encGLock)])) (fun q => list_1.length - q.1.1) ⟨(0, []), hb1⟩ ⟨[], [0], _, _, rfl, rfl, ⟨.of_eq (congrArg (AV.own _ 0) (by simp)), ⟨.refl _, ⟨.refl _, ⟨.refl _, trivial⟩⟩⟩⟩, (.refl _)⟩ ?_
  rintro ⟨⟨s9_17, out_18⟩, hc1⟩
  have hc1 : impl_copyLocks_L1 (list_1.drop s9_17) out_18 = some out_25 := hc1
  refine (show awp Try.prog true 0 _ (ofL [(3, (.own 0 0 out_18.length)), (7, (.lst 2 (list_1.map encGLock))), (8, (.int .i64 (list_1.length : Int))), (9, (.int .i64 (s9_17 : Int)))]) [.row 2 (out_18.map encGLock)] _ from ?_)
  rcases dropc list_1 s9_17 with ⟨hie29, hd32⟩ | ⟨hlt27, x_33, hx28, hd32⟩
  ·rw [hd32, impl_copyLocks_L1.eq_1] at hc1
   have hq31 := dlf hie29
   refine awp_seq <| w_reg <| s_q (.bool (decide ((s9_17 : Int) < (list_1.length : Int)))) rfl rfl rfl <| w_done <| k_seq <| awp_seq <| w_condf rfl hq31 <| w_exit <| k_seqx <| k_loopx <| k_blkx <| ?_; obtain rfl := os hc1; exact ⟨[], [0], _, _, rfl, rfl, ⟨.refl _, trivial⟩, (.refl _)⟩
  ·rw [hd32, impl_copyLocks_L1.eq_2] at hc1
   have hq31 := dlt hlt27
   refine awp_seq <| w_reg <| s_q (.bool (decide ((s9_17 : Int) < (list_1.length : Int)))) rfl rfl rfl <| w_done <| k_seq <| awp_seq <| w_condt rfl hq31 <| w_skip <| k_seq <| awp_seq <| w_blk <| awp_seq <| w_reg <| s_do (o_iaddrn (enc := encGLock) rfl rfl hx28) <| s_q (encGLock x_33) rfl nle rfl <| s_do (o_box (j := 1) (c := (.agg [(.str []), .nil])) rfl trivial rfl rfl) <| s_do0 (o_storebox (v := (.agg [(.str x_33.Name), (.lst 1 (x_33.Queue.map encI))])) (y' := (.agg [(.str x_33.Name), (.lst 1 (x_33.Queue.map encI))])) rfl rfl rfl trivial ⟨rfl, nle⟩ ⟨⟨rfl, trivial⟩, ⟨⟨rfl, trivial⟩, trivial⟩⟩ rfl) <| w_done <| k_seq <| w_reg <| ?_
   obtain ⟨r_34, er35, hc1⟩ := ob hc1
   obtain ⟨g36, hc1⟩ := og hc1
   refine s_mov (.own 0 0 out_18.length) rfl <| s_q (.ptr 1 0 0) rfl trivial rfl <| s_q (.str x_33.Name) rfl nle rfl <| s_q (.ptr 1 0 1) rfl trivial rfl <| s_q (.lst 1 (x_33.Queue.map encI)) rfl nle rfl <| s_dol (o_callf (v := (.own 2 0 r_34.length)) (h' := [.row 1 (r_34.map encI)]) (w_slices_Clone_int_int _ _ er35) rfl (.refl _) (by simp only [openV, openVs, List.length_map, List.nil_append, List.append_nil, List.cons_append]; rfl)) (.inr ⟨⟨nle, rfl⟩, ⟨⟨trivial, rfl⟩, trivial⟩⟩) trivial <| s_q (.agg [(.str x_33.Name), (.own 2 0 r_34.length)]) rfl ⟨⟨rfl, nle, trivial⟩, ⟨⟨rfl, nle, trivial⟩, trivial⟩⟩ rfl <| ?_; refine s_dol (o_bslice (j := 3) (as' := [(encGLock (⟨x_33.Name, r_34⟩ : GLock))]) rfl (fun _ => by decide) ⟨rfl, trivial⟩ (.cons (.agg (.cons (.refl _) (.cons (.of_eq (congrArg (AV.lst _) (tk (enc := encI) r_34))) .nil))) .nil) rfl rfl rfl) trivial trivial ?_
   refine s_dol (o_appendd (j := 4) (L := ((out_18 ++ [(⟨x_33.Name, r_34⟩ : GLock)]).map encGLock)) (len := (out_18 ++ [(⟨x_33.Name, r_34⟩ : GLock)]).length) rfl true rfl rfl (fun h => Bool.noConfusion h) (fun _ _ h => (ownl (show AV.own _ _ _ = AV.lst _ _ from h)).elim) (by decide) (apoc (enc := encGLock) out_18 [(⟨x_33.Name, r_34⟩ : GLock)] _ (by rfl)) (by simp <;> omega) g36 rfl rfl) trivial trivial ?_
   refine s_dol (o_mov (.own 4 0 ((out_18 ++ [(⟨x_33.Name, r_34⟩ : GLock)]).length)) rfl) a_same trivial <| w_done <| k_blk <| k_seq <| w_reg <| s_q (.int .i64 (w64 ((s9_17 : Int) + 1))) rfl rfl rfl <| s_mov (.int .i64 (w64 ((s9_17 : Int) + 1))) rfl <| w_done <| ?_; exact k_loopn ⟨((s9_17 + 1), out_18 ++ [(⟨x_33.Name, r_34⟩ : GLock)]), hc1⟩ (mul hlt27) ⟨[], [4], _, _, rfl, rfl, ⟨.refl _, ⟨.refl _, ⟨.refl _, ⟨.of_eq (congrArg (AV.int _) (w64_incr hlt27 hl2)), trivial⟩⟩⟩⟩, (.refl _)⟩
 ·refine awp_seq <| w_reg <| s_mov (.own 0 0 out_25.length) rfl <| s_mov (.own 0 0 out_25.length) rfl <| w_done <| k_seq <| w_ret <| ?_; obtain rfl := os hf; exact r_fresh ⟨trivial, trivial⟩ rfl (by decide) (.of_eq (congrArg (AV.lst _) (tk (enc := encGLock) out_25)))

/- slices.BinarySearchFunc[[]impl.Lock,impl.Lock,string] -/
def c182 : ACode :=
 (.seq (.reg (tm 6 (.c (.int .i64 0)) (tm 7 (.c (.bool false)) .done)))
 (.seq (.reg (tm 12 (.t 0) (tq 13 (.len (.t 12)) (tm 8 (.t 13) .done))))
 (.seq (.reg (tm 14 (.t 8) (tm 9 (.c (.int .i64 0)) (tm 10 (.t 14) .done))))
 (.seq (.block 0 (.loop (.seq (.seq (.reg (tm 15 (.t 9) (tm 16 (.t 10) (tq 17 (.bin .lss (.t 15) (.t 16)) .done))))
 (.cond (.t 17) .skip
 (.exit 0)))
 (.block 1 (.seq (.reg (tm 18 (.t 9) (tm 19 (.t 10) (tq 20 (.bin .add (.t 18) (.t 19)) (tq 21 (.convI .u64 (.t 20)) (tq 22 (.bin .shr (.t 21) (.c (.int .u64 1))) (tq 23 (.convI .i64 (.t 22)) (tm 11 (.t 23) .done))))))))
 (.seq (.reg (tm 24 (.t 2) (tm 25 (.t 0) (tm 26 (.t 11) (tq 27 (.iaddr 2 (.t 25) (.t 26)) (tq 28 (.load 2 true (.t 27)) (tm 29 (.t 1) (tq 30 (.calv (.t 24) [(.t 28), (.t 29)]) (tq 31 (.bin .lss (.t 30) (.c (.int .i64 0))) .done)))))))))
 (.cond (.t 31) (.reg (tm 32 (.t 11) (tq 33 (.bin .add (.t 32) (.c (.int .i64 1))) (tm 9 (.t 33) .done))))
 (.reg (tm 34 (.t 11) (tm 10 (.t 34) .done))))))))))
 (.cut (.seq (.reg (tm 35 (.t 9) (tm 36 (.t 9) (tm 37 (.t 8) (tq 38 (.bin .lss (.t 36) (.t 37)) (tm 39 (.t 38) (tg 40 39 true (.mov (.t 2)) (tg 41 39 true (.mov (.t 0)) (tg 42 39 true (.mov (.t 9)) (tg 43 39 true (.iaddr 2 (.t 41) (.t 42)) (tg 44 39 true (.load 2 true (.t 43)) (tg 45 39 true (.mov (.t 1)) (tg 46 39 true (.calv (.t 40) [(.t 44), (.t 45)]) (tg 47 39 true (.bin .eql (.t 46) (.c (.int .i64 0))) (tq 48 (.pick (.t 39) (.t 47) (.c (.bool false))) (tm 6 (.t 35) (tm 7 (.t 48) .done)))))))))))))))))
 .ret))))))
theorem fc182 : fcomp Try.prog Try.f182 = some (c182.erase, [.mov (.t 6), .mov (.t 7)], 49) := by kernel_rfl
def slices_BinarySearchFunc_impl_Lock_impl_Lock_string_L1 (x_1 : (List GLock)) (cmp_3 : (GLock → Str → Option Int)) (target_2 : Str) : Nat → Int → Int → Option Int
  | 0, _, _ => none
  | k + 1, i_41, j_42 =>
    if (decide (i_41 < j_42)) then
    (idx x_1 (w64 (Int.fdiv (IntKind.u64.wrap (w64 (i_41 + j_42))) (2 ^ (min (Int.toNat 1) (IntKind.bits .u64)))))).bind fun x_52 =>
    (cmp_3 x_52 target_2).bind fun r_54 =>
    if (decide (r_54 < 0)) then
    slices_BinarySearchFunc_impl_Lock_impl_Lock_string_L1 x_1 cmp_3 target_2 k (w64 ((w64 (Int.fdiv (IntKind.u64.wrap (w64 (i_41 + j_42))) (2 ^ (min (Int.toNat 1) (IntKind.bits .u64))))) + 1)) j_42
    else
    slices_BinarySearchFunc_impl_Lock_impl_Lock_string_L1 x_1 cmp_3 target_2 k i_41 (w64 (Int.fdiv (IntKind.u64.wrap (w64 (i_41 + j_42))) (2 ^ (min (Int.toNat 1) (IntKind.bits .u64)))))
    else
    some i_41

def slices_BinarySearchFunc_impl_Lock_impl_Lock_string (x_1 : (List GLock)) (target_2 : Str) (cmp_3 : (GLock → Str → Option Int)) : Option (Int × Bool) :=
    (slices_BinarySearchFunc_impl_Lock_impl_Lock_string_L1 x_1 cmp_3 target_2 FUEL 0 (x_1.length : Int)).bind fun i_49 =>
    if (decide (i_49 < (x_1.length : Int))) then
    (idx x_1 i_49).bind fun x_58 =>
    (cmp_3 x_58 target_2).bind fun r_60 =>
    some (i_49, (r_60 == 0))
    else
    some (i_49, false)
theorem w_slices_BinarySearchFunc_impl_Lock_impl_Lock_string (x_1 : (List GLock)) (target_2 : Str) (cmp_3 : (GLock → Str → Option Int)) (r : (Int × Bool)) (hf : slices_BinarySearchFunc_impl_Lock_impl_Lock_string x_1 target_2 cmp_3 = some r) (kf_cmp_3 : Nat) (cf_cmp_3 : List AV) (okf_cmp_3 : okFn Try.prog kf_cmp_3 = true) (hcf_cmp_3 : ∀ h p, closeWs h p cf_cmp_3 = some cf_cmp_3) (hrf_cmp_3 : ∀ f, rens f cf_cmp_3 = cf_cmp_3) (hpf_cmp_3 : ∀ a0 a1 r, cmp_3 a0 a1 = some r → CallOK Try.prog kf_cmp_3 .flat ([(encGLock a0), (.str a1)] ++ cf_cmp_3) (.int .i64 r)) : CallOK Try.prog 182 .flat [(.lst 2 (x_1.map encGLock)), (.str target_2), (.fn kf_cmp_3 cf_cmp_3)] (.tup [(.int .i64 r.1), (.bool r.2)]) := by
 refine CallOK.of_awp mixed Try.func182 fc182 nle ?_; rw [argT_eq]; unfold slices_BinarySearchFunc_impl_Lock_impl_Lock_string at hf; unfold c182; refine (show awp Try.prog false 0 _ (ofL [(0, (.lst 2 (x_1.map encGLock))), (1, (.str target_2)), (2, (.fn kf_cmp_3 cf_cmp_3))]) [] _ from ?_); refine awp_seq <| w_reg <| s_mov (.int .i64 0) rfl <| s_mov (.bool false) rfl <| w_done <| k_seq <| awp_seq <| w_reg <| s_mov (.lst 2 (x_1.map encGLock)) rfl <| s_dof (o_len (enc := encGLock) rfl) fun hl4 => s_mov (.int .i64 (x_1.length : Int)) rfl <| w_done <| k_seq <| awp_seq <| w_reg <| s_mov (.int .i64 (x_1.length : Int)) rfl <| s_mov (.int .i64 0) rfl <| s_mov (.int .i64 (x_1.length : Int)) rfl <| w_done <| k_seq <| awp_seq <| ?_
 obtain ⟨i_49, hb1, hf⟩ := ob hf
 refine awp_cut ([(0, (.lst 2 (x_1.map encGLock))), (1, (.str target_2)), (2, (.fn kf_cmp_3 cf_cmp_3)), (8, (.int .i64 (x_1.length : Int))), (9, (.int .i64 i_49))], []) ?_ ?_
 ·refine awp_loop (X := {q : (Nat × Int × Int) // slices_BinarySearchFunc_impl_Lock_impl_Lock_string_L1 x_1 cmp_3 target_2 q.1 q.2.1 q.2.2 = some i_49}) (fun q => ([(0, (.lst 2 (x_1.map encGLock))), (1, (.str target_2)), (2, (.fn kf_cmp_3 cf_cmp_3)), (8, (.int .i64 (x_1.length : Int))), (9, (.int .i64 q.1.2.1)), (10, (.int .i64 q.1.2.2))], [])) (fun q => q.1.1) ⟨(FUEL, 0, (x_1.length : Int)), hb1⟩ ⟨[], [], _, _, rfl, rfl, ⟨.refl _, ⟨.refl _, ⟨.of_eq (congrArg (AV.fn _) (hrf_cmp_3 _)), ⟨.refl _, ⟨.refl _, ⟨.refl _, trivial⟩⟩⟩⟩⟩⟩, (.refl _)⟩ ?_
  rintro ⟨⟨k, i_41, j_42⟩, hc1⟩
  have hc1 : slices_BinarySearchFunc_impl_Lock_impl_Lock_string_L1 x_1 cmp_3 target_2 k i_41 j_42 = some i_49 := hc1
  refine (show awp Try.prog false 0 _ (ofL [(0, (.lst 2 (x_1.map encGLock))), (1, (.str target_2)), (2, (.fn kf_cmp_3 cf_cmp_3)), (8, (.int .i64 (x_1.length : Int))), (9, (.int .i64 i_41)), (10, (.int .i64 j_42))]) [] _ from ?_)
  rcases k with _ | k
  ·rw [slices_BinarySearchFunc_impl_Lock_impl_Lock_string_L1.eq_1] at hc1
   cases hc1
  ·rw [slices_BinarySearchFunc_impl_Lock_impl_Lock_string_L1.eq_2] at hc1; refine awp_seq <| awp_seq <| w_reg <| s_mov (.int .i64 i_41) rfl <| s_mov (.int .i64 j_42) rfl <| s_q (.bool (decide (i_41 < j_42))) rfl rfl rfl <| w_done <| k_seq <| ?_
   rcases oi hc1 with ⟨c51, hc1⟩ | ⟨c51, hc1⟩
   ·refine w_condt rfl c51 <| w_skip <| k_seq <| w_blk <| awp_seq <| w_reg <| s_mov (.int .i64 i_41) rfl <| s_mov (.int .i64 j_42) rfl <| s_q (.int .i64 (w64 (i_41 + j_42))) rfl rfl rfl <| s_q (.int .u64 (IntKind.u64.wrap (w64 (i_41 + j_42)))) rfl trivial rfl <| ?_; refine s_do (o_q (.int .u64 (Int.fdiv (IntKind.u64.wrap (w64 (i_41 + j_42))) (2 ^ (min (Int.toNat 1) (IntKind.bits .u64))))) rfl (show (0:Int) ≤ 1 by decide) rfl) ?_; refine s_q (.int .i64 (w64 (Int.fdiv (IntKind.u64.wrap (w64 (i_41 + j_42))) (2 ^ (min (Int.toNat 1) (IntKind.bits .u64)))))) rfl trivial rfl <| s_mov (.int .i64 (w64 (Int.fdiv (IntKind.u64.wrap (w64 (i_41 + j_42))) (2 ^ (min (Int.toNat 1) (IntKind.bits .u64)))))) rfl <| w_done <| k_seq <| awp_seq <| ?_
    refine w_reg ?_
    obtain ⟨x_52, ex53, hc1⟩ := ob hc1
    obtain ⟨r_54, er55, hc1⟩ := ob hc1
    refine s_mov (.fn kf_cmp_3 cf_cmp_3) rfl <| s_mov (.lst 2 (x_1.map encGLock)) rfl <| s_mov (.int .i64 (w64 (Int.fdiv (IntKind.u64.wrap (w64 (i_41 + j_42))) (2 ^ (min (Int.toNat 1) (IntKind.bits .u64)))))) rfl <| s_do (o_iaddr (enc := encGLock) rfl rfl (idx0 ex53) (idx1 ex53)) <| s_q (encGLock x_52) rfl nle rfl <| s_mov (.str target_2) rfl <| s_do (o_calvp (v := (.int .i64 r_54)) rfl okf_cmp_3 hcf_cmp_3 (hpf_cmp_3 _ _ _ er55) rfl (.refl _) rfl) <| s_q (.bool (decide (r_54 < 0))) rfl rfl rfl <| w_done <| k_seq <| ?_
    rcases oi hc1 with ⟨c56, hc1⟩ | ⟨c56, hc1⟩
    ·refine w_condt rfl c56 <| w_reg <| s_mov (.int .i64 (w64 (Int.fdiv (IntKind.u64.wrap (w64 (i_41 + j_42))) (2 ^ (min (Int.toNat 1) (IntKind.bits .u64)))))) rfl <| s_q (.int .i64 (w64 ((w64 (Int.fdiv (IntKind.u64.wrap (w64 (i_41 + j_42))) (2 ^ (min (Int.toNat 1) (IntKind.bits .u64))))) + 1))) rfl rfl rfl <| s_mov (.int .i64 (w64 ((w64 (Int.fdiv (IntKind.u64.wrap (w64 (i_41 + j_42))) (2 ^ (min (Int.toNat 1) (IntKind.bits .u64))))) + 1))) rfl <| w_done <| k_blk <| ?_; exact k_loopn ⟨(k, w64 ((w64 (Int.fdiv (IntKind.u64.wrap (w64 (i_41 + j_42))) (2 ^ (min (Int.toNat 1) (IntKind.bits .u64))))) + 1), j_42), hc1⟩ (Nat.lt_succ_self _) ⟨[], [], _, _, rfl, rfl, ⟨.refl _, ⟨.refl _, ⟨.of_eq (congrArg (AV.fn _) (hrf_cmp_3 _)), ⟨.refl _, ⟨.refl _, ⟨.refl _, trivial⟩⟩⟩⟩⟩⟩, (.refl _)⟩
    ·refine w_condf rfl (bf c56) <| w_reg <| s_mov (.int .i64 (w64 (Int.fdiv (IntKind.u64.wrap (w64 (i_41 + j_42))) (2 ^ (min (Int.toNat 1) (IntKind.bits .u64)))))) rfl <| s_mov (.int .i64 (w64 (Int.fdiv (IntKind.u64.wrap (w64 (i_41 + j_42))) (2 ^ (min (Int.toNat 1) (IntKind.bits .u64)))))) rfl <| w_done <| k_blk <| ?_; exact k_loopn ⟨(k, i_41, w64 (Int.fdiv (IntKind.u64.wrap (w64 (i_41 + j_42))) (2 ^ (min (Int.toNat 1) (IntKind.bits .u64))))), hc1⟩ (Nat.lt_succ_self _) ⟨[], [], _, _, rfl, rfl, ⟨.refl _, ⟨.refl _, ⟨.of_eq (congrArg (AV.fn _) (hrf_cmp_3 _)), ⟨.refl _, ⟨.refl _, ⟨.refl _, trivial⟩⟩⟩⟩⟩⟩, (.refl _)⟩
   ·refine w_condf rfl (bf c51) <| w_exit <| k_seqx <| k_loopx <| k_blkx <| ?_; obtain rfl := os hc1; exact ⟨[], [], _, _, rfl, rfl, ⟨.refl _, ⟨.refl _, ⟨.of_eq (congrArg (AV.fn _) (hrf_cmp_3 _)), ⟨.refl _, ⟨.refl _, trivial⟩⟩⟩⟩⟩, (.refl _)⟩
 ·refine awp_seq <| w_reg <| s_mov (.int .i64 i_49) rfl <| s_mov (.int .i64 i_49) rfl <| s_mov (.int .i64 (x_1.length : Int)) rfl <| s_q (.bool (decide (i_49 < (x_1.length : Int)))) rfl rfl rfl <| s_mov (.bool (decide (i_49 < (x_1.length : Int)))) rfl <| ?_
  rcases oi hf with ⟨c57, hf⟩ | ⟨c57, hf⟩
  ·refine s_lit (s := 39) (b := true) rfl c57 <| s_on rfl <| s_mov (.fn kf_cmp_3 cf_cmp_3) rfl <| s_on rfl <| s_mov (.lst 2 (x_1.map encGLock)) rfl <| s_on rfl <| s_mov (.int .i64 i_49) rfl <| s_on rfl <| ?_
   obtain ⟨x_58, ex59, hf⟩ := ob hf
   refine s_do (o_iaddr (enc := encGLock) rfl rfl (idx0 ex59) (idx1 ex59)) <| s_on rfl <| s_q (encGLock x_58) rfl nle rfl <| s_on rfl <| s_mov (.str target_2) rfl <| s_on rfl <| ?_
   obtain ⟨r_60, er61, hf⟩ := ob hf
   refine s_do (o_calvp (v := (.int .i64 r_60)) rfl okf_cmp_3 hcf_cmp_3 (hpf_cmp_3 _ _ _ er61) rfl (.refl _) rfl) <| s_on rfl <| s_q (.bool (r_60 == 0)) rfl rfl rfl <| s_q (.bool (r_60 == 0)) rfl trivial rfl <| s_mov (.int .i64 i_49) rfl <| s_mov (.bool (r_60 == 0)) rfl <| w_done <| k_seq <| w_ret <| ?_; obtain rfl := os hf; exact r_flat ⟨trivial, ⟨trivial, trivial⟩⟩ rfl (.refl _)
  ·refine s_lit (s := 39) (b := false) rfl (bf c57) <| s_off rfl rfl <| s_off rfl rfl <| s_off rfl rfl <| s_off rfl rfl <| s_off rfl rfl <| s_off rfl rfl <| s_off rfl rfl <| s_off rfl rfl <| s_q (.bool false) rfl trivial rfl <| s_mov (.int .i64 i_49) rfl <| s_mov (.bool false) rfl <| w_done <| k_seq <| w_ret <| ?_; obtain rfl := os hf; exact r_flat ⟨trivial, ⟨trivial, trivial⟩⟩ rfl (.refl _)

/- internal/bytealg.CompareString -/
def internal_bytealg_CompareString (a b : Str) : Option Int := some (Lib.compareBytes a b)
set_option maxRecDepth 100000 in
open Go.RowKit in
theorem cmps_run (a b : ByteArray) (w : World) : Calls Try.prog 251 #[.string a, .string b] w fun e w' => e = .returned (.int .i64 (Lib.compareBytes a.data.toList b.data.toList)) ∧ w' = w := by
  go_enter Try.func251, (show Try.f251.ntmps = _ from rfl)
  go_wp2
  rw [run_callFunc_extern Try.func272 (by kernel_rfl) (by kernel_rfl) (by kernel_rfl) (e := Extern.BytealgCompare.compare) (by kernel_rfl), Lib.run_compareString]
  simp only [Result.andThen]
  rw [Oper.upon_value]
  go_wp2
  go_ret
  exact ⟨rfl, rfl⟩
open Go.RowKit in
theorem w_internal_bytealg_CompareString (a b : Str) (r : Int) (hf : internal_bytealg_CompareString a b = some r) : CallOK Try.prog 251 .flat [(.str a), (.str b)] (.int .i64 r) := by
  intro w vals fps hr
  simp only [RepVs, Rep] at hr
  obtain ⟨v1, vs1, f1, f2, rfl, ⟨rfl, h1, rfl⟩, ⟨v2, vs2, f3, f4, rfl, ⟨rfl, h2, rfl⟩, ⟨rfl, rfl⟩, rfl⟩, rfl⟩ := hr
  unfold internal_bytealg_CompareString at hf
  obtain rfl := os hf
  refine (cmps_run ⟨a.toArray⟩ ⟨b.toArray⟩ w).mono ?_
  rintro e w' ⟨rfl, rfl⟩
  refine ⟨Below.refl _ _, ?_⟩
  exact ⟨[.int .i64 (Lib.compareBytes a b)], rfl, by simp [Rep]⟩

/- strings.Compare -/
def c184 : ACode :=
 (.seq (.reg (tm 4 (.c (.int .i64 0)) .done))
 (.seq (.reg (tm 5 (.t 0) (tm 6 (.t 1) (tq 7 (.call 251 [(.t 5), (.t 6)]) (tm 4 (.t 7) .done)))))
 .ret))
theorem fc184 : fcomp Try.prog Try.f184 = some (c184.erase, [.mov (.t 4)], 8) := by kernel_rfl
def strings_Compare (a_1 : Str) (b_2 : Str) : Option Int :=
    (internal_bytealg_CompareString a_1 b_2).bind fun r_3 =>
    some r_3
theorem w_strings_Compare (a_1 : Str) (b_2 : Str) (r : Int) (hf : strings_Compare a_1 b_2 = some r) : CallOK Try.prog 184 .flat [(.str a_1), (.str b_2)] (.int .i64 r) := by
  refine CallOK.of_awp mixed Try.func184 fc184 nle ?_
  rw [argT_eq]
  unfold strings_Compare at hf
  unfold c184
  refine (show awp Try.prog false 0 _ (ofL [(0, (.str a_1)), (1, (.str b_2))]) [] _ from ?_)
  refine awp_seq ?_
  refine w_reg ?_
  refine s_do (o_mov (.int .i64 0) rfl) ?_
  refine w_done ?_
  refine k_seq ?_
  refine awp_seq ?_
  refine w_reg ?_
  obtain ⟨r_3, er4, hf⟩ := ob hf
  refine s_do (o_mov (.str a_1) rfl) ?_
  refine s_do (o_mov (.str b_2) rfl) ?_
  refine s_do (o_call (w_internal_bytealg_CompareString _ _ _ er4) rfl (.refl _) rfl) ?_
  refine s_do (o_mov (.int .i64 r_3) rfl) ?_
  refine w_done ?_
  refine k_seq ?_
  refine w_ret ?_
  obtain rfl := os hf
  exact r_flat ⟨trivial, trivial⟩ rfl (.refl _)

/- impl.lockAt$1 -/
def c183 : ACode :=
 (.seq (.reg (tq 2 (.box 2 (.t 0)) (tm 4 (.c (.int .i64 0)) .done)))
 (.seq (.reg (tq 5 (.faddr 0 (.t 2)) (tq 6 (.load 1 false (.t 5)) (tm 7 (.t 1) (tq 8 (.call 184 [(.t 6), (.t 7)]) (tm 4 (.t 8) .done))))))
 .ret))
theorem fc183 : fcomp Try.prog Try.f183 = some (c183.erase, [.mov (.t 4)], 9) := by kernel_rfl
def impl_lockAt_1 (l_1 : GLock) (name_2 : Str) : Option Int :=
    (strings_Compare l_1.Name name_2).bind fun r_3 =>
    some r_3
theorem w_impl_lockAt_1 (l_1 : GLock) (name_2 : Str) (r : Int) (hf : impl_lockAt_1 l_1 name_2 = some r) : CallOK Try.prog 183 .flat [(encGLock l_1), (.str name_2)] (.int .i64 r) := by
  refine CallOK.of_awp mixed Try.func183 fc183 nle ?_
  rw [argT_eq]
  unfold impl_lockAt_1 at hf
  unfold c183
  refine (show awp Try.prog false 0 _ (ofL [(0, (encGLock l_1)), (1, (.str name_2))]) [] _ from ?_)
  refine awp_seq ?_
  refine w_reg ?_
  refine s_do (o_box (j := 0) (c := (.agg [(.str l_1.Name), (.lst 1 (l_1.Queue.map encI))])) rfl trivial rfl rfl) ?_
  refine s_do (o_mov (.int .i64 0) rfl) ?_
  refine w_done ?_
  refine k_seq ?_
  refine awp_seq ?_
  refine w_reg ?_
  obtain ⟨r_3, er4, hf⟩ := ob hf
  refine s_do (o_q (.ptr 0 0 0) rfl trivial rfl) ?_
  refine s_do (o_q (.str l_1.Name) rfl nle rfl) ?_
  refine s_do (o_mov (.str name_2) rfl) ?_
  refine s_do (o_call (w_strings_Compare _ _ _ er4) rfl (.refl _) rfl) ?_
  refine s_do (o_mov (.int .i64 r_3) rfl) ?_
  refine w_done ?_
  refine k_seq ?_
  refine w_ret ?_
  obtain rfl := os hf
  exact r_flat ⟨trivial, trivial⟩ rfl (.refl _)

/- impl.lockAt -/
def c99 : ACode :=
 (.seq (.reg (tm 4 (.c (.int .i64 0)) (tm 5 (.c (.bool false)) .done)))
 (.seq (.reg (tm 6 (.t 0) (tm 7 (.t 1) (tq 8 (.call 182 [(.t 6), (.t 7), (.c (.fn 183 []))]) (tq 9 (.extract 0 (.t 8)) (tq 10 (.extract 1 (.t 8)) (tm 4 (.t 9) (tm 5 (.t 10) .done))))))))
 .ret))
theorem fc99 : fcomp Try.prog Try.f99 = some (c99.erase, [.mov (.t 4), .mov (.t 5)], 11) := by kernel_rfl
def impl_lockAt (list_1 : (List GLock)) (name_2 : Str) : Option (Int × Bool) :=
    (slices_BinarySearchFunc_impl_Lock_impl_Lock_string list_1 name_2 impl_lockAt_1).bind fun r_3 =>
    some (r_3.1, r_3.2)
theorem w_impl_lockAt (list_1 : (List GLock)) (name_2 : Str) (r : (Int × Bool)) (hf : impl_lockAt list_1 name_2 = some r) : CallOK Try.prog 99 .flat [(.lst 2 (list_1.map encGLock)), (.str name_2)] (.tup [(.int .i64 r.1), (.bool r.2)]) := by
  refine CallOK.of_awp mixed Try.func99 fc99 nle ?_
  rw [argT_eq]
  unfold impl_lockAt at hf
  unfold c99
  refine (show awp Try.prog false 0 _ (ofL [(0, (.lst 2 (list_1.map encGLock))), (1, (.str name_2))]) [] _ from ?_)
  refine awp_seq ?_
  refine w_reg ?_
  refine s_do (o_mov (.int .i64 0) rfl) ?_
  refine s_do (o_mov (.bool false) rfl) ?_
  refine w_done ?_
  refine k_seq ?_
  refine awp_seq ?_
  refine w_reg ?_
  obtain ⟨r_3, er4, hf⟩ := ob hf
  refine s_do (o_mov (.lst 2 (list_1.map encGLock)) rfl) ?_
  refine s_do (o_mov (.str name_2) rfl) ?_
  refine s_do (o_call (w_slices_BinarySearchFunc_impl_Lock_impl_Lock_string _ _ _ _ er4 183 [] (by kernel_rfl) (fun _ _ => rfl) (fun _ => rfl) (fun a0 a1 r h => w_impl_lockAt_1 a0 a1 r h)) rfl (.refl _) rfl) ?_
  refine s_do (o_q (.int .i64 r_3.1) rfl nle rfl) ?_
  refine s_do (o_q (.bool r_3.2) rfl nle rfl) ?_
  refine s_do (o_mov (.int .i64 r_3.1) rfl) ?_
  refine s_do (o_mov (.bool r_3.2) rfl) ?_
  refine w_done ?_
  refine k_seq ?_
  refine w_ret ?_
  obtain rfl := os hf
  exact r_flat ⟨trivial, ⟨trivial, trivial⟩⟩ rfl (.refl _)

/- slices.Insert[[]impl.Lock,impl.Lock] -/
def slices_Insert_impl_Lock_impl_Lock_h0 (a0 : List GLock) (a1 : Int) (a2 : List GLock) : Option (List GLock) :=
    if (0 ≤ a1 ∧ a1 ≤ (a0.length : Int)) ∧ 0 < a2.length ∧ a0.length + a2.length ≤ 2 ^ 30 then
    some (a0.take a1.toNat ++ a2 ++ a0.drop a1.toNat)
    else none
/- HAND -/
open Go.RowKit

theorem undS_slices_Insert_impl_Lock_impl_Lock_h0 : Try.prog.underlying 38 = some (.slice 125) := by kernel_rfl
theorem undN_slices_Insert_impl_Lock_impl_Lock_h0 : Try.prog.underlying 3 = some (.int .i64) := by kernel_rfl
theorem info_slices_Insert_impl_Lock_impl_Lock_h0 : ∃ i : TypeInfo, Try.prog.info? 125 = some i ∧ i.size = 2 ∧ i.bytes = 40 ∧ i.zero = some (.agg #[.string ⟨#[]⟩, .slice none 0 0]) := info_of (by kernel_rfl)
theorem ov_slices_Insert_impl_Lock_impl_Lock_h0 (w : World) (g vb o m vc lb cb : Nat) (cur curv : Array Value) (e ev : TypeId) (hg : w.heap[g]? = some (.cells cur e (0, 0))) (hv : w.heap[vb]? = some (.cells curv ev (0, 0))) (hne : vb ≠ g) (hs : cur.size ≠ 0) :
    (callFunc 253 #[.slice (some ⟨vb, 0, none⟩) m vc, .slice (some ⟨g, o, none⟩) lb cb]).run Try.prog w = .ok (.value (.bool false)) w := by
  obtain ⟨ti, hti, hts, htb, htz⟩ := info_slices_Insert_impl_Lock_impl_Lock_h0
  rw [run_callFunc_extern Try.func253 (by kernel_rfl) (by kernel_rfl) (by kernel_rfl) (e := Extern.SlicesOverlaps.overlaps #[38, 38] #[4]) (by kernel_rfl),
    Lib.run_overlaps_apart w 38 4 125 undS_slices_Insert_impl_Lock_impl_Lock_h0 2 (fun w => by simp [sizeOf, typeInfo, hti, hts]) ⟨vb, 0, none⟩ ⟨g, o, none⟩ m vc lb cb hne ev e curv.size cur.size (by simp [World.shape?, hv]) (by simp [World.shape?, hg]) hs (by simp [World.frozen?, hv]) (by simp [World.frozen?, hv])]
  rfl

set_option maxRecDepth 100000 in
theorem ins_end_slices_Insert_impl_Lock_impl_Lock_h0 (w : World) (a b : Option Addr) (n c m vc : Nat) (u : Value) (w' : World) (hm : 0 < m)
    (hap : (Builtin.append_ #[38, 38] 38 #[.slice a n c, .slice b m vc]).run Try.prog w = .ok u w') (hu : a ≠ none ∨ (n = 0 ∧ c = 0)) :
    Calls Try.prog 201 #[.slice a n c, .int .i64 n, .slice b m vc] w fun e' w'' => e' = .returned u ∧ w'' = w' := by
  have hz1 : ¬ ((m : Int) = 0) := by omega
  have mixed : Try.prog.follows .mixedOrders = true := by kernel_rfl
  go_enter Try.func201, (show Try.f201.ntmps = 95 from rfl)
  cases a with
  | none =>
    obtain ⟨rfl, rfl⟩ := hu.resolve_left (fun h => h rfl)
    go_wp2_with (at_builtin; refine Lib.wpList_append_run _ rfl _ _ _ _ rfl _ _ rfl rfl _ _ hap ?_)
    go_ret
    exact ⟨rfl, rfl⟩
  | some a =>
    obtain ⟨ab, ao, asp⟩ := a
    go_wp2_with (at_builtin; refine Lib.wpList_append_run _ rfl _ _ _ _ rfl _ _ rfl rfl _ _ hap ?_)
    all_goals (go_ret; exact ⟨rfl, rfl⟩)

set_option maxRecDepth 100000 in
theorem ins_shift_slices_Insert_impl_Lock_impl_Lock_h0 (w : World) (g n c i vb m vc : Nat) (A1 A2 : Array Value) (hi : i < n) (hm : 0 < m) (hroom : n + m ≤ c) (hc : c ≤ maxLen)
    (hov : ∀ o lb cb, (callFunc 253 #[.slice (some ⟨vb, 0, none⟩) m vc, .slice (some ⟨g, o, none⟩) lb cb]).run Try.prog w = .ok (.value (.bool false)) w)
    (h1 : ∀ ty dc sc, (Builtin.copy_ #[38, 38] ty #[.slice (some ⟨g, (i + m) * 2, none⟩) (n + m - (i + m)) dc, .slice (some ⟨g, i * 2, none⟩) (n + m - i) sc]).run Try.prog w.drew = .ok (goInt (n - i : Nat)) (w.drew.setRow g A1))
    (h2 : ∀ ty dc, (Builtin.copy_ #[38, 38] ty #[.slice (some ⟨g, i * 2, none⟩) (n + m - i) dc, .slice (some ⟨vb, 0, none⟩) m vc]).run Try.prog (w.drew.setRow g A1) = .ok (goInt m) ((w.drew.setRow g A1).setRow g A2)) :
    Calls Try.prog 201 #[.slice (some ⟨g, 0, none⟩) n c, .int .i64 i, .slice (some ⟨vb, 0, none⟩) m vc] w fun e' w' =>
      e' = .returned (.slice (some ⟨g, 0, none⟩) (n + m) c) ∧ w' = (w.drew.setRow g A1).setRow g A2 := by
  have hc63 : c ≤ 9223372036854775807 := by unfold maxLen at hc; omega
  have hz1 : ¬ ((m : Int) = 0) := by omega
  have hz2 : ¬ ((i : Int) = (n : Int)) := by omega
  have hw1 : IntKind.i64.wrap ((i : Int) + (m : Int)) = (i : Int) + (m : Int) := by rw [IntKind.wrap_i64]; omega
  have hb1 : (0 : Int) ≤ (i : Int) + (m : Int) := by omega
  have hin : i ≤ n := by omega
  have htn : ((i : Int) + (m : Int)).toNat = i + m := by omega
  have hb2 : ¬ (c = i + m) := by omega
  have hb3 : (i : Int) ≤ (n : Int) + (m : Int) := by omega
  have hb4 : ¬ (c = i) := by omega
  have mixed : Try.prog.follows .mixedOrders = true := by kernel_rfl
  go_enter Try.func201, (show Try.f201.ntmps = 95 from rfl)
  go_wp2_with (simp only [hov])

  go_region_law_o (refine step_copy_runI rfl _ _ 38 38 rfl _ _ (by simp [Act.eval, Act.put]) (by simp [Act.eval, Act.put]) (h1 _ _ _) ?_)
  go_wp2_with (simp only [h2])
  go_ret
  exact ⟨rfl, rfl⟩

set_option maxRecDepth 100000 in
theorem ins_grow_slices_Insert_impl_Lock_impl_Lock_h0 (w : World) (g n c i vb m vc G : Nat) (W1 W2 W3 : World) (hi : i < n) (hm : 0 < m) (hnc : n ≤ c) (hroom : c < n + m) (hG : n + m ≤ G) (hGm : G ≤ maxLen)
    (h0 : ∀ ty, (Builtin.append_ #[38, 3] ty #[.slice (some ⟨g, 0, none⟩) i c, .int .i64 ((n : Int) + (m : Int) - (i : Int))]).run Try.prog w = .ok (.slice (some ⟨w.heap.size, 0, none⟩) (n + m) G) W1)
    (h1 : ∀ ty dc, (Builtin.copy_ #[38, 38] ty #[.slice (some ⟨w.heap.size, i * 2, none⟩) (n + m - i) dc, .slice (some ⟨vb, 0, none⟩) m vc]).run Try.prog W1 = .ok (goInt m) W2)
    (h2 : ∀ ty dc sc, (Builtin.copy_ #[38, 38] ty #[.slice (some ⟨w.heap.size, (i + m) * 2, none⟩) (n + m - (i + m)) dc, .slice (some ⟨g, i * 2, none⟩) (n - i) sc]).run Try.prog W2.drew = .ok (goInt (n - i : Nat)) W3) :
    Calls Try.prog 201 #[.slice (some ⟨g, 0, none⟩) n c, .int .i64 i, .slice (some ⟨vb, 0, none⟩) m vc] w fun e' w' =>
      e' = .returned (.slice (some ⟨w.heap.size, 0, none⟩) (n + m) G) ∧ w' = W3 := by
  have hG63 : G ≤ 9223372036854775807 := by unfold maxLen at hGm; omega
  have hz1 : ¬ ((m : Int) = 0) := by omega
  have hz2 : ¬ ((i : Int) = (n : Int)) := by omega
  have hz3 : (c : Int) < (n : Int) + (m : Int) := by omega
  have hGi : ¬ (G = i) := by omega
  have hGim : ¬ (G = i + m) := by omega
  have hci : ¬ (c = i) := by omega
  have hw1 : IntKind.i64.wrap ((i : Int) + (m : Int)) = (i : Int) + (m : Int) := by rw [IntKind.wrap_i64]; omega
  have hb1 : (0 : Int) ≤ (i : Int) + (m : Int) := by omega
  have hin : i ≤ n := by omega
  have htn : ((i : Int) + (m : Int)).toNat = i + m := by omega
  have hb3 : (i : Int) ≤ (n : Int) := by omega
  have mixed : Try.prog.follows .mixedOrders = true := by kernel_rfl
  go_enter Try.func201, (show Try.f201.ntmps = 95 from rfl)
  go_wp2_with (first
    | (at_builtin; refine Lib.wpList_append_run _ rfl _ _ _ _ rfl _ _ rfl rfl _ _ (h0 _) ?_)
    | simp only [h1])
  go_region_law_o (refine step_copy_runI rfl _ _ 38 38 rfl (.slice (some ⟨w.heap.size, (i + m) * 2, none⟩) (n + m - (i + m)) (G - (i + m))) (.slice (some ⟨g, i * 2, none⟩) (n - i) (c - i)) (by simp [Act.eval, Act.put]) (by simp [Act.eval, Act.put]) (h2 _ _ _) ?_)
  go_wp2
  go_ret
  exact ⟨rfl, rfl⟩

theorem insH_slices_Insert_impl_Lock_impl_Lock_h0 (dm : Md) (l v : List AV) (i : Nat) (hi : i ≤ l.length) (hm : 0 < v.length) (hlim : l.length + v.length ≤ 2 ^ 30) :
    CallHeap Try.prog dm 201 [.own 0 0 l.length, .int .i64 i, .own 1 0 v.length] [.row 2 l, .row 2 v] (.own 2 0 (l.length + v.length)) [.dead, .dead, .row 2 (l.take i ++ v ++ l.drop i)] := by
  intro C σ φ w vals _ _ hok hb hr hv
  simp only [RVs] at hv
  obtain ⟨v1, _, rfl, h1, v2, _, rfl, h2, v3, _, rfl, h3, rfl⟩ := hv
  have e2 : v2 = .int .i64 i := by simpa only [RV] using h2
  subst e2
  obtain ⟨ti, hti, hts, htb, htz⟩ := info_slices_Insert_impl_Lock_impl_Lock_h0
  rcases own_raw hr (o := 1) rfl h3 rfl with ⟨_, rfl, _⟩ | ⟨vb, vc, curv, ev, hσv, rfl, hmc, hvcm, hgv, hcsv, hrepv⟩
  · simp at hm
  have hraw := own_raw hr (o := 0) rfl h1 rfl
  by_cases hin : i = l.length
  · subst hin
    obtain ⟨u, w', σ', φ', k1, k2, k3, k4, k5⟩ := append_sound (P := Try.prog) hr hb (ty' := 38) undS_slices_Insert_impl_Lock_impl_Lock_h0 hti htz (by rw [hts]; rfl) (by omega) (by omega) (cons := true) h1 h3
      (l0 := l) (l1 := v) (n := l.length) (m := v.length) (ks0 := [0]) (ks1 := [1]) (by simp [dstOf, hts]) (by simp [srcOf, hts]) (fun _ h => by cases h) (fun _ _ _ h => by cases h) (fun _ => by decide) hlim
    have key : ∀ a c, v1 = .slice a l.length c → (a ≠ none ∨ (l.length = 0 ∧ c = 0)) → Calls Try.prog 201 #[.slice a l.length c, .int .i64 l.length, .slice (some ⟨vb, 0, none⟩) v.length vc] w fun e' w'' => e' = .returned u ∧ w'' = w' := by
      rintro a c rfl hu
      exact ins_end_slices_Insert_impl_Lock_impl_Lock_h0 w a _ l.length c v.length vc u w' hm k1 hu
    have : Calls Try.prog 201 #[v1, .int .i64 l.length, .slice (some ⟨vb, 0, none⟩) v.length vc] w fun e' w'' => e' = .returned u ∧ w'' = w' := by
      rcases hraw with ⟨rfl, rfl, _⟩ | ⟨g, c, cur, e, _, rfl, _⟩
      · exact key _ _ rfl (.inr ⟨rfl, rfl⟩)
      · exact key _ _ rfl (.inl (by simp))
    refine this.mono ?_
    rintro e' w'' ⟨rfl, rfl⟩
    rw [hts] at k2 k3 k4
    have hL : l.take l.length ++ v ++ l.drop l.length = l ++ v := by simp
    rw [hL]
    exact ⟨σ', φ', k2, k3.x, k4, k5⟩
  · have hil : i < l.length := by omega
    rcases hraw with ⟨_, rfl, _⟩ | ⟨g, c, cur, e, hσ, rfl, hnc, hcm, hg, hcs, hrep⟩
    · simp at hil
    obtain ⟨n, hn⟩ : ∃ n, n = l.length := ⟨_, rfl⟩
    obtain ⟨m, hmm⟩ : ∃ m, m = v.length := ⟨_, rfl⟩
    rw [← hn] at hil hnc hi hlim h1 ⊢
    rw [← hmm] at hm hmc hlim h3 ⊢
    have hlen := hrep.length
    have hlenv := hrepv.length
    rw [← hn] at hlen
    rw [← hmm] at hlenv
    have hcl : cur.toList.length = c * 2 := by rw [← hcs]; simp
    have hone0 := hrep.oneCell
    have honev := hrepv.oneCell
    rw [← hn] at hone0
    rw [← hmm] at honev
    have hvl : (curv.toList.take (m * 2)).length = m * 2 := by rw [List.length_take]; omega
    have hcl2 : ((cur.toList.take (n * 2)).drop (i * 2)).length = (n - i) * 2 := by rw [List.length_drop, List.length_take]; omega
    have hvg : vb ≠ g := by
      rintro rfl
      have := hr.inj 0 1 _ _ vb c vc rfl rfl rfl rfl hσ hσv
      cases this
    have hgb : C.mine g := hr.base 0 _ g c rfl rfl hσ
    have hsv : ∀ j x, (curv.toList.take (m * 2))[j]? = some x → ∀ W : World, W.heap[vb]? = some (.cells curv ev (0, 0)) → W.cell? ((⟨vb, 0, none⟩ : Addr).add j) = some x := fun j x hj W hW => src_at hW 0 (m * 2) j x (by simpa using hj)
    by_cases hroom : n + m ≤ c
    · have hmin1 : Nat.min (n + m - i) (n + m - (i + m)) = n - i := by simp only [Nat.min_def]; split <;> omega
      have hmin2 : Nat.min m (n + m - i) = m := by simp only [Nat.min_def]; split <;> omega
      obtain ⟨A1, hA1⟩ : ∃ A1, A1 = (cur.toList.take ((i + m) * 2) ++ (cur.toList.take (n * 2)).drop (i * 2) ++ cur.toList.drop ((i + m) * 2 + ((cur.toList.take (n * 2)).drop (i * 2)).length)).toArray := ⟨_, rfl⟩
      obtain ⟨A2, hA2⟩ : ∃ A2, A2 = (A1.toList.take (i * 2) ++ curv.toList.take (m * 2) ++ A1.toList.drop (i * 2 + (curv.toList.take (m * 2)).length)).toArray := ⟨_, rfl⟩
      obtain ⟨s1, s2, s3⟩ := ins_cells (z := 2) hi (by omega) hvl hA1 hA2
      have hg1 : w.drew.heap[g]? = some (.cells cur e (0, 0)) := hg
      have hg2 : (w.drew.setRow g A1).heap[g]? = some (.cells A1 e (0, 0)) := setRow_heap _ g cur A1 e _ hg1
      have hv2 : (w.drew.setRow g A1).heap[vb]? = some (.cells curv ev (0, 0)) := (setRow_other _ g vb A1 hvg).trans hgv
      have c1 := fun ty dc sc => run_copy_rowz (P := Try.prog) (ty := ty) w.drew 38 38 125 ti g ((i + m) * 2) (n + m - (i + m)) dc ⟨g, i * 2, none⟩ (n + m - i) sc cur e ((cur.toList.take (n * 2)).drop (i * 2)) undS_slices_Insert_impl_Lock_impl_Lock_h0 hti hg1 (by rw [hmin1, hts]; exact hcl2) (src_at hg1 (i * 2) (n * 2)) (by omega) (fun x hx => hone0 x (List.mem_of_mem_drop hx))
      rw [← hA1, hmin1] at c1
      have c2 := fun ty dc => run_copy_rowz (P := Try.prog) (ty := ty) (w.drew.setRow g A1) 38 38 125 ti g (i * 2) (n + m - i) dc ⟨vb, 0, none⟩ m vc A1 e (curv.toList.take (m * 2)) undS_slices_Insert_impl_Lock_impl_Lock_h0 hti hg2 (by rw [hmin2, hts]; exact hvl) (fun j x hj => hsv j x hj _ hv2) (by rw [hvl]; omega) honev
      rw [← hA2, hmin2] at c2
      refine (ins_shift_slices_Insert_impl_Lock_impl_Lock_h0 w g n c i vb m vc A1 A2 hil hm hroom hcm (fun o lb cb => ov_slices_Insert_impl_Lock_impl_Lock_h0 w g vb o m vc lb cb cur curv e ev hg hgv hvg (by omega)) c1 c2).mono ?_
      rintro e' w' ⟨rfl, rfl⟩
      obtain ⟨σ', φ', k1, k2, k3⟩ := ins_fin (w' := (w.drew.setRow g A1).setRow g A2) hr hb (by simp) hrep hrepv i (by omega) (.inr ⟨c, hσ⟩) (fun b _ hbg => by rw [setRow_other _ _ _ _ hbg, setRow_other _ _ _ _ hbg]; rfl) (setRow_heap _ g A1 A2 e _ hg2) (by omega) hcm (by rw [← hn, ← hmm]; exact s3.trans (by simp))
      refine ⟨σ', φ', k1, k2.x, ?_, ⟨rfl, rfl, rfl, by simp, fun k hk => by rw [setRow_other _ _ _ _ (by have := hgb.1; omega), setRow_other _ _ _ _ (by have := hgb.1; omega)]; rfl⟩⟩
      simp only [RV, List.getElem?_cons_succ, List.getElem?_cons_zero]
      exact ⟨_, c, rfl, by simp only [List.length_append, List.length_take, List.length_drop]; omega, by omega, hcm, by rw [k3]; simp⟩
    · have hmin1 : Nat.min (n - i) (n + m - (i + m)) = n - i := by simp only [Nat.min_def]; split <;> omega
      have hmin2 : Nat.min m (n + m - i) = m := by simp only [Nat.min_def]; split <;> omega
      obtain ⟨G, hG⟩ : ∃ G, G = grownCap w (n + m) c 125 := ⟨_, rfl⟩
      have hGe : n + m ≤ G := by rw [hG]; exact grownCap_ge w (n + m) c 125
      have hGm : G ≤ maxLen := by rw [hG]; exact grownCap_le_maxLen w (n + m) c 125 (by simp only [maxLen]; omega)
      have hoT : (cur.toList.take (i * 2)).length = i * 2 := by rw [List.length_take]; omega
      have hold : (Builtin.firstCells ti.size i (.slice (some ⟨g, 0, none⟩) i c)).run Try.prog w.drew = .ok (cur.toList.take (i * 2)).toArray w.drew := by
        refine run_firstCells_some (P := Try.prog) w.drew ti.size i ⟨g, 0, none⟩ i c _ (by rw [hoT, hts]) ?_
        intro j x hj
        have := src_at (w := w.drew) hg 0 (i * 2) j x (by simpa using hj)
        exact this
      have hik : i + (n + m - i) = n + m := by omega
      have hkk : (n : Int) + (m : Int) - (i : Int) = ((n + m - i : Nat) : Int) := by omega
      have hz := fun ty => Lib.run_append_grow_zeros (P := Try.prog) w 38 3 ty 125 ti _ .i64 .i64 undS_slices_Insert_impl_Lock_impl_Lock_h0 undN_slices_Insert_impl_Lock_impl_Lock_h0 hti htz (some ⟨g, 0, none⟩) i c _ hold (n + m - i) (by omega) (by omega) (by omega) (by omega) (by rw [htb]; omega) (by rw [htb, hik]; exact growslice_fits (by omega) (by omega))
      rw [hik, ← hG] at hz
      obtain ⟨R, hR⟩ : ∃ R, R = (Builtin.zeroCells (Value.agg #[.string ⟨#[]⟩, .slice none 0 0]).cells (n + m - i)).toList ++ (Builtin.zeroCells (Value.agg #[.string ⟨#[]⟩, .slice none 0 0]).cells (G - (n + m))).toList := ⟨_, rfl⟩
      have hRl : R.length = (n + m - i) * 2 + (G - (n + m)) * 2 := by
        rw [hR, List.length_append, Array.length_toList, Array.length_toList, size_zeroCells, size_zeroCells]
        rfl
      have hrow : ((cur.toList.take (i * 2)).toArray ++ Builtin.zeroCells (Value.agg #[.string ⟨#[]⟩, .slice none 0 0]).cells (n + m - i) ++ Builtin.zeroCells (Value.agg #[.string ⟨#[]⟩, .slice none 0 0]).cells (G - (n + m))) = (cur.toList.take (i * 2) ++ R).toArray := by
        rw [hR]
        apply Array.toList_inj.1
        simp
      rw [hrow] at hz
      obtain ⟨W1, hW1⟩ : ∃ W1, W1 = w.drew.alloc (.cells (cur.toList.take (i * 2) ++ R).toArray 125) := ⟨_, rfl⟩
      rw [← hW1] at hz
      have hn1 : W1.heap[w.heap.size]? = some (.cells (cur.toList.take (i * 2) ++ R).toArray 125 (0, 0)) := by rw [hW1]; exact heap_alloc_new w.drew _
      have hold1 : ∀ b, b < w.heap.size → W1.heap[b]? = w.heap[b]? := fun b hb => by rw [hW1]; exact heap_alloc_old w.drew _ hb
      have hgl : g < w.heap.size := lt_of_heap hg
      have hvl2 : vb < w.heap.size := lt_of_heap hgv
      obtain ⟨B1, hB1⟩ : ∃ B1, B1 = (cur.toList.take (i * 2) ++ curv.toList.take (m * 2) ++ R.drop (curv.toList.take (m * 2)).length).toArray := ⟨_, rfl⟩
      obtain ⟨B2, hB2⟩ : ∃ B2, B2 = (B1.toList.take ((i + m) * 2) ++ (cur.toList.take (n * 2)).drop (i * 2) ++ B1.toList.drop ((i + m) * 2 + ((cur.toList.take (n * 2)).drop (i * 2)).length)).toArray := ⟨_, rfl⟩
      obtain ⟨s1, s2, s3⟩ := ins_cells2 (z := 2) (R := R) hi hlen hvl (by omega) hB1 hB2
      have c1 := fun ty dc => run_copy_rowz (P := Try.prog) (ty := ty) W1 38 38 125 ti w.heap.size (i * 2) (n + m - i) dc ⟨vb, 0, none⟩ m vc _ 125 (curv.toList.take (m * 2)) undS_slices_Insert_impl_Lock_impl_Lock_h0 hti hn1 (by rw [hmin2, hts]; exact hvl) (fun j x hj => hsv j x hj _ ((hold1 vb hvl2).trans hgv)) (by rw [hvl, List.size_toArray, List.length_append, hoT, hRl]; omega) honev
      have hb1 : ((cur.toList.take (i * 2) ++ R).toArray.toList.take (i * 2) ++ curv.toList.take (m * 2) ++ (cur.toList.take (i * 2) ++ R).toArray.toList.drop (i * 2 + (curv.toList.take (m * 2)).length)).toArray = B1 := by
        rw [hB1]
        simp only []
        rw [List.take_left' hoT, ← List.drop_drop, List.drop_left' hoT]
      rw [hb1, hmin2] at c1
      obtain ⟨W2, hW2⟩ : ∃ W2, W2 = W1.setRow w.heap.size B1 := ⟨_, rfl⟩
      rw [← hW2] at c1
      have hn2 : W2.drew.heap[w.heap.size]? = some (.cells B1 125 (0, 0)) := by rw [hW2]; exact setRow_heap W1 _ _ B1 125 _ hn1
      have hg2 : W2.drew.heap[g]? = some (.cells cur e (0, 0)) := by rw [hW2]; exact (setRow_other W1 _ g B1 (by omega)).trans ((hold1 g hgl).trans hg)
      have c2 := fun ty dc sc => run_copy_rowz (P := Try.prog) (ty := ty) W2.drew 38 38 125 ti w.heap.size ((i + m) * 2) (n + m - (i + m)) dc ⟨g, i * 2, none⟩ (n - i) sc B1 125 ((cur.toList.take (n * 2)).drop (i * 2)) undS_slices_Insert_impl_Lock_impl_Lock_h0 hti hn2 (by rw [hmin1, hts]; exact hcl2) (src_at hg2 (i * 2) (n * 2)) (by omega) (fun x hx => hone0 x (List.mem_of_mem_drop hx))
      rw [← hB2, hmin1] at c2
      rw [← hkk] at hz
      refine (ins_grow_slices_Insert_impl_Lock_impl_Lock_h0 w g n c i vb m vc G W1 W2 _ hil hm hnc (by omega) hGe hGm hz c1 c2).mono ?_
      rintro e' w' ⟨rfl, rfl⟩
      have hblk : ∀ b, b < w.heap.size → (W2.drew.setRow w.heap.size B2).heap[b]? = w.heap[b]? := fun b hb => by
        rw [setRow_other _ _ _ _ (by omega)]
        show W2.heap[b]? = _
        rw [hW2, setRow_other _ _ _ _ (by omega), hold1 b hb]
      have hsz : (W2.drew.setRow w.heap.size B2).heap.size = w.heap.size + 1 := by
        rw [hW2, hW1]
        simp [World.alloc]
      obtain ⟨σ', φ', k1, k2, k3⟩ := ins_fin (w' := W2.drew.setRow w.heap.size B2) (c' := G) hr hb (by omega) hrep hrepv i (by omega) (.inl (Nat.le_refl _)) (fun b hb _ => hblk b hb) (setRow_heap _ _ B1 B2 125 _ hn2) (by omega) hGm (by rw [← hn, ← hmm]; exact s3.trans (by simp))
      refine ⟨σ', φ', k1, k2.x, ?_, ⟨by rw [hW2, hW1]; rfl, by rw [hW2, hW1]; rfl, by rw [hW2, hW1]; rfl, by omega, fun k hk => hblk k (by have := (hb _ (Nat.le_refl _)).1; omega)⟩⟩
      simp only [RV, List.getElem?_cons_succ, List.getElem?_cons_zero]
      exact ⟨_, G, rfl, by simp only [List.length_append, List.length_take, List.length_drop]; omega, hGe, hGm, by rw [k3]; simp⟩
theorem w_slices_Insert_impl_Lock_impl_Lock_h0 (a0 : List GLock) (a1 : Int) (a2 : List GLock) (r : List GLock) (hf : slices_Insert_impl_Lock_impl_Lock_h0 a0 a1 a2 = some r) : CallHeap Try.prog true 201 [.own 0 0 a0.length, .int .i64 a1, .own 1 0 a2.length] [.row 2 (a0.map encGLock), .row 2 (a2.map encGLock)] (.own 2 0 r.length) [.dead, .dead, .row 2 (r.map encGLock)] := by
  unfold slices_Insert_impl_Lock_impl_Lock_h0 at hf
  split at hf
  · rename_i h
    obtain rfl := os hf
    obtain ⟨i, rfl⟩ : ∃ i : Nat, a1 = i := ⟨a1.toNat, by omega⟩
    have := insH_slices_Insert_impl_Lock_impl_Lock_h0 true (a0.map encGLock) (a2.map encGLock) i (by rw [List.length_map]; omega) (by rw [List.length_map]; omega) (by rw [List.length_map, List.length_map]; omega)
    rw [List.length_map, List.length_map] at this
    simp only [Int.toNat_natCast, List.map_append, List.map_take, List.map_drop, List.length_append, List.length_take, List.length_drop]
    rw [Nat.min_eq_left (by omega), show i + a2.length + (a0.length - i) = a0.length + a2.length by omega]
    exact this
  · cases hf

/- impl.withLock -/
def c117 : ACode :=
 (.seq (.reg (tm 4 (.c .nil) (tm 5 (.c (.int .i64 0)) (tm 6 (.c (.int .i64 0)) .done))))
 (.seq (.reg (tm 10 (.t 0) (tq 11 (.call 98 [(.t 10)]) (tm 7 (.t 11) .done))))
 (.seq (.reg (tm 13 (.t 7) (tm 14 (.t 1) (tq 15 (.call 99 [(.t 13), (.t 14)]) (tm 12 (.t 15) (tq 16 (.extract 0 (.t 12)) (tq 17 (.extract 1 (.t 12)) (tm 8 (.t 16) (tm 9 (.t 17) .done)))))))))
 (.seq (.block 0 (.seq (.reg (tm 19 (.t 9) (tm 18 (.t 19) .done)))
 (.cond (.t 18) (.seq (.reg (tm 20 (.t 7) (tm 21 (.t 8) (tm 4 (.t 20) (tm 5 (.t 21) (tm 6 (.c (.int .i64 0)) .done))))))
 .ret)
 (.seq (.reg (tm 23 (.t 7) (tq 24 (.len (.t 23)) (tq 25 (.bin .eql (.t 24) (.c (.int .i64 6))) (tm 22 (.t 25) .done)))))
 (.cond (.t 22) (.seq (.reg (tm 26 (.t 7) (tm 4 (.t 26) (tm 5 (.c (.int .i64 0)) (tm 6 (.c (.int .i64 7)) .done)))))
 .ret)
 .skip)))))
 (.seq (.reg (tm 27 (.t 7) (tm 28 (.t 8) (tm 29 (.t 1) (tq 30 (.build [(.str []), .nil] [(0, 1, (.t 29))]) (tq 31 (.bslice 2 [(.t 30)]) (tq 32 (.call 201 [(.t 27), (.t 28), (.t 31)]) (tm 33 (.t 8) (tm 4 (.t 32) (tm 5 (.t 33) (tm 6 (.c (.int .i64 0)) .done)))))))))))
 .ret)))))
theorem fc117 : fcomp Try.prog Try.f117 = some (c117.erase, [.mov (.t 4), .mov (.t 5), .mov (.t 6)], 34) := by kernel_rfl
def impl_withLock (list_1 : (List GLock)) (name_2 : Str) : Option ((List GLock) × Int × Int) :=
    (impl_copyLocks list_1).bind fun r_3 =>
    (impl_lockAt r_3 name_2).bind fun r_5 =>
    if r_5.2 then
    some (r_3, r_5.1, 0)
    else
    if ((r_3.length : Int) == 6) then
    some (r_3, 0, 7)
    else
    (slices_Insert_impl_Lock_impl_Lock_h0 r_3 r_5.1 [(⟨name_2, []⟩ : GLock)]).bind fun r_10 =>
    some (r_10, r_5.1, 0)
theorem w_impl_withLock (list_1 : (List GLock)) (name_2 : Str) (r : ((List GLock) × Int × Int)) (hf : impl_withLock list_1 name_2 = some r) : CallOK Try.prog 117 .fresh [(.lst 2 (list_1.map encGLock)), (.str name_2)] (.tup [(.lst 2 (r.1.map encGLock)), (.int .i64 r.2.1), (.int .i64 r.2.2)]) := by
 refine CallOK.of_awp mixed Try.func117 fc117 nle ?_; rw [argT_eq]; unfold impl_withLock at hf; unfold c117; refine (show awp Try.prog true 0 _ (ofL [(0, (.lst 2 (list_1.map encGLock))), (1, (.str name_2))]) [] _ from ?_); refine awp_seq <| w_reg <| s_mov .nil rfl <| s_mov (.int .i64 0) rfl <| s_mov (.int .i64 0) rfl <| w_done <| k_seq <| awp_seq <| w_reg <| ?_
 obtain ⟨r_3, er4, hf⟩ := ob hf
 refine s_mov (.lst 2 (list_1.map encGLock)) rfl <| s_do (o_callf (v := (.own 0 0 r_3.length)) (h' := [.row 2 (r_3.map encGLock)]) (w_impl_copyLocks _ _ er4) rfl (.refl _) (by simp only [openV, openVs, List.length_map, List.nil_append, List.append_nil, List.cons_append]; rfl)) <| s_mov (.own 0 0 r_3.length) rfl <| w_done <| k_seq <| awp_seq <| w_reg <| ?_
 obtain ⟨r_5, er6, hf⟩ := ob hf
 refine s_mov (.own 0 0 r_3.length) rfl <| s_mov (.str name_2) rfl <| s_do (o_call (w_impl_lockAt _ _ _ er6) rfl (.cons (.of_eq (congrArg (AV.lst _) (tko r_3))) (.cons (.refl _) .nil)) rfl) <| s_mov (.tup [(.int .i64 r_5.1), (.bool r_5.2)]) rfl <| s_q (.int .i64 r_5.1) rfl nle rfl <| s_q (.bool r_5.2) rfl nle rfl <| s_mov (.int .i64 r_5.1) rfl <| s_mov (.bool r_5.2) rfl <| w_done <| k_seq <| awp_seq <| w_blk <| awp_seq <| w_reg <| s_mov (.bool r_5.2) rfl <| s_mov (.bool r_5.2) rfl <| w_done <| k_seq <| ?_
 rcases oi hf with ⟨c7, hf⟩ | ⟨c7, hf⟩
 ·refine w_condt rfl c7 <| awp_seq <| w_reg <| s_mov (.own 0 0 r_3.length) rfl <| s_mov (.int .i64 r_5.1) rfl <| s_mov (.own 0 0 r_3.length) rfl <| s_mov (.int .i64 r_5.1) rfl <| s_mov (.int .i64 0) rfl <| w_done <| k_seq <| w_ret <| ?_; obtain rfl := os hf; exact r_fresh ⟨trivial, ⟨trivial, ⟨trivial, trivial⟩⟩⟩ rfl (by decide) (.tup (.cons (.of_eq (congrArg (AV.lst _) (tk (enc := encGLock) r_3))) (.cons (.refl _) (.cons (.refl _) .nil))))
 ·refine w_condf rfl (bf c7) <| awp_seq <| w_reg <| s_mov (.own 0 0 r_3.length) rfl <| s_dof (o_lenown rfl rfl) fun hl8 => s_q (.bool ((r_3.length : Int) == 6)) rfl rfl rfl <| s_mov (.bool ((r_3.length : Int) == 6)) rfl <| w_done <| k_seq <| ?_
  rcases oi hf with ⟨c9, hf⟩ | ⟨c9, hf⟩
  ·refine w_condt rfl c9 <| awp_seq <| w_reg <| s_mov (.own 0 0 r_3.length) rfl <| s_mov (.own 0 0 r_3.length) rfl <| s_mov (.int .i64 0) rfl <| s_mov (.int .i64 7) rfl <| w_done <| k_seq <| w_ret <| ?_; obtain rfl := os hf; exact r_fresh ⟨trivial, ⟨trivial, ⟨trivial, trivial⟩⟩⟩ rfl (by decide) (.tup (.cons (.of_eq (congrArg (AV.lst _) (tk (enc := encGLock) r_3))) (.cons (.refl _) (.cons (.refl _) .nil))))
  ·refine w_condf rfl (bf c9) <| w_skip <| k_blk <| k_seq <| awp_seq <| w_reg <| ?_
   obtain ⟨r_10, er11, hf⟩ := ob hf
   refine s_mov (.own 0 0 r_3.length) rfl <| s_mov (.int .i64 r_5.1) rfl <| s_mov (.str name_2) rfl <| s_q (.agg [(.str name_2), .nil]) rfl ⟨⟨rfl, nle, trivial⟩, trivial⟩ rfl <| ?_; refine s_do (o_bslice (j := 1) (as' := [(encGLock (⟨name_2, []⟩ : GLock))]) rfl (fun _ => by decide) ⟨rfl, trivial⟩ (.cons (.agg (.cons (.refl _) (.cons (.nil _) .nil))) .nil) rfl rfl rfl) ?_; refine s_do (o_callh (v := (.own 2 0 r_10.length)) (h2 := [.dead, .dead, .row 2 (r_10.map encGLock)]) [] [0, 1] (fun _ => rfl) (w_slices_Insert_impl_Lock_impl_Lock_h0 _ _ _ _ er11) rfl (.cons (.refl _) (.cons (.refl _) (.cons (.of_eq (congrArg (AV.own _ 0) (by simp))) .nil))) (.refl _) rfl rfl) ?_; refine s_mov (.int .i64 r_5.1) rfl <| s_mov (.own 2 0 r_10.length) rfl <| ?_
   refine s_mov (.int .i64 r_5.1) rfl <| s_mov (.int .i64 0) rfl <| w_done <| k_seq <| w_ret <| ?_; obtain rfl := os hf; exact r_fresh ⟨trivial, ⟨trivial, ⟨trivial, trivial⟩⟩⟩ rfl (by decide) (.tup (.cons (.of_eq (congrArg (AV.lst _) (tk (enc := encGLock) r_10))) (.cons (.refl _) (.cons (.refl _) .nil))))

/- slices.Index[[]int,int] -/
def c185_h0 : ACode :=
 (.seq (.reg (tm 4 (.c (.int .i64 0)) .done))
 (.seq (.seq (.reg (tm 6 (.t 0) (tq 7 (.len (.t 6)) (tm 8 (.c (.int .i64 0)) .done))))
 (.block 0 (.loop (.seq (.reg (tq 9 (.bin .lss (.t 8) (.t 7)) .done))
 (.seq (.cond (.t 9) .skip
 (.exit 0))
 (.seq (.block 1 (.seq (.reg (tm 10 (.t 8) (tm 5 (.t 10) .done)))
 (.seq (.reg (tm 11 (.t 1) (tm 12 (.t 0) (tm 13 (.t 5) (tq 14 (.iaddr 1 (.t 12) (.t 13)) (tq 15 (.load 1 false (.t 14)) (tq 16 (.bin .eql (.t 11) (.t 15)) .done)))))))
 (.cond (.t 16) (.seq (.reg (tm 17 (.t 5) (tm 4 (.t 17) .done)))
 .ret)
 .skip))))
 (.reg (tq 18 (.bin .add (.t 8) (.c (.int .i64 1))) (tm 8 (.t 18) .done)))))))))
 (.cut (.seq (.reg (tq 4 (.mov (.c (.int .i64 (-1)))) .done))
 .ret))))
theorem fc185_h0 : fcomp Try.prog Try.f185 = some (c185_h0.erase, [.mov (.t 4)], 19) := by kernel_rfl
def slices_Index_int_int_h0_L1 (s_1 : (List Int)) (v_2 : Int) : List Int → Nat → Option (Fl Int Unit)
  | [], s8_15 =>
    some (.go ())
  | x_28 :: xs, s8_15 =>
    if s8_15 < s_1.length then
    if (v_2 == x_28) then
    some (.ret (s8_15 : Int))
    else
    slices_Index_int_int_h0_L1 s_1 v_2 xs (s8_15 + 1)
    else none

def slices_Index_int_int_h0 (s_1 : (List Int)) (v_2 : Int) : Option Int :=
    (slices_Index_int_int_h0_L1 s_1 v_2 s_1 0).bind fun q => (match q with
    | .ret r => some r
    | .go _ =>
    some (-1))
theorem w_slices_Index_int_int_h0 (s_1 : (List Int)) (v_2 : Int) (r : Int) (hf : slices_Index_int_int_h0 s_1 v_2 = some r) : CallHeap Try.prog ⟨true, true⟩ 185 [(.own 0 0 s_1.length), (.int .i64 v_2)] [.row 1 (s_1.map encI)] (.int .i64 r) [.row 1 (s_1.map encI)] := by
 refine CallHeap.of_awp mixed Try.func185 fc185_h0 nle ?_; rw [argT_eq]; unfold slices_Index_int_int_h0 at hf; unfold c185_h0; refine (show awp Try.prog ⟨true, true⟩ 1 _ (ofL [(0, (.own 0 0 s_1.length)), (1, (.int .i64 v_2))]) [.row 1 (s_1.map encI)] _ from ?_); refine awp_seq <| w_reg <| s_mov (.int .i64 0) rfl <| w_done <| k_seq <| awp_seq <| awp_seq <| w_reg <| s_mov (.own 0 0 s_1.length) rfl <| s_dof (o_lenown rfl rfl) fun hl3 => s_mov (.int .i64 0) rfl <| w_done <| k_seq <| ?_
 obtain ⟨p21, hb1, hf⟩ := ob hf
 refine awp_cutx (X := {q : Unit // p21 = .go q}) (fun q => ([], [.row 1 (s_1.map encI)])) ?_ ?_
 ·refine awp_loop (X := {q : Nat // slices_Index_int_int_h0_L1 s_1 v_2 (s_1.drop q) q = some p21}) (fun q => ([(0, (.own 0 0 s_1.length)), (1, (.int .i64 v_2)), (7, (.int .i64 (s_1.length : Int))), (8, (.int .i64 (q.1 : Int)))], [.row 1 (s_1.map encI)])) (fun q => s_1.length - q.1) ⟨0, hb1⟩ ⟨[], [0], _, _, rfl, rfl, ⟨.refl _, ⟨.refl _, ⟨.refl _, ⟨.refl _, trivial⟩⟩⟩⟩, (.refl _)⟩ ?_
  rintro ⟨s8_15, hc1⟩
  have hc1 : slices_Index_int_int_h0_L1 s_1 v_2 (s_1.drop s8_15) s8_15 = some p21 := hc1
  refine (show awp Try.prog ⟨true, true⟩ 1 _ (ofL [(0, (.own 0 0 s_1.length)), (1, (.int .i64 v_2)), (7, (.int .i64 (s_1.length : Int))), (8, (.int .i64 (s8_15 : Int)))]) [.row 1 (s_1.map encI)] _ from ?_)
  rcases dropc s_1 s8_15 with ⟨hie24, hd27⟩ | ⟨hlt22, x_28, hx23, hd27⟩
  ·rw [hd27, slices_Index_int_int_h0_L1.eq_1] at hc1
   have hq26 := dlf hie24
   refine awp_seq <| w_reg <| s_q (.bool (decide ((s8_15 : Int) < (s_1.length : Int)))) rfl (.of rfl trivial) rfl <| w_done <| k_seq <| awp_seq <| w_condf rfl hq26 <| w_exit <| k_seqx <| k_loopx <| k_blkx <| ?_; obtain rfl := os hc1; exact k_cutn ⟨_, rfl⟩ ⟨[], [0], _, _, rfl, rfl, trivial, (.refl _)⟩
  ·rw [hd27, slices_Index_int_int_h0_L1.eq_2] at hc1
   have hq26 := dlt hlt22
   refine awp_seq <| w_reg <| s_q (.bool (decide ((s8_15 : Int) < (s_1.length : Int)))) rfl (.of rfl trivial) rfl <| w_done <| k_seq <| awp_seq <| w_condt rfl hq26 <| w_skip <| k_seq <| awp_seq <| w_blk <| awp_seq <| w_reg <| s_mov (.int .i64 (s8_15 : Int)) rfl <| s_mov (.int .i64 (s8_15 : Int)) rfl <| w_done <| k_seq <| awp_seq <| w_reg <| ?_
   obtain ⟨g29, hc1⟩ := og hc1
   refine s_mov (.int .i64 v_2) rfl <| s_mov (.own 0 0 s_1.length) rfl <| s_mov (.int .i64 (s8_15 : Int)) rfl <| s_do (o_iaddrownn rfl rfl g29 rfl rfl) <| s_do (o_loadrowm (enc := encI) (v := (.int .i64 x_28)) rfl rfl hx23 ⟨rfl, rfl⟩ rfl rfl) <| s_q (.bool (v_2 == x_28)) rfl (.of rfl trivial) rfl <| w_done <| k_seq <| ?_
   rcases oi hc1 with ⟨c30, hc1⟩ | ⟨c30, hc1⟩
   ·refine w_condt rfl c30 <| awp_seq <| w_reg <| s_mov (.int .i64 (s8_15 : Int)) rfl <| s_mov (.int .i64 (s8_15 : Int)) rfl <| w_done <| k_seq <| w_ret <| ?_; obtain rfl := os hc1; obtain rfl := os hf; exact r_heap [] [0] rfl ⟨.of trivial trivial, trivial⟩ rfl (.refl _) (.refl _)
   ·refine w_condf rfl (bf c30) <| w_skip <| k_blk <| k_seq <| w_reg <| s_q (.int .i64 (w64 ((s8_15 : Int) + 1))) rfl (.of rfl trivial) rfl <| s_mov (.int .i64 (w64 ((s8_15 : Int) + 1))) rfl <| w_done <| ?_; exact k_loopn ⟨(s8_15 + 1), hc1⟩ (mul hlt22) ⟨[], [0], _, _, rfl, rfl, ⟨.refl _, ⟨.refl _, ⟨.refl _, ⟨.of_eq (congrArg (AV.int _) (w64_incr hlt22 hl3)), trivial⟩⟩⟩⟩, (.refl _)⟩
 ·rintro ⟨_, rfl⟩
  refine awp_seq <| w_reg <| s_mov (.int .i64 (-1)) rfl <| w_done <| k_seq <| w_ret <| ?_; obtain rfl := os hf; exact r_heap [] [0] rfl ⟨.of trivial trivial, trivial⟩ rfl (.refl _) (.refl _)

/- slices.Contains[[]int,int] -/
def c100_h0 : ACode :=
 (.seq (.reg (tm 4 (.c (.bool false)) .done))
 (.seq (.reg (tm 5 (.t 0) (tm 6 (.t 1) (tq 7 (.call 185 [(.t 5), (.t 6)]) (tq 8 (.bin .geq (.t 7) (.c (.int .i64 0))) (tm 4 (.t 8) .done))))))
 .ret))
theorem fc100_h0 : fcomp Try.prog Try.f100 = some (c100_h0.erase, [.mov (.t 4)], 9) := by kernel_rfl
def slices_Contains_int_int_h0 (s_1 : (List Int)) (v_2 : Int) : Option Bool :=
    (slices_Index_int_int_h0 s_1 v_2).bind fun r_3 =>
    some (decide (r_3 ≥ 0))
theorem w_slices_Contains_int_int_h0 (s_1 : (List Int)) (v_2 : Int) (r : Bool) (hf : slices_Contains_int_int_h0 s_1 v_2 = some r) : CallHeap Try.prog ⟨true, true⟩ 100 [(.own 0 0 s_1.length), (.int .i64 v_2)] [.row 1 (s_1.map encI)] (.bool r) [.row 1 (s_1.map encI)] := by
  refine CallHeap.of_awp mixed Try.func100 fc100_h0 nle ?_
  rw [argT_eq]
  unfold slices_Contains_int_int_h0 at hf
  unfold c100_h0
  refine (show awp Try.prog ⟨true, true⟩ 1 _ (ofL [(0, (.own 0 0 s_1.length)), (1, (.int .i64 v_2))]) [.row 1 (s_1.map encI)] _ from ?_)
  refine awp_seq ?_
  refine w_reg ?_
  refine s_do (o_mov (.bool false) rfl) ?_
  refine w_done ?_
  refine k_seq ?_
  refine awp_seq ?_
  refine w_reg ?_
  obtain ⟨r_3, er4, hf⟩ := ob hf
  refine s_do (o_mov (.own 0 0 s_1.length) rfl) ?_
  refine s_do (o_mov (.int .i64 v_2) rfl) ?_
  refine s_do (o_callh (v := (.int .i64 r_3)) (h2 := [.row 1 (s_1.map encI)]) [] [0] (fun _ => rfl) (w_slices_Index_int_int_h0 _ _ _ er4) rfl (.refl _) (.refl _) rfl rfl) ?_
  refine s_do (o_q (.bool (decide (r_3 ≥ 0))) rfl (.of rfl trivial) rfl) ?_
  refine s_do (o_mov (.bool (decide (r_3 ≥ 0))) rfl) ?_
  refine w_done ?_
  refine k_seq ?_
  refine w_ret ?_
  obtain rfl := os hf
  exact r_heap [] [0] rfl ⟨.of trivial trivial, trivial⟩ rfl (.refl _) (.refl _)

/- impl.TakeLock -/
def c43 : ACode :=
 (.seq (.reg (tm 6 (.c .nil) (tm 7 (.c (.bool false)) (tm 8 (.c (.int .i64 0)) .done))))
 (.seq (.seq (.reg (tm 13 (.t 0) (tm 14 (.t 1) (tm 15 (.t 2) (tq 16 (.call 111 [(.t 13), (.t 14), (.t 15)]) (tm 9 (.t 16) .done))))))
 (.seq (.reg (tm 17 (.t 9) (tq 18 (.bin .neq (.t 17) (.c (.int .i64 0))) .done)))
 (.cond (.t 18) (.seq (.reg (tm 19 (.t 9) (tm 6 (.c .nil) (tm 7 (.c (.bool false)) (tm 8 (.t 19) .done)))))
 .ret)
 .skip)))
 (.seq (.reg (tm 21 (.t 0) (tm 22 (.t 2) (tq 23 (.call 117 [(.t 21), (.t 22)]) (tm 20 (.t 23) (tq 24 (.extract 0 (.t 20)) (tq 25 (.extract 1 (.t 20)) (tq 26 (.extract 2 (.t 20)) (tm 10 (.t 24) (tm 11 (.t 25) (tm 12 (.t 26) .done)))))))))))
 (.seq (.block 0 (.seq (.reg (tm 28 (.t 12) (tq 29 (.bin .neq (.t 28) (.c (.int .i64 0))) (tm 27 (.t 29) .done))))
 (.cond (.t 27) (.seq (.reg (tm 30 (.t 10) (tm 31 (.t 12) (tm 6 (.t 30) (tm 7 (.c (.bool false)) (tm 8 (.t 31) .done))))))
 .ret)
 (.seq (.rev (.reg (tm 33 (.t 10) (tm 34 (.t 11) (tq 35 (.iaddr 2 (.t 33) (.t 34)) (tq 36 (.faddr 1 (.t 35)) (tq 37 (.load 1 false (.t 36)) (tm 38 (.t 1) (tq 39 (.call 100 [(.t 37), (.t 38)]) (tm 32 (.t 39) .done))))))))))
 (.cond (.t 32) (.seq (.reg (tm 40 (.t 10) (tm 6 (.t 40) (tm 7 (.c (.bool false)) (tm 8 (.c (.int .i64 8)) .done)))))
 (.rev .ret))
 .skip)))))
 (.seq (.reg (tm 41 (.t 10) (tm 42 (.t 11) (tm 43 (.t 10) (tm 44 (.t 11) (tq 45 (.iaddr 2 (.t 43) (.t 44)) (tq 46 (.faddr 1 (.t 45)) (tq 47 (.load 1 false (.t 46)) (tm 48 (.t 1) (tq 49 (.bslice 1 [(.t 48)]) (tq 50 (.append 1 8 (.t 47) (.t 49)) (tq 51 (.iaddr 2 (.t 41) (.t 42)) (tq 52 (.faddr 1 (.t 51)) (.q ⟨none, none, .store 1 (.t 52) (.t 50)⟩
 .done))))))))))))))
 (.seq (.reg (tm 53 (.t 10) (tm 54 (.t 10) (tm 55 (.t 11) (tq 56 (.iaddr 2 (.t 54) (.t 55)) (tq 57 (.faddr 1 (.t 56)) (tq 58 (.load 1 false (.t 57)) (tq 59 (.len (.t 58)) (tq 60 (.bin .eql (.t 59) (.c (.int .i64 1))) (tm 6 (.t 53) (tm 7 (.t 60) (tm 8 (.c (.int .i64 0)) .done))))))))))))
 (.rev .ret)))))))
theorem fc43 : fcomp Try.prog Try.f43 = some (c43.erase, [.mov (.t 6), .mov (.t 7), .mov (.t 8)], 61) := by kernel_rfl
def impl_TakeLock (list_1 : (List GLock)) (session_2 : Int) (name_3 : Str) : Option ((List GLock) × Bool × Int) :=
    (impl_locksCode list_1 session_2 name_3).bind fun r_4 =>
    if (r_4 != 0) then
    some ([], false, r_4)
    else
    (impl_withLock list_1 name_3).bind fun r_7 =>
    if (r_7.2.2 != 0) then
    some (r_7.1, false, r_7.2.2)
    else
    ((r_7.1[(0 + r_7.2.1.toNat)]?)).bind fun x_11 =>
    if (0 : Int) ≤ r_7.2.1 ∧ r_7.2.1 < (r_7.1.length : Int) then
    (slices_Contains_int_int_h0 x_11.Queue session_2).bind fun r_14 =>
    if r_14 then
    some (r_7.1, false, 8)
    else
    if (0 : Int) ≤ r_7.2.1 ∧ r_7.2.1 < (r_7.1.length : Int) then
    if (x_11.Queue ++ [session_2]).length ≤ 2 ^ 30 then
    if (0 : Int) ≤ r_7.2.1 ∧ r_7.2.1 < (r_7.1.length : Int) then
    if (0 : Int) ≤ r_7.2.1 ∧ r_7.2.1 < (r_7.1.length : Int) then
    some (r_7.1.set (0 + r_7.2.1.toNat) (⟨x_11.Name, x_11.Queue ++ [session_2]⟩ : GLock), (((x_11.Queue ++ [session_2]).length : Int) == 1), 0)
    else none
    else none
    else none
    else none
    else none
theorem w_impl_TakeLock (list_1 : (List GLock)) (session_2 : Int) (name_3 : Str) (r : ((List GLock) × Bool × Int)) (hf : impl_TakeLock list_1 session_2 name_3 = some r) : CallOK Try.prog 43 .fresh [(.lst 2 (list_1.map encGLock)), (.int .i64 session_2), (.str name_3)] (.tup [(.lst 2 (r.1.map encGLock)), (.bool r.2.1), (.int .i64 r.2.2)]) := by
 refine CallOK.of_awp' (md := ⟨true, true⟩) (fun _ => rfl) (fun _ => rfl) (fun h => by cases h) mixed Try.func43 fc43 nle ?_; rw [argT_eq]; unfold impl_TakeLock at hf; unfold c43; refine (show awp Try.prog ⟨true, true⟩ 0 _ (ofL [(0, (.lst 2 (list_1.map encGLock))), (1, (.int .i64 session_2)), (2, (.str name_3))]) [] _ from ?_); refine awp_seq <| w_reg <| s_mov .nil rfl <| s_mov (.bool false) rfl <| s_mov (.int .i64 0) rfl <| w_done <| k_seq <| awp_seq <| awp_seq <| w_reg <| ?_
 obtain ⟨r_4, er5, hf⟩ := ob hf
 refine s_mov (.lst 2 (list_1.map encGLock)) rfl <| s_mov (.int .i64 session_2) rfl <| s_mov (.str name_3) rfl <| s_do (o_call (w_impl_locksCode _ _ _ _ er5) rfl (.refl _) rfl) <| s_mov (.int .i64 r_4) rfl <| w_done <| k_seq <| awp_seq <| w_reg <| s_mov (.int .i64 r_4) rfl <| s_q (.bool (r_4 != 0)) rfl (.of rfl trivial) rfl <| w_done <| k_seq <| ?_
 rcases oi hf with ⟨c6, hf⟩ | ⟨c6, hf⟩
 ·refine w_condt rfl c6 <| awp_seq <| w_reg <| s_mov (.int .i64 r_4) rfl <| s_mov .nil rfl <| s_mov (.bool false) rfl <| s_mov (.int .i64 r_4) rfl <| w_done <| k_seq <| w_ret <| ?_; obtain rfl := os hf; exact r_fresh ⟨.of trivial trivial, ⟨.of trivial trivial, ⟨.of trivial trivial, trivial⟩⟩⟩ rfl (by decide) (.tup (.cons (.nil _) (.cons (.refl _) (.cons (.refl _) .nil))))
 ·refine w_condf rfl (bf c6) <| w_skip <| k_seq <| awp_seq <| w_reg <| ?_
  obtain ⟨r_7, er8, hf⟩ := ob hf
  refine s_mov (.lst 2 (list_1.map encGLock)) rfl <| s_mov (.str name_3) rfl <| s_do (o_callf (v := (.tup [(.own 0 0 r_7.1.length), (.int .i64 r_7.2.1), (.int .i64 r_7.2.2)])) (h' := [.row 2 (r_7.1.map encGLock)]) (w_impl_withLock _ _ _ er8) rfl (.refl _) (by simp only [openV, openVs, List.length_map, List.nil_append, List.append_nil, List.cons_append]; rfl)) <| s_mov (.tup [(.own 0 0 r_7.1.length), (.int .i64 r_7.2.1), (.int .i64 r_7.2.2)]) rfl <| s_q (.own 0 0 r_7.1.length) rfl (.of nle trivial) rfl <| s_q (.int .i64 r_7.2.1) rfl (.of nle trivial) rfl <| s_q (.int .i64 r_7.2.2) rfl (.of nle trivial) rfl <| s_mov (.own 0 0 r_7.1.length) rfl <| s_mov (.int .i64 r_7.2.1) rfl <| s_mov (.int .i64 r_7.2.2) rfl <| ?_
  refine w_done <| k_seq <| awp_seq <| w_blk <| awp_seq <| w_reg <| s_mov (.int .i64 r_7.2.2) rfl <| s_q (.bool (r_7.2.2 != 0)) rfl (.of rfl trivial) rfl <| s_mov (.bool (r_7.2.2 != 0)) rfl <| w_done <| k_seq <| ?_
  rcases oi hf with ⟨c9, hf⟩ | ⟨c9, hf⟩
  ·refine w_condt rfl c9 <| awp_seq <| w_reg <| s_mov (.own 0 0 r_7.1.length) rfl <| s_mov (.int .i64 r_7.2.2) rfl <| s_mov (.own 0 0 r_7.1.length) rfl <| s_mov (.bool false) rfl <| s_mov (.int .i64 r_7.2.2) rfl <| w_done <| k_seq <| w_ret <| ?_; obtain rfl := os hf; exact r_fresh ⟨.of trivial trivial, ⟨.of trivial trivial, ⟨.of trivial trivial, trivial⟩⟩⟩ rfl (by decide) (.tup (.cons (.of_eq (congrArg (AV.lst _) (tk (enc := encGLock) r_7.1))) (.cons (.refl _) (.cons (.refl _) .nil))))
  ·refine w_condf rfl (bf c9) <| awp_seq <| ?_
   obtain ⟨x_11, ex12, hf⟩ := ob hf
   refine w_opn (o := 0) (i := (0 + r_7.2.1.toNat)) (el := (.agg [(.str x_11.Name), (.lst 1 (x_11.Queue.map encI))])) (el2 := (.agg [(.str x_11.Name), (.own 1 0 x_11.Queue.length)])) (xs := [.row 1 (x_11.Queue.map encI)]) rfl rfl rfl ex12 rfl (by simp only [AV.cells, openVs, openV, List.length_map, List.nil_append, List.append_nil, List.cons_append]; rfl) <| w_reg <| ?_
   obtain ⟨g13, hf⟩ := og hf
   obtain ⟨r_14, er15, hf⟩ := ob hf
   refine s_mov (.own 0 0 r_7.1.length) rfl <| s_mov (.int .i64 r_7.2.1) rfl <| s_do (o_iaddrx rfl rfl g13.1 g13.2 rfl rfl) <| s_do (o_faddrx rfl rfl) <| s_do (o_loadx rfl rfl nle rfl) <| s_mov (.int .i64 session_2) rfl <| ?_; refine s_do (o_callh (v := (.bool r_14)) (h2 := [.rowx 2 (r_7.1.map encGLock) (0 + r_7.2.1.toNat) (.agg [(.str x_11.Name), (.own 1 0 x_11.Queue.length)]), .row 1 (x_11.Queue.map encI)]) [] [1] (fun _ => rfl) (w_slices_Contains_int_int_h0 _ _ _ er15) rfl (.refl _) (.refl _) rfl rfl) ?_; refine s_mov (.bool r_14) rfl <| w_done <| k_seq <| ?_
   rcases oi hf with ⟨c16, hf⟩ | ⟨c16, hf⟩
   ·refine w_condt rfl c16 <| awp_seq <| w_reg <| s_mov (.own 0 0 r_7.1.length) rfl <| s_mov (.own 0 0 r_7.1.length) rfl <| s_mov (.bool false) rfl <| s_mov (.int .i64 8) rfl <| w_done <| k_seq <| w_cls0 (o := 0) (h2 := [.rowx 2 (r_7.1.map encGLock) (0 + r_7.2.1.toNat) (.agg [(.str x_11.Name), (.own 1 0 x_11.Queue.length)]), .dead]) ex12 rfl rfl rfl (.agg (.cons (.refl _) (.cons (.of_eq (congrArg (AV.lst _) (tk (enc := encI) x_11.Queue))) .nil))) rfl <| w_ret <| ?_; obtain rfl := os hf; exact r_fresh ⟨.of trivial trivial, ⟨.of trivial trivial, ⟨.of trivial trivial, trivial⟩⟩⟩ rfl (by decide) (.tup (.cons (.of_eq (congrArg (AV.lst _) (tk (enc := encGLock) r_7.1))) (.cons (.refl _) (.cons (.refl _) .nil))))
   ·refine w_condf rfl (bf c16) <| w_skip <| k_blk <| k_seq <| awp_seq <| w_reg <| s_mov (.own 0 0 r_7.1.length) rfl <| s_mov (.int .i64 r_7.2.1) rfl <| s_mov (.own 0 0 r_7.1.length) rfl <| s_mov (.int .i64 r_7.2.1) rfl <| ?_
    obtain ⟨g17, hf⟩ := og hf
    refine s_do (o_iaddrx rfl rfl g17.1 g17.2 rfl rfl) <| s_do (o_faddrx rfl rfl) <| s_do (o_loadx rfl rfl nle rfl) <| s_mov (.int .i64 session_2) rfl <| ?_; refine s_do (o_bslice (j := 2) (as' := [(.int .i64 session_2)]) rfl (fun _ => by decide) ⟨rfl, trivial⟩ (.refl _) rfl rfl rfl) ?_
    obtain ⟨g18, hf⟩ := og hf
    refine s_do (o_appendd (j := 3) (L := ((x_11.Queue ++ [session_2]).map encI)) (len := (x_11.Queue ++ [session_2]).length) rfl false rfl rfl (fun _ => flo (enc := encI) (fun _ => rfl) [session_2] _) (fun _ _ h => (ownl (show AV.own _ _ _ = AV.lst _ _ from h)).elim) (by decide) (apoc (enc := encI) x_11.Queue [session_2] _ (by rfl)) (by simp <;> omega) g18 rfl rfl) ?_
    obtain ⟨g19, hf⟩ := og hf
    refine s_do (o_iaddrx rfl rfl g19.1 g19.2 rfl rfl) <| s_do (o_faddrx rfl rfl) <| s_do0 (o_storex (v := (.own 3 0 ((x_11.Queue ++ [session_2]).length))) (y' := (.agg [(.str x_11.Name), (.own 3 0 ((x_11.Queue ++ [session_2]).length))])) rfl rfl rfl trivial ⟨rfl, nle⟩ ⟨⟨rfl, trivial⟩, trivial⟩ rfl) <| w_done <| k_seq <| awp_seq <| w_reg <| ?_
    obtain ⟨g20, hf⟩ := og hf
    refine s_mov (.own 0 0 r_7.1.length) rfl <| s_mov (.own 0 0 r_7.1.length) rfl <| s_mov (.int .i64 r_7.2.1) rfl <| s_do (o_iaddrx rfl rfl g20.1 g20.2 rfl rfl) <| s_do (o_faddrx rfl rfl) <| s_do (o_loadx rfl rfl nle rfl) <| s_dof (o_lenown rfl rfl) fun hl21 => s_q (.bool (((x_11.Queue ++ [session_2]).length : Int) == 1)) rfl (.of rfl trivial) rfl <| s_mov (.own 0 0 r_7.1.length) rfl <| s_mov (.bool (((x_11.Queue ++ [session_2]).length : Int) == 1)) rfl <| s_mov (.int .i64 0) rfl <| w_done <| k_seq <| w_cls (o := 0) (y := (⟨x_11.Name, x_11.Queue ++ [session_2]⟩ : GLock)) (h2 := [.rowx 2 (r_7.1.map encGLock) (0 + r_7.2.1.toNat) (.agg [(.str x_11.Name), (.own 3 0 ((x_11.Queue ++ [session_2]).length))]), .dead, .row 1 ([session_2].map encI), .dead]) rfl rfl rfl (.agg (.cons (.refl _) (.cons (.of_eq (congrArg (AV.lst _) (tk (enc := encI) (x_11.Queue ++ [session_2])))) .nil))) rfl <| ?_
    refine w_ret ?_; obtain rfl := os hf
    exact r_fresh ⟨.of trivial trivial, ⟨.of trivial trivial, ⟨.of trivial trivial, trivial⟩⟩⟩ rfl (by decide) (.tup (.cons (.of_eq (congrArg (AV.lst _) (tkl (enc := encGLock) (a := r_7.1.set (0 + r_7.2.1.toNat) (⟨x_11.Name, x_11.Queue ++ [session_2]⟩ : GLock)) (by first | (simp; done) | (simp <;> omega))))) (.cons (.refl _) (.cons (.refl _) .nil))))

/- spec.l00Letter -/
def c273 : ACode :=
 (.seq (.reg (tm 2 (.c (.bool false)) .done))
 (.seq (.reg (tm 3 (.t 0) (tq 4 (.bin .geq (.t 3) (.c (.int .u8 97))) (tm 5 (.t 4) (tg 6 5 true (.mov (.t 0)) (tg 7 5 true (.bin .leq (.t 6) (.c (.int .u8 122))) (tq 8 (.pick (.t 5) (.t 7) (.c (.bool false))) (tm 9 (.t 8) (tg 10 9 false (.mov (.t 0)) (tg 11 9 false (.bin .geq (.t 10) (.c (.int .u8 65))) (tg 12 9 false (.mov (.t 11)) (tg 13 12 true (.mov (.t 0)) (tg 14 12 true (.bin .leq (.t 13) (.c (.int .u8 90))) (tg 15 9 false (.pick (.t 12) (.t 14) (.c (.bool false))) (tq 16 (.pick (.t 9) (.c (.bool true)) (.t 15)) (tm 17 (.t 16) (tg 18 17 false (.mov (.t 0)) (tg 19 17 false (.bin .eql (.t 18) (.c (.int .u8 95))) (tq 20 (.pick (.t 17) (.c (.bool true)) (.t 19)) (tm 2 (.t 20) .done))))))))))))))))))))
 .ret))
theorem fc273 : fcomp Try.prog Try.f273 = some (c273.erase, [.mov (.t 2)], 21) := by kernel_rfl
def spec_l00Letter (c_1 : Int) : Option Bool :=
    some (bif (bif (bif (decide (c_1 ≥ 97)) then (decide (c_1 ≤ 122)) else false) then true else (bif (decide (c_1 ≥ 65)) then (decide (c_1 ≤ 90)) else false)) then true else (c_1 == 95))
theorem w_spec_l00Letter (c_1 : Int) (r : Bool) (hf : spec_l00Letter c_1 = some r) : CallOK Try.prog 273 .flat [(.int .u8 c_1)] (.bool r) := by
 refine CallOK.of_awp mixed Try.func273 fc273 nle ?_; rw [argT_eq]; unfold spec_l00Letter at hf; unfold c273; refine (show awp Try.prog false 0 _ (ofL [(0, (.int .u8 c_1))]) [] _ from ?_); refine awp_seq <| w_reg <| s_mov (.bool false) rfl <| w_done <| k_seq <| awp_seq <| w_reg <| s_mov (.int .u8 c_1) rfl <| s_q (.bool (decide (c_1 ≥ 97))) rfl rfl rfl <| s_mov (.bool (decide (c_1 ≥ 97))) rfl <| ?_; refine s_g (v := (decide (c_1 ≥ 97))) (.int .u8 c_1) rfl (fun hv => by (try simp only [gs_on hv]); exact ⟨rfl, trivial, rfl⟩) ?_; refine s_g (v := (decide (c_1 ≥ 97))) (.bool (decide (c_1 ≤ 122))) rfl (fun hv => by (try simp only [gs_on hv]); exact ⟨rfl, rfl, rfl⟩) ?_; refine s_pick (x := (decide (c_1 ≤ 122))) (y := false) rfl (fun hv => by (try simp only [gs_on hv]); rfl) (fun hv => by (try simp only [gs_on hv]); rfl) ?_
 refine s_mov (.bool (bif (decide (c_1 ≥ 97)) then (decide (c_1 ≤ 122)) else false)) rfl ?_; refine s_g (v := (bif (decide (c_1 ≥ 97)) then (decide (c_1 ≤ 122)) else false)) (.int .u8 c_1) rfl (fun hv => by (try simp only [gs_on hv]); exact ⟨rfl, trivial, rfl⟩) ?_; refine s_g (v := (bif (decide (c_1 ≥ 97)) then (decide (c_1 ≤ 122)) else false)) (.bool (decide (c_1 ≥ 65))) rfl (fun hv => by (try simp only [gs_on hv]); exact ⟨rfl, rfl, rfl⟩) ?_; refine s_g (v := (bif (decide (c_1 ≥ 97)) then (decide (c_1 ≤ 122)) else false)) (.bool (decide (c_1 ≥ 65))) rfl (fun hv => by (try simp only [gs_on hv]); exact ⟨rfl, trivial, rfl⟩) ?_; refine s_gg (v1 := (bif (decide (c_1 ≥ 97)) then (decide (c_1 ≤ 122)) else false)) (b1 := false) (v2 := (decide (c_1 ≥ 65))) (.int .u8 c_1) rfl (fun hv hw => by (try simp only [gs_on hv, gs_on hw]); exact ⟨rfl, trivial, rfl⟩) ?_
 refine s_gg (v1 := (bif (decide (c_1 ≥ 97)) then (decide (c_1 ≤ 122)) else false)) (b1 := false) (v2 := (decide (c_1 ≥ 65))) (.bool (decide (c_1 ≤ 90))) rfl (fun hv hw => by (try simp only [gs_on hv, gs_on hw]); exact ⟨rfl, rfl, rfl⟩) ?_; refine s_gp (v1 := (bif (decide (c_1 ≥ 97)) then (decide (c_1 ≤ 122)) else false)) (b1 := false) (v2 := (decide (c_1 ≥ 65))) (x := (decide (c_1 ≤ 90))) (y := false) rfl (fun hv => by (try simp only [gs_on hv]); rfl) (fun hv hw => by (try simp only [gs_on hv, gs_on hw]); rfl) (fun hv hw => by (try simp only [gs_on hv, gs_on hw]); rfl) ?_; refine s_pick (x := true) (y := (bif (decide (c_1 ≥ 65)) then (decide (c_1 ≤ 90)) else false)) rfl (fun hv => by (try simp only [gs_on hv]); rfl) (fun hv => by (try simp only [gs_on hv]); rfl) ?_
 refine s_mov (.bool (bif (bif (decide (c_1 ≥ 97)) then (decide (c_1 ≤ 122)) else false) then true else (bif (decide (c_1 ≥ 65)) then (decide (c_1 ≤ 90)) else false))) rfl ?_; refine s_g (v := (bif (bif (decide (c_1 ≥ 97)) then (decide (c_1 ≤ 122)) else false) then true else (bif (decide (c_1 ≥ 65)) then (decide (c_1 ≤ 90)) else false))) (.int .u8 c_1) rfl (fun hv => by (try simp only [gs_on hv]); exact ⟨rfl, trivial, rfl⟩) ?_; refine s_g (v := (bif (bif (decide (c_1 ≥ 97)) then (decide (c_1 ≤ 122)) else false) then true else (bif (decide (c_1 ≥ 65)) then (decide (c_1 ≤ 90)) else false))) (.bool (c_1 == 95)) rfl (fun hv => by (try simp only [gs_on hv]); exact ⟨rfl, rfl, rfl⟩) ?_; refine s_pick (x := true) (y := (c_1 == 95)) rfl (fun hv => by (try simp only [gs_on hv]); rfl) (fun hv => by (try simp only [gs_on hv]); rfl) ?_
 refine s_mov (.bool (bif (bif (bif (decide (c_1 ≥ 97)) then (decide (c_1 ≤ 122)) else false) then true else (bif (decide (c_1 ≥ 65)) then (decide (c_1 ≤ 90)) else false)) then true else (c_1 == 95))) rfl <| w_done <| k_seq <| w_ret <| ?_; obtain rfl := os hf; exact r_flat ⟨trivial, trivial⟩ rfl (.refl _)

/- spec.l00Digit -/
def c274 : ACode :=
 (.seq (.reg (tm 2 (.c (.bool false)) .done))
 (.seq (.reg (tm 3 (.t 0) (tq 4 (.bin .geq (.t 3) (.c (.int .u8 48))) (tm 5 (.t 4) (tg 6 5 true (.mov (.t 0)) (tg 7 5 true (.bin .leq (.t 6) (.c (.int .u8 57))) (tq 8 (.pick (.t 5) (.t 7) (.c (.bool false))) (tm 2 (.t 8) .done))))))))
 .ret))
theorem fc274 : fcomp Try.prog Try.f274 = some (c274.erase, [.mov (.t 2)], 9) := by kernel_rfl
def spec_l00Digit (c_1 : Int) : Option Bool :=
    if (decide (c_1 ≥ 48)) then
    some (decide (c_1 ≤ 57))
    else
    some false
theorem w_spec_l00Digit (c_1 : Int) (r : Bool) (hf : spec_l00Digit c_1 = some r) : CallOK Try.prog 274 .flat [(.int .u8 c_1)] (.bool r) := by
 refine CallOK.of_awp mixed Try.func274 fc274 nle ?_; rw [argT_eq]; unfold spec_l00Digit at hf; unfold c274; refine (show awp Try.prog false 0 _ (ofL [(0, (.int .u8 c_1))]) [] _ from ?_); refine awp_seq <| w_reg <| s_mov (.bool false) rfl <| w_done <| k_seq <| awp_seq <| w_reg <| ?_
 rcases oi hf with ⟨c2, hf⟩ | ⟨c2, hf⟩
 ·refine s_mov (.int .u8 c_1) rfl <| s_q (.bool (decide (c_1 ≥ 48))) rfl rfl rfl <| s_mov (.bool (decide (c_1 ≥ 48))) rfl <| s_lit (s := 5) (b := true) rfl c2 <| s_on rfl <| s_mov (.int .u8 c_1) rfl <| s_on rfl <| s_q (.bool (decide (c_1 ≤ 57))) rfl rfl rfl <| s_q (.bool (decide (c_1 ≤ 57))) rfl trivial rfl <| s_mov (.bool (decide (c_1 ≤ 57))) rfl <| w_done <| k_seq <| w_ret <| ?_; obtain rfl := os hf; exact r_flat ⟨trivial, trivial⟩ rfl (.refl _)
 ·refine s_mov (.int .u8 c_1) rfl <| s_q (.bool (decide (c_1 ≥ 48))) rfl rfl rfl <| s_mov (.bool (decide (c_1 ≥ 48))) rfl <| s_lit (s := 5) (b := false) rfl (bf c2) <| s_off rfl rfl <| s_off rfl rfl <| s_q (.bool false) rfl trivial rfl <| s_mov (.bool false) rfl <| w_done <| k_seq <| w_ret <| ?_; obtain rfl := os hf; exact r_flat ⟨trivial, trivial⟩ rfl (.refl _)

/- spec.l00Word -/
def c252 : ACode :=
 (.seq (.reg (tm 2 (.c (.bool false)) .done))
 (.seq (.seq (.reg (tm 4 (.t 0) (tq 5 (.lenS (.t 4)) (tq 6 (.bin .lss (.t 5) (.c (.int .i64 1))) (tm 7 (.t 6) (tg 8 7 false (.mov (.t 0)) (tg 9 7 false (.lenS (.t 8)) (tg 10 7 false (.bin .gtr (.t 9) (.c (.int .i64 40))) (tq 11 (.pick (.t 7) (.c (.bool true)) (.t 10)) (tm 12 (.t 11) (tg 13 12 false (.mov (.t 0)) (tg 14 12 false (.idxs (.t 13) (.c (.int .i64 0))) (tg 15 12 false (.call 273 [(.t 14)]) (tg 16 12 false (.not (.t 15)) (tq 17 (.pick (.t 12) (.c (.bool true)) (.t 16)) .done)))))))))))))))
 (.cut (.cond (.t 17) (.seq (.reg (tm 2 (.c (.bool false)) .done))
 .ret)
 .skip)))
 (.seq (.seq (.reg (tm 3 (.c (.int .i64 1)) .done))
 (.block 0 (.loop (.seq (.seq (.reg (tm 18 (.t 3) (tm 19 (.t 0) (tq 20 (.lenS (.t 19)) (tq 21 (.bin .lss (.t 18) (.t 20)) .done)))))
 (.cond (.t 21) .skip
 (.exit 0)))
 (.seq (.block 1 (.seq (.reg (tm 24 (.t 0) (tm 25 (.t 3) (tq 26 (.idxs (.t 24) (.t 25)) (tq 27 (.call 273 [(.t 26)]) (tq 28 (.not (.t 27)) (tm 29 (.t 28) (tg 30 29 true (.mov (.t 0)) (tg 31 29 true (.mov (.t 3)) (tg 32 29 true (.idxs (.t 30) (.t 31)) (tg 33 29 true (.call 274 [(.t 32)]) (tg 34 29 true (.not (.t 33)) (tq 35 (.pick (.t 29) (.t 34) (.c (.bool false))) .done)))))))))))))
 (.cut (.cond (.t 35) (.seq (.reg (tm 2 (.c (.bool false)) .done))
 .ret)
 .skip))))
 (.reg (tm 22 (.t 3) (tq 23 (.bin .add (.t 22) (.c (.int .i64 1))) (tm 3 (.t 23) .done)))))))))
 (.cut (.seq (.reg (tm 2 (.c (.bool true)) .done))
 .ret)))))
theorem fc252 : fcomp Try.prog Try.f252 = some (c252.erase, [.mov (.t 2)], 36) := by kernel_rfl
def spec_l00Word_L1  : List UInt8 → Option (Fl Bool Unit)
  | [] =>
    some (.go ())
  | x_98 :: xs =>
    (((spec_l00Letter (x_98.toNat : Int)).bind fun r_108 =>
    if (!r_108) then
    (spec_l00Digit (x_98.toNat : Int)).bind fun r_111 =>
    some (!r_111)
    else
    some false : Option Bool)).bind fun s35_106 =>
    if s35_106 then
    some (.ret false)
    else
    spec_l00Word_L1 xs 

def spec_l00Word (t_1 : Str) : Option Bool :=
    ((if (bif (decide ((t_1.length : Int) < 1)) then true else (decide ((t_1.length : Int) > 40))) then
    some true
    else
    (idx t_1 0).bind fun b_14 =>
    (spec_l00Letter (b_14.toNat : Int)).bind fun r_16 =>
    some (!r_16) : Option Bool)).bind fun s17_9 =>
    if s17_9 then
    some false
    else
    (spec_l00Word_L1 (t_1.drop 1) ).bind fun q => (match q with
    | .ret r => some r
    | .go _ =>
    some true)
theorem w_spec_l00Word (t_1 : Str) (r : Bool) (hf : spec_l00Word t_1 = some r) : CallOK Try.prog 252 .flat [(.str t_1)] (.bool r) := by
 refine CallOK.of_awp mixed Try.func252 fc252 nle ?_; rw [argT_eq]; unfold spec_l00Word at hf; unfold c252; refine (show awp Try.prog false 0 _ (ofL [(0, (.str t_1))]) [] _ from ?_); refine awp_seq <| w_reg <| s_mov (.bool false) rfl <| w_done <| k_seq <| awp_seq <| awp_seq <| ?_
 obtain ⟨s17_9, hb1, hf⟩ := ob hf
 refine awp_cut ([(0, (.str t_1)), (17, (.bool s17_9))], []) ?_ ?_
 ·refine w_reg <| s_mov (.str t_1) rfl <| s_dof (o_lenS rfl) fun hl11 => s_q (.bool (decide ((t_1.length : Int) < 1))) rfl rfl rfl <| s_mov (.bool (decide ((t_1.length : Int) < 1))) rfl <| ?_; refine s_g (v := (decide ((t_1.length : Int) < 1))) (.str t_1) rfl (fun hv => by (try simp only [gs_on hv]); exact ⟨rfl, trivial, rfl⟩) ?_; refine s_g (v := (decide ((t_1.length : Int) < 1))) (.int .i64 (t_1.length : Int)) rfl (fun hv => by (try simp only [gs_on hv]); exact ⟨rfl, trivial, rfl⟩) ?_; refine s_g (v := (decide ((t_1.length : Int) < 1))) (.bool (decide ((t_1.length : Int) > 40))) rfl (fun hv => by (try simp only [gs_on hv]); exact ⟨rfl, rfl, rfl⟩) ?_; refine s_pick (x := true) (y := (decide ((t_1.length : Int) > 40))) rfl (fun hv => by (try simp only [gs_on hv]); rfl) (fun hv => by (try simp only [gs_on hv]); rfl) ?_
  refine s_mov (.bool (bif (decide ((t_1.length : Int) < 1)) then true else (decide ((t_1.length : Int) > 40)))) rfl ?_
  rcases oi hb1 with ⟨c13, hb1⟩ | ⟨c13, hb1⟩
  ·refine s_lit (s := 12) (b := true) rfl c13 <| s_off rfl rfl <| s_off rfl rfl <| s_off rfl rfl <| s_off rfl rfl <| s_q (.bool true) rfl trivial rfl <| w_done <| ?_; obtain rfl := os hb1; exact ⟨[], [], _, _, rfl, rfl, ⟨.refl _, ⟨.refl _, trivial⟩⟩, (.refl _)⟩
  ·refine s_lit (s := 12) (b := false) rfl (bf c13) <| s_on rfl <| s_mov (.str t_1) rfl <| s_on rfl <| ?_
   obtain ⟨b_14, eb15, hb1⟩ := ob hb1
   refine s_do (o_idxs rfl rfl (idx0 eb15) (idx1 eb15)) <| s_on rfl <| ?_
   obtain ⟨r_16, er17, hb1⟩ := ob hb1
   refine s_do (o_call (w_spec_l00Letter _ _ er17) rfl (.refl _) rfl) <| s_on rfl <| s_q (.bool (!r_16)) rfl trivial rfl <| s_q (.bool (!r_16)) rfl trivial rfl <| w_done <| ?_; obtain rfl := os hb1; exact ⟨[], [], _, _, rfl, rfl, ⟨.refl _, ⟨.refl _, trivial⟩⟩, (.refl _)⟩
 ·rcases oi hf with ⟨c18, hf⟩ | ⟨c18, hf⟩
  ·refine w_condt rfl c18 <| awp_seq <| w_reg <| s_mov (.bool false) rfl <| w_done <| k_seq <| w_ret <| ?_; obtain rfl := os hf; exact r_flat ⟨trivial, trivial⟩ rfl (.refl _)
  ·refine w_condf rfl (bf c18) <| w_skip <| k_seq <| awp_seq <| awp_seq <| w_reg <| s_mov (.int .i64 1) rfl <| w_done <| k_seq <| ?_
   obtain ⟨p91, hb1, hf⟩ := ob hf
   refine awp_cutx (X := {q : Unit // p91 = .go q}) (fun q => ([], [])) ?_ ?_
   ·refine awp_loop (X := {q : Nat // spec_l00Word_L1 (t_1.drop q)  = some p91}) (fun q => ([(0, (.str t_1)), (3, (.int .i64 (q.1 : Int)))], [])) (fun q => t_1.length - q.1) ⟨1, hb1⟩ ⟨[], [], _, _, rfl, rfl, ⟨.refl _, ⟨.refl _, trivial⟩⟩, (.refl _)⟩ ?_
    rintro ⟨i_66, hc1⟩
    have hc1 : spec_l00Word_L1 (t_1.drop i_66)  = some p91 := hc1
    refine (show awp Try.prog false 0 _ (ofL [(0, (.str t_1)), (3, (.int .i64 (i_66 : Int)))]) [] _ from ?_)
    rcases dropc t_1 i_66 with ⟨hie94, hd97⟩ | ⟨hlt92, x_98, hx93, hd97⟩
    ·rw [hd97, spec_l00Word_L1.eq_1] at hc1
     have hq96 := dlf hie94
     refine awp_seq <| awp_seq <| w_reg <| s_mov (.int .i64 (i_66 : Int)) rfl <| s_mov (.str t_1) rfl <| s_dof (o_lenS rfl) fun hl99 => s_q (.bool (decide ((i_66 : Int) < (t_1.length : Int)))) rfl rfl rfl <| w_done <| k_seq <| w_condf rfl hq96 <| w_exit <| k_seqx <| k_loopx <| k_blkx <| ?_; obtain rfl := os hc1; exact k_cutn ⟨_, rfl⟩ ⟨[], [], _, _, rfl, rfl, trivial, (.refl _)⟩
    ·rw [hd97, spec_l00Word_L1.eq_2] at hc1
     have hq96 := dlt hlt92
     refine awp_seq <| awp_seq <| w_reg <| s_mov (.int .i64 (i_66 : Int)) rfl <| s_mov (.str t_1) rfl <| s_dof (o_lenS rfl) fun hl100 => s_q (.bool (decide ((i_66 : Int) < (t_1.length : Int)))) rfl rfl rfl <| w_done <| k_seq <| w_condt rfl hq96 <| w_skip <| k_seq <| awp_seq <| w_blk <| awp_seq <| ?_
     obtain ⟨s35_106, hb2, hc1⟩ := ob hc1
     refine awp_cut ([(0, (.str t_1)), (3, (.int .i64 (i_66 : Int))), (35, (.bool s35_106))], []) ?_ ?_
     ·refine w_reg ?_
      obtain ⟨r_108, er109, hb2⟩ := ob hb2
      rcases oi hb2 with ⟨c110, hb2⟩ | ⟨c110, hb2⟩
      ·obtain ⟨r_111, er112, hb2⟩ := ob hb2
       refine s_mov (.str t_1) rfl <| s_mov (.int .i64 (i_66 : Int)) rfl <| s_do (o_idxsn rfl rfl hx93) <| s_do (o_call (w_spec_l00Letter _ _ er109) rfl (.refl _) rfl) <| s_q (.bool (!r_108)) rfl trivial rfl <| s_mov (.bool (!r_108)) rfl <| s_lit (s := 29) (b := true) rfl c110 <| s_on rfl <| s_mov (.str t_1) rfl <| s_on rfl <| s_mov (.int .i64 (i_66 : Int)) rfl <| s_on rfl <| s_do (o_idxsn rfl rfl hx93) <| s_on rfl <| s_do (o_call (w_spec_l00Digit _ _ er112) rfl (.refl _) rfl) <| s_on rfl <| s_q (.bool (!r_111)) rfl trivial rfl <| s_q (.bool (!r_111)) rfl trivial rfl <| w_done <| ?_; obtain rfl := os hb2; exact ⟨[], [], _, _, rfl, rfl, ⟨.refl _, ⟨.refl _, ⟨.refl _, trivial⟩⟩⟩, (.refl _)⟩
      ·refine s_mov (.str t_1) rfl <| s_mov (.int .i64 (i_66 : Int)) rfl <| s_do (o_idxsn rfl rfl hx93) <| s_do (o_call (w_spec_l00Letter _ _ er109) rfl (.refl _) rfl) <| s_q (.bool (!r_108)) rfl trivial rfl <| s_mov (.bool (!r_108)) rfl <| s_lit (s := 29) (b := false) rfl (bf c110) <| s_off rfl rfl <| s_off rfl rfl <| s_off rfl rfl <| s_off rfl rfl <| s_off rfl rfl <| s_q (.bool false) rfl trivial rfl <| w_done <| ?_; obtain rfl := os hb2; exact ⟨[], [], _, _, rfl, rfl, ⟨.refl _, ⟨.refl _, ⟨.refl _, trivial⟩⟩⟩, (.refl _)⟩
     ·rcases oi hc1 with ⟨c113, hc1⟩ | ⟨c113, hc1⟩
      ·refine w_condt rfl c113 <| awp_seq <| w_reg <| s_mov (.bool false) rfl <| w_done <| k_seq <| w_ret <| ?_; obtain rfl := os hc1; obtain rfl := os hf; exact r_flat ⟨trivial, trivial⟩ rfl (.refl _)
      ·refine w_condf rfl (bf c113) <| w_skip <| k_blk <| k_seq <| w_reg <| s_mov (.int .i64 (i_66 : Int)) rfl <| s_q (.int .i64 (w64 ((i_66 : Int) + 1))) rfl rfl rfl <| s_mov (.int .i64 (w64 ((i_66 : Int) + 1))) rfl <| w_done <| ?_; exact k_loopn ⟨(i_66 + 1), hc1⟩ (mul hlt92) ⟨[], [], _, _, rfl, rfl, ⟨.refl _, ⟨.of_eq (congrArg (AV.int _) (w64_incr hlt92 hl100)), trivial⟩⟩, (.refl _)⟩
   ·rintro ⟨_, rfl⟩
    refine awp_seq <| w_reg <| s_mov (.bool true) rfl <| w_done <| k_seq <| w_ret <| ?_; obtain rfl := os hf; exact r_flat ⟨trivial, trivial⟩ rfl (.refl _)

/- spec.NameOK -/
def c190 : ACode :=
 (.seq (.reg (tm 2 (.c (.bool false)) .done))
 (.seq (.reg (tm 3 (.t 0) (tq 4 (.call 252 [(.t 3)]) (tm 2 (.t 4) .done))))
 .ret))
theorem fc190 : fcomp Try.prog Try.f190 = some (c190.erase, [.mov (.t 2)], 5) := by kernel_rfl
def spec_NameOK (t_1 : Str) : Option Bool :=
    (spec_l00Word t_1).bind fun r_2 =>
    some r_2
theorem w_spec_NameOK (t_1 : Str) (r : Bool) (hf : spec_NameOK t_1 = some r) : CallOK Try.prog 190 .flat [(.str t_1)] (.bool r) := by
  refine CallOK.of_awp mixed Try.func190 fc190 nle ?_
  rw [argT_eq]
  unfold spec_NameOK at hf
  unfold c190
  refine (show awp Try.prog false 0 _ (ofL [(0, (.str t_1))]) [] _ from ?_)
  refine awp_seq ?_
  refine w_reg ?_
  refine s_do (o_mov (.bool false) rfl) ?_
  refine w_done ?_
  refine k_seq ?_
  refine awp_seq ?_
  refine w_reg ?_
  obtain ⟨r_2, er3, hf⟩ := ob hf
  refine s_do (o_mov (.str t_1) rfl) ?_
  refine s_do (o_call (w_spec_l00Word _ _ er3) rfl (.refl _) rfl) ?_
  refine s_do (o_mov (.bool r_2) rfl) ?_
  refine w_done ?_
  refine k_seq ?_
  refine w_ret ?_
  obtain rfl := os hf
  exact r_flat ⟨trivial, trivial⟩ rfl (.refl _)

/- spec.l01In -/
def c230 : ACode :=
 (.seq (.reg (tm 6 (.c (.bool false)) .done))
 (.seq (.reg (tm 7 (.t 1) (tm 8 (.t 0) (tq 9 (.bin .leq (.t 7) (.t 8)) (tm 10 (.t 9) (tg 11 10 true (.mov (.t 0)) (tg 12 10 true (.mov (.t 2)) (tg 13 10 true (.bin .leq (.t 11) (.t 12)) (tq 14 (.pick (.t 10) (.t 13) (.c (.bool false))) (tm 6 (.t 14) .done))))))))))
 .ret))
theorem fc230 : fcomp Try.prog Try.f230 = some (c230.erase, [.mov (.t 6)], 15) := by kernel_rfl
def spec_l01In (n_1 : Int) (low_2 : Int) (high_3 : Int) : Option Bool :=
    if (decide (low_2 ≤ n_1)) then
    some (decide (n_1 ≤ high_3))
    else
    some false
theorem w_spec_l01In (n_1 : Int) (low_2 : Int) (high_3 : Int) (r : Bool) (hf : spec_l01In n_1 low_2 high_3 = some r) : CallOK Try.prog 230 .flat [(.int .i64 n_1), (.int .i64 low_2), (.int .i64 high_3)] (.bool r) := by
 refine CallOK.of_awp mixed Try.func230 fc230 nle ?_; rw [argT_eq]; unfold spec_l01In at hf; unfold c230; refine (show awp Try.prog false 0 _ (ofL [(0, (.int .i64 n_1)), (1, (.int .i64 low_2)), (2, (.int .i64 high_3))]) [] _ from ?_); refine awp_seq <| w_reg <| s_mov (.bool false) rfl <| w_done <| k_seq <| awp_seq <| w_reg <| ?_
 rcases oi hf with ⟨c4, hf⟩ | ⟨c4, hf⟩
 ·refine s_mov (.int .i64 low_2) rfl <| s_mov (.int .i64 n_1) rfl <| s_q (.bool (decide (low_2 ≤ n_1))) rfl rfl rfl <| s_mov (.bool (decide (low_2 ≤ n_1))) rfl <| s_lit (s := 10) (b := true) rfl c4 <| s_on rfl <| s_mov (.int .i64 n_1) rfl <| s_on rfl <| s_mov (.int .i64 high_3) rfl <| s_on rfl <| s_q (.bool (decide (n_1 ≤ high_3))) rfl rfl rfl <| s_q (.bool (decide (n_1 ≤ high_3))) rfl trivial rfl <| s_mov (.bool (decide (n_1 ≤ high_3))) rfl <| w_done <| k_seq <| w_ret <| ?_; obtain rfl := os hf; exact r_flat ⟨trivial, trivial⟩ rfl (.refl _)
 ·refine s_mov (.int .i64 low_2) rfl <| s_mov (.int .i64 n_1) rfl <| s_q (.bool (decide (low_2 ≤ n_1))) rfl rfl rfl <| s_mov (.bool (decide (low_2 ≤ n_1))) rfl <| s_lit (s := 10) (b := false) rfl (bf c4) <| s_off rfl rfl <| s_off rfl rfl <| s_off rfl rfl <| s_q (.bool false) rfl trivial rfl <| s_mov (.bool false) rfl <| w_done <| k_seq <| w_ret <| ?_; obtain rfl := os hf; exact r_flat ⟨trivial, trivial⟩ rfl (.refl _)

/- spec.l12Session -/
def c189 : ACode :=
 (.seq (.reg (tm 2 (.c (.bool false)) .done))
 (.seq (.reg (tm 3 (.t 0) (tq 4 (.call 230 [(.t 3), (.c (.int .i64 0)), (.c (.int .i64 2))]) (tm 2 (.t 4) .done))))
 .ret))
theorem fc189 : fcomp Try.prog Try.f189 = some (c189.erase, [.mov (.t 2)], 5) := by kernel_rfl
def spec_l12Session (n_1 : Int) : Option Bool :=
    (spec_l01In n_1 0 2).bind fun r_2 =>
    some r_2
theorem w_spec_l12Session (n_1 : Int) (r : Bool) (hf : spec_l12Session n_1 = some r) : CallOK Try.prog 189 .flat [(.int .i64 n_1)] (.bool r) := by
  refine CallOK.of_awp mixed Try.func189 fc189 nle ?_
  rw [argT_eq]
  unfold spec_l12Session at hf
  unfold c189
  refine (show awp Try.prog false 0 _ (ofL [(0, (.int .i64 n_1))]) [] _ from ?_)
  refine awp_seq ?_
  refine w_reg ?_
  refine s_do (o_mov (.bool false) rfl) ?_
  refine w_done ?_
  refine k_seq ?_
  refine awp_seq ?_
  refine w_reg ?_
  obtain ⟨r_2, er3, hf⟩ := ob hf
  refine s_do (o_mov (.int .i64 n_1) rfl) ?_
  refine s_do (o_call (w_spec_l01In _ _ _ _ er3) rfl (.refl _) rfl) ?_
  refine s_do (o_mov (.bool r_2) rfl) ?_
  refine w_done ?_
  refine k_seq ?_
  refine w_ret ?_
  obtain rfl := os hf
  exact r_flat ⟨trivial, trivial⟩ rfl (.refl _)

/- spec.LocksOK -/
def c188 : ACode :=
 (.seq (.reg (tm 2 (.c (.bool false)) .done))
 (.seq (.seq (.reg (tm 5 (.t 0) (tq 6 (.len (.t 5)) (tq 7 (.bin .gtr (.t 6) (.c (.int .i64 4096))) .done))))
 (.cond (.t 7) (.seq (.reg (tm 2 (.c (.bool false)) .done))
 .ret)
 .skip))
 (.seq (.seq (.reg (tm 3 (.c (.int .i64 0)) .done))
 (.block 0 (.loop (.seq (.seq (.reg (tm 8 (.t 3) (tm 9 (.t 0) (tq 10 (.len (.t 9)) (tq 11 (.bin .lss (.t 8) (.t 10)) .done)))))
 (.cond (.t 11) .skip
 (.exit 0)))
 (.seq (.block 1 (.seq (.seq (.reg (tm 14 (.t 0) (tm 15 (.t 3) (tq 16 (.iaddr 2 (.t 14) (.t 15)) (tq 17 (.faddr 0 (.t 16)) (tq 18 (.load 1 false (.t 17)) (.l ⟨(some 19), none, .call 190 [(.t 18)]⟩ []
 (tq 20 (.not (.t 19)) (tm 21 (.t 20) (tg 22 21 false (.mov (.t 3)) (tg 23 21 false (.bin .gtr (.t 22) (.c (.int .i64 0))) (tg 24 21 false (.mov (.t 23)) (tg 25 24 true (.mov (.t 0)) (tg 26 24 true (.mov (.t 3)) (tg 27 24 true (.bin .sub (.t 26) (.c (.int .i64 1))) (tg 28 24 true (.iaddr 2 (.t 25) (.t 27)) (tg 29 24 true (.faddr 0 (.t 28)) (tg 30 24 true (.load 1 false (.t 29)) (tg 31 24 true (.mov (.t 0)) (tg 32 24 true (.mov (.t 3)) (tg 33 24 true (.iaddr 2 (.t 31) (.t 32)) (tg 34 24 true (.faddr 0 (.t 33)) (tg 35 24 true (.load 1 false (.t 34)) (tg 36 24 true (.bin .geq (.t 30) (.t 35)) (tg 37 21 false (.pick (.t 24) (.t 36) (.c (.bool false))) (tq 38 (.pick (.t 21) (.c (.bool true)) (.t 37)) (tm 39 (.t 38) (tg 40 39 false (.mov (.t 0)) (tg 41 39 false (.mov (.t 3)) (tg 42 39 false (.iaddr 2 (.t 40) (.t 41)) (tg 43 39 false (.faddr 1 (.t 42)) (tg 44 39 false (.load 1 false (.t 43)) (tg 45 39 false (.len (.t 44)) (.l ⟨(some 46), (some (39, false)), .call 230 [(.t 45), (.c (.int .i64 1)), (.c (.int .i64 3))]⟩ []
 (tg 47 39 false (.not (.t 46)) (tq 48 (.pick (.t 39) (.c (.bool true)) (.t 47)) .done)) .non))))))))))))))))))))))))))) .non)))))))
 (.cut (.cond (.t 48) (.seq (.reg (tm 2 (.c (.bool false)) .done))
 .ret)
 .skip)))
 (.seq (.reg (tm 4 (.c (.int .i64 0)) .done))
 (.block 2 (.loop (.seq (.seq (.reg (tm 49 (.t 4) (tm 50 (.t 0) (tm 51 (.t 3) (tq 52 (.iaddr 2 (.t 50) (.t 51)) (tq 53 (.faddr 1 (.t 52)) (tq 54 (.load 1 false (.t 53)) (tq 55 (.len (.t 54)) (tq 56 (.bin .lss (.t 49) (.t 55)) .done)))))))))
 (.cond (.t 56) .skip
 (.exit 2)))
 (.seq (.block 3 (.seq (.reg (tm 59 (.t 0) (tm 60 (.t 3) (tq 61 (.iaddr 2 (.t 59) (.t 60)) (tq 62 (.faddr 1 (.t 61)) (tq 63 (.load 1 false (.t 62)) (tm 64 (.t 4) (tq 65 (.iaddr 1 (.t 63) (.t 64)) (tq 66 (.load 1 false (.t 65)) (.l ⟨(some 67), none, .call 189 [(.t 66)]⟩ []
 (tq 68 (.not (.t 67)) (tm 69 (.t 68) (tg 70 69 false (.mov (.t 0)) (tg 71 69 false (.mov (.t 3)) (tg 72 69 false (.iaddr 2 (.t 70) (.t 71)) (tg 73 69 false (.faddr 1 (.t 72)) (tg 74 69 false (.load 1 false (.t 73)) (tg 75 69 false (.mov (.t 4)) (tg 76 69 false (.slice 1 (.t 74) none (some (.t 75))) (tg 77 69 false (.mov (.t 0)) (tg 78 69 false (.mov (.t 3)) (tg 79 69 false (.iaddr 2 (.t 77) (.t 78)) (tg 80 69 false (.faddr 1 (.t 79)) (tg 81 69 false (.load 1 false (.t 80)) (tg 82 69 false (.mov (.t 4)) (tg 83 69 false (.iaddr 1 (.t 81) (.t 82)) (tg 84 69 false (.load 1 false (.t 83)) (.l ⟨(some 85), (some (69, false)), .call 195 [(.t 76), (.t 84)]⟩ []
 (tq 86 (.pick (.t 69) (.c (.bool true)) (.t 85)) .done) .non)))))))))))))))))) .non))))))))))
 (.cut (.cond (.t 86) (.seq (.reg (tm 2 (.c (.bool false)) .done))
 .ret)
 .skip))))
 (.reg (tm 57 (.t 4) (tq 58 (.bin .add (.t 57) (.c (.int .i64 1))) (tm 4 (.t 58) .done)))))))))))
 (.cut (.reg (tm 12 (.t 3) (tq 13 (.bin .add (.t 12) (.c (.int .i64 1))) (tm 3 (.t 13) .done))))))))))
 (.cut (.seq (.reg (tm 87 (.t 0) (tq 88 (.len (.t 87)) (tq 89 (.bin .leq (.t 88) (.c (.int .i64 6))) (tm 2 (.t 89) .done)))))
 .ret)))))
theorem fc188 : fcomp Try.prog Try.f188 = some (c188.erase, [.mov (.t 2)], 90) := by kernel_rfl
def spec_LocksOK_L2 (x_998 : GLock) : List Int → Nat → Option (Fl Bool Unit)
  | [], k_1081 =>
    some (.go ())
  | x_1115 :: xs, k_1081 =>
    (((spec_l12Session x_1115).bind fun r_1126 =>
    if (!r_1126) then
    some true
    else
    if (0 : Int) ≤ (k_1081 : Int) ∧ (k_1081 : Int) ≤ (x_998.Queue.length : Int) then
    (spec_l12In (x_998.Queue.take k_1081) x_1115).bind fun r_1130 =>
    some r_1130
    else none : Option Bool)).bind fun s86_1124 =>
    if s86_1124 then
    some (.ret false)
    else
    spec_LocksOK_L2 x_998 xs (k_1081 + 1)

def spec_LocksOK_L1 (list_1 : (List GLock)) : List GLock → Nat → Option (Fl Bool Unit)
  | [], i_661 =>
    some (.go ())
  | x_998 :: xs, i_661 =>
    (((spec_NameOK x_998.Name).bind fun r_1016 =>
    if (!r_1016) then
    some true
    else
    if (decide ((i_661 : Int) > 0)) then
    (idx list_1 (w64 ((i_661 : Int) - 1))).bind fun x_1020 =>
    if (!Op.bytesLess x_1020.Name x_998.Name) then
    some true
    else
    (spec_l01In (x_998.Queue.length : Int) 1 3).bind fun r_1024 =>
    some (!r_1024)
    else
    (spec_l01In (x_998.Queue.length : Int) 1 3).bind fun r_1027 =>
    some (!r_1027) : Option Bool)).bind fun s48_1014 =>
    if s48_1014 then
    some (.ret false)
    else
    (spec_LocksOK_L2 x_998 x_998.Queue 0).bind fun q => (match q with
    | .ret r => some (.ret r)
    | .go _ =>
    spec_LocksOK_L1 list_1 xs (i_661 + 1))

def spec_LocksOK (list_1 : (List GLock)) : Option Bool :=
    if (decide ((list_1.length : Int) > 4096)) then
    some false
    else
    (spec_LocksOK_L1 list_1 list_1 0).bind fun q => (match q with
    | .ret r => some r
    | .go _ =>
    some (decide ((list_1.length : Int) ≤ 6)))
theorem w_spec_LocksOK (list_1 : (List GLock)) (r : Bool) (hf : spec_LocksOK list_1 = some r) : CallOK Try.prog 188 .flat [(.lst 2 (list_1.map encGLock))] (.bool r) := by
 refine CallOK.of_awp mixed Try.func188 fc188 nle ?_; rw [argT_eq]; unfold spec_LocksOK at hf; unfold c188; refine (show awp Try.prog false 0 _ (ofL [(0, (.lst 2 (list_1.map encGLock)))]) [] _ from ?_); refine awp_seq <| w_reg <| s_mov (.bool false) rfl <| w_done <| k_seq <| awp_seq <| awp_seq <| w_reg <| s_mov (.lst 2 (list_1.map encGLock)) rfl <| s_dof (o_len (enc := encGLock) rfl) fun hl2 => s_q (.bool (decide ((list_1.length : Int) > 4096))) rfl rfl rfl <| w_done <| k_seq <| ?_
 rcases oi hf with ⟨c3, hf⟩ | ⟨c3, hf⟩
 ·refine w_condt rfl c3 <| awp_seq <| w_reg <| s_mov (.bool false) rfl <| w_done <| k_seq <| w_ret <| ?_; obtain rfl := os hf; exact r_flat ⟨trivial, trivial⟩ rfl (.refl _)
 ·refine w_condf rfl (bf c3) <| w_skip <| k_seq <| awp_seq <| awp_seq <| w_reg <| s_mov (.int .i64 0) rfl <| w_done <| k_seq <| ?_
  obtain ⟨p991, hb1, hf⟩ := ob hf
  refine awp_cutx (X := {q : Unit // p991 = .go q}) (fun q => ([(0, (.lst 2 (list_1.map encGLock)))], [])) ?_ ?_
  ·refine awp_loop (X := {q : Nat // spec_LocksOK_L1 list_1 (list_1.drop q) q = some p991}) (fun q => ([(0, (.lst 2 (list_1.map encGLock))), (3, (.int .i64 (q.1 : Int)))], [])) (fun q => list_1.length - q.1) ⟨0, hb1⟩ ⟨[], [], _, _, rfl, rfl, ⟨.refl _, ⟨.refl _, trivial⟩⟩, (.refl _)⟩ ?_
   rintro ⟨i_661, hc1⟩
   have hc1 : spec_LocksOK_L1 list_1 (list_1.drop i_661) i_661 = some p991 := hc1
   refine (show awp Try.prog false 0 _ (ofL [(0, (.lst 2 (list_1.map encGLock))), (3, (.int .i64 (i_661 : Int)))]) [] _ from ?_)
   rcases dropc list_1 i_661 with ⟨hie994, hd997⟩ | ⟨hlt992, x_998, hx993, hd997⟩
   ·rw [hd997, spec_LocksOK_L1.eq_1] at hc1
    have hq996 := dlf hie994
    refine awp_seq <| awp_seq <| w_reg <| s_mov (.int .i64 (i_661 : Int)) rfl <| s_mov (.lst 2 (list_1.map encGLock)) rfl <| s_dof (o_len (enc := encGLock) rfl) fun hl999 => s_q (.bool (decide ((i_661 : Int) < (list_1.length : Int)))) rfl rfl rfl <| w_done <| k_seq <| w_condf rfl hq996 <| w_exit <| k_seqx <| k_loopx <| k_blkx <| ?_; obtain rfl := os hc1; exact k_cutn ⟨_, rfl⟩ ⟨[], [], _, _, rfl, rfl, ⟨.refl _, trivial⟩, (.refl _)⟩
   ·rw [hd997, spec_LocksOK_L1.eq_2] at hc1
    have hq996 := dlt hlt992
    refine awp_seq <| awp_seq <| w_reg <| s_mov (.int .i64 (i_661 : Int)) rfl <| s_mov (.lst 2 (list_1.map encGLock)) rfl <| s_dof (o_len (enc := encGLock) rfl) fun hl1000 => s_q (.bool (decide ((i_661 : Int) < (list_1.length : Int)))) rfl rfl rfl <| w_done <| k_seq <| w_condt rfl hq996 <| w_skip <| k_seq <| awp_seq <| w_blk <| awp_seq <| awp_seq <| ?_
    obtain ⟨s48_1014, hb2, hc1⟩ := ob hc1
    refine awp_cut ([(0, (.lst 2 (list_1.map encGLock))), (3, (.int .i64 (i_661 : Int))), (48, (.bool s48_1014))], []) ?_ ?_
    ·refine w_reg <| s_mov (.lst 2 (list_1.map encGLock)) rfl <| s_mov (.int .i64 (i_661 : Int)) rfl <| s_do (o_iaddrn (enc := encGLock) rfl rfl hx993) <| s_q (.iptr (encGLock x_998) 0) rfl trivial rfl <| s_q (.str x_998.Name) rfl nle rfl <| ?_
     obtain ⟨r_1016, er1017, hb2⟩ := ob hb2
     refine s_dol (o_call (w_spec_NameOK _ _ er1017) rfl (.refl _) rfl) a_same trivial <| s_q (.bool (!r_1016)) rfl trivial rfl <| s_mov (.bool (!r_1016)) rfl <| ?_
     rcases oi hb2 with ⟨c1018, hb2⟩ | ⟨c1018, hb2⟩
     ·refine s_lit (s := 21) (b := true) rfl c1018 <| s_off rfl rfl <| s_off rfl rfl <| s_off rfl rfl <| s_offs rfl <| s_offs rfl <| s_offs rfl <| s_offs rfl <| s_offs rfl <| s_offs rfl <| s_offs rfl <| s_offs rfl <| s_offs rfl <| s_offs rfl <| s_offs rfl <| s_offs rfl <| s_off rfl rfl <| s_q (.bool true) rfl trivial rfl <| s_mov (.bool true) rfl <| s_off rfl rfl <| s_off rfl rfl <| s_off rfl rfl <| s_off rfl rfl <| s_off rfl rfl <| s_off rfl rfl <| s_offl rfl rfl trivial <| s_off rfl rfl <| s_q (.bool true) rfl trivial rfl <| w_done <| ?_; obtain rfl := os hb2; exact ⟨[], [], _, _, rfl, rfl, ⟨.refl _, ⟨.refl _, ⟨.refl _, trivial⟩⟩⟩, (.refl _)⟩
     ·refine s_lit (s := 21) (b := false) rfl (bf c1018) <| s_on rfl <| s_mov (.int .i64 (i_661 : Int)) rfl <| s_on rfl <| s_q (.bool (decide ((i_661 : Int) > 0))) rfl rfl rfl <| s_on rfl <| s_mov (.bool (decide ((i_661 : Int) > 0))) rfl <| ?_
      rcases oi hb2 with ⟨c1019, hb2⟩ | ⟨c1019, hb2⟩
      ·refine s_lit (s := 24) (b := true) rfl c1019 <| s_on rfl <| s_mov (.lst 2 (list_1.map encGLock)) rfl <| s_on rfl <| s_mov (.int .i64 (i_661 : Int)) rfl <| s_on rfl <| s_q (.int .i64 (w64 ((i_661 : Int) - 1))) rfl rfl rfl <| s_on rfl <| ?_
       obtain ⟨x_1020, ex1021, hb2⟩ := ob hb2
       refine s_do (o_iaddr (enc := encGLock) rfl rfl (idx0 ex1021) (idx1 ex1021)) <| s_on rfl <| s_q (.iptr (encGLock x_1020) 0) rfl trivial rfl <| s_on rfl <| s_q (.str x_1020.Name) rfl nle rfl <| s_on rfl <| s_mov (.lst 2 (list_1.map encGLock)) rfl <| s_on rfl <| s_mov (.int .i64 (i_661 : Int)) rfl <| s_on rfl <| s_do (o_iaddrn (enc := encGLock) rfl rfl hx993) <| s_on rfl <| s_q (.iptr (encGLock x_998) 0) rfl trivial rfl <| s_on rfl <| s_q (.str x_998.Name) rfl nle rfl <| s_on rfl <| s_q (.bool (!Op.bytesLess x_1020.Name x_998.Name)) rfl trivial rfl <| s_on rfl <| s_q (.bool (!Op.bytesLess x_1020.Name x_998.Name)) rfl trivial rfl <| s_q (.bool (!Op.bytesLess x_1020.Name x_998.Name)) rfl trivial rfl <| s_mov (.bool (!Op.bytesLess x_1020.Name x_998.Name)) rfl <| ?_
       rcases oi hb2 with ⟨c1022, hb2⟩ | ⟨c1022, hb2⟩
       ·refine s_lit (s := 39) (b := true) rfl c1022 <| s_off rfl rfl <| s_off rfl rfl <| s_off rfl rfl <| s_off rfl rfl <| s_off rfl rfl <| s_off rfl rfl <| s_offl rfl rfl trivial <| s_off rfl rfl <| s_q (.bool true) rfl trivial rfl <| w_done <| ?_; obtain rfl := os hb2; exact ⟨[], [], _, _, rfl, rfl, ⟨.refl _, ⟨.refl _, ⟨.refl _, trivial⟩⟩⟩, (.refl _)⟩
       ·refine s_lit (s := 39) (b := false) rfl (bf c1022) <| s_on rfl <| s_mov (.lst 2 (list_1.map encGLock)) rfl <| s_on rfl <| s_mov (.int .i64 (i_661 : Int)) rfl <| s_on rfl <| s_do (o_iaddrn (enc := encGLock) rfl rfl hx993) <| s_on rfl <| s_q (.iptr (encGLock x_998) 1) rfl trivial rfl <| s_on rfl <| s_q (.lst 1 (x_998.Queue.map encI)) rfl nle rfl <| s_on rfl <| s_dof (o_len (enc := encI) rfl) fun hl1023 => s_onl rfl <| ?_
        obtain ⟨r_1024, er1025, hb2⟩ := ob hb2
        refine s_dol (o_call (w_spec_l01In _ _ _ _ er1025) rfl (.refl _) rfl) a_same trivial <| s_on rfl <| s_q (.bool (!r_1024)) rfl trivial rfl <| s_q (.bool (!r_1024)) rfl trivial rfl <| w_done <| ?_; obtain rfl := os hb2; exact ⟨[], [], _, _, rfl, rfl, ⟨.refl _, ⟨.refl _, ⟨.refl _, trivial⟩⟩⟩, (.refl _)⟩
      ·refine s_lit (s := 24) (b := false) rfl (bf c1019) <| s_off rfl rfl <| s_off rfl rfl <| s_off rfl rfl <| s_off rfl rfl <| s_off rfl rfl <| s_off rfl rfl <| s_off rfl rfl <| s_off rfl rfl <| s_off rfl rfl <| s_off rfl rfl <| s_off rfl rfl <| s_off rfl rfl <| s_on rfl <| s_q (.bool false) rfl trivial rfl <| s_q (.bool false) rfl trivial rfl <| s_mov (.bool false) rfl <| s_on rfl <| s_mov (.lst 2 (list_1.map encGLock)) rfl <| s_on rfl <| s_mov (.int .i64 (i_661 : Int)) rfl <| s_on rfl <| s_do (o_iaddrn (enc := encGLock) rfl rfl hx993) <| s_on rfl <| s_q (.iptr (encGLock x_998) 1) rfl trivial rfl <| s_on rfl <| s_q (.lst 1 (x_998.Queue.map encI)) rfl nle rfl <| s_on rfl <| s_dof (o_len (enc := encI) rfl) fun hl1026 => ?_
       refine s_onl rfl ?_
       obtain ⟨r_1027, er1028, hb2⟩ := ob hb2
       refine s_dol (o_call (w_spec_l01In _ _ _ _ er1028) rfl (.refl _) rfl) a_same trivial <| s_on rfl <| s_q (.bool (!r_1027)) rfl trivial rfl <| s_q (.bool (!r_1027)) rfl trivial rfl <| w_done <| ?_; obtain rfl := os hb2; exact ⟨[], [], _, _, rfl, rfl, ⟨.refl _, ⟨.refl _, ⟨.refl _, trivial⟩⟩⟩, (.refl _)⟩
    ·rcases oi hc1 with ⟨c1029, hc1⟩ | ⟨c1029, hc1⟩
     ·refine w_condt rfl c1029 <| awp_seq <| w_reg <| s_mov (.bool false) rfl <| w_done <| k_seq <| w_ret <| ?_; obtain rfl := os hc1; obtain rfl := os hf; exact r_flat ⟨trivial, trivial⟩ rfl (.refl _)
     ·refine w_condf rfl (bf c1029) <| w_skip <| k_seq <| awp_seq <| w_reg <| s_mov (.int .i64 0) rfl <| w_done <| k_seq <| ?_
      obtain ⟨p1108, hb2, hc1⟩ := ob hc1
      refine awp_cutxb (X := {q : Unit // p1108 = .go q}) (fun q => ([(0, (.lst 2 (list_1.map encGLock))), (3, (.int .i64 (i_661 : Int)))], [])) ?_ ?_
      ·refine awp_loop (X := {q : Nat // spec_LocksOK_L2 x_998 (x_998.Queue.drop q) q = some p1108}) (fun q => ([(0, (.lst 2 (list_1.map encGLock))), (3, (.int .i64 (i_661 : Int))), (4, (.int .i64 (q.1 : Int)))], [])) (fun q => x_998.Queue.length - q.1) ⟨0, hb2⟩ ⟨[], [], _, _, rfl, rfl, ⟨.refl _, ⟨.refl _, ⟨.refl _, trivial⟩⟩⟩, (.refl _)⟩ ?_
       rintro ⟨k_1081, hc2⟩
       have hc2 : spec_LocksOK_L2 x_998 (x_998.Queue.drop k_1081) k_1081 = some p1108 := hc2
       refine (show awp Try.prog false 0 _ (ofL [(0, (.lst 2 (list_1.map encGLock))), (3, (.int .i64 (i_661 : Int))), (4, (.int .i64 (k_1081 : Int)))]) [] _ from ?_)
       rcases dropc x_998.Queue k_1081 with ⟨hie1111, hd1114⟩ | ⟨hlt1109, x_1115, hx1110, hd1114⟩
       ·rw [hd1114, spec_LocksOK_L2.eq_1] at hc2
        have hq1113 := dlf hie1111
        refine awp_seq <| awp_seq <| w_reg <| s_mov (.int .i64 (k_1081 : Int)) rfl <| s_mov (.lst 2 (list_1.map encGLock)) rfl <| s_mov (.int .i64 (i_661 : Int)) rfl <| s_do (o_iaddrn (enc := encGLock) rfl rfl hx993) <| s_q (.iptr (encGLock x_998) 1) rfl trivial rfl <| s_q (.lst 1 (x_998.Queue.map encI)) rfl nle rfl <| s_dof (o_len (enc := encI) rfl) fun hl1116 => s_q (.bool (decide ((k_1081 : Int) < (x_998.Queue.length : Int)))) rfl rfl rfl <| w_done <| k_seq <| w_condf rfl hq1113 <| w_exit <| k_seqx <| k_loopx <| k_blkx <| ?_; refine k_blk ?_; obtain rfl := os hc2; exact k_cutn ⟨_, rfl⟩ ⟨[], [], _, _, rfl, rfl, ⟨.refl _, ⟨.refl _, trivial⟩⟩, (.refl _)⟩
       ·rw [hd1114, spec_LocksOK_L2.eq_2] at hc2
        have hq1113 := dlt hlt1109
        refine awp_seq <| awp_seq <| w_reg <| s_mov (.int .i64 (k_1081 : Int)) rfl <| s_mov (.lst 2 (list_1.map encGLock)) rfl <| s_mov (.int .i64 (i_661 : Int)) rfl <| s_do (o_iaddrn (enc := encGLock) rfl rfl hx993) <| s_q (.iptr (encGLock x_998) 1) rfl trivial rfl <| s_q (.lst 1 (x_998.Queue.map encI)) rfl nle rfl <| s_dof (o_len (enc := encI) rfl) fun hl1117 => s_q (.bool (decide ((k_1081 : Int) < (x_998.Queue.length : Int)))) rfl rfl rfl <| w_done <| k_seq <| w_condt rfl hq1113 <| w_skip <| k_seq <| awp_seq <| w_blk <| awp_seq <| ?_
        obtain ⟨s86_1124, hb3, hc2⟩ := ob hc2
        refine awp_cut ([(0, (.lst 2 (list_1.map encGLock))), (3, (.int .i64 (i_661 : Int))), (4, (.int .i64 (k_1081 : Int))), (86, (.bool s86_1124))], []) ?_ ?_
        ·refine w_reg <| s_mov (.lst 2 (list_1.map encGLock)) rfl <| s_mov (.int .i64 (i_661 : Int)) rfl <| s_do (o_iaddrn (enc := encGLock) rfl rfl hx993) <| s_q (.iptr (encGLock x_998) 1) rfl trivial rfl <| s_q (.lst 1 (x_998.Queue.map encI)) rfl nle rfl <| s_mov (.int .i64 (k_1081 : Int)) rfl <| s_do (o_iaddrn (enc := encI) rfl rfl hx1110) <| s_q (.int .i64 x_1115) rfl ⟨rfl, rfl⟩ rfl <| ?_
         obtain ⟨r_1126, er1127, hb3⟩ := ob hb3
         refine s_dol (o_call (w_spec_l12Session _ _ er1127) rfl (.refl _) rfl) a_same trivial <| s_q (.bool (!r_1126)) rfl trivial rfl <| s_mov (.bool (!r_1126)) rfl <| ?_
         rcases oi hb3 with ⟨c1128, hb3⟩ | ⟨c1128, hb3⟩
         ·refine s_lit (s := 69) (b := true) rfl c1128 <| s_off rfl rfl <| s_off rfl rfl <| s_off rfl rfl <| s_off rfl rfl <| s_off rfl rfl <| s_off rfl rfl <| s_off rfl rfl <| s_off rfl rfl <| s_off rfl rfl <| s_off rfl rfl <| s_off rfl rfl <| s_off rfl rfl <| s_off rfl rfl <| s_off rfl rfl <| s_off rfl rfl <| s_offl rfl rfl trivial <| s_q (.bool true) rfl trivial rfl <| w_done <| ?_; obtain rfl := os hb3; exact ⟨[], [], _, _, rfl, rfl, ⟨.refl _, ⟨.refl _, ⟨.refl _, ⟨.refl _, trivial⟩⟩⟩⟩, (.refl _)⟩
         ·refine s_lit (s := 69) (b := false) rfl (bf c1128) <| s_on rfl <| s_mov (.lst 2 (list_1.map encGLock)) rfl <| s_on rfl <| s_mov (.int .i64 (i_661 : Int)) rfl <| s_on rfl <| s_do (o_iaddrn (enc := encGLock) rfl rfl hx993) <| s_on rfl <| s_q (.iptr (encGLock x_998) 1) rfl trivial rfl <| s_on rfl <| s_q (.lst 1 (x_998.Queue.map encI)) rfl nle rfl <| s_on rfl <| s_mov (.int .i64 (k_1081 : Int)) rfl <| s_on rfl <| ?_
          obtain ⟨g1129, hb3⟩ := og hb3
          refine s_do (o_slt (enc := encI) rfl rfl g1129.1 g1129.2) <| s_on rfl <| s_mov (.lst 2 (list_1.map encGLock)) rfl <| s_on rfl <| s_mov (.int .i64 (i_661 : Int)) rfl <| s_on rfl <| s_do (o_iaddrn (enc := encGLock) rfl rfl hx993) <| s_on rfl <| s_q (.iptr (encGLock x_998) 1) rfl trivial rfl <| s_on rfl <| s_q (.lst 1 (x_998.Queue.map encI)) rfl nle rfl <| s_on rfl <| s_mov (.int .i64 (k_1081 : Int)) rfl <| s_on rfl <| s_do (o_iaddrn (enc := encI) rfl rfl hx1110) <| s_on rfl <| s_q (.int .i64 x_1115) rfl ⟨rfl, rfl⟩ rfl <| s_onl rfl <| ?_
          obtain ⟨r_1130, er1131, hb3⟩ := ob hb3
          refine s_dol (o_call (w_spec_l12In _ _ _ er1131) rfl (.refl _) rfl) a_same trivial <| s_q (.bool r_1130) rfl trivial rfl <| w_done <| ?_; obtain rfl := os hb3; exact ⟨[], [], _, _, rfl, rfl, ⟨.refl _, ⟨.refl _, ⟨.refl _, ⟨.refl _, trivial⟩⟩⟩⟩, (.refl _)⟩
        ·rcases oi hc2 with ⟨c1132, hc2⟩ | ⟨c1132, hc2⟩
         ·refine w_condt rfl c1132 <| awp_seq <| w_reg <| s_mov (.bool false) rfl <| w_done <| k_seq <| w_ret <| ?_; obtain rfl := os hc2; obtain rfl := os hc1; obtain rfl := os hf; exact r_flat ⟨trivial, trivial⟩ rfl (.refl _)
         ·refine w_condf rfl (bf c1132) <| w_skip <| k_blk <| k_seq <| w_reg <| s_mov (.int .i64 (k_1081 : Int)) rfl <| s_q (.int .i64 (w64 ((k_1081 : Int) + 1))) rfl rfl rfl <| s_mov (.int .i64 (w64 ((k_1081 : Int) + 1))) rfl <| w_done <| ?_; exact k_loopn ⟨(k_1081 + 1), hc2⟩ (mul hlt1109) ⟨[], [], _, _, rfl, rfl, ⟨.refl _, ⟨.refl _, ⟨.of_eq (congrArg (AV.int _) (w64_incr hlt1109 hl1117)), trivial⟩⟩⟩, (.refl _)⟩
      ·rintro ⟨_, rfl⟩
       refine w_reg <| s_mov (.int .i64 (i_661 : Int)) rfl <| s_q (.int .i64 (w64 ((i_661 : Int) + 1))) rfl rfl rfl <| s_mov (.int .i64 (w64 ((i_661 : Int) + 1))) rfl <| w_done <| ?_; exact k_loopn ⟨(i_661 + 1), hc1⟩ (mul hlt992) ⟨[], [], _, _, rfl, rfl, ⟨.refl _, ⟨.of_eq (congrArg (AV.int _) (w64_incr hlt992 hl1000)), trivial⟩⟩, (.refl _)⟩
  ·rintro ⟨_, rfl⟩
   refine awp_seq <| w_reg <| s_mov (.lst 2 (list_1.map encGLock)) rfl <| s_dof (o_len (enc := encGLock) rfl) fun hl1133 => s_q (.bool (decide ((list_1.length : Int) ≤ 6))) rfl rfl rfl <| s_mov (.bool (decide ((list_1.length : Int) ≤ 6))) rfl <| w_done <| k_seq <| w_ret <| ?_; obtain rfl := os hf; exact r_flat ⟨trivial, trivial⟩ rfl (.refl _)

/- spec.l12Ask -/
def c102 : ACode :=
 (.seq (.reg (tm 6 (.c (.int .i64 0)) .done))
 (.seq (.block 0 (.seq (.reg (tm 8 (.t 0) (tq 9 (.len (.t 8)) (tq 10 (.bin .gtr (.t 9) (.c (.int .i64 4096))) (tm 11 (.t 10) (tg 12 11 false (.mov (.t 2)) (tg 13 11 false (.lenS (.t 12)) (tg 14 11 false (.bin .gtr (.t 13) (.c (.int .i64 65536))) (tq 15 (.pick (.t 11) (.c (.bool true)) (.t 14)) (tm 7 (.t 15) .done))))))))))
 (.cut (.cond (.t 7) (.seq (.reg (tm 6 (.c (.int .i64 2)) .done))
 .ret)
 (.seq (.reg (tm 17 (.t 0) (tq 18 (.call 188 [(.t 17)]) (tq 19 (.not (.t 18)) (tm 16 (.t 19) .done)))))
 (.cond (.t 16) (.seq (.reg (tm 6 (.c (.int .i64 1)) .done))
 .ret)
 (.seq (.reg (tm 21 (.t 1) (tq 22 (.call 189 [(.t 21)]) (tq 23 (.not (.t 22)) (tm 24 (.t 23) (tg 25 24 false (.mov (.t 2)) (tg 26 24 false (.call 190 [(.t 25)]) (tg 27 24 false (.not (.t 26)) (tq 28 (.pick (.t 24) (.c (.bool true)) (.t 27)) (tm 20 (.t 28) .done))))))))))
 (.cut (.cond (.t 20) (.seq (.reg (tm 6 (.c (.int .i64 4)) .done))
 .ret)
 .skip)))))))))
 (.seq (.reg (tm 6 (.c (.int .i64 0)) .done))
 .ret)))
theorem fc102 : fcomp Try.prog Try.f102 = some (c102.erase, [.mov (.t 6)], 29) := by kernel_rfl
def spec_l12Ask (list_1 : (List GLock)) (session_2 : Int) (name_3 : Str) : Option Int :=
    ((if (decide ((list_1.length : Int) > 4096)) then
    some true
    else
    some (decide ((name_3.length : Int) > 65536)) : Option Bool)).bind fun s7_7 =>
    if s7_7 then
    some 2
    else
    (spec_LocksOK list_1).bind fun r_13 =>
    if (!r_13) then
    some 1
    else
    (((spec_l12Session session_2).bind fun r_23 =>
    if (!r_23) then
    some true
    else
    (spec_NameOK name_3).bind fun r_26 =>
    some (!r_26) : Option Bool)).bind fun s20_21 =>
    if s20_21 then
    some 4
    else
    some 0
theorem w_spec_l12Ask (list_1 : (List GLock)) (session_2 : Int) (name_3 : Str) (r : Int) (hf : spec_l12Ask list_1 session_2 name_3 = some r) : CallOK Try.prog 102 .flat [(.lst 2 (list_1.map encGLock)), (.int .i64 session_2), (.str name_3)] (.int .i64 r) := by
 refine CallOK.of_awp mixed Try.func102 fc102 nle ?_; rw [argT_eq]; unfold spec_l12Ask at hf; unfold c102; refine (show awp Try.prog false 0 _ (ofL [(0, (.lst 2 (list_1.map encGLock))), (1, (.int .i64 session_2)), (2, (.str name_3))]) [] _ from ?_); refine awp_seq <| w_reg <| s_mov (.int .i64 0) rfl <| w_done <| k_seq <| awp_seq <| w_blk <| awp_seq <| ?_
 obtain ⟨s7_7, hb1, hf⟩ := ob hf
 refine awp_cut ([(0, (.lst 2 (list_1.map encGLock))), (1, (.int .i64 session_2)), (2, (.str name_3)), (7, (.bool s7_7))], []) ?_ ?_
 ·refine w_reg ?_
  rcases oi hb1 with ⟨c10, hb1⟩ | ⟨c10, hb1⟩
  ·refine s_mov (.lst 2 (list_1.map encGLock)) rfl <| s_dof (o_len (enc := encGLock) rfl) fun hl9 => s_q (.bool (decide ((list_1.length : Int) > 4096))) rfl rfl rfl <| s_mov (.bool (decide ((list_1.length : Int) > 4096))) rfl <| s_lit (s := 11) (b := true) rfl c10 <| s_off rfl rfl <| s_off rfl rfl <| s_off rfl rfl <| s_q (.bool true) rfl trivial rfl <| s_mov (.bool true) rfl <| w_done <| ?_; obtain rfl := os hb1; exact ⟨[], [], _, _, rfl, rfl, ⟨.refl _, ⟨.refl _, ⟨.refl _, ⟨.refl _, trivial⟩⟩⟩⟩, (.refl _)⟩
  ·refine s_mov (.lst 2 (list_1.map encGLock)) rfl <| s_dof (o_len (enc := encGLock) rfl) fun hl9 => s_q (.bool (decide ((list_1.length : Int) > 4096))) rfl rfl rfl <| s_mov (.bool (decide ((list_1.length : Int) > 4096))) rfl <| s_lit (s := 11) (b := false) rfl (bf c10) <| s_on rfl <| s_mov (.str name_3) rfl <| s_on rfl <| s_dof (o_lenS rfl) fun hl11 => s_on rfl <| s_q (.bool (decide ((name_3.length : Int) > 65536))) rfl rfl rfl <| s_q (.bool (decide ((name_3.length : Int) > 65536))) rfl trivial rfl <| s_mov (.bool (decide ((name_3.length : Int) > 65536))) rfl <| w_done <| ?_; obtain rfl := os hb1; exact ⟨[], [], _, _, rfl, rfl, ⟨.refl _, ⟨.refl _, ⟨.refl _, ⟨.refl _, trivial⟩⟩⟩⟩, (.refl _)⟩
 ·rcases oi hf with ⟨c12, hf⟩ | ⟨c12, hf⟩
  ·refine w_condt rfl c12 <| awp_seq <| w_reg <| s_mov (.int .i64 2) rfl <| w_done <| k_seq <| w_ret <| ?_; obtain rfl := os hf; exact r_flat ⟨trivial, trivial⟩ rfl (.refl _)
  ·refine w_condf rfl (bf c12) <| awp_seq <| w_reg <| ?_
   obtain ⟨r_13, er14, hf⟩ := ob hf
   refine s_mov (.lst 2 (list_1.map encGLock)) rfl <| s_do (o_call (w_spec_LocksOK _ _ er14) rfl (.refl _) rfl) <| s_q (.bool (!r_13)) rfl trivial rfl <| s_mov (.bool (!r_13)) rfl <| w_done <| k_seq <| ?_
   rcases oi hf with ⟨c15, hf⟩ | ⟨c15, hf⟩
   ·refine w_condt rfl c15 <| awp_seq <| w_reg <| s_mov (.int .i64 1) rfl <| w_done <| k_seq <| w_ret <| ?_; obtain rfl := os hf; exact r_flat ⟨trivial, trivial⟩ rfl (.refl _)
   ·refine w_condf rfl (bf c15) <| awp_seq <| ?_
    obtain ⟨s20_21, hb1, hf⟩ := ob hf
    refine awp_cut ([(20, (.bool s20_21))], []) ?_ ?_
    ·refine w_reg ?_
     obtain ⟨r_23, er24, hb1⟩ := ob hb1
     rcases oi hb1 with ⟨c25, hb1⟩ | ⟨c25, hb1⟩
     ·refine s_mov (.int .i64 session_2) rfl <| s_do (o_call (w_spec_l12Session _ _ er24) rfl (.refl _) rfl) <| s_q (.bool (!r_23)) rfl trivial rfl <| s_mov (.bool (!r_23)) rfl <| s_lit (s := 24) (b := true) rfl c25 <| s_off rfl rfl <| s_off rfl rfl <| s_off rfl rfl <| s_q (.bool true) rfl trivial rfl <| s_mov (.bool true) rfl <| w_done <| ?_; obtain rfl := os hb1; exact ⟨[], [], _, _, rfl, rfl, ⟨.refl _, trivial⟩, (.refl _)⟩
     ·obtain ⟨r_26, er27, hb1⟩ := ob hb1
      refine s_mov (.int .i64 session_2) rfl <| s_do (o_call (w_spec_l12Session _ _ er24) rfl (.refl _) rfl) <| s_q (.bool (!r_23)) rfl trivial rfl <| s_mov (.bool (!r_23)) rfl <| s_lit (s := 24) (b := false) rfl (bf c25) <| s_on rfl <| s_mov (.str name_3) rfl <| s_on rfl <| s_do (o_call (w_spec_NameOK _ _ er27) rfl (.refl _) rfl) <| s_on rfl <| s_q (.bool (!r_26)) rfl trivial rfl <| s_q (.bool (!r_26)) rfl trivial rfl <| s_mov (.bool (!r_26)) rfl <| w_done <| ?_; obtain rfl := os hb1; exact ⟨[], [], _, _, rfl, rfl, ⟨.refl _, trivial⟩, (.refl _)⟩
    ·rcases oi hf with ⟨c28, hf⟩ | ⟨c28, hf⟩
     ·refine w_condt rfl c28 <| awp_seq <| w_reg <| s_mov (.int .i64 4) rfl <| w_done <| k_seq <| w_ret <| ?_; obtain rfl := os hf; exact r_flat ⟨trivial, trivial⟩ rfl (.refl _)
     ·refine w_condf rfl (bf c28) <| w_skip <| k_blk <| k_seq <| awp_seq <| w_reg <| s_mov (.int .i64 0) rfl <| w_done <| k_seq <| w_ret <| ?_; obtain rfl := os hf; exact r_flat ⟨trivial, trivial⟩ rfl (.refl _)

/- spec.TakeLock -/
def c42 : ACode :=
 (.seq (.reg (tm 6 (.c .nil) (tm 7 (.c (.bool false)) (tm 8 (.c (.int .i64 0)) .done))))
 (.seq (.seq (.reg (tm 10 (.t 0) (tq 11 (.len (.t 10)) (tq 12 (.bin .gtr (.t 11) (.c (.int .i64 4096))) (tm 13 (.t 12) (tg 14 13 false (.mov (.t 2)) (tg 15 13 false (.lenS (.t 14)) (tg 16 13 false (.bin .gtr (.t 15) (.c (.int .i64 65536))) (tq 17 (.pick (.t 13) (.c (.bool true)) (.t 16)) .done)))))))))
 (.cut (.cond (.t 17) (.seq (.reg (tq 18 (.bslice 2 []) (tm 6 (.t 18) (tm 7 (.c (.bool false)) (tm 8 (.c (.int .i64 2)) .done)))))
 .ret)
 .skip)))
 (.seq (.seq (.reg (tm 19 (.t 0) (tm 20 (.t 1) (tm 21 (.t 2) (tq 22 (.call 102 [(.t 19), (.t 20), (.t 21)]) (tm 9 (.t 22) .done))))))
 (.seq (.reg (tm 23 (.t 9) (tq 24 (.bin .neq (.t 23) (.c (.int .i64 0))) .done)))
 (.cond (.t 24) (.seq (.reg (tq 25 (.bslice 2 []) (tm 26 (.t 9) (tm 6 (.t 25) (tm 7 (.c (.bool false)) (tm 8 (.t 26) .done))))))
 .ret)
 .skip)))
 (.seq (.reg (tm 27 (.t 0) (tm 28 (.t 1) (tm 29 (.t 2) (tq 30 (.call 116 [(.t 27), (.t 28), (.t 29)]) (tq 31 (.extract 0 (.t 30)) (tq 32 (.extract 1 (.t 30)) (tq 33 (.extract 2 (.t 30)) (tm 6 (.t 31) (tm 7 (.t 32) (tm 8 (.t 33) .done)))))))))))
 .ret))))
theorem fc42 : fcomp Try.prog Try.f42 = some (c42.erase, [.mov (.t 6), .mov (.t 7), .mov (.t 8)], 34) := by kernel_rfl
def spec_TakeLock (list_1 : (List GLock)) (session_2 : Int) (name_3 : Str) : Option ((List GLock) × Bool × Int) :=
    ((if (decide ((list_1.length : Int) > 4096)) then
    some true
    else
    some (decide ((name_3.length : Int) > 65536)) : Option Bool)).bind fun s17_7 =>
    if s17_7 then
    some ([], false, 2)
    else
    (spec_l12Ask list_1 session_2 name_3).bind fun r_13 =>
    if (r_13 != 0) then
    some ([], false, r_13)
    else
    (spec_l12Take list_1 session_2 name_3).bind fun r_16 =>
    some (r_16.1, r_16.2.1, r_16.2.2)
theorem w_spec_TakeLock (list_1 : (List GLock)) (session_2 : Int) (name_3 : Str) (r : ((List GLock) × Bool × Int)) (hf : spec_TakeLock list_1 session_2 name_3 = some r) : CallOK Try.prog 42 .fresh [(.lst 2 (list_1.map encGLock)), (.int .i64 session_2), (.str name_3)] (.tup [(.lst 2 (r.1.map encGLock)), (.bool r.2.1), (.int .i64 r.2.2)]) := by
 refine CallOK.of_awp mixed Try.func42 fc42 nle ?_; rw [argT_eq]; unfold spec_TakeLock at hf; unfold c42; refine (show awp Try.prog true 0 _ (ofL [(0, (.lst 2 (list_1.map encGLock))), (1, (.int .i64 session_2)), (2, (.str name_3))]) [] _ from ?_); refine awp_seq <| w_reg <| s_mov .nil rfl <| s_mov (.bool false) rfl <| s_mov (.int .i64 0) rfl <| w_done <| k_seq <| awp_seq <| awp_seq <| ?_
 obtain ⟨s17_7, hb1, hf⟩ := ob hf
 refine awp_cut ([(0, (.lst 2 (list_1.map encGLock))), (1, (.int .i64 session_2)), (2, (.str name_3)), (17, (.bool s17_7))], []) ?_ ?_
 ·refine w_reg ?_
  rcases oi hb1 with ⟨c10, hb1⟩ | ⟨c10, hb1⟩
  ·refine s_mov (.lst 2 (list_1.map encGLock)) rfl <| s_dof (o_len (enc := encGLock) rfl) fun hl9 => s_q (.bool (decide ((list_1.length : Int) > 4096))) rfl rfl rfl <| s_mov (.bool (decide ((list_1.length : Int) > 4096))) rfl <| s_lit (s := 13) (b := true) rfl c10 <| s_off rfl rfl <| s_off rfl rfl <| s_off rfl rfl <| s_q (.bool true) rfl trivial rfl <| w_done <| ?_; obtain rfl := os hb1; exact ⟨[], [], _, _, rfl, rfl, ⟨.refl _, ⟨.refl _, ⟨.refl _, ⟨.refl _, trivial⟩⟩⟩⟩, (.refl _)⟩
  ·refine s_mov (.lst 2 (list_1.map encGLock)) rfl <| s_dof (o_len (enc := encGLock) rfl) fun hl9 => s_q (.bool (decide ((list_1.length : Int) > 4096))) rfl rfl rfl <| s_mov (.bool (decide ((list_1.length : Int) > 4096))) rfl <| s_lit (s := 13) (b := false) rfl (bf c10) <| s_on rfl <| s_mov (.str name_3) rfl <| s_on rfl <| s_dof (o_lenS rfl) fun hl11 => s_on rfl <| s_q (.bool (decide ((name_3.length : Int) > 65536))) rfl rfl rfl <| s_q (.bool (decide ((name_3.length : Int) > 65536))) rfl trivial rfl <| w_done <| ?_; obtain rfl := os hb1; exact ⟨[], [], _, _, rfl, rfl, ⟨.refl _, ⟨.refl _, ⟨.refl _, ⟨.refl _, trivial⟩⟩⟩⟩, (.refl _)⟩
 ·rcases oi hf with ⟨c12, hf⟩ | ⟨c12, hf⟩
  ·refine w_condt rfl c12 <| awp_seq <| w_reg <| ?_; refine s_do (o_bslice (j := 0) (as' := []) rfl (fun _ => by decide) trivial (.refl _) rfl rfl rfl) ?_; refine s_mov (.own 0 0 0) rfl <| s_mov (.bool false) rfl <| s_mov (.int .i64 2) rfl <| w_done <| k_seq <| w_ret <| ?_; obtain rfl := os hf; exact r_fresh ⟨trivial, ⟨trivial, ⟨trivial, trivial⟩⟩⟩ rfl (by decide) (.refl _)
  ·refine w_condf rfl (bf c12) <| w_skip <| k_seq <| awp_seq <| awp_seq <| w_reg <| ?_
   obtain ⟨r_13, er14, hf⟩ := ob hf
   refine s_mov (.lst 2 (list_1.map encGLock)) rfl <| s_mov (.int .i64 session_2) rfl <| s_mov (.str name_3) rfl <| s_do (o_call (w_spec_l12Ask _ _ _ _ er14) rfl (.refl _) rfl) <| s_mov (.int .i64 r_13) rfl <| w_done <| k_seq <| awp_seq <| w_reg <| s_mov (.int .i64 r_13) rfl <| s_q (.bool (r_13 != 0)) rfl rfl rfl <| w_done <| k_seq <| ?_
   rcases oi hf with ⟨c15, hf⟩ | ⟨c15, hf⟩
   ·refine w_condt rfl c15 <| awp_seq <| w_reg <| ?_; refine s_do (o_bslice (j := 0) (as' := []) rfl (fun _ => by decide) trivial (.refl _) rfl rfl rfl) ?_; refine s_mov (.int .i64 r_13) rfl <| s_mov (.own 0 0 0) rfl <| s_mov (.bool false) rfl <| s_mov (.int .i64 r_13) rfl <| w_done <| k_seq <| w_ret <| ?_; obtain rfl := os hf; exact r_fresh ⟨trivial, ⟨trivial, ⟨trivial, trivial⟩⟩⟩ rfl (by decide) (.refl _)
   ·refine w_condf rfl (bf c15) <| w_skip <| k_seq <| awp_seq <| w_reg <| ?_
    obtain ⟨r_16, er17, hf⟩ := ob hf
    refine s_mov (.lst 2 (list_1.map encGLock)) rfl <| s_mov (.int .i64 session_2) rfl <| s_mov (.str name_3) rfl <| s_do (o_callf (v := (.tup [(.own 0 0 r_16.1.length), (.bool r_16.2.1), (.int .i64 r_16.2.2)])) (h' := [.row 2 (r_16.1.map encGLock)]) (w_spec_l12Take _ _ _ _ er17) rfl (.refl _) (by simp only [openV, openVs, List.length_map, List.nil_append, List.append_nil, List.cons_append]; rfl)) <| s_q (.own 0 0 r_16.1.length) rfl nle rfl <| s_q (.bool r_16.2.1) rfl nle rfl <| s_q (.int .i64 r_16.2.2) rfl nle rfl <| s_mov (.own 0 0 r_16.1.length) rfl <| s_mov (.bool r_16.2.1) rfl <| s_mov (.int .i64 r_16.2.2) rfl <| w_done <| k_seq <| w_ret <| ?_; obtain rfl := os hf; exact r_fresh ⟨trivial, ⟨trivial, ⟨trivial, trivial⟩⟩⟩ rfl (by decide) (.tup (.cons (.of_eq (congrArg (AV.lst _) (tk (enc := encGLock) r_16.1))) (.cons (.refl _) (.cons (.refl _) .nil))))

/- slices.IndexFunc[[]int,int] -/
def c202 : ACode :=
 (.seq (.reg (tm 4 (.c (.int .i64 0)) .done))
 (.seq (.seq (.reg (tm 6 (.t 0) (tq 7 (.len (.t 6)) (tm 8 (.c (.int .i64 0)) .done))))
 (.block 0 (.loop (.seq (.reg (tq 9 (.bin .lss (.t 8) (.t 7)) .done))
 (.seq (.cond (.t 9) .skip
 (.exit 0))
 (.seq (.block 1 (.seq (.reg (tm 10 (.t 8) (tm 5 (.t 10) .done)))
 (.seq (.reg (tm 11 (.t 1) (tm 12 (.t 0) (tm 13 (.t 5) (tq 14 (.iaddr 1 (.t 12) (.t 13)) (tq 15 (.load 1 false (.t 14)) (tq 16 (.calv (.t 11) [(.t 15)]) .done)))))))
 (.cond (.t 16) (.seq (.reg (tm 17 (.t 5) (tm 4 (.t 17) .done)))
 .ret)
 .skip))))
 (.reg (tq 18 (.bin .add (.t 8) (.c (.int .i64 1))) (tm 8 (.t 18) .done)))))))))
 (.cut (.seq (.reg (tq 4 (.mov (.c (.int .i64 (-1)))) .done))
 .ret))))
theorem fc202 : fcomp Try.prog Try.f202 = some (c202.erase, [.mov (.t 4)], 19) := by kernel_rfl
def slices_IndexFunc_int_int_L1 (f_2 : (Int → Option Bool)) : List Int → Nat → Option (Fl Int Unit)
  | [], s8_17 =>
    some (.go ())
  | x_31 :: xs, s8_17 =>
    (f_2 x_31).bind fun r_32 =>
    if r_32 then
    some (.ret (s8_17 : Int))
    else
    slices_IndexFunc_int_int_L1 f_2 xs (s8_17 + 1)

def slices_IndexFunc_int_int (s_1 : (List Int)) (f_2 : (Int → Option Bool)) : Option Int :=
    (slices_IndexFunc_int_int_L1 f_2 s_1 0).bind fun q => (match q with
    | .ret r => some r
    | .go _ =>
    some (-1))
theorem w_slices_IndexFunc_int_int (s_1 : (List Int)) (f_2 : (Int → Option Bool)) (r : Int) (hf : slices_IndexFunc_int_int s_1 f_2 = some r) (kf_f_2 : Nat) (cf_f_2 : List AV) (okf_f_2 : okFn Try.prog kf_f_2 = true) (hcf_f_2 : ∀ h p, closeWs h p cf_f_2 = some cf_f_2) (hrf_f_2 : ∀ f, rens f cf_f_2 = cf_f_2) (hpf_f_2 : ∀ a0 r, f_2 a0 = some r → CallOK Try.prog kf_f_2 .flat ([(.int .i64 a0)] ++ cf_f_2) (.bool r)) : CallOK Try.prog 202 .flat [(.lst 1 (s_1.map encI)), (.fn kf_f_2 cf_f_2)] (.int .i64 r) := by
 refine CallOK.of_awp mixed Try.func202 fc202 nle ?_; rw [argT_eq]; unfold slices_IndexFunc_int_int at hf; unfold c202; refine (show awp Try.prog false 0 _ (ofL [(0, (.lst 1 (s_1.map encI))), (1, (.fn kf_f_2 cf_f_2))]) [] _ from ?_); refine awp_seq <| w_reg <| s_mov (.int .i64 0) rfl <| w_done <| k_seq <| awp_seq <| awp_seq <| w_reg <| s_mov (.lst 1 (s_1.map encI)) rfl <| s_dof (o_len (enc := encI) rfl) fun hl3 => s_mov (.int .i64 0) rfl <| w_done <| k_seq <| ?_
 obtain ⟨p24, hb1, hf⟩ := ob hf
 refine awp_cutx (X := {q : Unit // p24 = .go q}) (fun q => ([], [])) ?_ ?_
 ·refine awp_loop (X := {q : Nat // slices_IndexFunc_int_int_L1 f_2 (s_1.drop q) q = some p24}) (fun q => ([(0, (.lst 1 (s_1.map encI))), (1, (.fn kf_f_2 cf_f_2)), (7, (.int .i64 (s_1.length : Int))), (8, (.int .i64 (q.1 : Int)))], [])) (fun q => s_1.length - q.1) ⟨0, hb1⟩ ⟨[], [], _, _, rfl, rfl, ⟨.refl _, ⟨.of_eq (congrArg (AV.fn _) (hrf_f_2 _)), ⟨.refl _, ⟨.refl _, trivial⟩⟩⟩⟩, (.refl _)⟩ ?_
  rintro ⟨s8_17, hc1⟩
  have hc1 : slices_IndexFunc_int_int_L1 f_2 (s_1.drop s8_17) s8_17 = some p24 := hc1
  refine (show awp Try.prog false 0 _ (ofL [(0, (.lst 1 (s_1.map encI))), (1, (.fn kf_f_2 cf_f_2)), (7, (.int .i64 (s_1.length : Int))), (8, (.int .i64 (s8_17 : Int)))]) [] _ from ?_)
  rcases dropc s_1 s8_17 with ⟨hie27, hd30⟩ | ⟨hlt25, x_31, hx26, hd30⟩
  ·rw [hd30, slices_IndexFunc_int_int_L1.eq_1] at hc1
   have hq29 := dlf hie27
   refine awp_seq <| w_reg <| s_q (.bool (decide ((s8_17 : Int) < (s_1.length : Int)))) rfl rfl rfl <| w_done <| k_seq <| awp_seq <| w_condf rfl hq29 <| w_exit <| k_seqx <| k_loopx <| k_blkx <| ?_; obtain rfl := os hc1; exact k_cutn ⟨_, rfl⟩ ⟨[], [], _, _, rfl, rfl, trivial, (.refl _)⟩
  ·rw [hd30, slices_IndexFunc_int_int_L1.eq_2] at hc1
   have hq29 := dlt hlt25
   refine awp_seq <| w_reg <| s_q (.bool (decide ((s8_17 : Int) < (s_1.length : Int)))) rfl rfl rfl <| w_done <| k_seq <| awp_seq <| w_condt rfl hq29 <| w_skip <| k_seq <| awp_seq <| w_blk <| awp_seq <| w_reg <| s_mov (.int .i64 (s8_17 : Int)) rfl <| s_mov (.int .i64 (s8_17 : Int)) rfl <| w_done <| k_seq <| awp_seq <| w_reg <| ?_
   obtain ⟨r_32, er33, hc1⟩ := ob hc1
   refine s_mov (.fn kf_f_2 cf_f_2) rfl <| s_mov (.lst 1 (s_1.map encI)) rfl <| s_mov (.int .i64 (s8_17 : Int)) rfl <| s_do (o_iaddrn (enc := encI) rfl rfl hx26) <| s_q (.int .i64 x_31) rfl ⟨rfl, rfl⟩ rfl <| s_do (o_calvp (v := (.bool r_32)) rfl okf_f_2 hcf_f_2 (hpf_f_2 _ _ er33) rfl (.refl _) rfl) <| w_done <| k_seq <| ?_
   rcases oi hc1 with ⟨c34, hc1⟩ | ⟨c34, hc1⟩
   ·refine w_condt rfl c34 <| awp_seq <| w_reg <| s_mov (.int .i64 (s8_17 : Int)) rfl <| s_mov (.int .i64 (s8_17 : Int)) rfl <| w_done <| k_seq <| w_ret <| ?_; obtain rfl := os hc1; obtain rfl := os hf; exact r_flat ⟨trivial, trivial⟩ rfl (.refl _)
   ·refine w_condf rfl (bf c34) <| w_skip <| k_blk <| k_seq <| w_reg <| s_q (.int .i64 (w64 ((s8_17 : Int) + 1))) rfl rfl rfl <| s_mov (.int .i64 (w64 ((s8_17 : Int) + 1))) rfl <| w_done <| ?_; exact k_loopn ⟨(s8_17 + 1), hc1⟩ (mul hlt25) ⟨[], [], _, _, rfl, rfl, ⟨.refl _, ⟨.of_eq (congrArg (AV.fn _) (hrf_f_2 _)), ⟨.refl _, ⟨.of_eq (congrArg (AV.int _) (w64_incr hlt25 hl3)), trivial⟩⟩⟩⟩, (.refl _)⟩
 ·rintro ⟨_, rfl⟩
  refine awp_seq <| w_reg <| s_mov (.int .i64 (-1)) rfl <| w_done <| k_seq <| w_ret <| ?_; obtain rfl := os hf; exact r_flat ⟨trivial, trivial⟩ rfl (.refl _)

/- impl.StealLock$1 -/
def c121 : ACode :=
 (.seq (.reg (tm 3 (.c (.bool false)) .done))
 (.seq (.reg (tm 4 (.t 0) (tq 5 (.load 1 false (.t 1)) (tq 6 (.bin .eql (.t 4) (.t 5)) (tm 3 (.t 6) .done)))))
 .ret))
theorem fc121 : fcomp Try.prog Try.f121 = some (c121.erase, [.mov (.t 3)], 7) := by kernel_rfl
def impl_StealLock_1 (own_1 : Int) (cap_2 : Int) : Option Bool :=
    some (own_1 == cap_2)
theorem w_impl_StealLock_1 (own_1 : Int) (cap_2 : Int) (r : Bool) (hf : impl_StealLock_1 own_1 cap_2 = some r) : CallOK Try.prog 121 .flat [(.int .i64 own_1), (.iptr (.int .i64 cap_2) 0)] (.bool r) := by
  refine CallOK.of_awp mixed Try.func121 fc121 nle ?_
  rw [argT_eq]
  unfold impl_StealLock_1 at hf
  unfold c121
  refine (show awp Try.prog false 0 _ (ofL [(0, (.int .i64 own_1)), (1, (.iptr (.int .i64 cap_2) 0))]) [] _ from ?_)
  refine awp_seq ?_
  refine w_reg ?_
  refine s_do (o_mov (.bool false) rfl) ?_
  refine w_done ?_
  refine k_seq ?_
  refine awp_seq ?_
  refine w_reg ?_
  refine s_do (o_mov (.int .i64 own_1) rfl) ?_
  refine s_do (o_q (.int .i64 cap_2) rfl ⟨rfl, rfl⟩ rfl) ?_
  refine s_do (o_q (.bool (own_1 == cap_2)) rfl rfl rfl) ?_
  refine s_do (o_mov (.bool (own_1 == cap_2)) rfl) ?_
  refine w_done ?_
  refine k_seq ?_
  refine w_ret ?_
  obtain rfl := os hf
  exact r_flat ⟨trivial, trivial⟩ rfl (.refl _)

/- slices.DeleteFunc[[]int,int] -/
def c119_h0 : ACode :=
 (.seq (.reg (tm 4 (.c .nil) .done))
 (.seq (.reg (tm 8 (.t 0) (tm 9 (.t 1) (tq 10 (.call 202 [(.t 8), (.t 9)]) (tm 5 (.t 10) .done)))))
 (.seq (.seq (.reg (tm 11 (.t 5) (tq 12 (.bin .eql (.t 11) (.c (.int .i64 (-1)))) .done)))
 (.cond (.t 12) (.seq (.reg (tm 13 (.t 0) (tm 4 (.t 13) .done)))
 .ret)
 .skip))
 (.seq (.seq (.reg (tm 14 (.t 5) (tq 15 (.bin .add (.t 14) (.c (.int .i64 1))) (tm 6 (.t 15) .done))))
 (.block 0 (.loop (.seq (.seq (.reg (tm 16 (.t 6) (tm 17 (.t 0) (tq 18 (.len (.t 17)) (tq 19 (.bin .lss (.t 16) (.t 18)) .done)))))
 (.cond (.t 19) .skip
 (.exit 0)))
 (.seq (.block 1 (.seq (.reg (tm 22 (.t 0) (tm 23 (.t 6) (tq 24 (.iaddr 1 (.t 22) (.t 23)) (tq 25 (.load 1 false (.t 24)) (tm 7 (.t 25) .done))))))
 (.seq (.reg (tm 26 (.t 1) (tm 27 (.t 7) (tq 28 (.calv (.t 26) [(.t 27)]) (tq 29 (.not (.t 28)) .done)))))
 (.cond (.t 29) (.seq (.reg (tm 30 (.t 0) (tm 31 (.t 5) (tm 32 (.t 7) (tq 33 (.iaddr 1 (.t 30) (.t 31)) (.q ⟨none, none, .store 1 (.t 33) (.t 32)⟩
 .done))))))
 (.reg (tm 34 (.t 5) (tq 35 (.bin .add (.t 34) (.c (.int .i64 1))) (tm 5 (.t 35) .done)))))
 .skip))))
 (.reg (tm 20 (.t 6) (tq 21 (.bin .add (.t 20) (.c (.int .i64 1))) (tm 6 (.t 21) .done)))))))))
 (.cut (.seq (.reg (tm 36 (.t 0) (tm 37 (.t 5) (tq 38 (.slice 1 (.t 36) (some (.t 37)) none) (.q ⟨none, none, .clr 1 (.int .i64 0) (.t 38)⟩
 .done)))))
 (.seq (.reg (tm 39 (.t 0) (tm 40 (.t 5) (tq 41 (.slice 1 (.t 39) none (some (.t 40))) (tm 4 (.t 41) .done)))))
 .ret)))))))
theorem fc119_h0 : fcomp Try.prog Try.f119 = some (c119_h0.erase, [.mov (.t 4)], 42) := by kernel_rfl
def slices_DeleteFunc_int_int_h0_L1 (c_2 : Int) : Nat → Int → Int → (List Int) → Option (Int × (List Int))
  | 0, _, _, _ => none
  | k + 1, i_71, j_72, s_73 =>
    if (decide (j_72 < (s_73.length : Int))) then
    if (0 : Int) ≤ j_72 ∧ j_72 < (s_73.length : Int) then
    (s_73[(0 + j_72.toNat)]?).bind fun x_91 =>
    (impl_StealLock_1 x_91 c_2).bind fun r_93 =>
    if (!r_93) then
    if (0 : Int) ≤ i_71 ∧ i_71 < (s_73.length : Int) then
    (s_73[(0 + i_71.toNat)]?).bind fun x_97 =>
    slices_DeleteFunc_int_int_h0_L1 c_2 k (w64 (i_71 + 1)) (w64 (j_72 + 1)) (s_73.set (0 + i_71.toNat) x_91)
    else none
    else
    slices_DeleteFunc_int_int_h0_L1 c_2 k i_71 (w64 (j_72 + 1)) s_73
    else none
    else
    some (i_71, s_73)

def slices_DeleteFunc_int_int_h0 (s_1 : (List Int)) (c_2 : Int) : Option ((List Int) × Int) :=
    (slices_IndexFunc_int_int s_1 (fun a0 => impl_StealLock_1 a0 c_2)).bind fun r_3 =>
    if (r_3 == (-1)) then
    some (s_1, c_2)
    else
    (slices_DeleteFunc_int_int_h0_L1 c_2 FUEL r_3 (w64 (r_3 + 1)) s_1).bind fun p87 =>
    (match p87 with
    | (i_85, s_86) =>
    if (0 : Int) ≤ i_85 ∧ i_85 ≤ (s_86.length : Int) then
    if (0 : Int) ≤ i_85 ∧ i_85 ≤ (s_86.length : Int) then
    some ((s_86.take i_85.toNat ++ List.replicate (s_86.length - i_85.toNat) 0 ++ s_86.drop (i_85.toNat + (s_86.length - i_85.toNat))).take i_85.toNat, c_2)
    else none
    else none)
theorem w_slices_DeleteFunc_int_int_h0 (s_1 : (List Int)) (c_2 : Int) (r : ((List Int) × Int)) (hf : slices_DeleteFunc_int_int_h0 s_1 c_2 = some r) : CallHeap Try.prog true 119 [(.own 0 0 s_1.length), (.fn 121 [(.ptr 1 0 0)])] [.row 1 (s_1.map encI), .box 1 (.int .i64 c_2)] (.own 2 0 r.1.length) [.dead, .box 1 (.int .i64 r.2), .row 1 (r.1.map encI)] := by
 refine CallHeap.of_awp mixed Try.func119 fc119_h0 nle ?_; rw [argT_eq]; unfold slices_DeleteFunc_int_int_h0 at hf; unfold c119_h0; refine (show awp Try.prog true 2 _ (ofL [(0, (.own 0 0 s_1.length)), (1, (.fn 121 [(.ptr 1 0 0)]))]) [.row 1 (s_1.map encI), .box 1 (.int .i64 c_2)] _ from ?_); refine awp_seq <| w_reg <| s_mov .nil rfl <| w_done <| k_seq <| awp_seq <| w_reg <| ?_
 obtain ⟨r_3, er4, hf⟩ := ob hf
 refine s_mov (.own 0 0 s_1.length) rfl <| s_mov (.fn 121 [(.ptr 1 0 0)]) rfl <| ?_; refine s_do (o_call (w_slices_IndexFunc_int_int _ _ _ er4 121 [(.iptr (.int .i64 c_2) 0)] (by kernel_rfl) (fun _ _ => rfl) (fun _ => rfl) (fun a0 r h => w_impl_StealLock_1 a0 c_2 r h)) rfl (.cons (.of_eq (congrArg (AV.lst _) (tko s_1))) (.cons (.refl _) .nil)) rfl) ?_; refine s_mov (.int .i64 r_3) rfl <| w_done <| k_seq <| awp_seq <| awp_seq <| w_reg <| s_mov (.int .i64 r_3) rfl <| s_q (.bool (r_3 == (-1))) rfl rfl rfl <| w_done <| k_seq <| ?_
 rcases oi hf with ⟨c5, hf⟩ | ⟨c5, hf⟩
 ·refine w_condt rfl c5 <| awp_seq <| w_reg <| s_mov (.own 0 0 s_1.length) rfl <| s_mov (.own 0 0 s_1.length) rfl <| w_done <| k_seq <| w_ret <| ?_; obtain rfl := os hf; exact r_heap [.mv 0] [0, 1, 2] rfl ⟨trivial, trivial⟩ rfl (.refl _) (.refl _)
 ·refine w_condf rfl (bf c5) <| w_skip <| k_seq <| awp_seq <| awp_seq <| w_reg <| s_mov (.int .i64 r_3) rfl <| s_q (.int .i64 (w64 (r_3 + 1))) rfl rfl rfl <| s_mov (.int .i64 (w64 (r_3 + 1))) rfl <| w_done <| k_seq <| ?_
  obtain ⟨p87, hb1, hf⟩ := ob hf
  refine awp_cut ([(0, (.own 0 0 p87.2.length)), (5, (.int .i64 p87.1))], [.row 1 (p87.2.map encI), .box 1 (.int .i64 c_2)]) ?_ ?_
  ·refine awp_loop (X := {q : (Nat × Int × Int × (List Int)) // slices_DeleteFunc_int_int_h0_L1 c_2 q.1 q.2.1 q.2.2.1 q.2.2.2 = some p87}) (fun q => ([(0, (.own 0 0 q.1.2.2.2.length)), (1, (.fn 121 [(.ptr 1 0 0)])), (5, (.int .i64 q.1.2.1)), (6, (.int .i64 q.1.2.2.1))], [.row 1 (q.1.2.2.2.map encI), .box 1 (.int .i64 c_2)])) (fun q => q.1.1) ⟨(FUEL, r_3, w64 (r_3 + 1), s_1), hb1⟩ ⟨[], [0, 1], _, _, rfl, rfl, ⟨.refl _, ⟨.refl _, ⟨.refl _, ⟨.refl _, trivial⟩⟩⟩⟩, (.refl _)⟩ ?_
   rintro ⟨⟨k, i_71, j_72, s_73⟩, hc1⟩
   have hc1 : slices_DeleteFunc_int_int_h0_L1 c_2 k i_71 j_72 s_73 = some p87 := hc1
   refine (show awp Try.prog true 2 _ (ofL [(0, (.own 0 0 s_73.length)), (1, (.fn 121 [(.ptr 1 0 0)])), (5, (.int .i64 i_71)), (6, (.int .i64 j_72))]) [.row 1 (s_73.map encI), .box 1 (.int .i64 c_2)] _ from ?_)
   rcases k with _ | k
   ·rw [slices_DeleteFunc_int_int_h0_L1.eq_1] at hc1
    cases hc1
   ·rw [slices_DeleteFunc_int_int_h0_L1.eq_2] at hc1; refine awp_seq <| awp_seq <| w_reg <| s_mov (.int .i64 j_72) rfl <| s_mov (.own 0 0 s_73.length) rfl <| s_dof (o_lenown rfl rfl) fun hl88 => s_q (.bool (decide (j_72 < (s_73.length : Int)))) rfl rfl rfl <| w_done <| k_seq <| ?_
    rcases oi hc1 with ⟨c89, hc1⟩ | ⟨c89, hc1⟩
    ·refine w_condt rfl c89 <| w_skip <| k_seq <| awp_seq <| w_blk <| awp_seq <| w_reg <| ?_
     obtain ⟨g90, hc1⟩ := og hc1
     obtain ⟨x_91, ex92, hc1⟩ := ob hc1
     refine s_mov (.own 0 0 s_73.length) rfl <| s_mov (.int .i64 j_72) rfl <| s_do (o_iaddrown rfl rfl g90.1 g90.2 rfl rfl) <| s_do (o_loadrow (enc := encI) (v := (.int .i64 x_91)) rfl rfl ex92 ⟨rfl, rfl⟩ rfl) <| s_mov (.int .i64 x_91) rfl <| w_done <| k_seq <| awp_seq <| w_reg <| ?_
     obtain ⟨r_93, er94, hc1⟩ := ob hc1
     refine s_mov (.fn 121 [(.ptr 1 0 0)]) rfl <| s_mov (.int .i64 x_91) rfl <| s_do (o_calvk (v := (.bool r_93)) rfl (by kernel_rfl) (w_impl_StealLock_1 _ _ _ er94) rfl rfl (.refl _) rfl) <| s_q (.bool (!r_93)) rfl trivial rfl <| w_done <| k_seq <| ?_
     rcases oi hc1 with ⟨c95, hc1⟩ | ⟨c95, hc1⟩
     ·refine w_condt rfl c95 <| awp_seq <| w_reg <| ?_
      obtain ⟨g96, hc1⟩ := og hc1
      obtain ⟨x_97, ex98, hc1⟩ := ob hc1
      refine s_mov (.own 0 0 s_73.length) rfl <| s_mov (.int .i64 i_71) rfl <| s_mov (.int .i64 x_91) rfl <| s_do (o_iaddrown rfl rfl g96.1 g96.2 rfl rfl) <| ?_; refine s_do0 (o_storerow (v' := (.int .i64 x_91)) (e' := x_91) rfl rfl ex98 rfl rfl rfl (by decide) (fun _ => by decide) ⟨rfl, rfl, rfl⟩ (.refl _) rfl) ?_; refine w_done <| k_seq <| w_reg <| s_mov (.int .i64 i_71) rfl <| s_q (.int .i64 (w64 (i_71 + 1))) rfl rfl rfl <| s_mov (.int .i64 (w64 (i_71 + 1))) rfl <| w_done <| k_blk <| k_seq <| w_reg <| s_mov (.int .i64 j_72) rfl <| s_q (.int .i64 (w64 (j_72 + 1))) rfl rfl rfl <| s_mov (.int .i64 (w64 (j_72 + 1))) rfl <| w_done <| ?_; exact k_loopn ⟨(k, w64 (i_71 + 1), w64 (j_72 + 1), s_73.set (0 + i_71.toNat) x_91), hc1⟩ (Nat.lt_succ_self _) ⟨[], [0, 1], _, _, rfl, rfl, ⟨.of_eq (congrArg (AV.own _ 0) (by simp)), ⟨.refl _, ⟨.refl _, ⟨.refl _, trivial⟩⟩⟩⟩, (.refl _)⟩
     ·refine w_condf rfl (bf c95) <| w_skip <| k_blk <| k_seq <| w_reg <| s_mov (.int .i64 j_72) rfl <| s_q (.int .i64 (w64 (j_72 + 1))) rfl rfl rfl <| s_mov (.int .i64 (w64 (j_72 + 1))) rfl <| w_done <| ?_; exact k_loopn ⟨(k, i_71, w64 (j_72 + 1), s_73), hc1⟩ (Nat.lt_succ_self _) ⟨[], [0, 1], _, _, rfl, rfl, ⟨.refl _, ⟨.refl _, ⟨.refl _, ⟨.refl _, trivial⟩⟩⟩⟩, (.refl _)⟩
    ·refine w_condf rfl (bf c89) <| w_exit <| k_seqx <| k_loopx <| k_blkx <| ?_; obtain rfl := os hc1; exact ⟨[], [0, 1], _, _, rfl, rfl, ⟨.refl _, ⟨.refl _, trivial⟩⟩, (.refl _)⟩
  ·obtain ⟨i_85, s_86⟩ := p87
   refine awp_seq <| w_reg <| ?_
   obtain ⟨g99, hf⟩ := og hf
   refine s_mov (.own 0 0 s_86.length) rfl <| s_mov (.int .i64 i_85) rfl <| s_do (o_sldo rfl rfl rfl g99.1 g99.2) <| s_do0 (o_clr (enc := encI) (y := 0) rfl rfl (.refl _) rfl) <| w_done <| k_seq <| awp_seq <| w_reg <| ?_
   obtain ⟨g100, hf⟩ := og hf
   refine s_mov (.own 0 0 s_86.length) rfl <| s_mov (.int .i64 i_85) rfl <| s_do (o_slto rfl rfl rfl g100.1 g100.2) <| s_mov (.own 0 0 i_85.toNat) rfl <| w_done <| k_seq <| w_ret <| ?_; obtain rfl := os hf; exact r_heap [.trim 4] [0, 1, 2] rfl ⟨trivial, trivial⟩ rfl ((.cons (.refl _) (.cons (.refl _) (.cons ((LeO.tk (enc := encI) (s_86.take i_85.toNat ++ List.replicate (s_86.length - i_85.toNat) 0 ++ s_86.drop (i_85.toNat + (s_86.length - i_85.toNat))) _)) .nil)))) (.of_eq (congrArg (AV.own _ 0) (by simp)))

/- impl.StealLock -/
def c45 : ACode :=
 (.seq (.reg (tq 4 (.box 1 (.t 1)) (tm 6 (.c .nil) (tm 7 (.c .nil) (tm 8 (.c (.int .i64 0)) .done)))))
 (.seq (.seq (.reg (tm 16 (.t 0) (tq 17 (.load 1 false (.t 4)) (tm 18 (.t 2) (tq 19 (.call 111 [(.t 16), (.t 17), (.t 18)]) (tm 9 (.t 19) .done))))))
 (.seq (.reg (tm 20 (.t 9) (tq 21 (.bin .neq (.t 20) (.c (.int .i64 0))) .done)))
 (.cond (.t 21) (.seq (.reg (tm 22 (.t 9) (tm 6 (.c .nil) (tm 7 (.c .nil) (tm 8 (.t 22) .done)))))
 .ret)
 .skip)))
 (.seq (.reg (tm 24 (.t 0) (tm 25 (.t 2) (tq 26 (.call 117 [(.t 24), (.t 25)]) (tm 23 (.t 26) (tq 27 (.extract 0 (.t 23)) (tq 28 (.extract 1 (.t 23)) (tq 29 (.extract 2 (.t 23)) (tm 10 (.t 27) (tm 11 (.t 28) (tm 12 (.t 29) .done)))))))))))
 (.seq (.seq (.reg (tm 30 (.t 12) (tq 31 (.bin .neq (.t 30) (.c (.int .i64 0))) .done)))
 (.cond (.t 31) (.seq (.reg (tm 32 (.t 10) (tm 33 (.t 12) (tm 6 (.t 32) (tm 7 (.c .nil) (tm 8 (.t 33) .done))))))
 .ret)
 .skip))
 (.seq (.reg (tm 35 (.t 10) (tm 36 (.t 11) (tq 37 (.iaddr 2 (.t 35) (.t 36)) (tq 38 (.faddr 1 (.t 37)) (tq 39 (.load 1 false (.t 38)) (.l ⟨(some 34), none, .bslice 3 []⟩ [⟨(some 39), none, .load 1 false (.t 38)⟩, ⟨(some 38), none, .faddr 1 (.t 37)⟩, ⟨(some 37), none, .iaddr 2 (.t 35) (.t 36)⟩]
 (tm 13 (.t 34) (tm 14 (.t 39) .done)) .non)))))))
 (.seq (.seq (.reg (tm 40 (.t 14) (tq 41 (.len (.t 40)) (tq 42 (.bin .gtr (.t 41) (.c (.int .i64 0))) (tm 43 (.t 42) (tg 44 43 true (.mov (.t 14)) (tg 45 43 true (.iaddr 1 (.t 44) (.c (.int .i64 0))) (tg 46 43 true (.load 1 false (.t 45)) (tg 47 43 true (.load 1 false (.t 4)) (tg 48 43 true (.bin .neq (.t 46) (.t 47)) (tq 49 (.pick (.t 43) (.t 48) (.c (.bool false))) .done)))))))))))
 (.cut (.cond (.t 49) (.reg (tm 50 (.t 13) (tm 51 (.t 14) (tq 52 (.iaddr 1 (.t 51) (.c (.int .i64 0))) (tq 53 (.load 1 false (.t 52)) (tm 54 (.t 2) (tq 55 (.build [(.int .i64 0), (.str []), (.str [])] [(0, 1, (.t 53)), (1, 1, (.c (.str [115, 116, 111, 108, 101, 110]))), (2, 1, (.t 54))]) (tq 56 (.bslice 3 [(.t 55)]) (tq 57 (.append 3 40 (.t 50) (.t 56)) (tm 13 (.t 57) .done))))))))))
 .skip)))
 (.cut (.seq (.reg (tm 58 (.t 14) (tq 59 (.call 120 [(.t 58)]) (tq 60 (.mkfn 121 [(.t 4)]) (tq 61 (.call 119 [(.t 59), (.t 60)]) (tm 15 (.t 61) .done))))))
 (.seq (.reg (tm 62 (.t 10) (tm 63 (.t 11) (tq 64 (.load 1 false (.t 4)) (tq 65 (.bslice 1 [(.t 64)]) (tm 66 (.t 15) (tq 67 (.append 1 8 (.t 65) (.t 66)) (tq 68 (.iaddr 2 (.t 62) (.t 63)) (tq 69 (.faddr 1 (.t 68)) (.q ⟨none, none, .store 1 (.t 69) (.t 67)⟩
 .done))))))))))
 (.seq (.reg (tm 70 (.t 10) (tm 71 (.t 13) (tm 6 (.t 70) (tm 7 (.t 71) (tm 8 (.c (.int .i64 0)) .done))))))
 .ret))))))))))
theorem fc45 : fcomp Try.prog Try.f45 = some (c45.erase, [.mov (.t 6), .mov (.t 7), .mov (.t 8)], 72) := by kernel_rfl
def impl_StealLock (list_1 : (List GLock)) (session_2 : Int) (name_3 : Str) : Option ((List GLock) × (List GTold) × Int) :=
    (impl_locksCode list_1 session_2 name_3).bind fun r_4 =>
    if (r_4 != 0) then
    some ([], [], r_4)
    else
    (impl_withLock list_1 name_3).bind fun r_7 =>
    if (r_7.2.2 != 0) then
    some (r_7.1, [], r_7.2.2)
    else
    if (0 : Int) ≤ r_7.2.1 ∧ r_7.2.1 < (r_7.1.length : Int) then
    (r_7.1[(0 + r_7.2.1.toNat)]?).bind fun x_11 =>
    ((((if (decide ((x_11.Queue.length : Int) > 0)) then
    (idx x_11.Queue 0).bind fun x_37 =>
    some (x_37 != session_2)
    else
    some false : Option Bool)).bind fun s49_33 =>
    if s49_33 then
    (idx x_11.Queue 0).bind fun x_40 =>
    if ([] ++ [(⟨x_40, [115, 116, 111, 108, 101, 110], name_3⟩ : GTold)]).length ≤ 2 ^ 30 then
    some ([] ++ [(⟨x_40, [115, 116, 111, 108, 101, 110], name_3⟩ : GTold)])
    else none
    else
    some [] : Option (List GTold))).bind fun told_27 =>
    (slices_Clone_int_int x_11.Queue).bind fun r_43 =>
    (slices_DeleteFunc_int_int_h0 r_43 session_2).bind fun r_45 =>
    if ([r_45.2] ++ r_45.1).length ≤ 2 ^ 30 then
    if (0 : Int) ≤ r_7.2.1 ∧ r_7.2.1 < (r_7.1.length : Int) then
    some (r_7.1.set (0 + r_7.2.1.toNat) (⟨x_11.Name, [r_45.2] ++ r_45.1⟩ : GLock), told_27, 0)
    else none
    else none
    else none
theorem w_impl_StealLock (list_1 : (List GLock)) (session_2 : Int) (name_3 : Str) (r : ((List GLock) × (List GTold) × Int)) (hf : impl_StealLock list_1 session_2 name_3 = some r) : CallOK Try.prog 45 .fresh [(.lst 2 (list_1.map encGLock)), (.int .i64 session_2), (.str name_3)] (.tup [(.lst 2 (r.1.map encGLock)), (.lst 3 (r.2.1.map encGTold)), (.int .i64 r.2.2)]) := by
 refine CallOK.of_awp mixed Try.func45 fc45 nle ?_; rw [argT_eq]; unfold impl_StealLock at hf; unfold c45; refine (show awp Try.prog true 0 _ (ofL [(0, (.lst 2 (list_1.map encGLock))), (1, (.int .i64 session_2)), (2, (.str name_3))]) [] _ from ?_); refine awp_seq <| w_reg <| s_do (o_box (j := 0) (c := (.int .i64 session_2)) rfl trivial rfl rfl) <| s_mov .nil rfl <| s_mov .nil rfl <| s_mov (.int .i64 0) rfl <| w_done <| k_seq <| awp_seq <| awp_seq <| w_reg <| ?_
 obtain ⟨r_4, er5, hf⟩ := ob hf
 refine s_mov (.lst 2 (list_1.map encGLock)) rfl <| s_q (.int .i64 session_2) rfl ⟨rfl, rfl⟩ rfl <| s_mov (.str name_3) rfl <| s_do (o_call (w_impl_locksCode _ _ _ _ er5) rfl (.refl _) rfl) <| s_mov (.int .i64 r_4) rfl <| w_done <| k_seq <| awp_seq <| w_reg <| s_mov (.int .i64 r_4) rfl <| s_q (.bool (r_4 != 0)) rfl rfl rfl <| w_done <| k_seq <| ?_
 rcases oi hf with ⟨c6, hf⟩ | ⟨c6, hf⟩
 ·refine w_condt rfl c6 <| awp_seq <| w_reg <| s_mov (.int .i64 r_4) rfl <| s_mov .nil rfl <| s_mov .nil rfl <| s_mov (.int .i64 r_4) rfl <| w_done <| k_seq <| w_ret <| ?_; obtain rfl := os hf; exact r_fresh ⟨trivial, ⟨trivial, ⟨trivial, trivial⟩⟩⟩ rfl (by decide) (.tup (.cons (.nil _) (.cons (.nil _) (.cons (.refl _) .nil))))
 ·refine w_condf rfl (bf c6) <| w_skip <| k_seq <| awp_seq <| w_reg <| ?_
  obtain ⟨r_7, er8, hf⟩ := ob hf
  refine s_mov (.lst 2 (list_1.map encGLock)) rfl <| s_mov (.str name_3) rfl <| s_do (o_callf (v := (.tup [(.own 1 0 r_7.1.length), (.int .i64 r_7.2.1), (.int .i64 r_7.2.2)])) (h' := [.row 2 (r_7.1.map encGLock)]) (w_impl_withLock _ _ _ er8) rfl (.refl _) (by simp only [openV, openVs, List.length_map, List.nil_append, List.append_nil, List.cons_append]; rfl)) <| s_mov (.tup [(.own 1 0 r_7.1.length), (.int .i64 r_7.2.1), (.int .i64 r_7.2.2)]) rfl <| s_q (.own 1 0 r_7.1.length) rfl nle rfl <| s_q (.int .i64 r_7.2.1) rfl nle rfl <| s_q (.int .i64 r_7.2.2) rfl nle rfl <| s_mov (.own 1 0 r_7.1.length) rfl <| s_mov (.int .i64 r_7.2.1) rfl <| s_mov (.int .i64 r_7.2.2) rfl <| w_done <| k_seq <| awp_seq <| awp_seq <| ?_
  refine w_reg <| s_mov (.int .i64 r_7.2.2) rfl <| s_q (.bool (r_7.2.2 != 0)) rfl rfl rfl <| w_done <| k_seq <| ?_
  rcases oi hf with ⟨c9, hf⟩ | ⟨c9, hf⟩
  ·refine w_condt rfl c9 <| awp_seq <| w_reg <| s_mov (.own 1 0 r_7.1.length) rfl <| s_mov (.int .i64 r_7.2.2) rfl <| s_mov (.own 1 0 r_7.1.length) rfl <| s_mov .nil rfl <| s_mov (.int .i64 r_7.2.2) rfl <| w_done <| k_seq <| w_ret <| ?_; obtain rfl := os hf; exact r_fresh ⟨trivial, ⟨trivial, ⟨trivial, trivial⟩⟩⟩ rfl (by decide) (.tup (.cons (.of_eq (congrArg (AV.lst _) (tk (enc := encGLock) r_7.1))) (.cons (.nil _) (.cons (.refl _) .nil))))
  ·refine w_condf rfl (bf c9) <| w_skip <| k_seq <| awp_seq <| w_reg <| ?_
   obtain ⟨g10, hf⟩ := og hf
   obtain ⟨x_11, ex12, hf⟩ := ob hf
   refine s_mov (.own 1 0 r_7.1.length) rfl <| s_mov (.int .i64 r_7.2.1) rfl <| s_do (o_iaddrown rfl rfl g10.1 g10.2 rfl rfl) <| s_q (.ptr 1 (0 + r_7.2.1.toNat) 1) rfl trivial rfl <| s_do (o_loadrow (enc := encGLock) (v := (.lst 1 (x_11.Queue.map encI))) rfl rfl ex12 nle rfl) <| ?_; refine s_dol (o_bslice (j := 2) (as' := []) rfl (fun _ => by decide) trivial (.refl _) rfl rfl rfl) (.inr ⟨(ag_loadrow (enc := encGLock) (v := (.lst 1 (x_11.Queue.map encI))) rfl rfl ex12 nle rfl), ⟨⟨trivial, rfl⟩, ⟨(ag_iaddrown rfl rfl g10.1 g10.2 rfl rfl), trivial⟩⟩⟩) trivial ?_; refine s_mov (.own 2 0 0) rfl <| s_mov (.lst 1 (x_11.Queue.map encI)) rfl <| w_done <| k_seq <| awp_seq <| ?_
   obtain ⟨told_27, hb1, hf⟩ := ob hf
   refine awp_cut ([(4, (.ptr 0 0 0)), (10, (.own 1 0 r_7.1.length)), (11, (.int .i64 r_7.2.1)), (13, (.own 2 0 told_27.length)), (14, (.lst 1 (x_11.Queue.map encI)))], [.box 1 (.int .i64 session_2), .row 2 (r_7.1.map encGLock), .row 3 (told_27.map encGTold)]) ?_ ?_
   ·refine awp_seq ?_
    obtain ⟨s49_33, hb2, hb1⟩ := ob hb1
    refine awp_cut ([(2, (.str name_3)), (4, (.ptr 0 0 0)), (10, (.own 1 0 r_7.1.length)), (11, (.int .i64 r_7.2.1)), (13, (.own 2 0 0)), (14, (.lst 1 (x_11.Queue.map encI))), (49, (.bool s49_33))], [.box 1 (.int .i64 session_2), .row 2 (r_7.1.map encGLock), .row 3 ([].map encGTold)]) ?_ ?_
    ·refine w_reg ?_
     rcases oi hb2 with ⟨c36, hb2⟩ | ⟨c36, hb2⟩
     ·obtain ⟨x_37, ex38, hb2⟩ := ob hb2
      refine s_mov (.lst 1 (x_11.Queue.map encI)) rfl <| s_dof (o_len (enc := encI) rfl) fun hl35 => s_q (.bool (decide ((x_11.Queue.length : Int) > 0))) rfl rfl rfl <| s_mov (.bool (decide ((x_11.Queue.length : Int) > 0))) rfl <| s_lit (s := 43) (b := true) rfl c36 <| s_on rfl <| s_mov (.lst 1 (x_11.Queue.map encI)) rfl <| s_on rfl <| s_do (o_iaddr (enc := encI) rfl rfl (idx0 ex38) (idx1 ex38)) <| s_on rfl <| s_q (.int .i64 x_37) rfl ⟨rfl, rfl⟩ rfl <| s_on rfl <| s_q (.int .i64 session_2) rfl ⟨rfl, rfl⟩ rfl <| s_on rfl <| s_q (.bool (x_37 != session_2)) rfl rfl rfl <| s_q (.bool (x_37 != session_2)) rfl trivial rfl <| w_done <| ?_; obtain rfl := os hb2; exact ⟨[], [0, 1, 2], _, _, rfl, rfl, ⟨.refl _, ⟨.refl _, ⟨.refl _, ⟨.refl _, ⟨.of_eq (congrArg (AV.own _ 0) (by simp)), ⟨.refl _, ⟨.refl _, trivial⟩⟩⟩⟩⟩⟩⟩, (.refl _)⟩
     ·refine s_mov (.lst 1 (x_11.Queue.map encI)) rfl <| s_dof (o_len (enc := encI) rfl) fun hl35 => s_q (.bool (decide ((x_11.Queue.length : Int) > 0))) rfl rfl rfl <| s_mov (.bool (decide ((x_11.Queue.length : Int) > 0))) rfl <| s_lit (s := 43) (b := false) rfl (bf c36) <| s_off rfl rfl <| s_off rfl rfl <| s_off rfl rfl <| s_off rfl rfl <| s_off rfl rfl <| s_q (.bool false) rfl trivial rfl <| w_done <| ?_; obtain rfl := os hb2; exact ⟨[], [0, 1, 2], _, _, rfl, rfl, ⟨.refl _, ⟨.refl _, ⟨.refl _, ⟨.refl _, ⟨.of_eq (congrArg (AV.own _ 0) (by simp)), ⟨.refl _, ⟨.refl _, trivial⟩⟩⟩⟩⟩⟩⟩, (.refl _)⟩
    ·rcases oi hb1 with ⟨c39, hb1⟩ | ⟨c39, hb1⟩
     ·refine w_condt rfl c39 <| w_reg <| ?_
      obtain ⟨x_40, ex41, hb1⟩ := ob hb1
      obtain ⟨g42, hb1⟩ := og hb1
      refine s_mov (.own 2 0 0) rfl <| s_mov (.lst 1 (x_11.Queue.map encI)) rfl <| s_do (o_iaddr (enc := encI) rfl rfl (idx0 ex41) (idx1 ex41)) <| s_q (.int .i64 x_40) rfl ⟨rfl, rfl⟩ rfl <| s_mov (.str name_3) rfl <| s_q (.agg [(.int .i64 x_40), (.str [115, 116, 111, 108, 101, 110]), (.str name_3)]) rfl ⟨⟨rfl, nle, trivial⟩, ⟨⟨rfl, nle, trivial⟩, ⟨⟨rfl, nle, trivial⟩, trivial⟩⟩⟩ rfl <| ?_; refine s_do (o_bslice (j := 3) (as' := [(encGTold (⟨x_40, [115, 116, 111, 108, 101, 110], name_3⟩ : GTold))]) rfl (fun _ => by decide) ⟨rfl, trivial⟩ (.refl _) rfl rfl rfl) ?_
      refine s_do (o_appendd (j := 4) (L := (([] ++ [(⟨x_40, [115, 116, 111, 108, 101, 110], name_3⟩ : GTold)]).map encGTold)) (len := ([] ++ [(⟨x_40, [115, 116, 111, 108, 101, 110], name_3⟩ : GTold)]).length) rfl false rfl rfl (fun _ => flo (enc := encGTold) (fun _ => rfl) [(⟨x_40, [115, 116, 111, 108, 101, 110], name_3⟩ : GTold)] _) (fun _ _ h => (ownl (show AV.own _ _ _ = AV.lst _ _ from h)).elim) (by decide) ((by simp [← List.map_take])) (by simp <;> omega) g42 rfl rfl) ?_
      refine s_mov (.own 4 0 (([] ++ [(⟨x_40, [115, 116, 111, 108, 101, 110], name_3⟩ : GTold)]).length)) rfl <| w_done <| ?_; obtain rfl := os hb1; exact ⟨[], [0, 1, 4], _, _, rfl, rfl, ⟨.refl _, ⟨.refl _, ⟨.refl _, ⟨.refl _, ⟨.refl _, trivial⟩⟩⟩⟩⟩, (.refl _)⟩
     ·refine w_condf rfl (bf c39) <| w_skip <| ?_; obtain rfl := os hb1; exact ⟨[], [0, 1, 2], _, _, rfl, rfl, ⟨.refl _, ⟨.refl _, ⟨.refl _, ⟨.refl _, ⟨.refl _, trivial⟩⟩⟩⟩⟩, (.refl _)⟩
   ·refine awp_seq <| w_reg <| ?_
    obtain ⟨r_43, er44, hf⟩ := ob hf
    obtain ⟨r_45, er46, hf⟩ := ob hf
    refine s_mov (.lst 1 (x_11.Queue.map encI)) rfl <| s_do (o_callf (v := (.own 3 0 r_43.length)) (h' := [.row 1 (r_43.map encI)]) (w_slices_Clone_int_int _ _ er44) rfl (.refl _) (by simp only [openV, openVs, List.length_map, List.nil_append, List.append_nil, List.cons_append]; rfl)) <| s_q (.fn 121 [(.ptr 0 0 0)]) rfl trivial rfl <| ?_; refine s_do (o_callh (v := (.own 4 0 r_45.1.length)) (h2 := [.box 1 (.int .i64 r_45.2), .row 2 (r_7.1.map encGLock), .row 3 (told_27.map encGTold), .dead, .row 1 (r_45.1.map encI)]) [] [3, 0] (fun _ => rfl) (w_slices_DeleteFunc_int_int_h0 _ _ _ er46) rfl (.refl _) (.refl _) rfl rfl) ?_; refine s_mov (.own 4 0 r_45.1.length) rfl <| w_done <| k_seq <| awp_seq <| w_reg <| ?_
    obtain ⟨g47, hf⟩ := og hf
    obtain ⟨g48, hf⟩ := og hf
    refine s_mov (.own 1 0 r_7.1.length) rfl <| s_mov (.int .i64 r_7.2.1) rfl <| s_q (.int .i64 r_45.2) rfl ⟨rfl, rfl⟩ rfl <| ?_; refine s_do (o_bslice (j := 5) (as' := [(.int .i64 r_45.2)]) rfl (fun _ => by decide) ⟨rfl, trivial⟩ (.refl _) rfl rfl rfl) ?_; refine s_mov (.own 4 0 r_45.1.length) rfl ?_
    refine s_do (o_appendd (j := 6) (L := (([r_45.2] ++ r_45.1).map encI)) (len := ([r_45.2] ++ r_45.1).length) rfl false rfl rfl (fun _ => flo (enc := encI) (fun _ => rfl) r_45.1 _) (fun _ _ h => (ownl (show AV.own _ _ _ = AV.lst _ _ from h)).elim) (by decide) (apo (enc := encI) [r_45.2] r_45.1) (by simp <;> omega) g47 rfl rfl) ?_
    refine s_do (o_iaddrown rfl rfl g48.1 g48.2 rfl rfl) <| s_q (.ptr 1 (0 + r_7.2.1.toNat) 1) rfl trivial rfl <| ?_
    refine s_do0 (o_storerow (v' := (.lst 1 (([r_45.2] ++ r_45.1).map encI))) (e' := (⟨x_11.Name, [r_45.2] ++ r_45.1⟩ : GLock)) rfl rfl ex12 rfl rfl (by first | (simp only [tk, tko, List.take_length]; done) | rfl | simp) (by decide) (fun _ => by decide) ⟨rfl, nle⟩ (.refl _) rfl) ?_
    refine w_done <| k_seq <| awp_seq <| w_reg <| s_mov (.own 1 0 r_7.1.length) rfl <| s_mov (.own 2 0 told_27.length) rfl <| s_mov (.own 1 0 r_7.1.length) rfl <| s_mov (.own 2 0 told_27.length) rfl <| s_mov (.int .i64 0) rfl <| w_done <| k_seq <| w_ret <| ?_; obtain rfl := os hf
    exact r_fresh ⟨trivial, ⟨trivial, ⟨trivial, trivial⟩⟩⟩ rfl (by decide) (.tup (.cons (.of_eq (congrArg (AV.lst _) (tkl (enc := encGLock) (a := r_7.1.set (0 + r_7.2.1.toNat) (⟨x_11.Name, [r_45.2] ++ r_45.1⟩ : GLock)) (by first | (simp; done) | (simp <;> omega))))) (.cons (.of_eq (congrArg (AV.lst _) (tk (enc := encGTold) told_27))) (.cons (.refl _) .nil))))

/- spec.StealLock -/
def c44 : ACode :=
 (.seq (.reg (tm 6 (.c .nil) (tm 7 (.c .nil) (tm 8 (.c (.int .i64 0)) .done))))
 (.seq (.seq (.reg (tm 10 (.t 0) (tq 11 (.len (.t 10)) (tq 12 (.bin .gtr (.t 11) (.c (.int .i64 4096))) (tm 13 (.t 12) (tg 14 13 false (.mov (.t 2)) (tg 15 13 false (.lenS (.t 14)) (tg 16 13 false (.bin .gtr (.t 15) (.c (.int .i64 65536))) (tq 17 (.pick (.t 13) (.c (.bool true)) (.t 16)) .done)))))))))
 (.cut (.cond (.t 17) (.seq (.reg (tq 18 (.bslice 2 []) (tq 19 (.bslice 3 []) (tm 6 (.t 18) (tm 7 (.t 19) (tm 8 (.c (.int .i64 2)) .done))))))
 .ret)
 .skip)))
 (.seq (.seq (.reg (tm 20 (.t 0) (tm 21 (.t 1) (tm 22 (.t 2) (tq 23 (.call 102 [(.t 20), (.t 21), (.t 22)]) (tm 9 (.t 23) .done))))))
 (.seq (.reg (tm 24 (.t 9) (tq 25 (.bin .neq (.t 24) (.c (.int .i64 0))) .done)))
 (.cond (.t 25) (.seq (.reg (tq 26 (.bslice 2 []) (tq 27 (.bslice 3 []) (tm 28 (.t 9) (tm 6 (.t 26) (tm 7 (.t 27) (tm 8 (.t 28) .done)))))))
 .ret)
 .skip)))
 (.seq (.reg (tm 29 (.t 0) (tm 30 (.t 1) (tm 31 (.t 2) (tq 32 (.call 118 [(.t 29), (.t 30), (.t 31)]) (tq 33 (.extract 0 (.t 32)) (tq 34 (.extract 1 (.t 32)) (tq 35 (.extract 2 (.t 32)) (tm 6 (.t 33) (tm 7 (.t 34) (tm 8 (.t 35) .done)))))))))))
 .ret))))
theorem fc44 : fcomp Try.prog Try.f44 = some (c44.erase, [.mov (.t 6), .mov (.t 7), .mov (.t 8)], 36) := by kernel_rfl
def spec_StealLock (list_1 : (List GLock)) (session_2 : Int) (name_3 : Str) : Option ((List GLock) × (List GTold) × Int) :=
    ((if (decide ((list_1.length : Int) > 4096)) then
    some true
    else
    some (decide ((name_3.length : Int) > 65536)) : Option Bool)).bind fun s17_7 =>
    if s17_7 then
    some ([], [], 2)
    else
    (spec_l12Ask list_1 session_2 name_3).bind fun r_13 =>
    if (r_13 != 0) then
    some ([], [], r_13)
    else
    (spec_l12Steal list_1 session_2 name_3).bind fun r_16 =>
    some (r_16.1, r_16.2.1, r_16.2.2)
theorem w_spec_StealLock (list_1 : (List GLock)) (session_2 : Int) (name_3 : Str) (r : ((List GLock) × (List GTold) × Int)) (hf : spec_StealLock list_1 session_2 name_3 = some r) : CallOK Try.prog 44 .fresh [(.lst 2 (list_1.map encGLock)), (.int .i64 session_2), (.str name_3)] (.tup [(.lst 2 (r.1.map encGLock)), (.lst 3 (r.2.1.map encGTold)), (.int .i64 r.2.2)]) := by
 refine CallOK.of_awp mixed Try.func44 fc44 nle ?_; rw [argT_eq]; unfold spec_StealLock at hf; unfold c44; refine (show awp Try.prog true 0 _ (ofL [(0, (.lst 2 (list_1.map encGLock))), (1, (.int .i64 session_2)), (2, (.str name_3))]) [] _ from ?_); refine awp_seq <| w_reg <| s_mov .nil rfl <| s_mov .nil rfl <| s_mov (.int .i64 0) rfl <| w_done <| k_seq <| awp_seq <| awp_seq <| ?_
 obtain ⟨s17_7, hb1, hf⟩ := ob hf
 refine awp_cut ([(0, (.lst 2 (list_1.map encGLock))), (1, (.int .i64 session_2)), (2, (.str name_3)), (17, (.bool s17_7))], []) ?_ ?_
 ·refine w_reg ?_
  rcases oi hb1 with ⟨c10, hb1⟩ | ⟨c10, hb1⟩
  ·refine s_mov (.lst 2 (list_1.map encGLock)) rfl <| s_dof (o_len (enc := encGLock) rfl) fun hl9 => s_q (.bool (decide ((list_1.length : Int) > 4096))) rfl rfl rfl <| s_mov (.bool (decide ((list_1.length : Int) > 4096))) rfl <| s_lit (s := 13) (b := true) rfl c10 <| s_off rfl rfl <| s_off rfl rfl <| s_off rfl rfl <| s_q (.bool true) rfl trivial rfl <| w_done <| ?_; obtain rfl := os hb1; exact ⟨[], [], _, _, rfl, rfl, ⟨.refl _, ⟨.refl _, ⟨.refl _, ⟨.refl _, trivial⟩⟩⟩⟩, (.refl _)⟩
  ·refine s_mov (.lst 2 (list_1.map encGLock)) rfl <| s_dof (o_len (enc := encGLock) rfl) fun hl9 => s_q (.bool (decide ((list_1.length : Int) > 4096))) rfl rfl rfl <| s_mov (.bool (decide ((list_1.length : Int) > 4096))) rfl <| s_lit (s := 13) (b := false) rfl (bf c10) <| s_on rfl <| s_mov (.str name_3) rfl <| s_on rfl <| s_dof (o_lenS rfl) fun hl11 => s_on rfl <| s_q (.bool (decide ((name_3.length : Int) > 65536))) rfl rfl rfl <| s_q (.bool (decide ((name_3.length : Int) > 65536))) rfl trivial rfl <| w_done <| ?_; obtain rfl := os hb1; exact ⟨[], [], _, _, rfl, rfl, ⟨.refl _, ⟨.refl _, ⟨.refl _, ⟨.refl _, trivial⟩⟩⟩⟩, (.refl _)⟩
 ·rcases oi hf with ⟨c12, hf⟩ | ⟨c12, hf⟩
  ·refine w_condt rfl c12 <| awp_seq <| w_reg <| ?_; refine s_do (o_bslice (j := 0) (as' := []) rfl (fun _ => by decide) trivial (.refl _) rfl rfl rfl) ?_; refine s_do (o_bslice (j := 1) (as' := []) rfl (fun _ => by decide) trivial (.refl _) rfl rfl rfl) ?_; refine s_mov (.own 0 0 0) rfl <| s_mov (.own 1 0 0) rfl <| s_mov (.int .i64 2) rfl <| w_done <| k_seq <| w_ret <| ?_; obtain rfl := os hf; exact r_fresh ⟨trivial, ⟨trivial, ⟨trivial, trivial⟩⟩⟩ rfl (by decide) (.refl _)
  ·refine w_condf rfl (bf c12) <| w_skip <| k_seq <| awp_seq <| awp_seq <| w_reg <| ?_
   obtain ⟨r_13, er14, hf⟩ := ob hf
   refine s_mov (.lst 2 (list_1.map encGLock)) rfl <| s_mov (.int .i64 session_2) rfl <| s_mov (.str name_3) rfl <| s_do (o_call (w_spec_l12Ask _ _ _ _ er14) rfl (.refl _) rfl) <| s_mov (.int .i64 r_13) rfl <| w_done <| k_seq <| awp_seq <| w_reg <| s_mov (.int .i64 r_13) rfl <| s_q (.bool (r_13 != 0)) rfl rfl rfl <| w_done <| k_seq <| ?_
   rcases oi hf with ⟨c15, hf⟩ | ⟨c15, hf⟩
   ·refine w_condt rfl c15 <| awp_seq <| w_reg <| ?_; refine s_do (o_bslice (j := 0) (as' := []) rfl (fun _ => by decide) trivial (.refl _) rfl rfl rfl) ?_; refine s_do (o_bslice (j := 1) (as' := []) rfl (fun _ => by decide) trivial (.refl _) rfl rfl rfl) ?_; refine s_mov (.int .i64 r_13) rfl <| s_mov (.own 0 0 0) rfl <| s_mov (.own 1 0 0) rfl <| s_mov (.int .i64 r_13) rfl <| w_done <| k_seq <| w_ret <| ?_; obtain rfl := os hf; exact r_fresh ⟨trivial, ⟨trivial, ⟨trivial, trivial⟩⟩⟩ rfl (by decide) (.refl _)
   ·refine w_condf rfl (bf c15) <| w_skip <| k_seq <| awp_seq <| w_reg <| ?_
    obtain ⟨r_16, er17, hf⟩ := ob hf
    refine s_mov (.lst 2 (list_1.map encGLock)) rfl <| s_mov (.int .i64 session_2) rfl <| s_mov (.str name_3) rfl <| s_do (o_callf (v := (.tup [(.own 0 0 r_16.1.length), (.own 1 0 r_16.2.1.length), (.int .i64 r_16.2.2)])) (h' := [.row 2 (r_16.1.map encGLock), .row 3 (r_16.2.1.map encGTold)]) (w_spec_l12Steal _ _ _ _ er17) rfl (.refl _) (by simp only [openV, openVs, List.length_map, List.nil_append, List.append_nil, List.cons_append]; rfl)) <| s_q (.own 0 0 r_16.1.length) rfl nle rfl <| s_q (.own 1 0 r_16.2.1.length) rfl nle rfl <| s_q (.int .i64 r_16.2.2) rfl nle rfl <| s_mov (.own 0 0 r_16.1.length) rfl <| s_mov (.own 1 0 r_16.2.1.length) rfl <| s_mov (.int .i64 r_16.2.2) rfl <| w_done <| k_seq <| w_ret <| ?_
    obtain rfl := os hf; exact r_fresh ⟨trivial, ⟨trivial, ⟨trivial, trivial⟩⟩⟩ rfl (by decide) (.tup (.cons (.of_eq (congrArg (AV.lst _) (tk (enc := encGLock) r_16.1))) (.cons (.of_eq (congrArg (AV.lst _) (tk (enc := encGTold) r_16.2.1))) (.cons (.refl _) .nil))))

/- impl.leave$1 -/
def c186 : ACode :=
 (.seq (.reg (tm 3 (.c (.bool false)) .done))
 (.seq (.reg (tm 4 (.t 0) (tq 5 (.load 1 false (.t 1)) (tq 6 (.bin .eql (.t 4) (.t 5)) (tm 3 (.t 6) .done)))))
 .ret))
theorem fc186 : fcomp Try.prog Try.f186 = some (c186.erase, [.mov (.t 3)], 7) := by kernel_rfl
def impl_leave_1 (own_1 : Int) (cap_2 : Int) : Option Bool :=
    some (own_1 == cap_2)
theorem w_impl_leave_1 (own_1 : Int) (cap_2 : Int) (r : Bool) (hf : impl_leave_1 own_1 cap_2 = some r) : CallOK Try.prog 186 .flat [(.int .i64 own_1), (.iptr (.int .i64 cap_2) 0)] (.bool r) := by
  refine CallOK.of_awp mixed Try.func186 fc186 nle ?_
  rw [argT_eq]
  unfold impl_leave_1 at hf
  unfold c186
  refine (show awp Try.prog false 0 _ (ofL [(0, (.int .i64 own_1)), (1, (.iptr (.int .i64 cap_2) 0))]) [] _ from ?_)
  refine awp_seq ?_
  refine w_reg ?_
  refine s_do (o_mov (.bool false) rfl) ?_
  refine w_done ?_
  refine k_seq ?_
  refine awp_seq ?_
  refine w_reg ?_
  refine s_do (o_mov (.int .i64 own_1) rfl) ?_
  refine s_do (o_q (.int .i64 cap_2) rfl ⟨rfl, rfl⟩ rfl) ?_
  refine s_do (o_q (.bool (own_1 == cap_2)) rfl rfl rfl) ?_
  refine s_do (o_mov (.bool (own_1 == cap_2)) rfl) ?_
  refine w_done ?_
  refine k_seq ?_
  refine w_ret ?_
  obtain rfl := os hf
  exact r_flat ⟨trivial, trivial⟩ rfl (.refl _)

/- impl.lockAt$1 -/
def c183_h0 : ACode :=
 (.seq (.reg (tq 2 (.box 2 (.t 0)) (tm 4 (.c (.int .i64 0)) .done)))
 (.seq (.reg (tq 5 (.faddr 0 (.t 2)) (tq 6 (.load 1 false (.t 5)) (tm 7 (.t 1) (tq 8 (.call 184 [(.t 6), (.t 7)]) (tm 4 (.t 8) .done))))))
 .ret))
theorem fc183_h0 : fcomp Try.prog Try.f183 = some (c183_h0.erase, [.mov (.t 4)], 9) := by kernel_rfl
def impl_lockAt_1_h0 (c_1 : Str) (c_2 : (List Int)) (name_3 : Str) : Option Int :=
    (strings_Compare c_1 name_3).bind fun r_4 =>
    some r_4
theorem w_impl_lockAt_1_h0 (c_1 : Str) (c_2 : (List Int)) (name_3 : Str) (r : Int) (hf : impl_lockAt_1_h0 c_1 c_2 name_3 = some r) : CallHeap Try.prog ⟨true, true⟩ 183 [(.agg [(.str c_1), (.own 0 0 c_2.length)]), (.str name_3)] [.row 1 (c_2.map encI)] (.int .i64 r) [.row 1 (c_2.map encI)] := by
  refine CallHeap.of_awp mixed Try.func183 fc183_h0 nle ?_
  rw [argT_eq]
  unfold impl_lockAt_1_h0 at hf
  unfold c183_h0
  refine (show awp Try.prog ⟨true, true⟩ 1 _ (ofL [(0, (.agg [(.str c_1), (.own 0 0 c_2.length)])), (1, (.str name_3))]) [.row 1 (c_2.map encI)] _ from ?_)
  refine awp_seq ?_
  refine w_reg ?_
  refine s_do (o_box (j := 1) (c := (.agg [(.str c_1), (.own 0 0 c_2.length)])) rfl trivial rfl rfl) ?_
  refine s_do (o_mov (.int .i64 0) rfl) ?_
  refine w_done ?_
  refine k_seq ?_
  refine awp_seq ?_
  refine w_reg ?_
  obtain ⟨r_4, er5, hf⟩ := ob hf
  refine s_do (o_q (.ptr 1 0 0) rfl (.of trivial trivial) rfl) ?_
  refine s_do (o_q (.str c_1) rfl (.of nle trivial) rfl) ?_
  refine s_do (o_mov (.str name_3) rfl) ?_
  refine s_do (o_call (w_strings_Compare _ _ _ er5) rfl (.refl _) rfl) ?_
  refine s_do (o_mov (.int .i64 r_4) rfl) ?_
  refine w_done ?_
  refine k_seq ?_
  refine w_ret ?_
  obtain rfl := os hf
  exact r_heap [] [0] rfl ⟨.of trivial trivial, trivial⟩ rfl (.refl _) (.refl _)

end Go.R
