/- Walks. -/
import Derived.Test.YtmeckljlaaflkaaFA1
set_option linter.all false
namespace Go.R
open Go Go.Proofs
set_option linter.unusedVariables false
set_option linter.unusedSimpArgs false
set_option maxHeartbeats 8000000
/- impl.NameOK -/
def c159 : ACode :=
 (.seq (.reg (tm 2 (.c (.bool false)) .done))
 (.seq (.seq (.reg (tm 6 (.t 0) (tq 7 (.lenS (.t 6)) (tm 8 (.c (.int .i64 0)) .done))))
 (.block 0 (.loop (.seq (.reg (tq 9 (.bin .lss (.t 8) (.t 7)) .done))
 (.seq (.cond (.t 9) .skip
 (.exit 0))
 (.seq (.block 1 (.seq (.reg (tm 10 (.t 8) (tm 3 (.t 10) .done)))
 (.seq (.reg (tm 11 (.t 0) (tm 12 (.t 3) (tq 13 (.idxs (.t 11) (.t 12)) (tm 4 (.t 13) .done)))))
 (.seq (.reg (tm 14 (.t 4) (tq 15 (.bin .geq (.t 14) (.c (.int .u8 97))) (tm 16 (.t 15) (tg 17 16 true (.mov (.t 4)) (tg 18 16 true (.bin .leq (.t 17) (.c (.int .u8 122))) (tq 19 (.pick (.t 16) (.t 18) (.c (.bool false))) (tm 20 (.t 19) (tg 21 20 false (.mov (.t 4)) (tg 22 20 false (.bin .geq (.t 21) (.c (.int .u8 65))) (tg 23 20 false (.mov (.t 22)) (tg 24 23 true (.mov (.t 4)) (tg 25 23 true (.bin .leq (.t 24) (.c (.int .u8 90))) (tg 26 20 false (.pick (.t 23) (.t 25) (.c (.bool false))) (tq 27 (.pick (.t 20) (.c (.bool true)) (.t 26)) (tm 28 (.t 27) (tg 29 28 false (.mov (.t 4)) (tg 30 28 false (.bin .eql (.t 29) (.c (.int .u8 95))) (tq 31 (.pick (.t 28) (.c (.bool true)) (.t 30)) (tm 5 (.t 31) .done))))))))))))))))))))
 (.cut (.seq (.reg (tm 32 (.t 5) (tq 33 (.not (.t 32)) (tm 34 (.t 33) (tg 35 34 true (.mov (.t 3)) (tg 36 34 true (.bin .eql (.t 35) (.c (.int .i64 0))) (tg 37 34 true (.mov (.t 36)) (tg 38 37 false (.mov (.t 4)) (tg 39 37 false (.call 225 [(.t 38)]) (tg 40 37 false (.not (.t 39)) (tg 41 34 true (.pick (.t 37) (.c (.bool true)) (.t 40)) (tq 42 (.pick (.t 34) (.t 41) (.c (.bool false))) .done))))))))))))
 (.cut (.cond (.t 42) (.seq (.reg (tm 2 (.c (.bool false)) .done))
 .ret)
 .skip))))))))
 (.reg (tq 43 (.bin .add (.t 8) (.c (.int .i64 1))) (tm 8 (.t 43) .done)))))))))
 (.cut (.seq (.reg (tm 44 (.t 0) (tq 45 (.lenS (.t 44)) (tq 46 (.call 156 [(.t 45), (.c (.int .i64 1)), (.c (.int .i64 40))]) (tm 2 (.t 46) .done)))))
 .ret))))
theorem fc159 : fcomp Try.prog Try.f159 = some (c159.erase, [.mov (.t 2)], 47) := by kernel_rfl
def impl_NameOK_L1  : List UInt8 → Nat → Option (Fl Bool Unit)
  | [], s8_34 =>
    some (.go ())
  | x_57 :: xs, s8_34 =>
    ((some () : Option Unit)).bind fun _ =>
    ((if (!(bif (bif (bif (decide ((x_57.toNat : Int) ≥ 97)) then (decide ((x_57.toNat : Int) ≤ 122)) else false) then true else (bif (decide ((x_57.toNat : Int) ≥ 65)) then (decide ((x_57.toNat : Int) ≤ 90)) else false)) then true else ((x_57.toNat : Int) == 95))) then
    if ((s8_34 : Int) == 0) then
    some true
    else
    (impl_isDigit (x_57.toNat : Int)).bind fun r_67 =>
    some (!r_67)
    else
    some false : Option Bool)).bind fun s42_63 =>
    if s42_63 then
    some (.ret false)
    else
    impl_NameOK_L1 xs (s8_34 + 1)

def impl_NameOK (t_1 : Str) : Option Bool :=
    (impl_NameOK_L1 t_1 0).bind fun q => (match q with
    | .ret r => some r
    | .go _ =>
    (impl_within (t_1.length : Int) 1 40).bind fun r_71 =>
    some r_71)
theorem w_impl_NameOK (t_1 : Str) (r : Bool) (hf : impl_NameOK t_1 = some r) : CallOK Try.prog 159 .flat [(.str t_1)] (.bool r) := by
 refine CallOK.of_awp mixed Try.func159 fc159 nle ?_; rw [argT_eq]; unfold impl_NameOK at hf; unfold c159; refine (show awp Try.prog false 0 _ (ofL [(0, (.str t_1))]) [] _ from ?_); refine awp_seq <| w_reg <| s_mov (.bool false) rfl <| w_done <| k_seq <| awp_seq <| awp_seq <| w_reg <| s_mov (.str t_1) rfl <| s_dof (o_lenS rfl) fun hl2 => s_mov (.int .i64 0) rfl <| w_done <| k_seq <| ?_
 obtain ⟨p50, hb1, hf⟩ := ob hf
 refine awp_cutx (X := {q : Unit // p50 = .go q}) (fun q => ([(0, (.str t_1))], [])) ?_ ?_
 ·refine awp_loop (X := {q : Nat // impl_NameOK_L1 (t_1.drop q) q = some p50}) (fun q => ([(0, (.str t_1)), (7, (.int .i64 (t_1.length : Int))), (8, (.int .i64 (q.1 : Int)))], [])) (fun q => t_1.length - q.1) ⟨0, hb1⟩ ⟨[], [], _, _, rfl, rfl, ⟨.refl _, ⟨.refl _, ⟨.refl _, trivial⟩⟩⟩, (.refl _)⟩ ?_
  rintro ⟨s8_34, hc1⟩
  have hc1 : impl_NameOK_L1 (t_1.drop s8_34) s8_34 = some p50 := hc1
  refine (show awp Try.prog false 0 _ (ofL [(0, (.str t_1)), (7, (.int .i64 (t_1.length : Int))), (8, (.int .i64 (s8_34 : Int)))]) [] _ from ?_)
  rcases dropc t_1 s8_34 with ⟨hie53, hd56⟩ | ⟨hlt51, x_57, hx52, hd56⟩
  ·rw [hd56, impl_NameOK_L1.eq_1] at hc1
   have hq55 := dlf hie53
   refine awp_seq <| w_reg <| s_q (.bool (decide ((s8_34 : Int) < (t_1.length : Int)))) rfl rfl rfl <| w_done <| k_seq <| awp_seq <| w_condf rfl hq55 <| w_exit <| k_seqx <| k_loopx <| k_blkx <| ?_; obtain rfl := os hc1; exact k_cutn ⟨_, rfl⟩ ⟨[], [], _, _, rfl, rfl, ⟨.refl _, trivial⟩, (.refl _)⟩
  ·rw [hd56, impl_NameOK_L1.eq_2] at hc1
   have hq55 := dlt hlt51
   refine awp_seq <| w_reg <| s_q (.bool (decide ((s8_34 : Int) < (t_1.length : Int)))) rfl rfl rfl <| w_done <| k_seq <| awp_seq <| w_condt rfl hq55 <| w_skip <| k_seq <| awp_seq <| w_blk <| awp_seq <| w_reg <| s_mov (.int .i64 (s8_34 : Int)) rfl <| s_mov (.int .i64 (s8_34 : Int)) rfl <| w_done <| k_seq <| awp_seq <| w_reg <| s_mov (.str t_1) rfl <| s_mov (.int .i64 (s8_34 : Int)) rfl <| s_do (o_idxsn rfl rfl hx52) <| s_mov (.int .u8 (x_57.toNat : Int)) rfl <| w_done <| k_seq <| awp_seq <| ?_
   obtain ⟨p58, hb2, hc1⟩ := ob hc1
   refine awp_cut ([(0, (.str t_1)), (3, (.int .i64 (s8_34 : Int))), (4, (.int .u8 (x_57.toNat : Int))), (5, (.bool (bif (bif (bif (decide ((x_57.toNat : Int) ≥ 97)) then (decide ((x_57.toNat : Int) ≤ 122)) else false) then true else (bif (decide ((x_57.toNat : Int) ≥ 65)) then (decide ((x_57.toNat : Int) ≤ 90)) else false)) then true else ((x_57.toNat : Int) == 95)))), (7, (.int .i64 (t_1.length : Int))), (8, (.int .i64 (s8_34 : Int)))], []) ?_ ?_
   ·refine w_reg <| s_mov (.int .u8 (x_57.toNat : Int)) rfl <| s_q (.bool (decide ((x_57.toNat : Int) ≥ 97))) rfl rfl rfl <| s_mov (.bool (decide ((x_57.toNat : Int) ≥ 97))) rfl <| ?_; refine s_g (v := (decide ((x_57.toNat : Int) ≥ 97))) (.int .u8 (x_57.toNat : Int)) rfl (fun hv => by (try simp only [gs_on hv]); exact ⟨rfl, trivial, rfl⟩) ?_; refine s_g (v := (decide ((x_57.toNat : Int) ≥ 97))) (.bool (decide ((x_57.toNat : Int) ≤ 122))) rfl (fun hv => by (try simp only [gs_on hv]); exact ⟨rfl, rfl, rfl⟩) ?_; refine s_pick (x := (decide ((x_57.toNat : Int) ≤ 122))) (y := false) rfl (fun hv => by (try simp only [gs_on hv]); rfl) (fun hv => by (try simp only [gs_on hv]); rfl) ?_; refine s_mov (.bool (bif (decide ((x_57.toNat : Int) ≥ 97)) then (decide ((x_57.toNat : Int) ≤ 122)) else false)) rfl ?_
    refine s_g (v := (bif (decide ((x_57.toNat : Int) ≥ 97)) then (decide ((x_57.toNat : Int) ≤ 122)) else false)) (.int .u8 (x_57.toNat : Int)) rfl (fun hv => by (try simp only [gs_on hv]); exact ⟨rfl, trivial, rfl⟩) ?_; refine s_g (v := (bif (decide ((x_57.toNat : Int) ≥ 97)) then (decide ((x_57.toNat : Int) ≤ 122)) else false)) (.bool (decide ((x_57.toNat : Int) ≥ 65))) rfl (fun hv => by (try simp only [gs_on hv]); exact ⟨rfl, rfl, rfl⟩) ?_; refine s_g (v := (bif (decide ((x_57.toNat : Int) ≥ 97)) then (decide ((x_57.toNat : Int) ≤ 122)) else false)) (.bool (decide ((x_57.toNat : Int) ≥ 65))) rfl (fun hv => by (try simp only [gs_on hv]); exact ⟨rfl, trivial, rfl⟩) ?_; refine s_gg (v1 := (bif (decide ((x_57.toNat : Int) ≥ 97)) then (decide ((x_57.toNat : Int) ≤ 122)) else false)) (b1 := false) (v2 := (decide ((x_57.toNat : Int) ≥ 65))) (.int .u8 (x_57.toNat : Int)) rfl (fun hv hw => by (try simp only [gs_on hv, gs_on hw]); exact ⟨rfl, trivial, rfl⟩) ?_
    refine s_gg (v1 := (bif (decide ((x_57.toNat : Int) ≥ 97)) then (decide ((x_57.toNat : Int) ≤ 122)) else false)) (b1 := false) (v2 := (decide ((x_57.toNat : Int) ≥ 65))) (.bool (decide ((x_57.toNat : Int) ≤ 90))) rfl (fun hv hw => by (try simp only [gs_on hv, gs_on hw]); exact ⟨rfl, rfl, rfl⟩) ?_; refine s_gp (v1 := (bif (decide ((x_57.toNat : Int) ≥ 97)) then (decide ((x_57.toNat : Int) ≤ 122)) else false)) (b1 := false) (v2 := (decide ((x_57.toNat : Int) ≥ 65))) (x := (decide ((x_57.toNat : Int) ≤ 90))) (y := false) rfl (fun hv => by (try simp only [gs_on hv]); rfl) (fun hv hw => by (try simp only [gs_on hv, gs_on hw]); rfl) (fun hv hw => by (try simp only [gs_on hv, gs_on hw]); rfl) ?_; refine s_pick (x := true) (y := (bif (decide ((x_57.toNat : Int) ≥ 65)) then (decide ((x_57.toNat : Int) ≤ 90)) else false)) rfl (fun hv => by (try simp only [gs_on hv]); rfl) (fun hv => by (try simp only [gs_on hv]); rfl) ?_
    refine s_mov (.bool (bif (bif (decide ((x_57.toNat : Int) ≥ 97)) then (decide ((x_57.toNat : Int) ≤ 122)) else false) then true else (bif (decide ((x_57.toNat : Int) ≥ 65)) then (decide ((x_57.toNat : Int) ≤ 90)) else false))) rfl ?_; refine s_g (v := (bif (bif (decide ((x_57.toNat : Int) ≥ 97)) then (decide ((x_57.toNat : Int) ≤ 122)) else false) then true else (bif (decide ((x_57.toNat : Int) ≥ 65)) then (decide ((x_57.toNat : Int) ≤ 90)) else false))) (.int .u8 (x_57.toNat : Int)) rfl (fun hv => by (try simp only [gs_on hv]); exact ⟨rfl, trivial, rfl⟩) ?_; refine s_g (v := (bif (bif (decide ((x_57.toNat : Int) ≥ 97)) then (decide ((x_57.toNat : Int) ≤ 122)) else false) then true else (bif (decide ((x_57.toNat : Int) ≥ 65)) then (decide ((x_57.toNat : Int) ≤ 90)) else false))) (.bool ((x_57.toNat : Int) == 95)) rfl (fun hv => by (try simp only [gs_on hv]); exact ⟨rfl, rfl, rfl⟩) ?_
    refine s_pick (x := true) (y := ((x_57.toNat : Int) == 95)) rfl (fun hv => by (try simp only [gs_on hv]); rfl) (fun hv => by (try simp only [gs_on hv]); rfl) ?_; refine s_mov (.bool (bif (bif (bif (decide ((x_57.toNat : Int) ≥ 97)) then (decide ((x_57.toNat : Int) ≤ 122)) else false) then true else (bif (decide ((x_57.toNat : Int) ≥ 65)) then (decide ((x_57.toNat : Int) ≤ 90)) else false)) then true else ((x_57.toNat : Int) == 95))) rfl <| w_done <| ?_; obtain rfl := os hb2; exact ⟨[], [], _, _, rfl, rfl, ⟨.refl _, ⟨.refl _, ⟨.refl _, ⟨.refl _, ⟨.refl _, ⟨.refl _, trivial⟩⟩⟩⟩⟩⟩, (.refl _)⟩
   ·refine awp_seq ?_
    obtain ⟨s42_63, hb2, hc1⟩ := ob hc1
    refine awp_cut ([(0, (.str t_1)), (7, (.int .i64 (t_1.length : Int))), (8, (.int .i64 (s8_34 : Int))), (42, (.bool s42_63))], []) ?_ ?_
    ·refine w_reg ?_
     rcases oi hb2 with ⟨c65, hb2⟩ | ⟨c65, hb2⟩
     ·rcases oi hb2 with ⟨c66, hb2⟩ | ⟨c66, hb2⟩
      ·refine s_mov (.bool (bif (bif (bif (decide ((x_57.toNat : Int) ≥ 97)) then (decide ((x_57.toNat : Int) ≤ 122)) else false) then true else (bif (decide ((x_57.toNat : Int) ≥ 65)) then (decide ((x_57.toNat : Int) ≤ 90)) else false)) then true else ((x_57.toNat : Int) == 95))) rfl <| s_q (.bool (!(bif (bif (bif (decide ((x_57.toNat : Int) ≥ 97)) then (decide ((x_57.toNat : Int) ≤ 122)) else false) then true else (bif (decide ((x_57.toNat : Int) ≥ 65)) then (decide ((x_57.toNat : Int) ≤ 90)) else false)) then true else ((x_57.toNat : Int) == 95)))) rfl trivial rfl <| s_mov (.bool (!(bif (bif (bif (decide ((x_57.toNat : Int) ≥ 97)) then (decide ((x_57.toNat : Int) ≤ 122)) else false) then true else (bif (decide ((x_57.toNat : Int) ≥ 65)) then (decide ((x_57.toNat : Int) ≤ 90)) else false)) then true else ((x_57.toNat : Int) == 95)))) rfl <| ?_
       refine s_lit (s := 34) (b := true) rfl c65 <| s_on rfl <| s_mov (.int .i64 (s8_34 : Int)) rfl <| s_on rfl <| s_q (.bool ((s8_34 : Int) == 0)) rfl rfl rfl <| s_on rfl <| s_mov (.bool ((s8_34 : Int) == 0)) rfl <| s_lit (s := 37) (b := true) rfl c66 <| s_off rfl rfl <| s_off rfl rfl <| s_off rfl rfl <| s_on rfl <| s_q (.bool true) rfl trivial rfl <| s_q (.bool true) rfl trivial rfl <| w_done <| ?_; obtain rfl := os hb2; exact ⟨[], [], _, _, rfl, rfl, ⟨.refl _, ⟨.refl _, ⟨.refl _, ⟨.refl _, trivial⟩⟩⟩⟩, (.refl _)⟩
      ·obtain ⟨r_67, er68, hb2⟩ := ob hb2
       refine s_mov (.bool (bif (bif (bif (decide ((x_57.toNat : Int) ≥ 97)) then (decide ((x_57.toNat : Int) ≤ 122)) else false) then true else (bif (decide ((x_57.toNat : Int) ≥ 65)) then (decide ((x_57.toNat : Int) ≤ 90)) else false)) then true else ((x_57.toNat : Int) == 95))) rfl <| s_q (.bool (!(bif (bif (bif (decide ((x_57.toNat : Int) ≥ 97)) then (decide ((x_57.toNat : Int) ≤ 122)) else false) then true else (bif (decide ((x_57.toNat : Int) ≥ 65)) then (decide ((x_57.toNat : Int) ≤ 90)) else false)) then true else ((x_57.toNat : Int) == 95)))) rfl trivial rfl <| s_mov (.bool (!(bif (bif (bif (decide ((x_57.toNat : Int) ≥ 97)) then (decide ((x_57.toNat : Int) ≤ 122)) else false) then true else (bif (decide ((x_57.toNat : Int) ≥ 65)) then (decide ((x_57.toNat : Int) ≤ 90)) else false)) then true else ((x_57.toNat : Int) == 95)))) rfl <| ?_
       refine s_lit (s := 34) (b := true) rfl c65 <| s_on rfl <| s_mov (.int .i64 (s8_34 : Int)) rfl <| s_on rfl <| s_q (.bool ((s8_34 : Int) == 0)) rfl rfl rfl <| s_on rfl <| s_mov (.bool ((s8_34 : Int) == 0)) rfl <| s_lit (s := 37) (b := false) rfl (bf c66) <| s_on rfl <| s_mov (.int .u8 (x_57.toNat : Int)) rfl <| s_on rfl <| s_do (o_call (w_impl_isDigit _ _ er68) rfl (.refl _) rfl) <| s_on rfl <| s_q (.bool (!r_67)) rfl trivial rfl <| s_on rfl <| s_q (.bool (!r_67)) rfl trivial rfl <| s_q (.bool (!r_67)) rfl trivial rfl <| w_done <| ?_; obtain rfl := os hb2; exact ⟨[], [], _, _, rfl, rfl, ⟨.refl _, ⟨.refl _, ⟨.refl _, ⟨.refl _, trivial⟩⟩⟩⟩, (.refl _)⟩
     ·refine s_mov (.bool (bif (bif (bif (decide ((x_57.toNat : Int) ≥ 97)) then (decide ((x_57.toNat : Int) ≤ 122)) else false) then true else (bif (decide ((x_57.toNat : Int) ≥ 65)) then (decide ((x_57.toNat : Int) ≤ 90)) else false)) then true else ((x_57.toNat : Int) == 95))) rfl <| s_q (.bool (!(bif (bif (bif (decide ((x_57.toNat : Int) ≥ 97)) then (decide ((x_57.toNat : Int) ≤ 122)) else false) then true else (bif (decide ((x_57.toNat : Int) ≥ 65)) then (decide ((x_57.toNat : Int) ≤ 90)) else false)) then true else ((x_57.toNat : Int) == 95)))) rfl trivial rfl <| s_mov (.bool (!(bif (bif (bif (decide ((x_57.toNat : Int) ≥ 97)) then (decide ((x_57.toNat : Int) ≤ 122)) else false) then true else (bif (decide ((x_57.toNat : Int) ≥ 65)) then (decide ((x_57.toNat : Int) ≤ 90)) else false)) then true else ((x_57.toNat : Int) == 95)))) rfl <| ?_
      refine s_lit (s := 34) (b := false) rfl (bf c65) <| s_off rfl rfl <| s_off rfl rfl <| s_off rfl rfl <| s_offs rfl <| s_offs rfl <| s_offs rfl <| s_off rfl rfl <| s_q (.bool false) rfl trivial rfl <| w_done <| ?_; obtain rfl := os hb2; exact ⟨[], [], _, _, rfl, rfl, ⟨.refl _, ⟨.refl _, ⟨.refl _, ⟨.refl _, trivial⟩⟩⟩⟩, (.refl _)⟩
    ·rcases oi hc1 with ⟨c69, hc1⟩ | ⟨c69, hc1⟩
     ·refine w_condt rfl c69 <| awp_seq <| w_reg <| s_mov (.bool false) rfl <| w_done <| k_seq <| w_ret <| ?_; obtain rfl := os hc1; obtain rfl := os hf; exact r_flat ⟨trivial, trivial⟩ rfl (.refl _)
     ·refine w_condf rfl (bf c69) <| w_skip <| k_blk <| k_seq <| w_reg <| s_q (.int .i64 (w64 ((s8_34 : Int) + 1))) rfl rfl rfl <| s_mov (.int .i64 (w64 ((s8_34 : Int) + 1))) rfl <| w_done <| ?_; exact k_loopn ⟨(s8_34 + 1), hc1⟩ (mul hlt51) ⟨[], [], _, _, rfl, rfl, ⟨.refl _, ⟨.refl _, ⟨.of_eq (congrArg (AV.int _) (w64_incr hlt51 hl2)), trivial⟩⟩⟩, (.refl _)⟩
 ·rintro ⟨_, rfl⟩
  refine awp_seq <| w_reg <| ?_
  obtain ⟨r_71, er72, hf⟩ := ob hf
  refine s_mov (.str t_1) rfl <| s_dof (o_lenS rfl) fun hl70 => s_do (o_call (w_impl_within _ _ _ _ er72) rfl (.refl _) rfl) <| s_mov (.bool r_71) rfl <| w_done <| k_seq <| w_ret <| ?_; obtain rfl := os hf; exact r_flat ⟨trivial, trivial⟩ rfl (.refl _)

/- impl.ResultOK$1 -/
def c158 : ACode :=
 (.seq (.reg (tm 2 (.c (.bool false)) .done))
 (.seq (.reg (tm 3 (.t 0) (tq 4 (.call 159 [(.t 3)]) (tq 5 (.not (.t 4)) (tm 2 (.t 5) .done)))))
 .ret))
theorem fc158 : fcomp Try.prog Try.f158 = some (c158.erase, [.mov (.t 2)], 6) := by kernel_rfl
def impl_ResultOK_1 (name_1 : Str) : Option Bool :=
    (impl_NameOK name_1).bind fun r_2 =>
    some (!r_2)
theorem w_impl_ResultOK_1 (name_1 : Str) (r : Bool) (hf : impl_ResultOK_1 name_1 = some r) : CallOK Try.prog 158 .flat [(.str name_1)] (.bool r) := by
  refine CallOK.of_awp mixed Try.func158 fc158 nle ?_
  rw [argT_eq]
  unfold impl_ResultOK_1 at hf
  unfold c158
  refine (show awp Try.prog false 0 _ (ofL [(0, (.str name_1))]) [] _ from ?_)
  refine awp_seq ?_
  refine w_reg ?_
  refine s_do (o_mov (.bool false) rfl) ?_
  refine w_done ?_
  refine k_seq ?_
  refine awp_seq ?_
  refine w_reg ?_
  obtain ⟨r_2, er3, hf⟩ := ob hf
  refine s_do (o_mov (.str name_1) rfl) ?_
  refine s_do (o_call (w_impl_NameOK _ _ er3) rfl (.refl _) rfl) ?_
  refine s_do (o_q (.bool (!r_2)) rfl trivial rfl) ?_
  refine s_do (o_mov (.bool (!r_2)) rfl) ?_
  refine w_done ?_
  refine k_seq ?_
  refine w_ret ?_
  obtain rfl := os hf
  exact r_flat ⟨trivial, trivial⟩ rfl (.refl _)

/- slices.IndexFunc[[]impl.Row,impl.Row] -/
def c226 : ACode :=
 (.seq (.reg (tm 4 (.c (.int .i64 0)) .done))
 (.seq (.seq (.reg (tm 6 (.t 0) (tq 7 (.len (.t 6)) (tm 8 (.c (.int .i64 0)) .done))))
 (.block 0 (.loop (.seq (.reg (tq 9 (.bin .lss (.t 8) (.t 7)) .done))
 (.seq (.cond (.t 9) .skip
 (.exit 0))
 (.seq (.block 1 (.seq (.reg (tm 10 (.t 8) (tm 5 (.t 10) .done)))
 (.seq (.reg (tm 11 (.t 1) (tm 12 (.t 0) (tm 13 (.t 5) (tq 14 (.iaddr 2 (.t 12) (.t 13)) (tq 15 (.load 2 true (.t 14)) (tq 16 (.calv (.t 11) [(.t 15)]) .done)))))))
 (.cond (.t 16) (.seq (.reg (tm 17 (.t 5) (tm 4 (.t 17) .done)))
 .ret)
 .skip))))
 (.reg (tq 18 (.bin .add (.t 8) (.c (.int .i64 1))) (tm 8 (.t 18) .done)))))))))
 (.cut (.seq (.reg (tq 4 (.mov (.c (.int .i64 (-1)))) .done))
 .ret))))
theorem fc226 : fcomp Try.prog Try.f226 = some (c226.erase, [.mov (.t 4)], 19) := by kernel_rfl
def slices_IndexFunc_impl_Row_impl_Row_L1 (f_2 : (GRow → Option Bool)) : List GRow → Nat → Option (Fl Int Unit)
  | [], s8_17 =>
    some (.go ())
  | x_31 :: xs, s8_17 =>
    (f_2 x_31).bind fun r_32 =>
    if r_32 then
    some (.ret (s8_17 : Int))
    else
    slices_IndexFunc_impl_Row_impl_Row_L1 f_2 xs (s8_17 + 1)

def slices_IndexFunc_impl_Row_impl_Row (s_1 : (List GRow)) (f_2 : (GRow → Option Bool)) : Option Int :=
    (slices_IndexFunc_impl_Row_impl_Row_L1 f_2 s_1 0).bind fun q => (match q with
    | .ret r => some r
    | .go _ =>
    some (-1))
theorem w_slices_IndexFunc_impl_Row_impl_Row (s_1 : (List GRow)) (f_2 : (GRow → Option Bool)) (r : Int) (hf : slices_IndexFunc_impl_Row_impl_Row s_1 f_2 = some r) (kf_f_2 : Nat) (cf_f_2 : List AV) (okf_f_2 : okFn Try.prog kf_f_2 = true) (hcf_f_2 : ∀ h p, closeWs h p cf_f_2 = some cf_f_2) (hrf_f_2 : ∀ f, rens f cf_f_2 = cf_f_2) (hpf_f_2 : ∀ a0 r, f_2 a0 = some r → CallOK Try.prog kf_f_2 .flat ([(encGRow a0)] ++ cf_f_2) (.bool r)) : CallOK Try.prog 226 .flat [(.lst 2 (s_1.map encGRow)), (.fn kf_f_2 cf_f_2)] (.int .i64 r) := by
 refine CallOK.of_awp mixed Try.func226 fc226 nle ?_; rw [argT_eq]; unfold slices_IndexFunc_impl_Row_impl_Row at hf; unfold c226; refine (show awp Try.prog false 0 _ (ofL [(0, (.lst 2 (s_1.map encGRow))), (1, (.fn kf_f_2 cf_f_2))]) [] _ from ?_); refine awp_seq <| w_reg <| s_mov (.int .i64 0) rfl <| w_done <| k_seq <| awp_seq <| awp_seq <| w_reg <| s_mov (.lst 2 (s_1.map encGRow)) rfl <| s_dof (o_len (enc := encGRow) rfl) fun hl3 => s_mov (.int .i64 0) rfl <| w_done <| k_seq <| ?_
 obtain ⟨p24, hb1, hf⟩ := ob hf
 refine awp_cutx (X := {q : Unit // p24 = .go q}) (fun q => ([], [])) ?_ ?_
 ·refine awp_loop (X := {q : Nat // slices_IndexFunc_impl_Row_impl_Row_L1 f_2 (s_1.drop q) q = some p24}) (fun q => ([(0, (.lst 2 (s_1.map encGRow))), (1, (.fn kf_f_2 cf_f_2)), (7, (.int .i64 (s_1.length : Int))), (8, (.int .i64 (q.1 : Int)))], [])) (fun q => s_1.length - q.1) ⟨0, hb1⟩ ⟨[], [], _, _, rfl, rfl, ⟨.refl _, ⟨.of_eq (congrArg (AV.fn _) (hrf_f_2 _)), ⟨.refl _, ⟨.refl _, trivial⟩⟩⟩⟩, (.refl _)⟩ ?_
  rintro ⟨s8_17, hc1⟩
  have hc1 : slices_IndexFunc_impl_Row_impl_Row_L1 f_2 (s_1.drop s8_17) s8_17 = some p24 := hc1
  refine (show awp Try.prog false 0 _ (ofL [(0, (.lst 2 (s_1.map encGRow))), (1, (.fn kf_f_2 cf_f_2)), (7, (.int .i64 (s_1.length : Int))), (8, (.int .i64 (s8_17 : Int)))]) [] _ from ?_)
  rcases dropc s_1 s8_17 with ⟨hie27, hd30⟩ | ⟨hlt25, x_31, hx26, hd30⟩
  ·rw [hd30, slices_IndexFunc_impl_Row_impl_Row_L1.eq_1] at hc1
   have hq29 := dlf hie27
   refine awp_seq <| w_reg <| s_q (.bool (decide ((s8_17 : Int) < (s_1.length : Int)))) rfl rfl rfl <| w_done <| k_seq <| awp_seq <| w_condf rfl hq29 <| w_exit <| k_seqx <| k_loopx <| k_blkx <| ?_; obtain rfl := os hc1; exact k_cutn ⟨_, rfl⟩ ⟨[], [], _, _, rfl, rfl, trivial, (.refl _)⟩
  ·rw [hd30, slices_IndexFunc_impl_Row_impl_Row_L1.eq_2] at hc1
   have hq29 := dlt hlt25
   refine awp_seq <| w_reg <| s_q (.bool (decide ((s8_17 : Int) < (s_1.length : Int)))) rfl rfl rfl <| w_done <| k_seq <| awp_seq <| w_condt rfl hq29 <| w_skip <| k_seq <| awp_seq <| w_blk <| awp_seq <| w_reg <| s_mov (.int .i64 (s8_17 : Int)) rfl <| s_mov (.int .i64 (s8_17 : Int)) rfl <| w_done <| k_seq <| awp_seq <| w_reg <| ?_
   obtain ⟨r_32, er33, hc1⟩ := ob hc1
   refine s_mov (.fn kf_f_2 cf_f_2) rfl <| s_mov (.lst 2 (s_1.map encGRow)) rfl <| s_mov (.int .i64 (s8_17 : Int)) rfl <| s_do (o_iaddrn (enc := encGRow) rfl rfl hx26) <| s_q (encGRow x_31) rfl nle rfl <| s_do (o_calvp (v := (.bool r_32)) rfl okf_f_2 hcf_f_2 (hpf_f_2 _ _ er33) rfl (.refl _) rfl) <| w_done <| k_seq <| ?_
   rcases oi hc1 with ⟨c34, hc1⟩ | ⟨c34, hc1⟩
   ·refine w_condt rfl c34 <| awp_seq <| w_reg <| s_mov (.int .i64 (s8_17 : Int)) rfl <| s_mov (.int .i64 (s8_17 : Int)) rfl <| w_done <| k_seq <| w_ret <| ?_; obtain rfl := os hc1; obtain rfl := os hf; exact r_flat ⟨trivial, trivial⟩ rfl (.refl _)
   ·refine w_condf rfl (bf c34) <| w_skip <| k_blk <| k_seq <| w_reg <| s_q (.int .i64 (w64 ((s8_17 : Int) + 1))) rfl rfl rfl <| s_mov (.int .i64 (w64 ((s8_17 : Int) + 1))) rfl <| w_done <| ?_; exact k_loopn ⟨(s8_17 + 1), hc1⟩ (mul hlt25) ⟨[], [], _, _, rfl, rfl, ⟨.refl _, ⟨.of_eq (congrArg (AV.fn _) (hrf_f_2 _)), ⟨.refl _, ⟨.of_eq (congrArg (AV.int _) (w64_incr hlt25 hl3)), trivial⟩⟩⟩⟩, (.refl _)⟩
 ·rintro ⟨_, rfl⟩
  refine awp_seq <| w_reg <| s_mov (.int .i64 (-1)) rfl <| w_done <| k_seq <| w_ret <| ?_; obtain rfl := os hf; exact r_flat ⟨trivial, trivial⟩ rfl (.refl _)

/- slices.ContainsFunc[[]impl.Row,impl.Row] -/
def c160 : ACode :=
 (.seq (.reg (tm 4 (.c (.bool false)) .done))
 (.seq (.reg (tm 5 (.t 0) (tm 6 (.t 1) (tq 7 (.call 226 [(.t 5), (.t 6)]) (tq 8 (.bin .geq (.t 7) (.c (.int .i64 0))) (tm 4 (.t 8) .done))))))
 .ret))
theorem fc160 : fcomp Try.prog Try.f160 = some (c160.erase, [.mov (.t 4)], 9) := by kernel_rfl
def slices_ContainsFunc_impl_Row_impl_Row (s_1 : (List GRow)) (f_2 : (GRow → Option Bool)) : Option Bool :=
    (slices_IndexFunc_impl_Row_impl_Row s_1 f_2).bind fun r_3 =>
    some (decide (r_3 ≥ 0))
theorem w_slices_ContainsFunc_impl_Row_impl_Row (s_1 : (List GRow)) (f_2 : (GRow → Option Bool)) (r : Bool) (hf : slices_ContainsFunc_impl_Row_impl_Row s_1 f_2 = some r) (kf_f_2 : Nat) (cf_f_2 : List AV) (okf_f_2 : okFn Try.prog kf_f_2 = true) (hcf_f_2 : ∀ h p, closeWs h p cf_f_2 = some cf_f_2) (hrf_f_2 : ∀ f, rens f cf_f_2 = cf_f_2) (hpf_f_2 : ∀ a0 r, f_2 a0 = some r → CallOK Try.prog kf_f_2 .flat ([(encGRow a0)] ++ cf_f_2) (.bool r)) : CallOK Try.prog 160 .flat [(.lst 2 (s_1.map encGRow)), (.fn kf_f_2 cf_f_2)] (.bool r) := by
 refine CallOK.of_awp mixed Try.func160 fc160 nle ?_; rw [argT_eq]; unfold slices_ContainsFunc_impl_Row_impl_Row at hf; unfold c160; refine (show awp Try.prog false 0 _ (ofL [(0, (.lst 2 (s_1.map encGRow))), (1, (.fn kf_f_2 cf_f_2))]) [] _ from ?_); refine awp_seq <| w_reg <| s_mov (.bool false) rfl <| w_done <| k_seq <| awp_seq <| w_reg <| ?_
 obtain ⟨r_3, er4, hf⟩ := ob hf
 refine s_mov (.lst 2 (s_1.map encGRow)) rfl <| s_mov (.fn kf_f_2 cf_f_2) rfl <| s_do (o_call (w_slices_IndexFunc_impl_Row_impl_Row _ _ _ er4 kf_f_2 cf_f_2 okf_f_2 hcf_f_2 hrf_f_2 hpf_f_2) (cls_cons rfl (cls_cons (cls_fn hcf_f_2) rfl)) (.refl _) rfl) <| s_q (.bool (decide (r_3 ≥ 0))) rfl rfl rfl <| s_mov (.bool (decide (r_3 ≥ 0))) rfl <| w_done <| k_seq <| w_ret <| ?_; obtain rfl := os hf; exact r_flat ⟨trivial, trivial⟩ rfl (.refl _)

/- slices.IndexFunc[[][]impl.Atom,[]impl.Atom] -/
def c258 : ACode :=
 (.seq (.reg (tm 4 (.c (.int .i64 0)) .done))
 (.seq (.seq (.reg (tm 6 (.t 0) (tq 7 (.len (.t 6)) (tm 8 (.c (.int .i64 0)) .done))))
 (.block 0 (.loop (.seq (.reg (tq 9 (.bin .lss (.t 8) (.t 7)) .done))
 (.seq (.cond (.t 9) .skip
 (.exit 0))
 (.seq (.block 1 (.seq (.reg (tm 10 (.t 8) (tm 5 (.t 10) .done)))
 (.seq (.reg (tm 11 (.t 1) (tm 12 (.t 0) (tm 13 (.t 5) (tq 14 (.iaddr 1 (.t 12) (.t 13)) (tq 15 (.load 1 false (.t 14)) (tq 16 (.calv (.t 11) [(.t 15)]) .done)))))))
 (.cond (.t 16) (.seq (.reg (tm 17 (.t 5) (tm 4 (.t 17) .done)))
 .ret)
 .skip))))
 (.reg (tq 18 (.bin .add (.t 8) (.c (.int .i64 1))) (tm 8 (.t 18) .done)))))))))
 (.cut (.seq (.reg (tq 4 (.mov (.c (.int .i64 (-1)))) .done))
 .ret))))
theorem fc258 : fcomp Try.prog Try.f258 = some (c258.erase, [.mov (.t 4)], 19) := by kernel_rfl
def slices_IndexFunc_impl_Atom_impl_AtomS_L1 (f_2 : ((List GAtom) → Option Bool)) : List (List GAtom) → Nat → Option (Fl Int Unit)
  | [], s8_17 =>
    some (.go ())
  | x_31 :: xs, s8_17 =>
    (f_2 x_31).bind fun r_32 =>
    if r_32 then
    some (.ret (s8_17 : Int))
    else
    slices_IndexFunc_impl_Atom_impl_AtomS_L1 f_2 xs (s8_17 + 1)

def slices_IndexFunc_impl_Atom_impl_AtomS (s_1 : (List (List GAtom))) (f_2 : ((List GAtom) → Option Bool)) : Option Int :=
    (slices_IndexFunc_impl_Atom_impl_AtomS_L1 f_2 s_1 0).bind fun q => (match q with
    | .ret r => some r
    | .go _ =>
    some (-1))
theorem w_slices_IndexFunc_impl_Atom_impl_AtomS (s_1 : (List (List GAtom))) (f_2 : ((List GAtom) → Option Bool)) (r : Int) (hf : slices_IndexFunc_impl_Atom_impl_AtomS s_1 f_2 = some r) (kf_f_2 : Nat) (cf_f_2 : List AV) (okf_f_2 : okFn Try.prog kf_f_2 = true) (hcf_f_2 : ∀ h p, closeWs h p cf_f_2 = some cf_f_2) (hrf_f_2 : ∀ f, rens f cf_f_2 = cf_f_2) (hpf_f_2 : ∀ a0 r, f_2 a0 = some r → CallOK Try.prog kf_f_2 .flat ([(.lst 3 (a0.map encGAtom))] ++ cf_f_2) (.bool r)) : CallOK Try.prog 258 .flat [(.lst 1 (s_1.map (encL 3 encGAtom))), (.fn kf_f_2 cf_f_2)] (.int .i64 r) := by
 refine CallOK.of_awp mixed Try.func258 fc258 nle ?_; rw [argT_eq]; unfold slices_IndexFunc_impl_Atom_impl_AtomS at hf; unfold c258; refine (show awp Try.prog false 0 _ (ofL [(0, (.lst 1 (s_1.map (encL 3 encGAtom)))), (1, (.fn kf_f_2 cf_f_2))]) [] _ from ?_); refine awp_seq <| w_reg <| s_mov (.int .i64 0) rfl <| w_done <| k_seq <| awp_seq <| awp_seq <| w_reg <| s_mov (.lst 1 (s_1.map (encL 3 encGAtom))) rfl <| s_dof (o_len (enc := (encL 3 encGAtom)) rfl) fun hl3 => s_mov (.int .i64 0) rfl <| w_done <| k_seq <| ?_
 obtain ⟨p24, hb1, hf⟩ := ob hf
 refine awp_cutx (X := {q : Unit // p24 = .go q}) (fun q => ([], [])) ?_ ?_
 ·refine awp_loop (X := {q : Nat // slices_IndexFunc_impl_Atom_impl_AtomS_L1 f_2 (s_1.drop q) q = some p24}) (fun q => ([(0, (.lst 1 (s_1.map (encL 3 encGAtom)))), (1, (.fn kf_f_2 cf_f_2)), (7, (.int .i64 (s_1.length : Int))), (8, (.int .i64 (q.1 : Int)))], [])) (fun q => s_1.length - q.1) ⟨0, hb1⟩ ⟨[], [], _, _, rfl, rfl, ⟨.refl _, ⟨.of_eq (congrArg (AV.fn _) (hrf_f_2 _)), ⟨.refl _, ⟨.refl _, trivial⟩⟩⟩⟩, (.refl _)⟩ ?_
  rintro ⟨s8_17, hc1⟩
  have hc1 : slices_IndexFunc_impl_Atom_impl_AtomS_L1 f_2 (s_1.drop s8_17) s8_17 = some p24 := hc1
  refine (show awp Try.prog false 0 _ (ofL [(0, (.lst 1 (s_1.map (encL 3 encGAtom)))), (1, (.fn kf_f_2 cf_f_2)), (7, (.int .i64 (s_1.length : Int))), (8, (.int .i64 (s8_17 : Int)))]) [] _ from ?_)
  rcases dropc s_1 s8_17 with ⟨hie27, hd30⟩ | ⟨hlt25, x_31, hx26, hd30⟩
  ·rw [hd30, slices_IndexFunc_impl_Atom_impl_AtomS_L1.eq_1] at hc1
   have hq29 := dlf hie27
   refine awp_seq <| w_reg <| s_q (.bool (decide ((s8_17 : Int) < (s_1.length : Int)))) rfl rfl rfl <| w_done <| k_seq <| awp_seq <| w_condf rfl hq29 <| w_exit <| k_seqx <| k_loopx <| k_blkx <| ?_; obtain rfl := os hc1; exact k_cutn ⟨_, rfl⟩ ⟨[], [], _, _, rfl, rfl, trivial, (.refl _)⟩
  ·rw [hd30, slices_IndexFunc_impl_Atom_impl_AtomS_L1.eq_2] at hc1
   have hq29 := dlt hlt25
   refine awp_seq <| w_reg <| s_q (.bool (decide ((s8_17 : Int) < (s_1.length : Int)))) rfl rfl rfl <| w_done <| k_seq <| awp_seq <| w_condt rfl hq29 <| w_skip <| k_seq <| awp_seq <| w_blk <| awp_seq <| w_reg <| s_mov (.int .i64 (s8_17 : Int)) rfl <| s_mov (.int .i64 (s8_17 : Int)) rfl <| w_done <| k_seq <| awp_seq <| w_reg <| ?_
   obtain ⟨r_32, er33, hc1⟩ := ob hc1
   refine s_mov (.fn kf_f_2 cf_f_2) rfl <| s_mov (.lst 1 (s_1.map (encL 3 encGAtom))) rfl <| s_mov (.int .i64 (s8_17 : Int)) rfl <| s_do (o_iaddrn (enc := (encL 3 encGAtom)) rfl rfl hx26) <| s_q (.lst 3 (x_31.map encGAtom)) rfl ⟨rfl, rfl⟩ rfl <| s_do (o_calvp (v := (.bool r_32)) rfl okf_f_2 hcf_f_2 (hpf_f_2 _ _ er33) rfl (.refl _) rfl) <| w_done <| k_seq <| ?_
   rcases oi hc1 with ⟨c34, hc1⟩ | ⟨c34, hc1⟩
   ·refine w_condt rfl c34 <| awp_seq <| w_reg <| s_mov (.int .i64 (s8_17 : Int)) rfl <| s_mov (.int .i64 (s8_17 : Int)) rfl <| w_done <| k_seq <| w_ret <| ?_; obtain rfl := os hc1; obtain rfl := os hf; exact r_flat ⟨trivial, trivial⟩ rfl (.refl _)
   ·refine w_condf rfl (bf c34) <| w_skip <| k_blk <| k_seq <| w_reg <| s_q (.int .i64 (w64 ((s8_17 : Int) + 1))) rfl rfl rfl <| s_mov (.int .i64 (w64 ((s8_17 : Int) + 1))) rfl <| w_done <| ?_; exact k_loopn ⟨(s8_17 + 1), hc1⟩ (mul hlt25) ⟨[], [], _, _, rfl, rfl, ⟨.refl _, ⟨.of_eq (congrArg (AV.fn _) (hrf_f_2 _)), ⟨.refl _, ⟨.of_eq (congrArg (AV.int _) (w64_incr hlt25 hl3)), trivial⟩⟩⟩⟩, (.refl _)⟩
 ·rintro ⟨_, rfl⟩
  refine awp_seq <| w_reg <| s_mov (.int .i64 (-1)) rfl <| w_done <| k_seq <| w_ret <| ?_; obtain rfl := os hf; exact r_flat ⟨trivial, trivial⟩ rfl (.refl _)

/- slices.ContainsFunc[[][]impl.Atom,[]impl.Atom] -/
def c227 : ACode :=
 (.seq (.reg (tm 4 (.c (.bool false)) .done))
 (.seq (.reg (tm 5 (.t 0) (tm 6 (.t 1) (tq 7 (.call 258 [(.t 5), (.t 6)]) (tq 8 (.bin .geq (.t 7) (.c (.int .i64 0))) (tm 4 (.t 8) .done))))))
 .ret))
theorem fc227 : fcomp Try.prog Try.f227 = some (c227.erase, [.mov (.t 4)], 9) := by kernel_rfl
def slices_ContainsFunc_impl_Atom_impl_AtomS (s_1 : (List (List GAtom))) (f_2 : ((List GAtom) → Option Bool)) : Option Bool :=
    (slices_IndexFunc_impl_Atom_impl_AtomS s_1 f_2).bind fun r_3 =>
    some (decide (r_3 ≥ 0))
theorem w_slices_ContainsFunc_impl_Atom_impl_AtomS (s_1 : (List (List GAtom))) (f_2 : ((List GAtom) → Option Bool)) (r : Bool) (hf : slices_ContainsFunc_impl_Atom_impl_AtomS s_1 f_2 = some r) (kf_f_2 : Nat) (cf_f_2 : List AV) (okf_f_2 : okFn Try.prog kf_f_2 = true) (hcf_f_2 : ∀ h p, closeWs h p cf_f_2 = some cf_f_2) (hrf_f_2 : ∀ f, rens f cf_f_2 = cf_f_2) (hpf_f_2 : ∀ a0 r, f_2 a0 = some r → CallOK Try.prog kf_f_2 .flat ([(.lst 3 (a0.map encGAtom))] ++ cf_f_2) (.bool r)) : CallOK Try.prog 227 .flat [(.lst 1 (s_1.map (encL 3 encGAtom))), (.fn kf_f_2 cf_f_2)] (.bool r) := by
 refine CallOK.of_awp mixed Try.func227 fc227 nle ?_; rw [argT_eq]; unfold slices_ContainsFunc_impl_Atom_impl_AtomS at hf; unfold c227; refine (show awp Try.prog false 0 _ (ofL [(0, (.lst 1 (s_1.map (encL 3 encGAtom)))), (1, (.fn kf_f_2 cf_f_2))]) [] _ from ?_); refine awp_seq <| w_reg <| s_mov (.bool false) rfl <| w_done <| k_seq <| awp_seq <| w_reg <| ?_
 obtain ⟨r_3, er4, hf⟩ := ob hf
 refine s_mov (.lst 1 (s_1.map (encL 3 encGAtom))) rfl <| s_mov (.fn kf_f_2 cf_f_2) rfl <| s_do (o_call (w_slices_IndexFunc_impl_Atom_impl_AtomS _ _ _ er4 kf_f_2 cf_f_2 okf_f_2 hcf_f_2 hrf_f_2 hpf_f_2) (cls_cons rfl (cls_cons (cls_fn hcf_f_2) rfl)) (.refl _) rfl) <| s_q (.bool (decide (r_3 ≥ 0))) rfl rfl rfl <| s_mov (.bool (decide (r_3 ≥ 0))) rfl <| w_done <| k_seq <| w_ret <| ?_; obtain rfl := os hf; exact r_flat ⟨trivial, trivial⟩ rfl (.refl _)

/- impl.isNumber -/
def c167 : ACode :=
 (.seq (.reg (tm 2 (.c (.bool false)) .done))
 (.seq (.reg (tm 3 (.t 0) (tq 4 (.call 156 [(.t 3), (.c (.int .i64 (-1000000000))), (.c (.int .i64 1000000000))]) (tm 2 (.t 4) .done))))
 .ret))
theorem fc167 : fcomp Try.prog Try.f167 = some (c167.erase, [.mov (.t 2)], 5) := by kernel_rfl
def impl_isNumber (n_1 : Int) : Option Bool :=
    (impl_within n_1 (-1000000000) 1000000000).bind fun r_2 =>
    some r_2
theorem w_impl_isNumber (n_1 : Int) (r : Bool) (hf : impl_isNumber n_1 = some r) : CallOK Try.prog 167 .flat [(.int .i64 n_1)] (.bool r) := by
  refine CallOK.of_awp mixed Try.func167 fc167 nle ?_
  rw [argT_eq]
  unfold impl_isNumber at hf
  unfold c167
  refine (show awp Try.prog false 0 _ (ofL [(0, (.int .i64 n_1))]) [] _ from ?_)
  refine awp_seq ?_
  refine w_reg ?_
  refine s_do (o_mov (.bool false) rfl) ?_
  refine w_done ?_
  refine k_seq ?_
  refine awp_seq ?_
  refine w_reg ?_
  obtain ⟨r_2, er3, hf⟩ := ob hf
  refine s_do (o_mov (.int .i64 n_1) rfl) ?_
  refine s_do (o_call (w_impl_within _ _ _ _ er3) rfl (.refl _) rfl) ?_
  refine s_do (o_mov (.bool r_2) rfl) ?_
  refine w_done ?_
  refine k_seq ?_
  refine w_ret ?_
  obtain rfl := os hf
  exact r_flat ⟨trivial, trivial⟩ rfl (.refl _)

/- impl.isPlain -/
def c168 : ACode :=
 (.seq (.reg (tm 2 (.c (.bool false)) .done))
 (.seq (.seq (.reg (tm 4 (.t 0) (tq 5 (.lenS (.t 4)) (tm 6 (.c (.int .i64 0)) .done))))
 (.block 0 (.loop (.seq (.reg (tq 7 (.bin .lss (.t 6) (.t 5)) .done))
 (.seq (.cond (.t 7) .skip
 (.exit 0))
 (.seq (.block 1 (.seq (.reg (tm 8 (.t 6) (tm 3 (.t 8) .done)))
 (.seq (.reg (tm 9 (.t 0) (tm 10 (.t 3) (tq 11 (.idxs (.t 9) (.t 10)) (tq 12 (.bin .lss (.t 11) (.c (.int .u8 32))) (tm 13 (.t 12) (tg 14 13 false (.mov (.t 0)) (tg 15 13 false (.mov (.t 3)) (tg 16 13 false (.idxs (.t 14) (.t 15)) (tg 17 13 false (.bin .gtr (.t 16) (.c (.int .u8 126))) (tq 18 (.pick (.t 13) (.c (.bool true)) (.t 17)) .done)))))))))))
 (.cut (.cond (.t 18) (.seq (.reg (tm 2 (.c (.bool false)) .done))
 .ret)
 .skip)))))
 (.reg (tq 19 (.bin .add (.t 6) (.c (.int .i64 1))) (tm 6 (.t 19) .done)))))))))
 (.cut (.seq (.reg (tm 20 (.t 0) (tq 21 (.lenS (.t 20)) (tq 22 (.bin .leq (.t 21) (.c (.int .i64 200))) (tm 2 (.t 22) .done)))))
 .ret))))
theorem fc168 : fcomp Try.prog Try.f168 = some (c168.erase, [.mov (.t 2)], 23) := by kernel_rfl
def impl_isPlain_L1  : List UInt8 → Option (Fl Bool Unit)
  | [] =>
    some (.go ())
  | x_54 :: xs =>
    ((if (decide ((x_54.toNat : Int) < 32)) then
    some true
    else
    some (decide ((x_54.toNat : Int) > 126)) : Option Bool)).bind fun s18_56 =>
    if s18_56 then
    some (.ret false)
    else
    impl_isPlain_L1 xs 

def impl_isPlain (t_1 : Str) : Option Bool :=
    (impl_isPlain_L1 t_1 ).bind fun q => (match q with
    | .ret r => some r
    | .go _ =>
    some (decide ((t_1.length : Int) ≤ 200)))
theorem w_impl_isPlain (t_1 : Str) (r : Bool) (hf : impl_isPlain t_1 = some r) : CallOK Try.prog 168 .flat [(.str t_1)] (.bool r) := by
 refine CallOK.of_awp mixed Try.func168 fc168 nle ?_; rw [argT_eq]; unfold impl_isPlain at hf; unfold c168; refine (show awp Try.prog false 0 _ (ofL [(0, (.str t_1))]) [] _ from ?_); refine awp_seq <| w_reg <| s_mov (.bool false) rfl <| w_done <| k_seq <| awp_seq <| awp_seq <| w_reg <| s_mov (.str t_1) rfl <| s_dof (o_lenS rfl) fun hl2 => s_mov (.int .i64 0) rfl <| w_done <| k_seq <| ?_
 obtain ⟨p47, hb1, hf⟩ := ob hf
 refine awp_cutx (X := {q : Unit // p47 = .go q}) (fun q => ([(0, (.str t_1))], [])) ?_ ?_
 ·refine awp_loop (X := {q : Nat // impl_isPlain_L1 (t_1.drop q)  = some p47}) (fun q => ([(0, (.str t_1)), (5, (.int .i64 (t_1.length : Int))), (6, (.int .i64 (q.1 : Int)))], [])) (fun q => t_1.length - q.1) ⟨0, hb1⟩ ⟨[], [], _, _, rfl, rfl, ⟨.refl _, ⟨.refl _, ⟨.refl _, trivial⟩⟩⟩, (.refl _)⟩ ?_
  rintro ⟨s6_32, hc1⟩
  have hc1 : impl_isPlain_L1 (t_1.drop s6_32)  = some p47 := hc1
  refine (show awp Try.prog false 0 _ (ofL [(0, (.str t_1)), (5, (.int .i64 (t_1.length : Int))), (6, (.int .i64 (s6_32 : Int)))]) [] _ from ?_)
  rcases dropc t_1 s6_32 with ⟨hie50, hd53⟩ | ⟨hlt48, x_54, hx49, hd53⟩
  ·rw [hd53, impl_isPlain_L1.eq_1] at hc1
   have hq52 := dlf hie50
   refine awp_seq <| w_reg <| s_q (.bool (decide ((s6_32 : Int) < (t_1.length : Int)))) rfl rfl rfl <| w_done <| k_seq <| awp_seq <| w_condf rfl hq52 <| w_exit <| k_seqx <| k_loopx <| k_blkx <| ?_; obtain rfl := os hc1; exact k_cutn ⟨_, rfl⟩ ⟨[], [], _, _, rfl, rfl, ⟨.refl _, trivial⟩, (.refl _)⟩
  ·rw [hd53, impl_isPlain_L1.eq_2] at hc1
   have hq52 := dlt hlt48
   refine awp_seq <| w_reg <| s_q (.bool (decide ((s6_32 : Int) < (t_1.length : Int)))) rfl rfl rfl <| w_done <| k_seq <| awp_seq <| w_condt rfl hq52 <| w_skip <| k_seq <| awp_seq <| w_blk <| awp_seq <| w_reg <| s_mov (.int .i64 (s6_32 : Int)) rfl <| s_mov (.int .i64 (s6_32 : Int)) rfl <| w_done <| k_seq <| awp_seq <| ?_
   obtain ⟨s18_56, hb2, hc1⟩ := ob hc1
   refine awp_cut ([(0, (.str t_1)), (5, (.int .i64 (t_1.length : Int))), (6, (.int .i64 (s6_32 : Int))), (18, (.bool s18_56))], []) ?_ ?_
   ·refine w_reg ?_
    rcases oi hb2 with ⟨c58, hb2⟩ | ⟨c58, hb2⟩
    ·refine s_mov (.str t_1) rfl <| s_mov (.int .i64 (s6_32 : Int)) rfl <| s_do (o_idxsn rfl rfl hx49) <| s_q (.bool (decide ((x_54.toNat : Int) < 32))) rfl rfl rfl <| s_mov (.bool (decide ((x_54.toNat : Int) < 32))) rfl <| s_lit (s := 13) (b := true) rfl c58 <| s_off rfl rfl <| s_off rfl rfl <| s_off rfl rfl <| s_off rfl rfl <| s_q (.bool true) rfl trivial rfl <| w_done <| ?_; obtain rfl := os hb2; exact ⟨[], [], _, _, rfl, rfl, ⟨.refl _, ⟨.refl _, ⟨.refl _, ⟨.refl _, trivial⟩⟩⟩⟩, (.refl _)⟩
    ·refine s_mov (.str t_1) rfl <| s_mov (.int .i64 (s6_32 : Int)) rfl <| s_do (o_idxsn rfl rfl hx49) <| s_q (.bool (decide ((x_54.toNat : Int) < 32))) rfl rfl rfl <| s_mov (.bool (decide ((x_54.toNat : Int) < 32))) rfl <| s_lit (s := 13) (b := false) rfl (bf c58) <| s_on rfl <| s_mov (.str t_1) rfl <| s_on rfl <| s_mov (.int .i64 (s6_32 : Int)) rfl <| s_on rfl <| s_do (o_idxsn rfl rfl hx49) <| s_on rfl <| s_q (.bool (decide ((x_54.toNat : Int) > 126))) rfl rfl rfl <| s_q (.bool (decide ((x_54.toNat : Int) > 126))) rfl trivial rfl <| w_done <| ?_; obtain rfl := os hb2; exact ⟨[], [], _, _, rfl, rfl, ⟨.refl _, ⟨.refl _, ⟨.refl _, ⟨.refl _, trivial⟩⟩⟩⟩, (.refl _)⟩
   ·rcases oi hc1 with ⟨c59, hc1⟩ | ⟨c59, hc1⟩
    ·refine w_condt rfl c59 <| awp_seq <| w_reg <| s_mov (.bool false) rfl <| w_done <| k_seq <| w_ret <| ?_; obtain rfl := os hc1; obtain rfl := os hf; exact r_flat ⟨trivial, trivial⟩ rfl (.refl _)
    ·refine w_condf rfl (bf c59) <| w_skip <| k_blk <| k_seq <| w_reg <| s_q (.int .i64 (w64 ((s6_32 : Int) + 1))) rfl rfl rfl <| s_mov (.int .i64 (w64 ((s6_32 : Int) + 1))) rfl <| w_done <| ?_; exact k_loopn ⟨(s6_32 + 1), hc1⟩ (mul hlt48) ⟨[], [], _, _, rfl, rfl, ⟨.refl _, ⟨.refl _, ⟨.of_eq (congrArg (AV.int _) (w64_incr hlt48 hl2)), trivial⟩⟩⟩, (.refl _)⟩
 ·rintro ⟨_, rfl⟩
  refine awp_seq <| w_reg <| s_mov (.str t_1) rfl <| s_dof (o_lenS rfl) fun hl60 => s_q (.bool (decide ((t_1.length : Int) ≤ 200))) rfl rfl rfl <| s_mov (.bool (decide ((t_1.length : Int) ≤ 200))) rfl <| w_done <| k_seq <| w_ret <| ?_; obtain rfl := os hf; exact r_flat ⟨trivial, trivial⟩ rfl (.refl _)

/- impl.isId -/
def c97 : ACode :=
 (.seq (.reg (tm 2 (.c (.bool false)) .done))
 (.seq (.reg (tm 3 (.t 0) (tq 4 (.call 156 [(.t 3), (.c (.int .i64 1)), (.c (.int .i64 1000000))]) (tm 2 (.t 4) .done))))
 .ret))
theorem fc97 : fcomp Try.prog Try.f97 = some (c97.erase, [.mov (.t 2)], 5) := by kernel_rfl
def impl_isId (n_1 : Int) : Option Bool :=
    (impl_within n_1 1 1000000).bind fun r_2 =>
    some r_2
theorem w_impl_isId (n_1 : Int) (r : Bool) (hf : impl_isId n_1 = some r) : CallOK Try.prog 97 .flat [(.int .i64 n_1)] (.bool r) := by
  refine CallOK.of_awp mixed Try.func97 fc97 nle ?_
  rw [argT_eq]
  unfold impl_isId at hf
  unfold c97
  refine (show awp Try.prog false 0 _ (ofL [(0, (.int .i64 n_1))]) [] _ from ?_)
  refine awp_seq ?_
  refine w_reg ?_
  refine s_do (o_mov (.bool false) rfl) ?_
  refine w_done ?_
  refine k_seq ?_
  refine awp_seq ?_
  refine w_reg ?_
  obtain ⟨r_2, er3, hf⟩ := ob hf
  refine s_do (o_mov (.int .i64 n_1) rfl) ?_
  refine s_do (o_call (w_impl_within _ _ _ _ er3) rfl (.refl _) rfl) ?_
  refine s_do (o_mov (.bool r_2) rfl) ?_
  refine w_done ?_
  refine k_seq ?_
  refine w_ret ?_
  obtain rfl := os hf
  exact r_flat ⟨trivial, trivial⟩ rfl (.refl _)

/- impl.AtomOK -/
def c82 : ACode :=
 (.seq (.reg (tq 1 (.box 3 (.t 0)) (tm 2 (.c (.bool false)) .done)))
 (.seq (.seq (.reg (tq 3 (.faddr 0 (.t 1)) (tq 4 (.load 1 false (.t 3)) .done)))
 (.block 0 (.seq (.reg (tq 6 (.bin .eql (.t 4) (.c (.int .i64 1))) (tm 5 (.t 6) .done)))
 (.cond (.t 5) (.seq (.reg (tq 7 (.faddr 1 (.t 1)) (tq 8 (.load 1 false (.t 7)) (tq 9 (.call 167 [(.t 8)]) (tm 10 (.t 9) (tg 11 10 true (.faddr 2 (.t 1)) (tg 12 10 true (.load 1 false (.t 11)) (tg 13 10 true (.bin .eql (.t 12) (.c (.str []))) (tq 14 (.pick (.t 10) (.t 13) (.c (.bool false))) (tm 2 (.t 14) .done))))))))))
 .ret)
 (.seq (.reg (tq 16 (.bin .eql (.t 4) (.c (.int .i64 2))) (tm 15 (.t 16) .done)))
 (.cond (.t 15) (.seq (.reg (tq 17 (.faddr 1 (.t 1)) (tq 18 (.load 1 false (.t 17)) (tq 19 (.bin .eql (.t 18) (.c (.int .i64 0))) (tm 20 (.t 19) (tg 21 20 true (.faddr 2 (.t 1)) (tg 22 20 true (.load 1 false (.t 21)) (tg 23 20 true (.call 168 [(.t 22)]) (tq 24 (.pick (.t 20) (.t 23) (.c (.bool false))) (tm 2 (.t 24) .done))))))))))
 .ret)
 (.seq (.reg (tq 26 (.bin .eql (.t 4) (.c (.int .i64 3))) (tm 25 (.t 26) .done)))
 (.cond (.t 25) (.seq (.reg (tq 27 (.faddr 1 (.t 1)) (tq 28 (.load 1 false (.t 27)) (tq 29 (.call 156 [(.t 28), (.c (.int .i64 0)), (.c (.int .i64 1))]) (tm 30 (.t 29) (tg 31 30 true (.faddr 2 (.t 1)) (tg 32 30 true (.load 1 false (.t 31)) (tg 33 30 true (.bin .eql (.t 32) (.c (.str []))) (tq 34 (.pick (.t 30) (.t 33) (.c (.bool false))) (tm 2 (.t 34) .done))))))))))
 .ret)
 (.seq (.reg (tq 36 (.bin .eql (.t 4) (.c (.int .i64 4))) (tm 35 (.t 36) .done)))
 (.cond (.t 35) (.seq (.reg (tq 37 (.faddr 1 (.t 1)) (tq 38 (.load 1 false (.t 37)) (tq 39 (.call 97 [(.t 38)]) (tm 40 (.t 39) (tg 41 40 true (.faddr 2 (.t 1)) (tg 42 40 true (.load 1 false (.t 41)) (tg 43 40 true (.bin .eql (.t 42) (.c (.str []))) (tq 44 (.pick (.t 40) (.t 43) (.c (.bool false))) (tm 2 (.t 44) .done))))))))))
 .ret)
 .skip))))))))))
 (.seq (.reg (tm 2 (.c (.bool false)) .done))
 .ret)))
theorem fc82 : fcomp Try.prog Try.f82 = some (c82.erase, [.mov (.t 2)], 45) := by kernel_rfl
def impl_AtomOK (a_1 : GAtom) : Option Bool :=
    if (a_1.Kind == 1) then
    (impl_isNumber a_1.N).bind fun r_3 =>
    if r_3 then
    some (a_1.T == [])
    else
    some false
    else
    if (a_1.Kind == 2) then
    if (a_1.N == 0) then
    (impl_isPlain a_1.T).bind fun r_8 =>
    some r_8
    else
    some false
    else
    if (a_1.Kind == 3) then
    (impl_within a_1.N 0 1).bind fun r_11 =>
    if r_11 then
    some (a_1.T == [])
    else
    some false
    else
    if (a_1.Kind == 4) then
    (impl_isId a_1.N).bind fun r_15 =>
    if r_15 then
    some (a_1.T == [])
    else
    some false
    else
    some false
theorem w_impl_AtomOK (a_1 : GAtom) (r : Bool) (hf : impl_AtomOK a_1 = some r) : CallOK Try.prog 82 .flat [(encGAtom a_1)] (.bool r) := by
 refine CallOK.of_awp mixed Try.func82 fc82 nle ?_; rw [argT_eq]; unfold impl_AtomOK at hf; unfold c82; refine (show awp Try.prog false 0 _ (ofL [(0, (encGAtom a_1))]) [] _ from ?_); refine awp_seq <| w_reg <| s_do (o_box (j := 0) (c := (.agg [(.int .i64 a_1.Kind), (.int .i64 a_1.N), (.str a_1.T)])) rfl trivial rfl rfl) <| s_mov (.bool false) rfl <| w_done <| k_seq <| awp_seq <| awp_seq <| w_reg <| s_q (.ptr 0 0 0) rfl trivial rfl <| s_q (.int .i64 a_1.Kind) rfl nle rfl <| w_done <| k_seq <| w_blk <| awp_seq <| w_reg <| s_q (.bool (a_1.Kind == 1)) rfl rfl rfl <| s_mov (.bool (a_1.Kind == 1)) rfl <| w_done <| k_seq <| ?_
 rcases oi hf with ⟨c2, hf⟩ | ⟨c2, hf⟩
 ·refine w_condt rfl c2 <| awp_seq <| w_reg <| ?_
  obtain ⟨r_3, er4, hf⟩ := ob hf
  rcases oi hf with ⟨c5, hf⟩ | ⟨c5, hf⟩
  ·refine s_q (.ptr 0 0 1) rfl trivial rfl <| s_q (.int .i64 a_1.N) rfl nle rfl <| s_do (o_call (w_impl_isNumber _ _ er4) rfl (.refl _) rfl) <| s_mov (.bool r_3) rfl <| s_lit (s := 10) (b := true) rfl c5 <| s_on rfl <| s_q (.ptr 0 0 2) rfl trivial rfl <| s_on rfl <| s_q (.str a_1.T) rfl nle rfl <| s_on rfl <| s_q (.bool (a_1.T == [])) rfl trivial rfl <| s_q (.bool (a_1.T == [])) rfl trivial rfl <| s_mov (.bool (a_1.T == [])) rfl <| w_done <| k_seq <| w_ret <| ?_; obtain rfl := os hf; exact r_flat ⟨trivial, trivial⟩ rfl (.refl _)
  ·refine s_q (.ptr 0 0 1) rfl trivial rfl <| s_q (.int .i64 a_1.N) rfl nle rfl <| s_do (o_call (w_impl_isNumber _ _ er4) rfl (.refl _) rfl) <| s_mov (.bool r_3) rfl <| s_lit (s := 10) (b := false) rfl (bf c5) <| s_off rfl rfl <| s_off rfl rfl <| s_off rfl rfl <| s_q (.bool false) rfl trivial rfl <| s_mov (.bool false) rfl <| w_done <| k_seq <| w_ret <| ?_; obtain rfl := os hf; exact r_flat ⟨trivial, trivial⟩ rfl (.refl _)
 ·refine w_condf rfl (bf c2) <| awp_seq <| w_reg <| s_q (.bool (a_1.Kind == 2)) rfl rfl rfl <| s_mov (.bool (a_1.Kind == 2)) rfl <| w_done <| k_seq <| ?_
  rcases oi hf with ⟨c6, hf⟩ | ⟨c6, hf⟩
  ·refine w_condt rfl c6 <| awp_seq <| w_reg <| ?_
   rcases oi hf with ⟨c7, hf⟩ | ⟨c7, hf⟩
   ·obtain ⟨r_8, er9, hf⟩ := ob hf
    refine s_q (.ptr 0 0 1) rfl trivial rfl <| s_q (.int .i64 a_1.N) rfl nle rfl <| s_q (.bool (a_1.N == 0)) rfl rfl rfl <| s_mov (.bool (a_1.N == 0)) rfl <| s_lit (s := 20) (b := true) rfl c7 <| s_on rfl <| s_q (.ptr 0 0 2) rfl trivial rfl <| s_on rfl <| s_q (.str a_1.T) rfl nle rfl <| s_on rfl <| s_do (o_call (w_impl_isPlain _ _ er9) rfl (.refl _) rfl) <| s_q (.bool r_8) rfl trivial rfl <| s_mov (.bool r_8) rfl <| w_done <| k_seq <| w_ret <| ?_; obtain rfl := os hf; exact r_flat ⟨trivial, trivial⟩ rfl (.refl _)
   ·refine s_q (.ptr 0 0 1) rfl trivial rfl <| s_q (.int .i64 a_1.N) rfl nle rfl <| s_q (.bool (a_1.N == 0)) rfl rfl rfl <| s_mov (.bool (a_1.N == 0)) rfl <| s_lit (s := 20) (b := false) rfl (bf c7) <| s_off rfl rfl <| s_off rfl rfl <| s_off rfl rfl <| s_q (.bool false) rfl trivial rfl <| s_mov (.bool false) rfl <| w_done <| k_seq <| w_ret <| ?_; obtain rfl := os hf; exact r_flat ⟨trivial, trivial⟩ rfl (.refl _)
  ·refine w_condf rfl (bf c6) <| awp_seq <| w_reg <| s_q (.bool (a_1.Kind == 3)) rfl rfl rfl <| s_mov (.bool (a_1.Kind == 3)) rfl <| w_done <| k_seq <| ?_
   rcases oi hf with ⟨c10, hf⟩ | ⟨c10, hf⟩
   ·refine w_condt rfl c10 <| awp_seq <| w_reg <| ?_
    obtain ⟨r_11, er12, hf⟩ := ob hf
    rcases oi hf with ⟨c13, hf⟩ | ⟨c13, hf⟩
    ·refine s_q (.ptr 0 0 1) rfl trivial rfl <| s_q (.int .i64 a_1.N) rfl nle rfl <| s_do (o_call (w_impl_within _ _ _ _ er12) rfl (.refl _) rfl) <| s_mov (.bool r_11) rfl <| s_lit (s := 30) (b := true) rfl c13 <| s_on rfl <| s_q (.ptr 0 0 2) rfl trivial rfl <| s_on rfl <| s_q (.str a_1.T) rfl nle rfl <| s_on rfl <| s_q (.bool (a_1.T == [])) rfl trivial rfl <| s_q (.bool (a_1.T == [])) rfl trivial rfl <| s_mov (.bool (a_1.T == [])) rfl <| w_done <| k_seq <| w_ret <| ?_; obtain rfl := os hf; exact r_flat ⟨trivial, trivial⟩ rfl (.refl _)
    ·refine s_q (.ptr 0 0 1) rfl trivial rfl <| s_q (.int .i64 a_1.N) rfl nle rfl <| s_do (o_call (w_impl_within _ _ _ _ er12) rfl (.refl _) rfl) <| s_mov (.bool r_11) rfl <| s_lit (s := 30) (b := false) rfl (bf c13) <| s_off rfl rfl <| s_off rfl rfl <| s_off rfl rfl <| s_q (.bool false) rfl trivial rfl <| s_mov (.bool false) rfl <| w_done <| k_seq <| w_ret <| ?_; obtain rfl := os hf; exact r_flat ⟨trivial, trivial⟩ rfl (.refl _)
   ·refine w_condf rfl (bf c10) <| awp_seq <| w_reg <| s_q (.bool (a_1.Kind == 4)) rfl rfl rfl <| s_mov (.bool (a_1.Kind == 4)) rfl <| w_done <| k_seq <| ?_
    rcases oi hf with ⟨c14, hf⟩ | ⟨c14, hf⟩
    ·refine w_condt rfl c14 <| awp_seq <| w_reg <| ?_
     obtain ⟨r_15, er16, hf⟩ := ob hf
     rcases oi hf with ⟨c17, hf⟩ | ⟨c17, hf⟩
     ·refine s_q (.ptr 0 0 1) rfl trivial rfl <| s_q (.int .i64 a_1.N) rfl nle rfl <| s_do (o_call (w_impl_isId _ _ er16) rfl (.refl _) rfl) <| s_mov (.bool r_15) rfl <| s_lit (s := 40) (b := true) rfl c17 <| s_on rfl <| s_q (.ptr 0 0 2) rfl trivial rfl <| s_on rfl <| s_q (.str a_1.T) rfl nle rfl <| s_on rfl <| s_q (.bool (a_1.T == [])) rfl trivial rfl <| s_q (.bool (a_1.T == [])) rfl trivial rfl <| s_mov (.bool (a_1.T == [])) rfl <| w_done <| k_seq <| w_ret <| ?_; obtain rfl := os hf; exact r_flat ⟨trivial, trivial⟩ rfl (.refl _)
     ·refine s_q (.ptr 0 0 1) rfl trivial rfl <| s_q (.int .i64 a_1.N) rfl nle rfl <| s_do (o_call (w_impl_isId _ _ er16) rfl (.refl _) rfl) <| s_mov (.bool r_15) rfl <| s_lit (s := 40) (b := false) rfl (bf c17) <| s_off rfl rfl <| s_off rfl rfl <| s_off rfl rfl <| s_q (.bool false) rfl trivial rfl <| s_mov (.bool false) rfl <| w_done <| k_seq <| w_ret <| ?_; obtain rfl := os hf; exact r_flat ⟨trivial, trivial⟩ rfl (.refl _)
    ·refine w_condf rfl (bf c14) <| w_skip <| k_blk <| k_seq <| awp_seq <| w_reg <| s_mov (.bool false) rfl <| w_done <| k_seq <| w_ret <| ?_; obtain rfl := os hf; exact r_flat ⟨trivial, trivial⟩ rfl (.refl _)

/- cmp.isNaN[int] -/
def c231 : ACode :=
 (.seq (.reg (tm 2 (.c (.bool false)) .done))
 (.seq (.reg (tm 3 (.t 0) (tm 4 (.t 0) (tq 5 (.bin .neq (.t 3) (.t 4)) (tm 2 (.t 5) .done)))))
 .ret))
theorem fc231 : fcomp Try.prog Try.f231 = some (c231.erase, [.mov (.t 2)], 6) := by kernel_rfl
def cmp_isNaN_int (x_1 : Int) : Option Bool :=
    some (x_1 != x_1)
theorem w_cmp_isNaN_int (x_1 : Int) (r : Bool) (hf : cmp_isNaN_int x_1 = some r) : CallOK Try.prog 231 .flat [(.int .i64 x_1)] (.bool r) := by
  refine CallOK.of_awp mixed Try.func231 fc231 nle ?_
  rw [argT_eq]
  unfold cmp_isNaN_int at hf
  unfold c231
  refine (show awp Try.prog false 0 _ (ofL [(0, (.int .i64 x_1))]) [] _ from ?_)
  refine awp_seq ?_
  refine w_reg ?_
  refine s_do (o_mov (.bool false) rfl) ?_
  refine w_done ?_
  refine k_seq ?_
  refine awp_seq ?_
  refine w_reg ?_
  refine s_do (o_mov (.int .i64 x_1) rfl) ?_
  refine s_do (o_mov (.int .i64 x_1) rfl) ?_
  refine s_do (o_q (.bool (x_1 != x_1)) rfl rfl rfl) ?_
  refine s_do (o_mov (.bool (x_1 != x_1)) rfl) ?_
  refine w_done ?_
  refine k_seq ?_
  refine w_ret ?_
  obtain rfl := os hf
  exact r_flat ⟨trivial, trivial⟩ rfl (.refl _)

/- cmp.Compare[int] -/
def c170 : ACode :=
 (.seq (.reg (tm 4 (.c (.int .i64 0)) .done))
 (.seq (.reg (tm 7 (.t 0) (tq 8 (.call 231 [(.t 7)]) (tm 5 (.t 8) .done))))
 (.seq (.reg (tm 9 (.t 1) (tq 10 (.call 231 [(.t 9)]) (tm 6 (.t 10) .done))))
 (.seq (.seq (.reg (tm 11 (.t 5) .done))
 (.cond (.t 11) (.seq (.seq (.reg (tm 12 (.t 6) .done))
 (.cond (.t 12) (.seq (.reg (tm 4 (.c (.int .i64 0)) .done))
 .ret)
 .skip))
 (.seq (.reg (tq 4 (.mov (.c (.int .i64 (-1)))) .done))
 .ret))
 .skip))
 (.seq (.seq (.reg (tm 13 (.t 6) .done))
 (.cond (.t 13) (.seq (.reg (tm 4 (.c (.int .i64 1)) .done))
 .ret)
 .skip))
 (.seq (.seq (.reg (tm 14 (.t 0) (tm 15 (.t 1) (tq 16 (.bin .lss (.t 14) (.t 15)) .done))))
 (.cond (.t 16) (.seq (.reg (tq 4 (.mov (.c (.int .i64 (-1)))) .done))
 .ret)
 .skip))
 (.seq (.seq (.reg (tm 17 (.t 0) (tm 18 (.t 1) (tq 19 (.bin .gtr (.t 17) (.t 18)) .done))))
 (.cond (.t 19) (.seq (.reg (tm 4 (.c (.int .i64 1)) .done))
 .ret)
 .skip))
 (.seq (.reg (tm 4 (.c (.int .i64 0)) .done))
 .ret))))))))
theorem fc170 : fcomp Try.prog Try.f170 = some (c170.erase, [.mov (.t 4)], 20) := by kernel_rfl
def cmp_Compare_int (x_1 : Int) (y_2 : Int) : Option Int :=
    (cmp_isNaN_int x_1).bind fun r_3 =>
    (cmp_isNaN_int y_2).bind fun r_5 =>
    if r_3 then
    if r_5 then
    some 0
    else
    some (-1)
    else
    if r_5 then
    some 1
    else
    if (decide (x_1 < y_2)) then
    some (-1)
    else
    if (decide (x_1 > y_2)) then
    some 1
    else
    some 0
theorem w_cmp_Compare_int (x_1 : Int) (y_2 : Int) (r : Int) (hf : cmp_Compare_int x_1 y_2 = some r) : CallOK Try.prog 170 .flat [(.int .i64 x_1), (.int .i64 y_2)] (.int .i64 r) := by
 refine CallOK.of_awp mixed Try.func170 fc170 nle ?_; rw [argT_eq]; unfold cmp_Compare_int at hf; unfold c170; refine (show awp Try.prog false 0 _ (ofL [(0, (.int .i64 x_1)), (1, (.int .i64 y_2))]) [] _ from ?_); refine awp_seq <| w_reg <| s_mov (.int .i64 0) rfl <| w_done <| k_seq <| awp_seq <| w_reg <| ?_
 obtain ⟨r_3, er4, hf⟩ := ob hf
 refine s_mov (.int .i64 x_1) rfl <| s_do (o_call (w_cmp_isNaN_int _ _ er4) rfl (.refl _) rfl) <| s_mov (.bool r_3) rfl <| w_done <| k_seq <| awp_seq <| w_reg <| ?_
 obtain ⟨r_5, er6, hf⟩ := ob hf
 refine s_mov (.int .i64 y_2) rfl <| s_do (o_call (w_cmp_isNaN_int _ _ er6) rfl (.refl _) rfl) <| s_mov (.bool r_5) rfl <| w_done <| k_seq <| awp_seq <| awp_seq <| w_reg <| s_mov (.bool r_3) rfl <| w_done <| k_seq <| ?_
 rcases oi hf with ⟨c7, hf⟩ | ⟨c7, hf⟩
 ·refine w_condt rfl c7 <| awp_seq <| awp_seq <| w_reg <| s_mov (.bool r_5) rfl <| w_done <| k_seq <| ?_
  rcases oi hf with ⟨c8, hf⟩ | ⟨c8, hf⟩
  ·refine w_condt rfl c8 <| awp_seq <| w_reg <| s_mov (.int .i64 0) rfl <| w_done <| k_seq <| w_ret <| ?_; obtain rfl := os hf; exact r_flat ⟨trivial, trivial⟩ rfl (.refl _)
  ·refine w_condf rfl (bf c8) <| w_skip <| k_seq <| awp_seq <| w_reg <| s_mov (.int .i64 (-1)) rfl <| w_done <| k_seq <| w_ret <| ?_; obtain rfl := os hf; exact r_flat ⟨trivial, trivial⟩ rfl (.refl _)
 ·refine w_condf rfl (bf c7) <| w_skip <| k_seq <| awp_seq <| awp_seq <| w_reg <| s_mov (.bool r_5) rfl <| w_done <| k_seq <| ?_
  rcases oi hf with ⟨c9, hf⟩ | ⟨c9, hf⟩
  ·refine w_condt rfl c9 <| awp_seq <| w_reg <| s_mov (.int .i64 1) rfl <| w_done <| k_seq <| w_ret <| ?_; obtain rfl := os hf; exact r_flat ⟨trivial, trivial⟩ rfl (.refl _)
  ·refine w_condf rfl (bf c9) <| w_skip <| k_seq <| awp_seq <| awp_seq <| w_reg <| s_mov (.int .i64 x_1) rfl <| s_mov (.int .i64 y_2) rfl <| s_q (.bool (decide (x_1 < y_2))) rfl rfl rfl <| w_done <| k_seq <| ?_
   rcases oi hf with ⟨c10, hf⟩ | ⟨c10, hf⟩
   ·refine w_condt rfl c10 <| awp_seq <| w_reg <| s_mov (.int .i64 (-1)) rfl <| w_done <| k_seq <| w_ret <| ?_; obtain rfl := os hf; exact r_flat ⟨trivial, trivial⟩ rfl (.refl _)
   ·refine w_condf rfl (bf c10) <| w_skip <| k_seq <| awp_seq <| awp_seq <| w_reg <| s_mov (.int .i64 x_1) rfl <| s_mov (.int .i64 y_2) rfl <| s_q (.bool (decide (x_1 > y_2))) rfl rfl rfl <| w_done <| k_seq <| ?_
    rcases oi hf with ⟨c11, hf⟩ | ⟨c11, hf⟩
    ·refine w_condt rfl c11 <| awp_seq <| w_reg <| s_mov (.int .i64 1) rfl <| w_done <| k_seq <| w_ret <| ?_; obtain rfl := os hf; exact r_flat ⟨trivial, trivial⟩ rfl (.refl _)
    ·refine w_condf rfl (bf c11) <| w_skip <| k_seq <| awp_seq <| w_reg <| s_mov (.int .i64 0) rfl <| w_done <| k_seq <| w_ret <| ?_; obtain rfl := os hf; exact r_flat ⟨trivial, trivial⟩ rfl (.refl _)

/- internal/bytealg.CompareString -/
def internal_bytealg_CompareString (a b : Str) : Option Int := some (Lib.compareBytes a b)
set_option maxRecDepth 100000 in
open Go.RowKit in
theorem cmps_run (a b : ByteArray) (w : World) : Calls Try.prog 232 #[.string a, .string b] w fun e w' => e = .returned (.int .i64 (Lib.compareBytes a.data.toList b.data.toList)) ∧ w' = w := by
  go_enter Try.func232, (show Try.f232.ntmps = _ from rfl)
  go_wp2
  rw [run_callFunc_extern Try.func260 (by kernel_rfl) (by kernel_rfl) (by kernel_rfl) (e := Extern.BytealgCompare.compare) (by kernel_rfl), Lib.run_compareString]
  simp only [Result.andThen]
  rw [Oper.upon_value]
  go_wp2
  go_ret
  exact ⟨rfl, rfl⟩
open Go.RowKit in
theorem w_internal_bytealg_CompareString (a b : Str) (r : Int) (hf : internal_bytealg_CompareString a b = some r) : CallOK Try.prog 232 .flat [(.str a), (.str b)] (.int .i64 r) := by
  intro w vals fps hr
  simp only [RepVs, Rep] at hr
  obtain ⟨v1, vs1, f1, f2, rfl, ⟨rfl, h1, rfl⟩, ⟨v2, vs2, f3, f4, rfl, ⟨rfl, h2, rfl⟩, ⟨rfl, rfl⟩, rfl⟩, rfl⟩ := hr
  unfold internal_bytealg_CompareString at hf
  obtain rfl := os hf
  refine (cmps_run ⟨a.toArray⟩ ⟨b.toArray⟩ w).mono ?_
  rintro e w' ⟨rfl, rfl⟩
  refine ⟨Below.refl _ _, ?_⟩
  exact ⟨[.int .i64 (Lib.compareBytes a b)], rfl, by simp [Rep]⟩

/- strings.Compare -/
def c171 : ACode :=
 (.seq (.reg (tm 4 (.c (.int .i64 0)) .done))
 (.seq (.reg (tm 5 (.t 0) (tm 6 (.t 1) (tq 7 (.call 232 [(.t 5), (.t 6)]) (tm 4 (.t 7) .done)))))
 .ret))
theorem fc171 : fcomp Try.prog Try.f171 = some (c171.erase, [.mov (.t 4)], 8) := by kernel_rfl
def strings_Compare (a_1 : Str) (b_2 : Str) : Option Int :=
    (internal_bytealg_CompareString a_1 b_2).bind fun r_3 =>
    some r_3
theorem w_strings_Compare (a_1 : Str) (b_2 : Str) (r : Int) (hf : strings_Compare a_1 b_2 = some r) : CallOK Try.prog 171 .flat [(.str a_1), (.str b_2)] (.int .i64 r) := by
  refine CallOK.of_awp mixed Try.func171 fc171 nle ?_
  rw [argT_eq]
  unfold strings_Compare at hf
  unfold c171
  refine (show awp Try.prog false 0 _ (ofL [(0, (.str a_1)), (1, (.str b_2))]) [] _ from ?_)
  refine awp_seq ?_
  refine w_reg ?_
  refine s_do (o_mov (.int .i64 0) rfl) ?_
  refine w_done ?_
  refine k_seq ?_
  refine awp_seq ?_
  refine w_reg ?_
  obtain ⟨r_3, er4, hf⟩ := ob hf
  refine s_do (o_mov (.str a_1) rfl) ?_
  refine s_do (o_mov (.str b_2) rfl) ?_
  refine s_do (o_call (w_internal_bytealg_CompareString _ _ _ er4) rfl (.refl _) rfl) ?_
  refine s_do (o_mov (.int .i64 r_3) rfl) ?_
  refine w_done ?_
  refine k_seq ?_
  refine w_ret ?_
  obtain rfl := os hf
  exact r_flat ⟨trivial, trivial⟩ rfl (.refl _)

/- cmp.Or[int] -/
def c169 : ACode :=
 (.seq (.reg (tm 2 (.c (.int .i64 0)) .done))
 (.seq (.reg (tm 3 (.c (.int .i64 0)) .done))
 (.seq (.seq (.reg (tm 6 (.t 0) (tq 7 (.len (.t 6)) (tm 8 (.c (.int .i64 0)) .done))))
 (.block 0 (.loop (.seq (.reg (tq 9 (.bin .lss (.t 8) (.t 7)) .done))
 (.seq (.cond (.t 9) .skip
 (.exit 0))
 (.seq (.block 1 (.seq (.reg (tq 10 (.iaddr 1 (.t 6) (.t 8)) (tq 11 (.load 1 false (.t 10)) (tm 5 (.t 11) .done))))
 (.seq (.reg (tm 12 (.t 5) (tm 13 (.t 3) (tq 14 (.bin .neq (.t 12) (.t 13)) .done))))
 (.cond (.t 14) (.seq (.reg (tm 15 (.t 5) (tm 2 (.t 15) .done)))
 .ret)
 .skip))))
 (.reg (tq 16 (.bin .add (.t 8) (.c (.int .i64 1))) (tm 8 (.t 16) .done)))))))))
 (.cut (.seq (.reg (tm 17 (.t 3) (tm 2 (.t 17) .done)))
 .ret)))))
theorem fc169 : fcomp Try.prog Try.f169 = some (c169.erase, [.mov (.t 2)], 18) := by kernel_rfl
def cmp_Or_int_L1  : List Int → Option (Fl Int Unit)
  | [] =>
    some (.go ())
  | x_24 :: xs =>
    if (x_24 != 0) then
    some (.ret x_24)
    else
    cmp_Or_int_L1 xs 

def cmp_Or_int (vals_1 : (List Int)) : Option Int :=
    (cmp_Or_int_L1 vals_1 ).bind fun q => (match q with
    | .ret r => some r
    | .go _ =>
    some 0)
theorem w_cmp_Or_int (vals_1 : (List Int)) (r : Int) (hf : cmp_Or_int vals_1 = some r) : CallOK Try.prog 169 .flat [(.lst 1 (vals_1.map encI))] (.int .i64 r) := by
 refine CallOK.of_awp mixed Try.func169 fc169 nle ?_; rw [argT_eq]; unfold cmp_Or_int at hf; unfold c169; refine (show awp Try.prog false 0 _ (ofL [(0, (.lst 1 (vals_1.map encI)))]) [] _ from ?_); refine awp_seq <| w_reg <| s_mov (.int .i64 0) rfl <| w_done <| k_seq <| awp_seq <| w_reg <| s_mov (.int .i64 0) rfl <| w_done <| k_seq <| awp_seq <| awp_seq <| w_reg <| s_mov (.lst 1 (vals_1.map encI)) rfl <| s_dof (o_len (enc := encI) rfl) fun hl2 => s_mov (.int .i64 0) rfl <| w_done <| k_seq <| ?_
 obtain ⟨p17, hb1, hf⟩ := ob hf
 refine awp_cutx (X := {q : Unit // p17 = .go q}) (fun q => ([(3, (.int .i64 0))], [])) ?_ ?_
 ·refine awp_loop (X := {q : Nat // cmp_Or_int_L1 (vals_1.drop q)  = some p17}) (fun q => ([(3, (.int .i64 0)), (6, (.lst 1 (vals_1.map encI))), (7, (.int .i64 (vals_1.length : Int))), (8, (.int .i64 (q.1 : Int)))], [])) (fun q => vals_1.length - q.1) ⟨0, hb1⟩ ⟨[], [], _, _, rfl, rfl, ⟨.refl _, ⟨.refl _, ⟨.refl _, ⟨.refl _, trivial⟩⟩⟩⟩, (.refl _)⟩ ?_
  rintro ⟨s8_12, hc1⟩
  have hc1 : cmp_Or_int_L1 (vals_1.drop s8_12)  = some p17 := hc1
  refine (show awp Try.prog false 0 _ (ofL [(3, (.int .i64 0)), (6, (.lst 1 (vals_1.map encI))), (7, (.int .i64 (vals_1.length : Int))), (8, (.int .i64 (s8_12 : Int)))]) [] _ from ?_)
  rcases dropc vals_1 s8_12 with ⟨hie20, hd23⟩ | ⟨hlt18, x_24, hx19, hd23⟩
  ·rw [hd23, cmp_Or_int_L1.eq_1] at hc1
   have hq22 := dlf hie20
   refine awp_seq <| w_reg <| s_q (.bool (decide ((s8_12 : Int) < (vals_1.length : Int)))) rfl rfl rfl <| w_done <| k_seq <| awp_seq <| w_condf rfl hq22 <| w_exit <| k_seqx <| k_loopx <| k_blkx <| ?_; obtain rfl := os hc1; exact k_cutn ⟨_, rfl⟩ ⟨[], [], _, _, rfl, rfl, ⟨.refl _, trivial⟩, (.refl _)⟩
  ·rw [hd23, cmp_Or_int_L1.eq_2] at hc1
   have hq22 := dlt hlt18
   refine awp_seq <| w_reg <| s_q (.bool (decide ((s8_12 : Int) < (vals_1.length : Int)))) rfl rfl rfl <| w_done <| k_seq <| awp_seq <| w_condt rfl hq22 <| w_skip <| k_seq <| awp_seq <| w_blk <| awp_seq <| w_reg <| s_do (o_iaddrn (enc := encI) rfl rfl hx19) <| s_q (.int .i64 x_24) rfl ⟨rfl, rfl⟩ rfl <| s_mov (.int .i64 x_24) rfl <| w_done <| k_seq <| awp_seq <| w_reg <| s_mov (.int .i64 x_24) rfl <| s_mov (.int .i64 0) rfl <| s_q (.bool (x_24 != 0)) rfl rfl rfl <| w_done <| k_seq <| ?_
   rcases oi hc1 with ⟨c25, hc1⟩ | ⟨c25, hc1⟩
   ·refine w_condt rfl c25 <| awp_seq <| w_reg <| s_mov (.int .i64 x_24) rfl <| s_mov (.int .i64 x_24) rfl <| w_done <| k_seq <| w_ret <| ?_; obtain rfl := os hc1; obtain rfl := os hf; exact r_flat ⟨trivial, trivial⟩ rfl (.refl _)
   ·refine w_condf rfl (bf c25) <| w_skip <| k_blk <| k_seq <| w_reg <| s_q (.int .i64 (w64 ((s8_12 : Int) + 1))) rfl rfl rfl <| s_mov (.int .i64 (w64 ((s8_12 : Int) + 1))) rfl <| w_done <| ?_; exact k_loopn ⟨(s8_12 + 1), hc1⟩ (mul hlt18) ⟨[], [], _, _, rfl, rfl, ⟨.refl _, ⟨.refl _, ⟨.refl _, ⟨.of_eq (congrArg (AV.int _) (w64_incr hlt18 hl2)), trivial⟩⟩⟩⟩, (.refl _)⟩
 ·rintro ⟨_, rfl⟩
  refine awp_seq <| w_reg <| s_mov (.int .i64 0) rfl <| s_mov (.int .i64 0) rfl <| w_done <| k_seq <| w_ret <| ?_; obtain rfl := os hf; exact r_flat ⟨trivial, trivial⟩ rfl (.refl _)

/- impl.compareAtoms -/
def c83 : ACode :=
 (.seq (.reg (tq 2 (.box 3 (.t 0)) (tq 3 (.box 3 (.t 1)) (tm 4 (.c (.int .i64 0)) .done))))
 (.seq (.reg (tq 5 (.faddr 0 (.t 2)) (tq 6 (.load 1 false (.t 5)) (tq 7 (.faddr 0 (.t 3)) (tq 8 (.load 1 false (.t 7)) (tq 10 (.faddr 1 (.t 2)) (tq 11 (.load 1 false (.t 10)) (tq 12 (.faddr 1 (.t 3)) (tq 13 (.load 1 false (.t 12)) (tq 15 (.faddr 2 (.t 2)) (tq 16 (.load 1 false (.t 15)) (tq 17 (.faddr 2 (.t 3)) (tq 18 (.load 1 false (.t 17)) (.l ⟨(some 9), none, .call 170 [(.t 6), (.t 8)]⟩ [⟨(some 18), none, .load 1 false (.t 17)⟩, ⟨(some 17), none, .faddr 2 (.t 3)⟩, ⟨(some 16), none, .load 1 false (.t 15)⟩, ⟨(some 15), none, .faddr 2 (.t 2)⟩, ⟨(some 13), none, .load 1 false (.t 12)⟩, ⟨(some 12), none, .faddr 1 (.t 3)⟩, ⟨(some 11), none, .load 1 false (.t 10)⟩, ⟨(some 10), none, .faddr 1 (.t 2)⟩]
 (.l ⟨(some 14), none, .call 170 [(.t 11), (.t 13)]⟩ [⟨(some 18), none, .load 1 false (.t 17)⟩, ⟨(some 17), none, .faddr 2 (.t 3)⟩, ⟨(some 16), none, .load 1 false (.t 15)⟩, ⟨(some 15), none, .faddr 2 (.t 2)⟩]
 (.l ⟨(some 19), none, .call 171 [(.t 16), (.t 18)]⟩ []
 (.l ⟨(some 20), none, .bslice 1 [(.t 9), (.t 14), (.t 19)]⟩ []
 (.l ⟨(some 21), none, .call 169 [(.t 20)]⟩ []
 (tm 4 (.t 21) .done) .non) .non) .non) .non) .non))))))))))))))
 .ret))
theorem fc83 : fcomp Try.prog Try.f83 = some (c83.erase, [.mov (.t 4)], 22) := by kernel_rfl
def impl_compareAtoms (a_1 : GAtom) (b_2 : GAtom) : Option Int :=
    (cmp_Compare_int a_1.Kind b_2.Kind).bind fun r_3 =>
    (cmp_Compare_int a_1.N b_2.N).bind fun r_5 =>
    (strings_Compare a_1.T b_2.T).bind fun r_7 =>
    (cmp_Or_int [r_3, r_5, r_7]).bind fun r_9 =>
    some r_9
theorem w_impl_compareAtoms (a_1 : GAtom) (b_2 : GAtom) (r : Int) (hf : impl_compareAtoms a_1 b_2 = some r) : CallOK Try.prog 83 .flat [(encGAtom a_1), (encGAtom b_2)] (.int .i64 r) := by
 refine CallOK.of_awp mixed Try.func83 fc83 nle ?_; rw [argT_eq]; unfold impl_compareAtoms at hf; unfold c83; refine (show awp Try.prog false 0 _ (ofL [(0, (encGAtom a_1)), (1, (encGAtom b_2))]) [] _ from ?_); refine awp_seq <| w_reg <| s_do (o_box (j := 0) (c := (.agg [(.int .i64 a_1.Kind), (.int .i64 a_1.N), (.str a_1.T)])) rfl trivial rfl rfl) <| s_do (o_box (j := 1) (c := (.agg [(.int .i64 b_2.Kind), (.int .i64 b_2.N), (.str b_2.T)])) rfl trivial rfl rfl) <| s_mov (.int .i64 0) rfl <| w_done <| k_seq <| awp_seq <| w_reg <| s_q (.ptr 0 0 0) rfl trivial rfl <| s_q (.int .i64 a_1.Kind) rfl nle rfl <| s_q (.ptr 1 0 0) rfl trivial rfl <| s_q (.int .i64 b_2.Kind) rfl nle rfl <| s_q (.ptr 0 0 1) rfl trivial rfl <| s_q (.int .i64 a_1.N) rfl nle rfl <| ?_
 refine s_q (.ptr 1 0 1) rfl trivial rfl <| s_q (.int .i64 b_2.N) rfl nle rfl <| s_q (.ptr 0 0 2) rfl trivial rfl <| s_q (.str a_1.T) rfl nle rfl <| s_q (.ptr 1 0 2) rfl trivial rfl <| s_q (.str b_2.T) rfl nle rfl <| ?_
 obtain ⟨r_3, er4, hf⟩ := ob hf
 refine s_dol (o_call (w_cmp_Compare_int _ _ _ er4) rfl (.refl _) rfl) a_same trivial ?_
 obtain ⟨r_5, er6, hf⟩ := ob hf
 refine s_dol (o_call (w_cmp_Compare_int _ _ _ er6) rfl (.refl _) rfl) a_same trivial ?_
 obtain ⟨r_7, er8, hf⟩ := ob hf
 refine s_dol (o_call (w_strings_Compare _ _ _ er8) rfl (.refl _) rfl) a_same trivial ?_; refine s_dol (o_bslice (j := 2) (as' := [(.int .i64 r_3), (.int .i64 r_5), (.int .i64 r_7)]) rfl (fun _ => by decide) ⟨rfl, ⟨rfl, ⟨rfl, trivial⟩⟩⟩ (.refl _) rfl rfl rfl) trivial trivial ?_
 obtain ⟨r_9, er10, hf⟩ := ob hf
 refine s_dol (o_call (w_cmp_Or_int _ _ er10) rfl (.cons (.of_eq (congrArg (AV.lst _) (tko [r_3, r_5, r_7]))) .nil) rfl) a_same trivial <| s_mov (.int .i64 r_9) rfl <| w_done <| k_seq <| w_ret <| ?_; obtain rfl := os hf; exact r_flat ⟨trivial, trivial⟩ rfl (.refl _)

/- impl.DatumOK -/
def c20 : ACode :=
 (.seq (.reg (tm 2 (.c (.bool false)) .done))
 (.seq (.seq (.reg (tm 5 (.t 0) (tq 6 (.len (.t 5)) (tm 7 (.c (.int .i64 0)) .done))))
 (.block 0 (.loop (.seq (.reg (tq 8 (.bin .lss (.t 7) (.t 6)) .done))
 (.seq (.cond (.t 8) .skip
 (.exit 0))
 (.seq (.block 1 (.seq (.reg (tm 9 (.t 7) (tq 10 (.iaddr 3 (.t 5) (.t 7)) (tq 11 (.load 3 true (.t 10)) (tq 4 (.box 3 (.c (.agg [(.int .i64 0), (.int .i64 0), (.str [])]))) (tm 3 (.t 9) (.q ⟨none, none, .store 3 (.t 4) (.t 11)⟩
 .done)))))))
 (.seq (.reg (tq 12 (.load 3 true (.t 4)) (.l ⟨(some 13), none, .call 82 [(.t 12)]⟩ []
 (tq 14 (.not (.t 13)) (tm 15 (.t 14) (tg 16 15 false (.faddr 0 (.t 4)) (tg 17 15 false (.load 1 false (.t 16)) (tg 18 15 false (.mov (.t 0)) (tg 19 15 false (.iaddr 3 (.t 18) (.c (.int .i64 0))) (tg 20 15 false (.faddr 0 (.t 19)) (tg 21 15 false (.load 1 false (.t 20)) (tg 22 15 false (.bin .neq (.t 17) (.t 21)) (tq 23 (.pick (.t 15) (.c (.bool true)) (.t 22)) (tm 24 (.t 23) (tg 25 24 false (.mov (.t 3)) (tg 26 24 false (.bin .gtr (.t 25) (.c (.int .i64 0))) (tg 27 24 false (.mov (.t 26)) (tg 28 27 true (.mov (.t 0)) (tg 29 27 true (.mov (.t 3)) (tg 30 27 true (.bin .sub (.t 29) (.c (.int .i64 1))) (tg 31 27 true (.iaddr 3 (.t 28) (.t 30)) (tg 32 27 true (.load 3 true (.t 31)) (tg 33 27 true (.load 3 true (.t 4)) (.l ⟨(some 34), (some (27, true)), .call 83 [(.t 32), (.t 33)]⟩ []
 (tg 35 27 true (.bin .geq (.t 34) (.c (.int .i64 0))) (tg 36 24 false (.pick (.t 27) (.t 35) (.c (.bool false))) (tq 37 (.pick (.t 24) (.c (.bool true)) (.t 36)) .done))) .non))))))))))))))))))))) .non)))
 (.cut (.cond (.t 37) (.seq (.reg (tm 2 (.c (.bool false)) .done))
 .ret)
 .skip)))))
 (.reg (tq 38 (.bin .add (.t 7) (.c (.int .i64 1))) (tm 7 (.t 38) .done)))))))))
 (.cut (.seq (.reg (tm 39 (.t 0) (tq 40 (.len (.t 39)) (tq 41 (.bin .leq (.t 40) (.c (.int .i64 8))) (tm 2 (.t 41) .done)))))
 .ret))))
theorem fc20 : fcomp Try.prog Try.f20 = some (c20.erase, [.mov (.t 2)], 42) := by kernel_rfl
def impl_DatumOK_L1 (d_1 : (List GAtom)) : List GAtom → Nat → Option (Fl Bool Unit)
  | [], s7_60 =>
    some (.go ())
  | x_96 :: xs, s7_60 =>
    (((impl_AtomOK x_96).bind fun r_110 =>
    if (!r_110) then
    some true
    else
    (idx d_1 0).bind fun x_113 =>
    if (x_96.Kind != x_113.Kind) then
    some true
    else
    if (decide ((s7_60 : Int) > 0)) then
    (idx d_1 (w64 ((s7_60 : Int) - 1))).bind fun x_117 =>
    (impl_compareAtoms x_117 x_96).bind fun r_119 =>
    some (decide (r_119 ≥ 0))
    else
    some false : Option Bool)).bind fun s37_108 =>
    if s37_108 then
    some (.ret false)
    else
    impl_DatumOK_L1 d_1 xs (s7_60 + 1)

def impl_DatumOK (d_1 : (List GAtom)) : Option Bool :=
    (impl_DatumOK_L1 d_1 d_1 0).bind fun q => (match q with
    | .ret r => some r
    | .go _ =>
    some (decide ((d_1.length : Int) ≤ 8)))
theorem w_impl_DatumOK (d_1 : (List GAtom)) (r : Bool) (hf : impl_DatumOK d_1 = some r) : CallOK Try.prog 20 .flat [(.lst 3 (d_1.map encGAtom))] (.bool r) := by
 refine CallOK.of_awp mixed Try.func20 fc20 nle ?_; rw [argT_eq]; unfold impl_DatumOK at hf; unfold c20; refine (show awp Try.prog false 0 _ (ofL [(0, (.lst 3 (d_1.map encGAtom)))]) [] _ from ?_); refine awp_seq <| w_reg <| s_mov (.bool false) rfl <| w_done <| k_seq <| awp_seq <| awp_seq <| w_reg <| s_mov (.lst 3 (d_1.map encGAtom)) rfl <| s_dof (o_len (enc := encGAtom) rfl) fun hl2 => s_mov (.int .i64 0) rfl <| w_done <| k_seq <| ?_
 obtain ⟨p89, hb1, hf⟩ := ob hf
 refine awp_cutx (X := {q : Unit // p89 = .go q}) (fun q => ([(0, (.lst 3 (d_1.map encGAtom)))], [])) ?_ ?_
 ·refine awp_loop (X := {q : Nat // impl_DatumOK_L1 d_1 (d_1.drop q) q = some p89}) (fun q => ([(0, (.lst 3 (d_1.map encGAtom))), (5, (.lst 3 (d_1.map encGAtom))), (6, (.int .i64 (d_1.length : Int))), (7, (.int .i64 (q.1 : Int)))], [])) (fun q => d_1.length - q.1) ⟨0, hb1⟩ ⟨[], [], _, _, rfl, rfl, ⟨.refl _, ⟨.refl _, ⟨.refl _, ⟨.refl _, trivial⟩⟩⟩⟩, (.refl _)⟩ ?_
  rintro ⟨s7_60, hc1⟩
  have hc1 : impl_DatumOK_L1 d_1 (d_1.drop s7_60) s7_60 = some p89 := hc1
  refine (show awp Try.prog false 0 _ (ofL [(0, (.lst 3 (d_1.map encGAtom))), (5, (.lst 3 (d_1.map encGAtom))), (6, (.int .i64 (d_1.length : Int))), (7, (.int .i64 (s7_60 : Int)))]) [] _ from ?_)
  rcases dropc d_1 s7_60 with ⟨hie92, hd95⟩ | ⟨hlt90, x_96, hx91, hd95⟩
  ·rw [hd95, impl_DatumOK_L1.eq_1] at hc1
   have hq94 := dlf hie92
   refine awp_seq <| w_reg <| s_q (.bool (decide ((s7_60 : Int) < (d_1.length : Int)))) rfl rfl rfl <| w_done <| k_seq <| awp_seq <| w_condf rfl hq94 <| w_exit <| k_seqx <| k_loopx <| k_blkx <| ?_; obtain rfl := os hc1; exact k_cutn ⟨_, rfl⟩ ⟨[], [], _, _, rfl, rfl, ⟨.refl _, trivial⟩, (.refl _)⟩
  ·rw [hd95, impl_DatumOK_L1.eq_2] at hc1
   have hq94 := dlt hlt90
   refine awp_seq <| w_reg <| s_q (.bool (decide ((s7_60 : Int) < (d_1.length : Int)))) rfl rfl rfl <| w_done <| k_seq <| awp_seq <| w_condt rfl hq94 <| w_skip <| k_seq <| awp_seq <| w_blk <| awp_seq <| w_reg <| s_mov (.int .i64 (s7_60 : Int)) rfl <| s_do (o_iaddrn (enc := encGAtom) rfl rfl hx91) <| s_q (encGAtom x_96) rfl nle rfl <| s_do (o_box (j := 0) (c := (.agg [(.int .i64 0), (.int .i64 0), (.str [])])) rfl trivial rfl rfl) <| s_mov (.int .i64 (s7_60 : Int)) rfl <| s_do0 (o_storebox (v := (.agg [(.int .i64 x_96.Kind), (.int .i64 x_96.N), (.str x_96.T)])) (y' := (.agg [(.int .i64 x_96.Kind), (.int .i64 x_96.N), (.str x_96.T)])) rfl rfl rfl trivial ⟨rfl, nle⟩ ⟨⟨rfl, trivial⟩, ⟨⟨rfl, trivial⟩, ⟨⟨rfl, trivial⟩, trivial⟩⟩⟩ rfl) <| ?_
   refine w_done <| k_seq <| awp_seq <| ?_
   obtain ⟨s37_108, hb2, hc1⟩ := ob hc1
   refine awp_cut ([(0, (.lst 3 (d_1.map encGAtom))), (5, (.lst 3 (d_1.map encGAtom))), (6, (.int .i64 (d_1.length : Int))), (7, (.int .i64 (s7_60 : Int))), (37, (.bool s37_108))], []) ?_ ?_
   ·refine w_reg <| s_q (.agg [(.int .i64 x_96.Kind), (.int .i64 x_96.N), (.str x_96.T)]) rfl nle rfl <| ?_
    obtain ⟨r_110, er111, hb2⟩ := ob hb2
    refine s_dol (o_call (w_impl_AtomOK _ _ er111) rfl (.refl _) rfl) a_same trivial <| s_q (.bool (!r_110)) rfl trivial rfl <| s_mov (.bool (!r_110)) rfl <| ?_
    rcases oi hb2 with ⟨c112, hb2⟩ | ⟨c112, hb2⟩
    ·refine s_lit (s := 15) (b := true) rfl c112 <| s_off rfl rfl <| s_off rfl rfl <| s_off rfl rfl <| s_off rfl rfl <| s_off rfl rfl <| s_off rfl rfl <| s_off rfl rfl <| s_q (.bool true) rfl trivial rfl <| s_mov (.bool true) rfl <| s_off rfl rfl <| s_off rfl rfl <| s_off rfl rfl <| s_offs rfl <| s_offs rfl <| s_offs rfl <| s_offs rfl <| s_offs rfl <| s_offs rfl <| s_offsl rfl trivial <| s_offs rfl <| s_off rfl rfl <| s_q (.bool true) rfl trivial rfl <| w_done <| ?_; obtain rfl := os hb2; exact ⟨[], [], _, _, rfl, rfl, ⟨.refl _, ⟨.refl _, ⟨.refl _, ⟨.refl _, ⟨.refl _, trivial⟩⟩⟩⟩⟩, (.refl _)⟩
    ·refine s_lit (s := 15) (b := false) rfl (bf c112) <| s_on rfl <| s_q (.ptr 0 0 0) rfl trivial rfl <| s_on rfl <| s_q (.int .i64 x_96.Kind) rfl nle rfl <| s_on rfl <| s_mov (.lst 3 (d_1.map encGAtom)) rfl <| s_on rfl <| ?_
     obtain ⟨x_113, ex114, hb2⟩ := ob hb2
     refine s_do (o_iaddr (enc := encGAtom) rfl rfl (idx0 ex114) (idx1 ex114)) <| s_on rfl <| s_q (.iptr (encGAtom x_113) 0) rfl trivial rfl <| s_on rfl <| s_q (.int .i64 x_113.Kind) rfl nle rfl <| s_on rfl <| s_q (.bool (x_96.Kind != x_113.Kind)) rfl rfl rfl <| s_q (.bool (x_96.Kind != x_113.Kind)) rfl trivial rfl <| s_mov (.bool (x_96.Kind != x_113.Kind)) rfl <| ?_
     rcases oi hb2 with ⟨c115, hb2⟩ | ⟨c115, hb2⟩
     ·refine s_lit (s := 24) (b := true) rfl c115 <| s_off rfl rfl <| s_off rfl rfl <| s_off rfl rfl <| s_offs rfl <| s_offs rfl <| s_offs rfl <| s_offs rfl <| s_offs rfl <| s_offs rfl <| s_offsl rfl trivial <| s_offs rfl <| s_off rfl rfl <| s_q (.bool true) rfl trivial rfl <| w_done <| ?_; obtain rfl := os hb2; exact ⟨[], [], _, _, rfl, rfl, ⟨.refl _, ⟨.refl _, ⟨.refl _, ⟨.refl _, ⟨.refl _, trivial⟩⟩⟩⟩⟩, (.refl _)⟩
     ·refine s_lit (s := 24) (b := false) rfl (bf c115) <| s_on rfl <| s_mov (.int .i64 (s7_60 : Int)) rfl <| s_on rfl <| s_q (.bool (decide ((s7_60 : Int) > 0))) rfl rfl rfl <| s_on rfl <| s_mov (.bool (decide ((s7_60 : Int) > 0))) rfl <| ?_
      rcases oi hb2 with ⟨c116, hb2⟩ | ⟨c116, hb2⟩
      ·refine s_lit (s := 27) (b := true) rfl c116 <| s_on rfl <| s_mov (.lst 3 (d_1.map encGAtom)) rfl <| s_on rfl <| s_mov (.int .i64 (s7_60 : Int)) rfl <| s_on rfl <| s_q (.int .i64 (w64 ((s7_60 : Int) - 1))) rfl rfl rfl <| s_on rfl <| ?_
       obtain ⟨x_117, ex118, hb2⟩ := ob hb2
       refine s_do (o_iaddr (enc := encGAtom) rfl rfl (idx0 ex118) (idx1 ex118)) <| s_on rfl <| s_q (encGAtom x_117) rfl nle rfl <| s_on rfl <| s_q (.agg [(.int .i64 x_96.Kind), (.int .i64 x_96.N), (.str x_96.T)]) rfl nle rfl <| s_onl rfl <| ?_
       obtain ⟨r_119, er120, hb2⟩ := ob hb2
       refine s_dol (o_call (w_impl_compareAtoms _ _ _ er120) rfl (.refl _) rfl) a_same trivial <| s_on rfl <| s_q (.bool (decide (r_119 ≥ 0))) rfl rfl rfl <| s_on rfl <| s_q (.bool (decide (r_119 ≥ 0))) rfl trivial rfl <| s_q (.bool (decide (r_119 ≥ 0))) rfl trivial rfl <| w_done <| ?_; obtain rfl := os hb2; exact ⟨[], [], _, _, rfl, rfl, ⟨.refl _, ⟨.refl _, ⟨.refl _, ⟨.refl _, ⟨.refl _, trivial⟩⟩⟩⟩⟩, (.refl _)⟩
      ·refine s_lit (s := 27) (b := false) rfl (bf c116) <| s_off rfl rfl <| s_off rfl rfl <| s_off rfl rfl <| s_off rfl rfl <| s_off rfl rfl <| s_off rfl rfl <| s_offl rfl rfl trivial <| s_off rfl rfl <| s_on rfl <| s_q (.bool false) rfl trivial rfl <| s_q (.bool false) rfl trivial rfl <| w_done <| ?_; obtain rfl := os hb2; exact ⟨[], [], _, _, rfl, rfl, ⟨.refl _, ⟨.refl _, ⟨.refl _, ⟨.refl _, ⟨.refl _, trivial⟩⟩⟩⟩⟩, (.refl _)⟩
   ·rcases oi hc1 with ⟨c121, hc1⟩ | ⟨c121, hc1⟩
    ·refine w_condt rfl c121 <| awp_seq <| w_reg <| s_mov (.bool false) rfl <| w_done <| k_seq <| w_ret <| ?_; obtain rfl := os hc1; obtain rfl := os hf; exact r_flat ⟨trivial, trivial⟩ rfl (.refl _)
    ·refine w_condf rfl (bf c121) <| w_skip <| k_blk <| k_seq <| w_reg <| s_q (.int .i64 (w64 ((s7_60 : Int) + 1))) rfl rfl rfl <| s_mov (.int .i64 (w64 ((s7_60 : Int) + 1))) rfl <| w_done <| ?_; exact k_loopn ⟨(s7_60 + 1), hc1⟩ (mul hlt90) ⟨[], [], _, _, rfl, rfl, ⟨.refl _, ⟨.refl _, ⟨.refl _, ⟨.of_eq (congrArg (AV.int _) (w64_incr hlt90 hl2)), trivial⟩⟩⟩⟩, (.refl _)⟩
 ·rintro ⟨_, rfl⟩
  refine awp_seq <| w_reg <| s_mov (.lst 3 (d_1.map encGAtom)) rfl <| s_dof (o_len (enc := encGAtom) rfl) fun hl122 => s_q (.bool (decide ((d_1.length : Int) ≤ 8))) rfl rfl rfl <| s_mov (.bool (decide ((d_1.length : Int) ≤ 8))) rfl <| w_done <| k_seq <| w_ret <| ?_; obtain rfl := os hf; exact r_flat ⟨trivial, trivial⟩ rfl (.refl _)

/- impl.isRowOf$1 -/
def c228 : ACode :=
 (.seq (.reg (tm 2 (.c (.bool false)) .done))
 (.seq (.reg (tm 3 (.t 0) (tq 4 (.call 20 [(.t 3)]) (tq 5 (.not (.t 4)) (tm 2 (.t 5) .done)))))
 .ret))
theorem fc228 : fcomp Try.prog Try.f228 = some (c228.erase, [.mov (.t 2)], 6) := by kernel_rfl
def impl_isRowOf_1 (d_1 : (List GAtom)) : Option Bool :=
    (impl_DatumOK d_1).bind fun r_2 =>
    some (!r_2)
theorem w_impl_isRowOf_1 (d_1 : (List GAtom)) (r : Bool) (hf : impl_isRowOf_1 d_1 = some r) : CallOK Try.prog 228 .flat [(.lst 3 (d_1.map encGAtom))] (.bool r) := by
  refine CallOK.of_awp mixed Try.func228 fc228 nle ?_
  rw [argT_eq]
  unfold impl_isRowOf_1 at hf
  unfold c228
  refine (show awp Try.prog false 0 _ (ofL [(0, (.lst 3 (d_1.map encGAtom)))]) [] _ from ?_)
  refine awp_seq ?_
  refine w_reg ?_
  refine s_do (o_mov (.bool false) rfl) ?_
  refine w_done ?_
  refine k_seq ?_
  refine awp_seq ?_
  refine w_reg ?_
  obtain ⟨r_2, er3, hf⟩ := ob hf
  refine s_do (o_mov (.lst 3 (d_1.map encGAtom)) rfl) ?_
  refine s_do (o_call (w_impl_DatumOK _ _ er3) rfl (.refl _) rfl) ?_
  refine s_do (o_q (.bool (!r_2)) rfl trivial rfl) ?_
  refine s_do (o_mov (.bool (!r_2)) rfl) ?_
  refine w_done ?_
  refine k_seq ?_
  refine w_ret ?_
  obtain rfl := os hf
  exact r_flat ⟨trivial, trivial⟩ rfl (.refl _)

/- impl.isRowOf -/
def c162 : ACode :=
 (.seq (.reg (tq 2 (.box 2 (.t 0)) (tm 4 (.c (.bool false)) .done)))
 (.seq (.reg (tq 5 (.faddr 1 (.t 2)) (tq 6 (.load 1 false (.t 5)) (tq 7 (.len (.t 6)) (tm 8 (.t 1) (tq 9 (.bin .eql (.t 7) (.t 8)) (tm 10 (.t 9) (tg 11 10 true (.faddr 1 (.t 2)) (tg 12 10 true (.load 1 false (.t 11)) (tg 13 10 true (.call 227 [(.t 12), (.c (.fn 228 []))]) (tg 14 10 true (.not (.t 13)) (tq 15 (.pick (.t 10) (.t 14) (.c (.bool false))) (tm 4 (.t 15) .done)))))))))))))
 .ret))
theorem fc162 : fcomp Try.prog Try.f162 = some (c162.erase, [.mov (.t 4)], 16) := by kernel_rfl
def impl_isRowOf (r_1 : GRow) (many_2 : Int) : Option Bool :=
    if ((r_1.Cells.length : Int) == many_2) then
    (slices_ContainsFunc_impl_Atom_impl_AtomS r_1.Cells impl_isRowOf_1).bind fun r_5 =>
    some (!r_5)
    else
    some false
theorem w_impl_isRowOf (r_1 : GRow) (many_2 : Int) (r : Bool) (hf : impl_isRowOf r_1 many_2 = some r) : CallOK Try.prog 162 .flat [(encGRow r_1), (.int .i64 many_2)] (.bool r) := by
 refine CallOK.of_awp mixed Try.func162 fc162 nle ?_; rw [argT_eq]; unfold impl_isRowOf at hf; unfold c162; refine (show awp Try.prog false 0 _ (ofL [(0, (encGRow r_1)), (1, (.int .i64 many_2))]) [] _ from ?_); refine awp_seq <| w_reg <| s_do (o_box (j := 0) (c := (.agg [(.int .i64 r_1.Id), (.lst 1 (r_1.Cells.map (encL 3 encGAtom)))])) rfl trivial rfl rfl) <| s_mov (.bool false) rfl <| w_done <| k_seq <| awp_seq <| w_reg <| ?_
 rcases oi hf with ⟨c4, hf⟩ | ⟨c4, hf⟩
 ·obtain ⟨r_5, er6, hf⟩ := ob hf
  refine s_q (.ptr 0 0 1) rfl trivial rfl <| s_q (.lst 1 (r_1.Cells.map (encL 3 encGAtom))) rfl nle rfl <| s_dof (o_len (enc := (encL 3 encGAtom)) rfl) fun hl3 => s_mov (.int .i64 many_2) rfl <| s_q (.bool ((r_1.Cells.length : Int) == many_2)) rfl rfl rfl <| s_mov (.bool ((r_1.Cells.length : Int) == many_2)) rfl <| s_lit (s := 10) (b := true) rfl c4 <| s_on rfl <| s_q (.ptr 0 0 1) rfl trivial rfl <| s_on rfl <| s_q (.lst 1 (r_1.Cells.map (encL 3 encGAtom))) rfl nle rfl <| s_on rfl <| ?_; refine s_do (o_call (w_slices_ContainsFunc_impl_Atom_impl_AtomS _ _ _ er6 228 [] (by kernel_rfl) (fun _ _ => rfl) (fun _ => rfl) (fun a0 r h => w_impl_isRowOf_1 a0 r h)) rfl (.refl _) rfl) ?_; refine s_on rfl <| s_q (.bool (!r_5)) rfl trivial rfl <| ?_
  refine s_q (.bool (!r_5)) rfl trivial rfl <| s_mov (.bool (!r_5)) rfl <| w_done <| k_seq <| w_ret <| ?_; obtain rfl := os hf; exact r_flat ⟨trivial, trivial⟩ rfl (.refl _)
 ·refine s_q (.ptr 0 0 1) rfl trivial rfl <| s_q (.lst 1 (r_1.Cells.map (encL 3 encGAtom))) rfl nle rfl <| s_dof (o_len (enc := (encL 3 encGAtom)) rfl) fun hl3 => s_mov (.int .i64 many_2) rfl <| s_q (.bool ((r_1.Cells.length : Int) == many_2)) rfl rfl rfl <| s_mov (.bool ((r_1.Cells.length : Int) == many_2)) rfl <| s_lit (s := 10) (b := false) rfl (bf c4) <| s_off rfl rfl <| s_off rfl rfl <| s_off rfl rfl <| s_off rfl rfl <| s_q (.bool false) rfl trivial rfl <| s_mov (.bool false) rfl <| w_done <| k_seq <| w_ret <| ?_; obtain rfl := os hf; exact r_flat ⟨trivial, trivial⟩ rfl (.refl _)

/- impl.ResultOK$2 -/
def c161 : ACode :=
 (.seq (.reg (tq 2 (.box 2 (.t 0)) (tm 3 (.c (.bool false)) .done)))
 (.seq (.reg (tq 4 (.load 2 true (.t 2)) (tq 5 (.faddr 3 (.t 1)) (tq 6 (.load 1 false (.t 5)) (tq 7 (.len (.t 6)) (tq 8 (.call 162 [(.t 4), (.t 7)]) (tq 9 (.not (.t 8)) (tm 3 (.t 9) .done))))))))
 .ret))
theorem fc161 : fcomp Try.prog Try.f161 = some (c161.erase, [.mov (.t 3)], 10) := by kernel_rfl
def impl_ResultOK_2 (row_1 : GRow) (cap_2 : GResult) : Option Bool :=
    (impl_isRowOf row_1 (cap_2.Columns.length : Int)).bind fun r_4 =>
    some (!r_4)
theorem w_impl_ResultOK_2 (row_1 : GRow) (cap_2 : GResult) (r : Bool) (hf : impl_ResultOK_2 row_1 cap_2 = some r) : CallOK Try.prog 161 .flat [(encGRow row_1), (.iptr (encGResult cap_2) 0)] (.bool r) := by
  refine CallOK.of_awp mixed Try.func161 fc161 nle ?_
  rw [argT_eq]
  unfold impl_ResultOK_2 at hf
  unfold c161
  refine (show awp Try.prog false 0 _ (ofL [(0, (encGRow row_1)), (1, (.iptr (encGResult cap_2) 0))]) [] _ from ?_)
  refine awp_seq ?_
  refine w_reg ?_
  refine s_do (o_box (j := 0) (c := (.agg [(.int .i64 row_1.Id), (.lst 1 (row_1.Cells.map (encL 3 encGAtom)))])) rfl trivial rfl rfl) ?_
  refine s_do (o_mov (.bool false) rfl) ?_
  refine w_done ?_
  refine k_seq ?_
  refine awp_seq ?_
  refine w_reg ?_
  obtain ⟨r_4, er5, hf⟩ := ob hf
  refine s_do (o_q (.agg [(.int .i64 row_1.Id), (.lst 1 (row_1.Cells.map (encL 3 encGAtom)))]) rfl nle rfl) ?_
  refine s_do (o_q (.iptr (encGResult cap_2) 3) rfl trivial rfl) ?_
  refine s_do (o_q (.lst 1 (cap_2.Columns.map AV.str)) rfl nle rfl) ?_
  refine s_dof (o_len (enc := AV.str) rfl) fun hl3 => ?_
  refine s_do (o_call (w_impl_isRowOf _ _ _ er5) rfl (.refl _) rfl) ?_
  refine s_do (o_q (.bool (!r_4)) rfl trivial rfl) ?_
  refine s_do (o_mov (.bool (!r_4)) rfl) ?_
  refine w_done ?_
  refine k_seq ?_
  refine w_ret ?_
  obtain rfl := os hf
  exact r_flat ⟨trivial, trivial⟩ rfl (.refl _)

/- impl.ResultOK -/
def c74 : ACode :=
 (.seq (.reg (tq 1 (.box 5 (.t 0)) (tm 2 (.c (.bool false)) .done)))
 (.seq (.seq (.reg (tq 3 (.faddr 0 (.t 1)) (tq 4 (.load 1 false (.t 3)) (tq 5 (.bin .neq (.t 4) (.c (.int .i64 0))) .done))))
 (.cond (.t 5) (.seq (.reg (tq 6 (.faddr 0 (.t 1)) (tq 7 (.load 1 false (.t 6)) (tq 8 (.call 156 [(.t 7), (.c (.int .i64 1)), (.c (.int .i64 19))]) (tm 9 (.t 8) (tg 10 9 true (.faddr 1 (.t 1)) (tg 11 9 true (.load 1 false (.t 10)) (tg 12 9 true (.bin .eql (.t 11) (.c (.int .i64 0))) (tq 13 (.pick (.t 9) (.t 12) (.c (.bool false))) (tm 14 (.t 13) (tg 15 14 true (.faddr 2 (.t 1)) (tg 16 14 true (.load 1 false (.t 15)) (tg 17 14 true (.bin .eql (.t 16) (.c (.int .i64 0))) (tq 18 (.pick (.t 14) (.t 17) (.c (.bool false))) (tm 19 (.t 18) (tg 20 19 true (.faddr 3 (.t 1)) (tg 21 19 true (.load 1 false (.t 20)) (tg 22 19 true (.len (.t 21)) (tg 23 19 true (.bin .eql (.t 22) (.c (.int .i64 0))) (tq 24 (.pick (.t 19) (.t 23) (.c (.bool false))) (tm 25 (.t 24) (tg 26 25 true (.faddr 4 (.t 1)) (tg 27 25 true (.load 1 false (.t 26)) (tg 28 25 true (.len (.t 27)) (tg 29 25 true (.bin .eql (.t 28) (.c (.int .i64 0))) (tq 30 (.pick (.t 25) (.t 29) (.c (.bool false))) (tm 2 (.t 30) .done)))))))))))))))))))))))))))
 .ret)
 .skip))
 (.seq (.seq (.reg (tq 31 (.faddr 1 (.t 1)) (tq 32 (.load 1 false (.t 31)) (tq 33 (.call 156 [(.t 32), (.c (.int .i64 0)), (.c (.int .i64 1000))]) (tq 34 (.not (.t 33)) (tm 35 (.t 34) (tg 36 35 false (.faddr 2 (.t 1)) (tg 37 35 false (.load 1 false (.t 36)) (tg 38 35 false (.call 156 [(.t 37), (.c (.int .i64 0)), (.c (.int .i64 1000000))]) (tg 39 35 false (.not (.t 38)) (tq 40 (.pick (.t 35) (.c (.bool true)) (.t 39)) (tm 41 (.t 40) (tg 42 41 false (.faddr 3 (.t 1)) (tg 43 41 false (.load 1 false (.t 42)) (tg 44 41 false (.len (.t 43)) (tg 45 41 false (.bin .gtr (.t 44) (.c (.int .i64 7))) (tq 46 (.pick (.t 41) (.c (.bool true)) (.t 45)) (tm 47 (.t 46) (tg 48 47 false (.faddr 4 (.t 1)) (tg 49 47 false (.load 1 false (.t 48)) (tg 50 47 false (.len (.t 49)) (tg 51 47 false (.bin .gtr (.t 50) (.c (.int .i64 12))) (tq 52 (.pick (.t 47) (.c (.bool true)) (.t 51)) .done)))))))))))))))))))))))
 (.cut (.cond (.t 52) (.seq (.reg (tm 2 (.c (.bool false)) .done))
 .ret)
 .skip)))
 (.seq (.seq (.reg (tq 53 (.faddr 3 (.t 1)) (tq 54 (.load 1 false (.t 53)) (tq 55 (.call 157 [(.t 54), (.c (.fn 158 []))]) .done))))
 (.cond (.t 55) (.seq (.reg (tm 2 (.c (.bool false)) .done))
 .ret)
 .skip))
 (.seq (.reg (tq 56 (.faddr 4 (.t 1)) (tq 57 (.load 1 false (.t 56)) (tq 58 (.mkfn 161 [(.t 1)]) (tq 59 (.call 160 [(.t 57), (.t 58)]) (tq 60 (.not (.t 59)) (tm 2 (.t 60) .done)))))))
 .ret)))))
theorem fc74 : fcomp Try.prog Try.f74 = some (c74.erase, [.mov (.t 2)], 61) := by kernel_rfl
def impl_ResultOK (r_1 : GResult) : Option Bool :=
    if (r_1.Code != 0) then
    (impl_within r_1.Code 1 19).bind fun r_3 =>
    some (bif (bif (bif (bif r_3 then (r_1.Count == 0) else false) then (r_1.Id == 0) else false) then ((r_1.Columns.length : Int) == 0) else false) then ((r_1.Rows.length : Int) == 0) else false)
    else
    (((impl_within r_1.Count 0 1000).bind fun r_16 =>
    if (!r_16) then
    some true
    else
    (impl_within r_1.Id 0 1000000).bind fun r_19 =>
    some (bif (bif (!r_19) then true else (decide ((r_1.Columns.length : Int) > 7))) then true else (decide ((r_1.Rows.length : Int) > 12))) : Option Bool)).bind fun s52_14 =>
    if s52_14 then
    some false
    else
    (slices_ContainsFunc_string_string r_1.Columns impl_ResultOK_1).bind fun r_24 =>
    if r_24 then
    some false
    else
    (slices_ContainsFunc_impl_Row_impl_Row r_1.Rows (fun a0 => impl_ResultOK_2 a0 r_1)).bind fun r_27 =>
    some (!r_27)
theorem w_impl_ResultOK (r_1 : GResult) (r : Bool) (hf : impl_ResultOK r_1 = some r) : CallOK Try.prog 74 .flat [(encGResult r_1)] (.bool r) := by
 refine CallOK.of_awp mixed Try.func74 fc74 nle ?_; rw [argT_eq]; unfold impl_ResultOK at hf; unfold c74; refine (show awp Try.prog false 0 _ (ofL [(0, (encGResult r_1))]) [] _ from ?_); refine awp_seq <| w_reg <| s_do (o_box (j := 0) (c := (.agg [(.int .i64 r_1.Code), (.int .i64 r_1.Count), (.int .i64 r_1.Id), (.lst 1 (r_1.Columns.map AV.str)), (.lst 2 (r_1.Rows.map encGRow))])) rfl trivial rfl rfl) <| s_mov (.bool false) rfl <| w_done <| k_seq <| awp_seq <| awp_seq <| w_reg <| s_q (.ptr 0 0 0) rfl trivial rfl <| s_q (.int .i64 r_1.Code) rfl nle rfl <| s_q (.bool (r_1.Code != 0)) rfl rfl rfl <| w_done <| k_seq <| ?_
 rcases oi hf with ⟨c2, hf⟩ | ⟨c2, hf⟩
 ·refine w_condt rfl c2 <| awp_seq <| w_reg <| s_q (.ptr 0 0 0) rfl trivial rfl <| s_q (.int .i64 r_1.Code) rfl nle rfl <| ?_
  obtain ⟨r_3, er4, hf⟩ := ob hf
  refine s_do (o_call (w_impl_within _ _ _ _ er4) rfl (.refl _) rfl) <| s_mov (.bool r_3) rfl <| ?_; refine s_g (v := r_3) (.ptr 0 0 1) rfl (fun hv => by (try simp only [gs_on hv]); exact ⟨rfl, trivial, rfl⟩) ?_; refine s_g (v := r_3) (.int .i64 r_1.Count) rfl (fun hv => by (try simp only [gs_on hv]); exact ⟨rfl, nle, rfl⟩) ?_; refine s_g (v := r_3) (.bool (r_1.Count == 0)) rfl (fun hv => by (try simp only [gs_on hv]); exact ⟨rfl, rfl, rfl⟩) ?_; refine s_pick (x := (r_1.Count == 0)) (y := false) rfl (fun hv => by (try simp only [gs_on hv]); rfl) (fun hv => by (try simp only [gs_on hv]); rfl) ?_; refine s_mov (.bool (bif r_3 then (r_1.Count == 0) else false)) rfl ?_; refine s_g (v := (bif r_3 then (r_1.Count == 0) else false)) (.ptr 0 0 2) rfl (fun hv => by (try simp only [gs_on hv]); exact ⟨rfl, trivial, rfl⟩) ?_
  refine s_g (v := (bif r_3 then (r_1.Count == 0) else false)) (.int .i64 r_1.Id) rfl (fun hv => by (try simp only [gs_on hv]); exact ⟨rfl, nle, rfl⟩) ?_; refine s_g (v := (bif r_3 then (r_1.Count == 0) else false)) (.bool (r_1.Id == 0)) rfl (fun hv => by (try simp only [gs_on hv]); exact ⟨rfl, rfl, rfl⟩) ?_; refine s_pick (x := (r_1.Id == 0)) (y := false) rfl (fun hv => by (try simp only [gs_on hv]); rfl) (fun hv => by (try simp only [gs_on hv]); rfl) ?_; refine s_mov (.bool (bif (bif r_3 then (r_1.Count == 0) else false) then (r_1.Id == 0) else false)) rfl ?_; refine s_g (v := (bif (bif r_3 then (r_1.Count == 0) else false) then (r_1.Id == 0) else false)) (.ptr 0 0 3) rfl (fun hv => by (try simp only [gs_on hv]); exact ⟨rfl, trivial, rfl⟩) ?_
  refine s_g (v := (bif (bif r_3 then (r_1.Count == 0) else false) then (r_1.Id == 0) else false)) (.lst 1 (r_1.Columns.map AV.str)) rfl (fun hv => by (try simp only [gs_on hv]); exact ⟨rfl, nle, rfl⟩) ?_; refine s_g (v := (bif (bif r_3 then (r_1.Count == 0) else false) then (r_1.Id == 0) else false)) (.int .i64 (r_1.Columns.length : Int)) rfl (fun hv => by (try simp only [gs_on hv]); exact ⟨rfl, trivial, lenV _ _⟩) ?_; refine s_g (v := (bif (bif r_3 then (r_1.Count == 0) else false) then (r_1.Id == 0) else false)) (.bool ((r_1.Columns.length : Int) == 0)) rfl (fun hv => by (try simp only [gs_on hv]); exact ⟨rfl, rfl, rfl⟩) ?_; refine s_pick (x := ((r_1.Columns.length : Int) == 0)) (y := false) rfl (fun hv => by (try simp only [gs_on hv]); rfl) (fun hv => by (try simp only [gs_on hv]); rfl) ?_
  refine s_mov (.bool (bif (bif (bif r_3 then (r_1.Count == 0) else false) then (r_1.Id == 0) else false) then ((r_1.Columns.length : Int) == 0) else false)) rfl ?_; refine s_g (v := (bif (bif (bif r_3 then (r_1.Count == 0) else false) then (r_1.Id == 0) else false) then ((r_1.Columns.length : Int) == 0) else false)) (.ptr 0 0 4) rfl (fun hv => by (try simp only [gs_on hv]); exact ⟨rfl, trivial, rfl⟩) ?_; refine s_g (v := (bif (bif (bif r_3 then (r_1.Count == 0) else false) then (r_1.Id == 0) else false) then ((r_1.Columns.length : Int) == 0) else false)) (.lst 2 (r_1.Rows.map encGRow)) rfl (fun hv => by (try simp only [gs_on hv]); exact ⟨rfl, nle, rfl⟩) ?_; refine s_g (v := (bif (bif (bif r_3 then (r_1.Count == 0) else false) then (r_1.Id == 0) else false) then ((r_1.Columns.length : Int) == 0) else false)) (.int .i64 (r_1.Rows.length : Int)) rfl (fun hv => by (try simp only [gs_on hv]); exact ⟨rfl, trivial, lenV _ _⟩) ?_
  refine s_g (v := (bif (bif (bif r_3 then (r_1.Count == 0) else false) then (r_1.Id == 0) else false) then ((r_1.Columns.length : Int) == 0) else false)) (.bool ((r_1.Rows.length : Int) == 0)) rfl (fun hv => by (try simp only [gs_on hv]); exact ⟨rfl, rfl, rfl⟩) ?_; refine s_pick (x := ((r_1.Rows.length : Int) == 0)) (y := false) rfl (fun hv => by (try simp only [gs_on hv]); rfl) (fun hv => by (try simp only [gs_on hv]); rfl) ?_; refine s_mov (.bool (bif (bif (bif (bif r_3 then (r_1.Count == 0) else false) then (r_1.Id == 0) else false) then ((r_1.Columns.length : Int) == 0) else false) then ((r_1.Rows.length : Int) == 0) else false)) rfl <| w_done <| k_seq <| w_ret <| ?_; obtain rfl := os hf; exact r_flat ⟨trivial, trivial⟩ rfl (.refl _)
 ·refine w_condf rfl (bf c2) <| w_skip <| k_seq <| awp_seq <| awp_seq <| ?_
  obtain ⟨s52_14, hb1, hf⟩ := ob hf
  refine awp_cut ([(1, (.ptr 0 0 0)), (52, (.bool s52_14))], [.box 5 (.agg [(.int .i64 r_1.Code), (.int .i64 r_1.Count), (.int .i64 r_1.Id), (.lst 1 (r_1.Columns.map AV.str)), (.lst 2 (r_1.Rows.map encGRow))])]) ?_ ?_
  ·refine w_reg <| s_q (.ptr 0 0 1) rfl trivial rfl <| s_q (.int .i64 r_1.Count) rfl nle rfl <| ?_
   obtain ⟨r_16, er17, hb1⟩ := ob hb1
   refine s_do (o_call (w_impl_within _ _ _ _ er17) rfl (.refl _) rfl) <| s_q (.bool (!r_16)) rfl trivial rfl <| s_mov (.bool (!r_16)) rfl <| ?_
   rcases oi hb1 with ⟨c18, hb1⟩ | ⟨c18, hb1⟩
   ·refine s_lit (s := 35) (b := true) rfl c18 <| s_off rfl rfl <| s_off rfl rfl <| s_off rfl rfl <| s_off rfl rfl <| s_q (.bool true) rfl trivial rfl <| s_mov (.bool true) rfl <| s_off rfl rfl <| s_off rfl rfl <| s_off rfl rfl <| s_off rfl rfl <| s_q (.bool true) rfl trivial rfl <| s_mov (.bool true) rfl <| s_off rfl rfl <| s_off rfl rfl <| s_off rfl rfl <| s_off rfl rfl <| s_q (.bool true) rfl trivial rfl <| w_done <| ?_; obtain rfl := os hb1; exact ⟨[], [0], _, _, rfl, rfl, ⟨.refl _, ⟨.refl _, trivial⟩⟩, (.refl _)⟩
   ·refine s_lit (s := 35) (b := false) rfl (bf c18) <| s_on rfl <| s_q (.ptr 0 0 2) rfl trivial rfl <| s_on rfl <| s_q (.int .i64 r_1.Id) rfl nle rfl <| s_on rfl <| ?_
    obtain ⟨r_19, er20, hb1⟩ := ob hb1
    refine s_do (o_call (w_impl_within _ _ _ _ er20) rfl (.refl _) rfl) <| s_on rfl <| s_q (.bool (!r_19)) rfl trivial rfl <| s_q (.bool (!r_19)) rfl trivial rfl <| s_mov (.bool (!r_19)) rfl <| ?_; refine s_g (v := (!r_19)) (.ptr 0 0 3) rfl (fun hv => by (try simp only [gs_on hv]); exact ⟨rfl, trivial, rfl⟩) ?_; refine s_g (v := (!r_19)) (.lst 1 (r_1.Columns.map AV.str)) rfl (fun hv => by (try simp only [gs_on hv]); exact ⟨rfl, nle, rfl⟩) ?_; refine s_g (v := (!r_19)) (.int .i64 (r_1.Columns.length : Int)) rfl (fun hv => by (try simp only [gs_on hv]); exact ⟨rfl, trivial, lenV _ _⟩) ?_; refine s_g (v := (!r_19)) (.bool (decide ((r_1.Columns.length : Int) > 7))) rfl (fun hv => by (try simp only [gs_on hv]); exact ⟨rfl, rfl, rfl⟩) ?_
    refine s_pick (x := true) (y := (decide ((r_1.Columns.length : Int) > 7))) rfl (fun hv => by (try simp only [gs_on hv]); rfl) (fun hv => by (try simp only [gs_on hv]); rfl) ?_; refine s_mov (.bool (bif (!r_19) then true else (decide ((r_1.Columns.length : Int) > 7)))) rfl ?_; refine s_g (v := (bif (!r_19) then true else (decide ((r_1.Columns.length : Int) > 7)))) (.ptr 0 0 4) rfl (fun hv => by (try simp only [gs_on hv]); exact ⟨rfl, trivial, rfl⟩) ?_; refine s_g (v := (bif (!r_19) then true else (decide ((r_1.Columns.length : Int) > 7)))) (.lst 2 (r_1.Rows.map encGRow)) rfl (fun hv => by (try simp only [gs_on hv]); exact ⟨rfl, nle, rfl⟩) ?_; refine s_g (v := (bif (!r_19) then true else (decide ((r_1.Columns.length : Int) > 7)))) (.int .i64 (r_1.Rows.length : Int)) rfl (fun hv => by (try simp only [gs_on hv]); exact ⟨rfl, trivial, lenV _ _⟩) ?_
    refine s_g (v := (bif (!r_19) then true else (decide ((r_1.Columns.length : Int) > 7)))) (.bool (decide ((r_1.Rows.length : Int) > 12))) rfl (fun hv => by (try simp only [gs_on hv]); exact ⟨rfl, rfl, rfl⟩) ?_; refine s_pick (x := true) (y := (decide ((r_1.Rows.length : Int) > 12))) rfl (fun hv => by (try simp only [gs_on hv]); rfl) (fun hv => by (try simp only [gs_on hv]); rfl) ?_; refine w_done ?_; obtain rfl := os hb1; exact ⟨[], [0], _, _, rfl, rfl, ⟨.refl _, ⟨.refl _, trivial⟩⟩, (.refl _)⟩
  ·rcases oi hf with ⟨c23, hf⟩ | ⟨c23, hf⟩
   ·refine w_condt rfl c23 <| awp_seq <| w_reg <| s_mov (.bool false) rfl <| w_done <| k_seq <| w_ret <| ?_; obtain rfl := os hf; exact r_flat ⟨trivial, trivial⟩ rfl (.refl _)
   ·refine w_condf rfl (bf c23) <| w_skip <| k_seq <| awp_seq <| awp_seq <| w_reg <| ?_
    obtain ⟨r_24, er25, hf⟩ := ob hf
    refine s_q (.ptr 0 0 3) rfl trivial rfl <| s_q (.lst 1 (r_1.Columns.map AV.str)) rfl nle rfl <| ?_; refine s_do (o_call (w_slices_ContainsFunc_string_string _ _ _ er25 158 [] (by kernel_rfl) (fun _ _ => rfl) (fun _ => rfl) (fun a0 r h => w_impl_ResultOK_1 a0 r h)) rfl (.refl _) rfl) ?_; refine w_done <| k_seq <| ?_
    rcases oi hf with ⟨c26, hf⟩ | ⟨c26, hf⟩
    ·refine w_condt rfl c26 <| awp_seq <| w_reg <| s_mov (.bool false) rfl <| w_done <| k_seq <| w_ret <| ?_; obtain rfl := os hf; exact r_flat ⟨trivial, trivial⟩ rfl (.refl _)
    ·refine w_condf rfl (bf c26) <| w_skip <| k_seq <| awp_seq <| w_reg <| ?_
     obtain ⟨r_27, er28, hf⟩ := ob hf
     refine s_q (.ptr 0 0 4) rfl trivial rfl <| s_q (.lst 2 (r_1.Rows.map encGRow)) rfl nle rfl <| s_q (.fn 161 [(.ptr 0 0 0)]) rfl trivial rfl <| ?_; refine s_do (o_call (w_slices_ContainsFunc_impl_Row_impl_Row _ _ _ er28 161 [(.iptr (encGResult r_1) 0)] (by kernel_rfl) (fun _ _ => rfl) (fun _ => rfl) (fun a0 r h => w_impl_ResultOK_2 a0 r_1 r h)) rfl (.refl _) rfl) ?_; refine s_q (.bool (!r_27)) rfl trivial rfl <| s_mov (.bool (!r_27)) rfl <| w_done <| k_seq <| w_ret <| ?_; obtain rfl := os hf; exact r_flat ⟨trivial, trivial⟩ rfl (.refl _)

/- impl.Failed$1 -/
def c73 : ACode :=
 (.seq (.reg (tq 1 (.box 5 (.t 0)) (tm 2 (.c (.bool false)) .done)))
 (.seq (.reg (tq 3 (.load 5 true (.t 1)) (tq 4 (.call 74 [(.t 3)]) (tq 5 (.not (.t 4)) (tm 2 (.t 5) .done)))))
 .ret))
theorem fc73 : fcomp Try.prog Try.f73 = some (c73.erase, [.mov (.t 2)], 6) := by kernel_rfl
def impl_Failed_1 (r_1 : GResult) : Option Bool :=
    (impl_ResultOK r_1).bind fun r_2 =>
    some (!r_2)
theorem w_impl_Failed_1 (r_1 : GResult) (r : Bool) (hf : impl_Failed_1 r_1 = some r) : CallOK Try.prog 73 .flat [(encGResult r_1)] (.bool r) := by
  refine CallOK.of_awp mixed Try.func73 fc73 nle ?_
  rw [argT_eq]
  unfold impl_Failed_1 at hf
  unfold c73
  refine (show awp Try.prog false 0 _ (ofL [(0, (encGResult r_1))]) [] _ from ?_)
  refine awp_seq ?_
  refine w_reg ?_
  refine s_do (o_box (j := 0) (c := (.agg [(.int .i64 r_1.Code), (.int .i64 r_1.Count), (.int .i64 r_1.Id), (.lst 1 (r_1.Columns.map AV.str)), (.lst 2 (r_1.Rows.map encGRow))])) rfl trivial rfl rfl) ?_
  refine s_do (o_mov (.bool false) rfl) ?_
  refine w_done ?_
  refine k_seq ?_
  refine awp_seq ?_
  refine w_reg ?_
  obtain ⟨r_2, er3, hf⟩ := ob hf
  refine s_do (o_q (.agg [(.int .i64 r_1.Code), (.int .i64 r_1.Count), (.int .i64 r_1.Id), (.lst 1 (r_1.Columns.map AV.str)), (.lst 2 (r_1.Rows.map encGRow))]) rfl nle rfl) ?_
  refine s_do (o_call (w_impl_ResultOK _ _ er3) rfl (.refl _) rfl) ?_
  refine s_do (o_q (.bool (!r_2)) rfl trivial rfl) ?_
  refine s_do (o_mov (.bool (!r_2)) rfl) ?_
  refine w_done ?_
  refine k_seq ?_
  refine w_ret ?_
  obtain rfl := os hf
  exact r_flat ⟨trivial, trivial⟩ rfl (.refl _)

/- impl.failed -/
def c75 : ACode :=
 (.seq (.reg (tm 2 (.c (.bool false)) .done))
 (.seq (.reg (tm 3 (.t 0) (tq 4 (.len (.t 3)) (tq 5 (.bin .gtr (.t 4) (.c (.int .i64 0))) (tm 6 (.t 5) (tg 7 6 true (.mov (.t 0)) (tg 8 6 true (.mov (.t 0)) (tg 9 6 true (.len (.t 8)) (tg 10 6 true (.bin .sub (.t 9) (.c (.int .i64 1))) (tg 11 6 true (.iaddr 5 (.t 7) (.t 10)) (tg 12 6 true (.faddr 0 (.t 11)) (tg 13 6 true (.load 1 false (.t 12)) (tg 14 6 true (.bin .neq (.t 13) (.c (.int .i64 0))) (tq 15 (.pick (.t 6) (.t 14) (.c (.bool false))) (tm 2 (.t 15) .done)))))))))))))))
 .ret))
theorem fc75 : fcomp Try.prog Try.f75 = some (c75.erase, [.mov (.t 2)], 16) := by kernel_rfl
def impl_failed (list_1 : (List GResult)) : Option Bool :=
    if (decide ((list_1.length : Int) > 0)) then
    (idx list_1 (w64 ((list_1.length : Int) - 1))).bind fun x_6 =>
    some (x_6.Code != 0)
    else
    some false
theorem w_impl_failed (list_1 : (List GResult)) (r : Bool) (hf : impl_failed list_1 = some r) : CallOK Try.prog 75 .flat [(.lst 5 (list_1.map encGResult))] (.bool r) := by
 refine CallOK.of_awp mixed Try.func75 fc75 nle ?_; rw [argT_eq]; unfold impl_failed at hf; unfold c75; refine (show awp Try.prog false 0 _ (ofL [(0, (.lst 5 (list_1.map encGResult)))]) [] _ from ?_); refine awp_seq <| w_reg <| s_mov (.bool false) rfl <| w_done <| k_seq <| awp_seq <| w_reg <| s_mov (.lst 5 (list_1.map encGResult)) rfl <| s_dof (o_len (enc := encGResult) rfl) fun hl2 => s_q (.bool (decide ((list_1.length : Int) > 0))) rfl rfl rfl <| s_mov (.bool (decide ((list_1.length : Int) > 0))) rfl <| ?_
 rcases oi hf with ⟨c4, hf⟩ | ⟨c4, hf⟩
 ·refine s_lit (s := 6) (b := true) rfl c4 <| s_on rfl <| s_mov (.lst 5 (list_1.map encGResult)) rfl <| s_on rfl <| s_mov (.lst 5 (list_1.map encGResult)) rfl <| s_on rfl <| s_dof (o_len (enc := encGResult) rfl) fun hl5 => s_on rfl <| s_q (.int .i64 (w64 ((list_1.length : Int) - 1))) rfl rfl rfl <| s_on rfl <| ?_
  obtain ⟨x_6, ex7, hf⟩ := ob hf
  refine s_do (o_iaddr (enc := encGResult) rfl rfl (idx0 ex7) (idx1 ex7)) <| s_on rfl <| s_q (.iptr (encGResult x_6) 0) rfl trivial rfl <| s_on rfl <| s_q (.int .i64 x_6.Code) rfl nle rfl <| s_on rfl <| s_q (.bool (x_6.Code != 0)) rfl rfl rfl <| s_q (.bool (x_6.Code != 0)) rfl trivial rfl <| s_mov (.bool (x_6.Code != 0)) rfl <| w_done <| k_seq <| w_ret <| ?_; obtain rfl := os hf; exact r_flat ⟨trivial, trivial⟩ rfl (.refl _)
 ·refine s_lit (s := 6) (b := false) rfl (bf c4) <| s_off rfl rfl <| s_off rfl rfl <| s_off rfl rfl <| s_off rfl rfl <| s_off rfl rfl <| s_off rfl rfl <| s_off rfl rfl <| s_off rfl rfl <| s_q (.bool false) rfl trivial rfl <| s_mov (.bool false) rfl <| w_done <| k_seq <| w_ret <| ?_; obtain rfl := os hf; exact r_flat ⟨trivial, trivial⟩ rfl (.refl _)

/- impl.Failed -/
def c14 : ACode :=
 (.seq (.reg (tm 2 (.c (.bool false)) (tm 3 (.c (.int .i64 0)) .done)))
 (.seq (.block 0 (.seq (.reg (tm 5 (.t 0) (tq 6 (.call 71 [(.t 5)]) (tq 7 (.not (.t 6)) (tm 4 (.t 7) .done)))))
 (.cond (.t 4) (.seq (.reg (tm 2 (.c (.bool false)) (tm 3 (.c (.int .i64 2)) .done)))
 .ret)
 (.seq (.reg (tm 9 (.t 0) (tq 10 (.call 72 [(.t 9), (.c (.fn 73 []))]) (tm 8 (.t 10) .done))))
 (.cond (.t 8) (.seq (.reg (tm 2 (.c (.bool false)) (tm 3 (.c (.int .i64 1)) .done)))
 .ret)
 .skip)))))
 (.seq (.reg (tm 11 (.t 0) (tq 12 (.call 75 [(.t 11)]) (tm 2 (.t 12) (tm 3 (.c (.int .i64 0)) .done)))))
 .ret)))
theorem fc14 : fcomp Try.prog Try.f14 = some (c14.erase, [.mov (.t 2), .mov (.t 3)], 13) := by kernel_rfl
def impl_Failed (list_1 : (List GResult)) : Option (Bool × Int) :=
    (impl_isList_impl_Result list_1).bind fun r_2 =>
    if (!r_2) then
    some (false, 2)
    else
    (slices_ContainsFunc_impl_Result_impl_Result list_1 impl_Failed_1).bind fun r_5 =>
    if r_5 then
    some (false, 1)
    else
    (impl_failed list_1).bind fun r_8 =>
    some (r_8, 0)
theorem w_impl_Failed (list_1 : (List GResult)) (r : (Bool × Int)) (hf : impl_Failed list_1 = some r) : CallOK Try.prog 14 .flat [(.lst 5 (list_1.map encGResult))] (.tup [(.bool r.1), (.int .i64 r.2)]) := by
 refine CallOK.of_awp mixed Try.func14 fc14 nle ?_; rw [argT_eq]; unfold impl_Failed at hf; unfold c14; refine (show awp Try.prog false 0 _ (ofL [(0, (.lst 5 (list_1.map encGResult)))]) [] _ from ?_); refine awp_seq <| w_reg <| s_mov (.bool false) rfl <| s_mov (.int .i64 0) rfl <| w_done <| k_seq <| awp_seq <| w_blk <| awp_seq <| w_reg <| ?_
 obtain ⟨r_2, er3, hf⟩ := ob hf
 refine s_mov (.lst 5 (list_1.map encGResult)) rfl <| s_do (o_call (w_impl_isList_impl_Result _ _ er3) rfl (.refl _) rfl) <| s_q (.bool (!r_2)) rfl trivial rfl <| s_mov (.bool (!r_2)) rfl <| w_done <| k_seq <| ?_
 rcases oi hf with ⟨c4, hf⟩ | ⟨c4, hf⟩
 ·refine w_condt rfl c4 <| awp_seq <| w_reg <| s_mov (.bool false) rfl <| s_mov (.int .i64 2) rfl <| w_done <| k_seq <| w_ret <| ?_; obtain rfl := os hf; exact r_flat ⟨trivial, ⟨trivial, trivial⟩⟩ rfl (.refl _)
 ·refine w_condf rfl (bf c4) <| awp_seq <| w_reg <| ?_
  obtain ⟨r_5, er6, hf⟩ := ob hf
  refine s_mov (.lst 5 (list_1.map encGResult)) rfl ?_; refine s_do (o_call (w_slices_ContainsFunc_impl_Result_impl_Result _ _ _ er6 73 [] (by kernel_rfl) (fun _ _ => rfl) (fun _ => rfl) (fun a0 r h => w_impl_Failed_1 a0 r h)) rfl (.refl _) rfl) ?_; refine s_mov (.bool r_5) rfl <| w_done <| k_seq <| ?_
  rcases oi hf with ⟨c7, hf⟩ | ⟨c7, hf⟩
  ·refine w_condt rfl c7 <| awp_seq <| w_reg <| s_mov (.bool false) rfl <| s_mov (.int .i64 1) rfl <| w_done <| k_seq <| w_ret <| ?_; obtain rfl := os hf; exact r_flat ⟨trivial, ⟨trivial, trivial⟩⟩ rfl (.refl _)
  ·refine w_condf rfl (bf c7) <| w_skip <| k_blk <| k_seq <| awp_seq <| w_reg <| ?_
   obtain ⟨r_8, er9, hf⟩ := ob hf
   refine s_mov (.lst 5 (list_1.map encGResult)) rfl <| s_do (o_call (w_impl_failed _ _ er9) rfl (.refl _) rfl) <| s_mov (.bool r_8) rfl <| s_mov (.int .i64 0) rfl <| w_done <| k_seq <| w_ret <| ?_; obtain rfl := os hf; exact r_flat ⟨trivial, ⟨trivial, trivial⟩⟩ rfl (.refl _)

/- laws.eqStringS -/
def c45 : ACode :=
 (.seq (.reg (tm 4 (.c (.bool false)) .done))
 (.seq (.seq (.reg (tm 6 (.t 0) (tq 7 (.len (.t 6)) (tm 8 (.t 1) (tq 9 (.len (.t 8)) (tq 10 (.bin .neq (.t 7) (.t 9)) .done))))))
 (.cond (.t 10) (.seq (.reg (tm 4 (.c (.bool false)) .done))
 .ret)
 .skip))
 (.seq (.seq (.reg (tm 5 (.c (.int .i64 0)) .done))
 (.block 0 (.loop (.seq (.seq (.reg (tm 11 (.t 5) (tm 12 (.t 0) (tq 13 (.len (.t 12)) (tq 14 (.bin .lss (.t 11) (.t 13)) .done)))))
 (.cond (.t 14) .skip
 (.exit 0)))
 (.seq (.block 1 (.seq (.reg (tm 17 (.t 0) (tm 18 (.t 5) (tq 19 (.iaddr 1 (.t 17) (.t 18)) (tq 20 (.load 1 false (.t 19)) (tm 21 (.t 1) (tm 22 (.t 5) (tq 23 (.iaddr 1 (.t 21) (.t 22)) (tq 24 (.load 1 false (.t 23)) (tq 25 (.bin .neq (.t 20) (.t 24)) .done))))))))))
 (.cond (.t 25) (.seq (.reg (tm 4 (.c (.bool false)) .done))
 .ret)
 .skip)))
 (.reg (tm 15 (.t 5) (tq 16 (.bin .add (.t 15) (.c (.int .i64 1))) (tm 5 (.t 16) .done)))))))))
 (.cut (.seq (.reg (tm 4 (.c (.bool true)) .done))
 .ret)))))
theorem fc45 : fcomp Try.prog Try.f45 = some (c45.erase, [.mov (.t 4)], 26) := by kernel_rfl
def laws_eqStringS_L1 (b_2 : (List Str)) : List Str → Nat → Option (Fl Bool Unit)
  | [], i_21 =>
    some (.go ())
  | x_37 :: xs, i_21 =>
    (idx b_2 (i_21 : Int)).bind fun x_40 =>
    if (!(x_37 == x_40)) then
    some (.ret false)
    else
    laws_eqStringS_L1 b_2 xs (i_21 + 1)

def laws_eqStringS (a_1 : (List Str)) (b_2 : (List Str)) : Option Bool :=
    if ((a_1.length : Int) != (b_2.length : Int)) then
    some false
    else
    (laws_eqStringS_L1 b_2 a_1 0).bind fun q => (match q with
    | .ret r => some r
    | .go _ =>
    some true)
theorem w_laws_eqStringS (a_1 : (List Str)) (b_2 : (List Str)) (r : Bool) (hf : laws_eqStringS a_1 b_2 = some r) : CallOK Try.prog 45 .flat [(.lst 1 (a_1.map AV.str)), (.lst 1 (b_2.map AV.str))] (.bool r) := by
 refine CallOK.of_awp mixed Try.func45 fc45 nle ?_; rw [argT_eq]; unfold laws_eqStringS at hf; unfold c45; refine (show awp Try.prog false 0 _ (ofL [(0, (.lst 1 (a_1.map AV.str))), (1, (.lst 1 (b_2.map AV.str)))]) [] _ from ?_); refine awp_seq <| w_reg <| s_mov (.bool false) rfl <| w_done <| k_seq <| awp_seq <| awp_seq <| w_reg <| s_mov (.lst 1 (a_1.map AV.str)) rfl <| s_dof (o_len (enc := AV.str) rfl) fun hl3 => s_mov (.lst 1 (b_2.map AV.str)) rfl <| s_dof (o_len (enc := AV.str) rfl) fun hl4 => s_q (.bool ((a_1.length : Int) != (b_2.length : Int))) rfl rfl rfl <| w_done <| k_seq <| ?_
 rcases oi hf with ⟨c5, hf⟩ | ⟨c5, hf⟩
 ·refine w_condt rfl c5 <| awp_seq <| w_reg <| s_mov (.bool false) rfl <| w_done <| k_seq <| w_ret <| ?_; obtain rfl := os hf; exact r_flat ⟨trivial, trivial⟩ rfl (.refl _)
 ·refine w_condf rfl (bf c5) <| w_skip <| k_seq <| awp_seq <| awp_seq <| w_reg <| s_mov (.int .i64 0) rfl <| w_done <| k_seq <| ?_
  obtain ⟨p30, hb1, hf⟩ := ob hf
  refine awp_cutx (X := {q : Unit // p30 = .go q}) (fun q => ([], [])) ?_ ?_
  ·refine awp_loop (X := {q : Nat // laws_eqStringS_L1 b_2 (a_1.drop q) q = some p30}) (fun q => ([(0, (.lst 1 (a_1.map AV.str))), (1, (.lst 1 (b_2.map AV.str))), (5, (.int .i64 (q.1 : Int)))], [])) (fun q => a_1.length - q.1) ⟨0, hb1⟩ ⟨[], [], _, _, rfl, rfl, ⟨.refl _, ⟨.refl _, ⟨.refl _, trivial⟩⟩⟩, (.refl _)⟩ ?_
   rintro ⟨i_21, hc1⟩
   have hc1 : laws_eqStringS_L1 b_2 (a_1.drop i_21) i_21 = some p30 := hc1
   refine (show awp Try.prog false 0 _ (ofL [(0, (.lst 1 (a_1.map AV.str))), (1, (.lst 1 (b_2.map AV.str))), (5, (.int .i64 (i_21 : Int)))]) [] _ from ?_)
   rcases dropc a_1 i_21 with ⟨hie33, hd36⟩ | ⟨hlt31, x_37, hx32, hd36⟩
   ·rw [hd36, laws_eqStringS_L1.eq_1] at hc1
    have hq35 := dlf hie33
    refine awp_seq <| awp_seq <| w_reg <| s_mov (.int .i64 (i_21 : Int)) rfl <| s_mov (.lst 1 (a_1.map AV.str)) rfl <| s_dof (o_len (enc := AV.str) rfl) fun hl38 => s_q (.bool (decide ((i_21 : Int) < (a_1.length : Int)))) rfl rfl rfl <| w_done <| k_seq <| w_condf rfl hq35 <| w_exit <| k_seqx <| k_loopx <| k_blkx <| ?_; obtain rfl := os hc1; exact k_cutn ⟨_, rfl⟩ ⟨[], [], _, _, rfl, rfl, trivial, (.refl _)⟩
   ·rw [hd36, laws_eqStringS_L1.eq_2] at hc1
    have hq35 := dlt hlt31
    refine awp_seq <| awp_seq <| w_reg <| s_mov (.int .i64 (i_21 : Int)) rfl <| s_mov (.lst 1 (a_1.map AV.str)) rfl <| s_dof (o_len (enc := AV.str) rfl) fun hl39 => s_q (.bool (decide ((i_21 : Int) < (a_1.length : Int)))) rfl rfl rfl <| w_done <| k_seq <| w_condt rfl hq35 <| w_skip <| k_seq <| awp_seq <| w_blk <| awp_seq <| w_reg <| ?_
    obtain ⟨x_40, ex41, hc1⟩ := ob hc1
    refine s_mov (.lst 1 (a_1.map AV.str)) rfl <| s_mov (.int .i64 (i_21 : Int)) rfl <| s_do (o_iaddrn (enc := AV.str) rfl rfl hx32) <| s_q (.str x_37) rfl ⟨rfl, rfl⟩ rfl <| s_mov (.lst 1 (b_2.map AV.str)) rfl <| s_mov (.int .i64 (i_21 : Int)) rfl <| s_do (o_iaddr (enc := AV.str) rfl rfl (idx0 ex41) (idx1 ex41)) <| s_q (.str x_40) rfl ⟨rfl, rfl⟩ rfl <| s_q (.bool (!(x_37 == x_40))) rfl trivial rfl <| w_done <| k_seq <| ?_
    rcases oi hc1 with ⟨c42, hc1⟩ | ⟨c42, hc1⟩
    ·refine w_condt rfl c42 <| awp_seq <| w_reg <| s_mov (.bool false) rfl <| w_done <| k_seq <| w_ret <| ?_; obtain rfl := os hc1; obtain rfl := os hf; exact r_flat ⟨trivial, trivial⟩ rfl (.refl _)
    ·refine w_condf rfl (bf c42) <| w_skip <| k_blk <| k_seq <| w_reg <| s_mov (.int .i64 (i_21 : Int)) rfl <| s_q (.int .i64 (w64 ((i_21 : Int) + 1))) rfl rfl rfl <| s_mov (.int .i64 (w64 ((i_21 : Int) + 1))) rfl <| w_done <| ?_; exact k_loopn ⟨(i_21 + 1), hc1⟩ (mul hlt31) ⟨[], [], _, _, rfl, rfl, ⟨.refl _, ⟨.refl _, ⟨.of_eq (congrArg (AV.int _) (w64_incr hlt31 hl39)), trivial⟩⟩⟩, (.refl _)⟩
  ·rintro ⟨_, rfl⟩
   refine awp_seq <| w_reg <| s_mov (.bool true) rfl <| w_done <| k_seq <| w_ret <| ?_; obtain rfl := os hf; exact r_flat ⟨trivial, trivial⟩ rfl (.refl _)

/- laws.eqAtom -/
def c147 : ACode :=
 (.seq (.reg (tq 2 (.box 3 (.t 0)) (tq 3 (.box 3 (.t 1)) (tm 4 (.c (.bool false)) .done))))
 (.seq (.seq (.reg (tq 5 (.faddr 0 (.t 2)) (tq 6 (.load 1 false (.t 5)) (tq 7 (.faddr 0 (.t 3)) (tq 8 (.load 1 false (.t 7)) (tq 9 (.bin .neq (.t 6) (.t 8)) .done))))))
 (.cond (.t 9) (.seq (.reg (tm 4 (.c (.bool false)) .done))
 .ret)
 .skip))
 (.seq (.seq (.reg (tq 10 (.faddr 1 (.t 2)) (tq 11 (.load 1 false (.t 10)) (tq 12 (.faddr 1 (.t 3)) (tq 13 (.load 1 false (.t 12)) (tq 14 (.bin .neq (.t 11) (.t 13)) .done))))))
 (.cond (.t 14) (.seq (.reg (tm 4 (.c (.bool false)) .done))
 .ret)
 .skip))
 (.seq (.seq (.reg (tq 15 (.faddr 2 (.t 2)) (tq 16 (.load 1 false (.t 15)) (tq 17 (.faddr 2 (.t 3)) (tq 18 (.load 1 false (.t 17)) (tq 19 (.bin .neq (.t 16) (.t 18)) .done))))))
 (.cond (.t 19) (.seq (.reg (tm 4 (.c (.bool false)) .done))
 .ret)
 .skip))
 (.seq (.reg (tm 4 (.c (.bool true)) .done))
 .ret)))))
theorem fc147 : fcomp Try.prog Try.f147 = some (c147.erase, [.mov (.t 4)], 20) := by kernel_rfl
def laws_eqAtom (a_1 : GAtom) (b_2 : GAtom) : Option Bool :=
    if (a_1.Kind != b_2.Kind) then
    some false
    else
    if (a_1.N != b_2.N) then
    some false
    else
    if (!(a_1.T == b_2.T)) then
    some false
    else
    some true
theorem w_laws_eqAtom (a_1 : GAtom) (b_2 : GAtom) (r : Bool) (hf : laws_eqAtom a_1 b_2 = some r) : CallOK Try.prog 147 .flat [(encGAtom a_1), (encGAtom b_2)] (.bool r) := by
 refine CallOK.of_awp mixed Try.func147 fc147 nle ?_; rw [argT_eq]; unfold laws_eqAtom at hf; unfold c147; refine (show awp Try.prog false 0 _ (ofL [(0, (encGAtom a_1)), (1, (encGAtom b_2))]) [] _ from ?_); refine awp_seq <| w_reg <| s_do (o_box (j := 0) (c := (.agg [(.int .i64 a_1.Kind), (.int .i64 a_1.N), (.str a_1.T)])) rfl trivial rfl rfl) <| s_do (o_box (j := 1) (c := (.agg [(.int .i64 b_2.Kind), (.int .i64 b_2.N), (.str b_2.T)])) rfl trivial rfl rfl) <| s_mov (.bool false) rfl <| w_done <| k_seq <| awp_seq <| awp_seq <| w_reg <| s_q (.ptr 0 0 0) rfl trivial rfl <| s_q (.int .i64 a_1.Kind) rfl nle rfl <| s_q (.ptr 1 0 0) rfl trivial rfl <| s_q (.int .i64 b_2.Kind) rfl nle rfl <| s_q (.bool (a_1.Kind != b_2.Kind)) rfl rfl rfl <| ?_
 refine w_done <| k_seq <| ?_
 rcases oi hf with ⟨c3, hf⟩ | ⟨c3, hf⟩
 ·refine w_condt rfl c3 <| awp_seq <| w_reg <| s_mov (.bool false) rfl <| w_done <| k_seq <| w_ret <| ?_; obtain rfl := os hf; exact r_flat ⟨trivial, trivial⟩ rfl (.refl _)
 ·refine w_condf rfl (bf c3) <| w_skip <| k_seq <| awp_seq <| awp_seq <| w_reg <| s_q (.ptr 0 0 1) rfl trivial rfl <| s_q (.int .i64 a_1.N) rfl nle rfl <| s_q (.ptr 1 0 1) rfl trivial rfl <| s_q (.int .i64 b_2.N) rfl nle rfl <| s_q (.bool (a_1.N != b_2.N)) rfl rfl rfl <| w_done <| k_seq <| ?_
  rcases oi hf with ⟨c4, hf⟩ | ⟨c4, hf⟩
  ·refine w_condt rfl c4 <| awp_seq <| w_reg <| s_mov (.bool false) rfl <| w_done <| k_seq <| w_ret <| ?_; obtain rfl := os hf; exact r_flat ⟨trivial, trivial⟩ rfl (.refl _)
  ·refine w_condf rfl (bf c4) <| w_skip <| k_seq <| awp_seq <| awp_seq <| w_reg <| s_q (.ptr 0 0 2) rfl trivial rfl <| s_q (.str a_1.T) rfl nle rfl <| s_q (.ptr 1 0 2) rfl trivial rfl <| s_q (.str b_2.T) rfl nle rfl <| s_q (.bool (!(a_1.T == b_2.T))) rfl trivial rfl <| w_done <| k_seq <| ?_
   rcases oi hf with ⟨c5, hf⟩ | ⟨c5, hf⟩
   ·refine w_condt rfl c5 <| awp_seq <| w_reg <| s_mov (.bool false) rfl <| w_done <| k_seq <| w_ret <| ?_; obtain rfl := os hf; exact r_flat ⟨trivial, trivial⟩ rfl (.refl _)
   ·refine w_condf rfl (bf c5) <| w_skip <| k_seq <| awp_seq <| w_reg <| s_mov (.bool true) rfl <| w_done <| k_seq <| w_ret <| ?_; obtain rfl := os hf; exact r_flat ⟨trivial, trivial⟩ rfl (.refl _)

/- laws.eqAtomS -/
def c63 : ACode :=
 (.seq (.reg (tm 4 (.c (.bool false)) .done))
 (.seq (.seq (.reg (tm 6 (.t 0) (tq 7 (.len (.t 6)) (tm 8 (.t 1) (tq 9 (.len (.t 8)) (tq 10 (.bin .neq (.t 7) (.t 9)) .done))))))
 (.cond (.t 10) (.seq (.reg (tm 4 (.c (.bool false)) .done))
 .ret)
 .skip))
 (.seq (.seq (.reg (tm 5 (.c (.int .i64 0)) .done))
 (.block 0 (.loop (.seq (.seq (.reg (tm 11 (.t 5) (tm 12 (.t 0) (tq 13 (.len (.t 12)) (tq 14 (.bin .lss (.t 11) (.t 13)) .done)))))
 (.cond (.t 14) .skip
 (.exit 0)))
 (.seq (.block 1 (.seq (.reg (tm 17 (.t 0) (tm 18 (.t 5) (tq 19 (.iaddr 3 (.t 17) (.t 18)) (tq 20 (.load 3 true (.t 19)) (tm 21 (.t 1) (tm 22 (.t 5) (tq 23 (.iaddr 3 (.t 21) (.t 22)) (tq 24 (.load 3 true (.t 23)) (.l ⟨(some 25), none, .call 147 [(.t 20), (.t 24)]⟩ []
 (tq 26 (.not (.t 25)) .done) .non))))))))))
 (.cond (.t 26) (.seq (.reg (tm 4 (.c (.bool false)) .done))
 .ret)
 .skip)))
 (.reg (tm 15 (.t 5) (tq 16 (.bin .add (.t 15) (.c (.int .i64 1))) (tm 5 (.t 16) .done)))))))))
 (.cut (.seq (.reg (tm 4 (.c (.bool true)) .done))
 .ret)))))
theorem fc63 : fcomp Try.prog Try.f63 = some (c63.erase, [.mov (.t 4)], 27) := by kernel_rfl
def laws_eqAtomS_L1 (b_2 : (List GAtom)) : List GAtom → Nat → Option (Fl Bool Unit)
  | [], i_25 =>
    some (.go ())
  | x_43 :: xs, i_25 =>
    (idx b_2 (i_25 : Int)).bind fun x_46 =>
    (laws_eqAtom x_43 x_46).bind fun r_48 =>
    if (!r_48) then
    some (.ret false)
    else
    laws_eqAtomS_L1 b_2 xs (i_25 + 1)

def laws_eqAtomS (a_1 : (List GAtom)) (b_2 : (List GAtom)) : Option Bool :=
    if ((a_1.length : Int) != (b_2.length : Int)) then
    some false
    else
    (laws_eqAtomS_L1 b_2 a_1 0).bind fun q => (match q with
    | .ret r => some r
    | .go _ =>
    some true)
theorem w_laws_eqAtomS (a_1 : (List GAtom)) (b_2 : (List GAtom)) (r : Bool) (hf : laws_eqAtomS a_1 b_2 = some r) : CallOK Try.prog 63 .flat [(.lst 3 (a_1.map encGAtom)), (.lst 3 (b_2.map encGAtom))] (.bool r) := by
 refine CallOK.of_awp mixed Try.func63 fc63 nle ?_; rw [argT_eq]; unfold laws_eqAtomS at hf; unfold c63; refine (show awp Try.prog false 0 _ (ofL [(0, (.lst 3 (a_1.map encGAtom))), (1, (.lst 3 (b_2.map encGAtom)))]) [] _ from ?_); refine awp_seq <| w_reg <| s_mov (.bool false) rfl <| w_done <| k_seq <| awp_seq <| awp_seq <| w_reg <| s_mov (.lst 3 (a_1.map encGAtom)) rfl <| s_dof (o_len (enc := encGAtom) rfl) fun hl3 => s_mov (.lst 3 (b_2.map encGAtom)) rfl <| s_dof (o_len (enc := encGAtom) rfl) fun hl4 => s_q (.bool ((a_1.length : Int) != (b_2.length : Int))) rfl rfl rfl <| w_done <| k_seq <| ?_
 rcases oi hf with ⟨c5, hf⟩ | ⟨c5, hf⟩
 ·refine w_condt rfl c5 <| awp_seq <| w_reg <| s_mov (.bool false) rfl <| w_done <| k_seq <| w_ret <| ?_; obtain rfl := os hf; exact r_flat ⟨trivial, trivial⟩ rfl (.refl _)
 ·refine w_condf rfl (bf c5) <| w_skip <| k_seq <| awp_seq <| awp_seq <| w_reg <| s_mov (.int .i64 0) rfl <| w_done <| k_seq <| ?_
  obtain ⟨p36, hb1, hf⟩ := ob hf
  refine awp_cutx (X := {q : Unit // p36 = .go q}) (fun q => ([], [])) ?_ ?_
  ·refine awp_loop (X := {q : Nat // laws_eqAtomS_L1 b_2 (a_1.drop q) q = some p36}) (fun q => ([(0, (.lst 3 (a_1.map encGAtom))), (1, (.lst 3 (b_2.map encGAtom))), (5, (.int .i64 (q.1 : Int)))], [])) (fun q => a_1.length - q.1) ⟨0, hb1⟩ ⟨[], [], _, _, rfl, rfl, ⟨.refl _, ⟨.refl _, ⟨.refl _, trivial⟩⟩⟩, (.refl _)⟩ ?_
   rintro ⟨i_25, hc1⟩
   have hc1 : laws_eqAtomS_L1 b_2 (a_1.drop i_25) i_25 = some p36 := hc1
   refine (show awp Try.prog false 0 _ (ofL [(0, (.lst 3 (a_1.map encGAtom))), (1, (.lst 3 (b_2.map encGAtom))), (5, (.int .i64 (i_25 : Int)))]) [] _ from ?_)
   rcases dropc a_1 i_25 with ⟨hie39, hd42⟩ | ⟨hlt37, x_43, hx38, hd42⟩
   ·rw [hd42, laws_eqAtomS_L1.eq_1] at hc1
    have hq41 := dlf hie39
    refine awp_seq <| awp_seq <| w_reg <| s_mov (.int .i64 (i_25 : Int)) rfl <| s_mov (.lst 3 (a_1.map encGAtom)) rfl <| s_dof (o_len (enc := encGAtom) rfl) fun hl44 => s_q (.bool (decide ((i_25 : Int) < (a_1.length : Int)))) rfl rfl rfl <| w_done <| k_seq <| w_condf rfl hq41 <| w_exit <| k_seqx <| k_loopx <| k_blkx <| ?_; obtain rfl := os hc1; exact k_cutn ⟨_, rfl⟩ ⟨[], [], _, _, rfl, rfl, trivial, (.refl _)⟩
   ·rw [hd42, laws_eqAtomS_L1.eq_2] at hc1
    have hq41 := dlt hlt37
    refine awp_seq <| awp_seq <| w_reg <| s_mov (.int .i64 (i_25 : Int)) rfl <| s_mov (.lst 3 (a_1.map encGAtom)) rfl <| s_dof (o_len (enc := encGAtom) rfl) fun hl45 => s_q (.bool (decide ((i_25 : Int) < (a_1.length : Int)))) rfl rfl rfl <| w_done <| k_seq <| w_condt rfl hq41 <| w_skip <| k_seq <| awp_seq <| w_blk <| awp_seq <| w_reg <| ?_
    obtain ⟨x_46, ex47, hc1⟩ := ob hc1
    obtain ⟨r_48, er49, hc1⟩ := ob hc1
    refine s_mov (.lst 3 (a_1.map encGAtom)) rfl <| s_mov (.int .i64 (i_25 : Int)) rfl <| s_do (o_iaddrn (enc := encGAtom) rfl rfl hx38) <| s_q (encGAtom x_43) rfl nle rfl <| s_mov (.lst 3 (b_2.map encGAtom)) rfl <| s_mov (.int .i64 (i_25 : Int)) rfl <| s_do (o_iaddr (enc := encGAtom) rfl rfl (idx0 ex47) (idx1 ex47)) <| s_q (encGAtom x_46) rfl nle rfl <| s_dol (o_call (w_laws_eqAtom _ _ _ er49) rfl (.refl _) rfl) a_same trivial <| s_q (.bool (!r_48)) rfl trivial rfl <| w_done <| k_seq <| ?_
    rcases oi hc1 with ⟨c50, hc1⟩ | ⟨c50, hc1⟩
    ·refine w_condt rfl c50 <| awp_seq <| w_reg <| s_mov (.bool false) rfl <| w_done <| k_seq <| w_ret <| ?_; obtain rfl := os hc1; obtain rfl := os hf; exact r_flat ⟨trivial, trivial⟩ rfl (.refl _)
    ·refine w_condf rfl (bf c50) <| w_skip <| k_blk <| k_seq <| w_reg <| s_mov (.int .i64 (i_25 : Int)) rfl <| s_q (.int .i64 (w64 ((i_25 : Int) + 1))) rfl rfl rfl <| s_mov (.int .i64 (w64 ((i_25 : Int) + 1))) rfl <| w_done <| ?_; exact k_loopn ⟨(i_25 + 1), hc1⟩ (mul hlt37) ⟨[], [], _, _, rfl, rfl, ⟨.refl _, ⟨.refl _, ⟨.of_eq (congrArg (AV.int _) (w64_incr hlt37 hl45)), trivial⟩⟩⟩, (.refl _)⟩
  ·rintro ⟨_, rfl⟩
   refine awp_seq <| w_reg <| s_mov (.bool true) rfl <| w_done <| k_seq <| w_ret <| ?_; obtain rfl := os hf; exact r_flat ⟨trivial, trivial⟩ rfl (.refl _)

/- laws.eqAtomSS -/
def c122 : ACode :=
 (.seq (.reg (tm 4 (.c (.bool false)) .done))
 (.seq (.seq (.reg (tm 6 (.t 0) (tq 7 (.len (.t 6)) (tm 8 (.t 1) (tq 9 (.len (.t 8)) (tq 10 (.bin .neq (.t 7) (.t 9)) .done))))))
 (.cond (.t 10) (.seq (.reg (tm 4 (.c (.bool false)) .done))
 .ret)
 .skip))
 (.seq (.seq (.reg (tm 5 (.c (.int .i64 0)) .done))
 (.block 0 (.loop (.seq (.seq (.reg (tm 11 (.t 5) (tm 12 (.t 0) (tq 13 (.len (.t 12)) (tq 14 (.bin .lss (.t 11) (.t 13)) .done)))))
 (.cond (.t 14) .skip
 (.exit 0)))
 (.seq (.block 1 (.seq (.reg (tm 17 (.t 0) (tm 18 (.t 5) (tq 19 (.iaddr 1 (.t 17) (.t 18)) (tq 20 (.load 1 false (.t 19)) (tm 21 (.t 1) (tm 22 (.t 5) (tq 23 (.iaddr 1 (.t 21) (.t 22)) (tq 24 (.load 1 false (.t 23)) (.l ⟨(some 25), none, .call 63 [(.t 20), (.t 24)]⟩ []
 (tq 26 (.not (.t 25)) .done) .non))))))))))
 (.cond (.t 26) (.seq (.reg (tm 4 (.c (.bool false)) .done))
 .ret)
 .skip)))
 (.reg (tm 15 (.t 5) (tq 16 (.bin .add (.t 15) (.c (.int .i64 1))) (tm 5 (.t 16) .done)))))))))
 (.cut (.seq (.reg (tm 4 (.c (.bool true)) .done))
 .ret)))))
theorem fc122 : fcomp Try.prog Try.f122 = some (c122.erase, [.mov (.t 4)], 27) := by kernel_rfl
def laws_eqAtomSS_L1 (b_2 : (List (List GAtom))) : List (List GAtom) → Nat → Option (Fl Bool Unit)
  | [], i_25 =>
    some (.go ())
  | x_43 :: xs, i_25 =>
    (idx b_2 (i_25 : Int)).bind fun x_46 =>
    (laws_eqAtomS x_43 x_46).bind fun r_48 =>
    if (!r_48) then
    some (.ret false)
    else
    laws_eqAtomSS_L1 b_2 xs (i_25 + 1)

def laws_eqAtomSS (a_1 : (List (List GAtom))) (b_2 : (List (List GAtom))) : Option Bool :=
    if ((a_1.length : Int) != (b_2.length : Int)) then
    some false
    else
    (laws_eqAtomSS_L1 b_2 a_1 0).bind fun q => (match q with
    | .ret r => some r
    | .go _ =>
    some true)
theorem w_laws_eqAtomSS (a_1 : (List (List GAtom))) (b_2 : (List (List GAtom))) (r : Bool) (hf : laws_eqAtomSS a_1 b_2 = some r) : CallOK Try.prog 122 .flat [(.lst 1 (a_1.map (encL 3 encGAtom))), (.lst 1 (b_2.map (encL 3 encGAtom)))] (.bool r) := by
 refine CallOK.of_awp mixed Try.func122 fc122 nle ?_; rw [argT_eq]; unfold laws_eqAtomSS at hf; unfold c122; refine (show awp Try.prog false 0 _ (ofL [(0, (.lst 1 (a_1.map (encL 3 encGAtom)))), (1, (.lst 1 (b_2.map (encL 3 encGAtom))))]) [] _ from ?_); refine awp_seq <| w_reg <| s_mov (.bool false) rfl <| w_done <| k_seq <| awp_seq <| awp_seq <| w_reg <| s_mov (.lst 1 (a_1.map (encL 3 encGAtom))) rfl <| s_dof (o_len (enc := (encL 3 encGAtom)) rfl) fun hl3 => s_mov (.lst 1 (b_2.map (encL 3 encGAtom))) rfl <| s_dof (o_len (enc := (encL 3 encGAtom)) rfl) fun hl4 => s_q (.bool ((a_1.length : Int) != (b_2.length : Int))) rfl rfl rfl <| w_done <| k_seq <| ?_
 rcases oi hf with ⟨c5, hf⟩ | ⟨c5, hf⟩
 ·refine w_condt rfl c5 <| awp_seq <| w_reg <| s_mov (.bool false) rfl <| w_done <| k_seq <| w_ret <| ?_; obtain rfl := os hf; exact r_flat ⟨trivial, trivial⟩ rfl (.refl _)
 ·refine w_condf rfl (bf c5) <| w_skip <| k_seq <| awp_seq <| awp_seq <| w_reg <| s_mov (.int .i64 0) rfl <| w_done <| k_seq <| ?_
  obtain ⟨p36, hb1, hf⟩ := ob hf
  refine awp_cutx (X := {q : Unit // p36 = .go q}) (fun q => ([], [])) ?_ ?_
  ·refine awp_loop (X := {q : Nat // laws_eqAtomSS_L1 b_2 (a_1.drop q) q = some p36}) (fun q => ([(0, (.lst 1 (a_1.map (encL 3 encGAtom)))), (1, (.lst 1 (b_2.map (encL 3 encGAtom)))), (5, (.int .i64 (q.1 : Int)))], [])) (fun q => a_1.length - q.1) ⟨0, hb1⟩ ⟨[], [], _, _, rfl, rfl, ⟨.refl _, ⟨.refl _, ⟨.refl _, trivial⟩⟩⟩, (.refl _)⟩ ?_
   rintro ⟨i_25, hc1⟩
   have hc1 : laws_eqAtomSS_L1 b_2 (a_1.drop i_25) i_25 = some p36 := hc1
   refine (show awp Try.prog false 0 _ (ofL [(0, (.lst 1 (a_1.map (encL 3 encGAtom)))), (1, (.lst 1 (b_2.map (encL 3 encGAtom)))), (5, (.int .i64 (i_25 : Int)))]) [] _ from ?_)
   rcases dropc a_1 i_25 with ⟨hie39, hd42⟩ | ⟨hlt37, x_43, hx38, hd42⟩
   ·rw [hd42, laws_eqAtomSS_L1.eq_1] at hc1
    have hq41 := dlf hie39
    refine awp_seq <| awp_seq <| w_reg <| s_mov (.int .i64 (i_25 : Int)) rfl <| s_mov (.lst 1 (a_1.map (encL 3 encGAtom))) rfl <| s_dof (o_len (enc := (encL 3 encGAtom)) rfl) fun hl44 => s_q (.bool (decide ((i_25 : Int) < (a_1.length : Int)))) rfl rfl rfl <| w_done <| k_seq <| w_condf rfl hq41 <| w_exit <| k_seqx <| k_loopx <| k_blkx <| ?_; obtain rfl := os hc1; exact k_cutn ⟨_, rfl⟩ ⟨[], [], _, _, rfl, rfl, trivial, (.refl _)⟩
   ·rw [hd42, laws_eqAtomSS_L1.eq_2] at hc1
    have hq41 := dlt hlt37
    refine awp_seq <| awp_seq <| w_reg <| s_mov (.int .i64 (i_25 : Int)) rfl <| s_mov (.lst 1 (a_1.map (encL 3 encGAtom))) rfl <| s_dof (o_len (enc := (encL 3 encGAtom)) rfl) fun hl45 => s_q (.bool (decide ((i_25 : Int) < (a_1.length : Int)))) rfl rfl rfl <| w_done <| k_seq <| w_condt rfl hq41 <| w_skip <| k_seq <| awp_seq <| w_blk <| awp_seq <| w_reg <| ?_
    obtain ⟨x_46, ex47, hc1⟩ := ob hc1
    obtain ⟨r_48, er49, hc1⟩ := ob hc1
    refine s_mov (.lst 1 (a_1.map (encL 3 encGAtom))) rfl <| s_mov (.int .i64 (i_25 : Int)) rfl <| s_do (o_iaddrn (enc := (encL 3 encGAtom)) rfl rfl hx38) <| s_q (.lst 3 (x_43.map encGAtom)) rfl ⟨rfl, rfl⟩ rfl <| s_mov (.lst 1 (b_2.map (encL 3 encGAtom))) rfl <| s_mov (.int .i64 (i_25 : Int)) rfl <| s_do (o_iaddr (enc := (encL 3 encGAtom)) rfl rfl (idx0 ex47) (idx1 ex47)) <| s_q (.lst 3 (x_46.map encGAtom)) rfl ⟨rfl, rfl⟩ rfl <| s_dol (o_call (w_laws_eqAtomS _ _ _ er49) rfl (.refl _) rfl) a_same trivial <| s_q (.bool (!r_48)) rfl trivial rfl <| w_done <| k_seq <| ?_
    rcases oi hc1 with ⟨c50, hc1⟩ | ⟨c50, hc1⟩
    ·refine w_condt rfl c50 <| awp_seq <| w_reg <| s_mov (.bool false) rfl <| w_done <| k_seq <| w_ret <| ?_; obtain rfl := os hc1; obtain rfl := os hf; exact r_flat ⟨trivial, trivial⟩ rfl (.refl _)
    ·refine w_condf rfl (bf c50) <| w_skip <| k_blk <| k_seq <| w_reg <| s_mov (.int .i64 (i_25 : Int)) rfl <| s_q (.int .i64 (w64 ((i_25 : Int) + 1))) rfl rfl rfl <| s_mov (.int .i64 (w64 ((i_25 : Int) + 1))) rfl <| w_done <| ?_; exact k_loopn ⟨(i_25 + 1), hc1⟩ (mul hlt37) ⟨[], [], _, _, rfl, rfl, ⟨.refl _, ⟨.refl _, ⟨.of_eq (congrArg (AV.int _) (w64_incr hlt37 hl45)), trivial⟩⟩⟩, (.refl _)⟩
  ·rintro ⟨_, rfl⟩
   refine awp_seq <| w_reg <| s_mov (.bool true) rfl <| w_done <| k_seq <| w_ret <| ?_; obtain rfl := os hf; exact r_flat ⟨trivial, trivial⟩ rfl (.refl _)

/- laws.eqRow -/
def c43 : ACode :=
 (.seq (.reg (tq 2 (.box 2 (.t 0)) (tq 3 (.box 2 (.t 1)) (tm 4 (.c (.bool false)) .done))))
 (.seq (.seq (.reg (tq 5 (.faddr 0 (.t 2)) (tq 6 (.load 1 false (.t 5)) (tq 7 (.faddr 0 (.t 3)) (tq 8 (.load 1 false (.t 7)) (tq 9 (.bin .neq (.t 6) (.t 8)) .done))))))
 (.cond (.t 9) (.seq (.reg (tm 4 (.c (.bool false)) .done))
 .ret)
 .skip))
 (.seq (.seq (.reg (tq 10 (.faddr 1 (.t 2)) (tq 11 (.load 1 false (.t 10)) (tq 12 (.faddr 1 (.t 3)) (tq 13 (.load 1 false (.t 12)) (tq 14 (.call 122 [(.t 11), (.t 13)]) (tq 15 (.not (.t 14)) .done)))))))
 (.cond (.t 15) (.seq (.reg (tm 4 (.c (.bool false)) .done))
 .ret)
 .skip))
 (.seq (.reg (tm 4 (.c (.bool true)) .done))
 .ret))))
theorem fc43 : fcomp Try.prog Try.f43 = some (c43.erase, [.mov (.t 4)], 16) := by kernel_rfl
def laws_eqRow (a_1 : GRow) (b_2 : GRow) : Option Bool :=
    if (a_1.Id != b_2.Id) then
    some false
    else
    (laws_eqAtomSS a_1.Cells b_2.Cells).bind fun r_4 =>
    if (!r_4) then
    some false
    else
    some true
theorem w_laws_eqRow (a_1 : GRow) (b_2 : GRow) (r : Bool) (hf : laws_eqRow a_1 b_2 = some r) : CallOK Try.prog 43 .flat [(encGRow a_1), (encGRow b_2)] (.bool r) := by
 refine CallOK.of_awp mixed Try.func43 fc43 nle ?_; rw [argT_eq]; unfold laws_eqRow at hf; unfold c43; refine (show awp Try.prog false 0 _ (ofL [(0, (encGRow a_1)), (1, (encGRow b_2))]) [] _ from ?_); refine awp_seq <| w_reg <| s_do (o_box (j := 0) (c := (.agg [(.int .i64 a_1.Id), (.lst 1 (a_1.Cells.map (encL 3 encGAtom)))])) rfl trivial rfl rfl) <| s_do (o_box (j := 1) (c := (.agg [(.int .i64 b_2.Id), (.lst 1 (b_2.Cells.map (encL 3 encGAtom)))])) rfl trivial rfl rfl) <| s_mov (.bool false) rfl <| w_done <| k_seq <| awp_seq <| awp_seq <| w_reg <| s_q (.ptr 0 0 0) rfl trivial rfl <| s_q (.int .i64 a_1.Id) rfl nle rfl <| s_q (.ptr 1 0 0) rfl trivial rfl <| s_q (.int .i64 b_2.Id) rfl nle rfl <| s_q (.bool (a_1.Id != b_2.Id)) rfl rfl rfl <| ?_
 refine w_done <| k_seq <| ?_
 rcases oi hf with ⟨c3, hf⟩ | ⟨c3, hf⟩
 ·refine w_condt rfl c3 <| awp_seq <| w_reg <| s_mov (.bool false) rfl <| w_done <| k_seq <| w_ret <| ?_; obtain rfl := os hf; exact r_flat ⟨trivial, trivial⟩ rfl (.refl _)
 ·refine w_condf rfl (bf c3) <| w_skip <| k_seq <| awp_seq <| awp_seq <| w_reg <| ?_
  obtain ⟨r_4, er5, hf⟩ := ob hf
  refine s_q (.ptr 0 0 1) rfl trivial rfl <| s_q (.lst 1 (a_1.Cells.map (encL 3 encGAtom))) rfl nle rfl <| s_q (.ptr 1 0 1) rfl trivial rfl <| s_q (.lst 1 (b_2.Cells.map (encL 3 encGAtom))) rfl nle rfl <| s_do (o_call (w_laws_eqAtomSS _ _ _ er5) rfl (.refl _) rfl) <| s_q (.bool (!r_4)) rfl trivial rfl <| w_done <| k_seq <| ?_
  rcases oi hf with ⟨c6, hf⟩ | ⟨c6, hf⟩
  ·refine w_condt rfl c6 <| awp_seq <| w_reg <| s_mov (.bool false) rfl <| w_done <| k_seq <| w_ret <| ?_; obtain rfl := os hf; exact r_flat ⟨trivial, trivial⟩ rfl (.refl _)
  ·refine w_condf rfl (bf c6) <| w_skip <| k_seq <| awp_seq <| w_reg <| s_mov (.bool true) rfl <| w_done <| k_seq <| w_ret <| ?_; obtain rfl := os hf; exact r_flat ⟨trivial, trivial⟩ rfl (.refl _)

/- laws.eqRowS -/
def c163 : ACode :=
 (.seq (.reg (tm 4 (.c (.bool false)) .done))
 (.seq (.seq (.reg (tm 6 (.t 0) (tq 7 (.len (.t 6)) (tm 8 (.t 1) (tq 9 (.len (.t 8)) (tq 10 (.bin .neq (.t 7) (.t 9)) .done))))))
 (.cond (.t 10) (.seq (.reg (tm 4 (.c (.bool false)) .done))
 .ret)
 .skip))
 (.seq (.seq (.reg (tm 5 (.c (.int .i64 0)) .done))
 (.block 0 (.loop (.seq (.seq (.reg (tm 11 (.t 5) (tm 12 (.t 0) (tq 13 (.len (.t 12)) (tq 14 (.bin .lss (.t 11) (.t 13)) .done)))))
 (.cond (.t 14) .skip
 (.exit 0)))
 (.seq (.block 1 (.seq (.reg (tm 17 (.t 0) (tm 18 (.t 5) (tq 19 (.iaddr 2 (.t 17) (.t 18)) (tq 20 (.load 2 true (.t 19)) (tm 21 (.t 1) (tm 22 (.t 5) (tq 23 (.iaddr 2 (.t 21) (.t 22)) (tq 24 (.load 2 true (.t 23)) (.l ⟨(some 25), none, .call 43 [(.t 20), (.t 24)]⟩ []
 (tq 26 (.not (.t 25)) .done) .non))))))))))
 (.cond (.t 26) (.seq (.reg (tm 4 (.c (.bool false)) .done))
 .ret)
 .skip)))
 (.reg (tm 15 (.t 5) (tq 16 (.bin .add (.t 15) (.c (.int .i64 1))) (tm 5 (.t 16) .done)))))))))
 (.cut (.seq (.reg (tm 4 (.c (.bool true)) .done))
 .ret)))))
theorem fc163 : fcomp Try.prog Try.f163 = some (c163.erase, [.mov (.t 4)], 27) := by kernel_rfl
def laws_eqRowS_L1 (b_2 : (List GRow)) : List GRow → Nat → Option (Fl Bool Unit)
  | [], i_25 =>
    some (.go ())
  | x_43 :: xs, i_25 =>
    (idx b_2 (i_25 : Int)).bind fun x_46 =>
    (laws_eqRow x_43 x_46).bind fun r_48 =>
    if (!r_48) then
    some (.ret false)
    else
    laws_eqRowS_L1 b_2 xs (i_25 + 1)

def laws_eqRowS (a_1 : (List GRow)) (b_2 : (List GRow)) : Option Bool :=
    if ((a_1.length : Int) != (b_2.length : Int)) then
    some false
    else
    (laws_eqRowS_L1 b_2 a_1 0).bind fun q => (match q with
    | .ret r => some r
    | .go _ =>
    some true)
theorem w_laws_eqRowS (a_1 : (List GRow)) (b_2 : (List GRow)) (r : Bool) (hf : laws_eqRowS a_1 b_2 = some r) : CallOK Try.prog 163 .flat [(.lst 2 (a_1.map encGRow)), (.lst 2 (b_2.map encGRow))] (.bool r) := by
 refine CallOK.of_awp mixed Try.func163 fc163 nle ?_; rw [argT_eq]; unfold laws_eqRowS at hf; unfold c163; refine (show awp Try.prog false 0 _ (ofL [(0, (.lst 2 (a_1.map encGRow))), (1, (.lst 2 (b_2.map encGRow)))]) [] _ from ?_); refine awp_seq <| w_reg <| s_mov (.bool false) rfl <| w_done <| k_seq <| awp_seq <| awp_seq <| w_reg <| s_mov (.lst 2 (a_1.map encGRow)) rfl <| s_dof (o_len (enc := encGRow) rfl) fun hl3 => s_mov (.lst 2 (b_2.map encGRow)) rfl <| s_dof (o_len (enc := encGRow) rfl) fun hl4 => s_q (.bool ((a_1.length : Int) != (b_2.length : Int))) rfl rfl rfl <| w_done <| k_seq <| ?_
 rcases oi hf with ⟨c5, hf⟩ | ⟨c5, hf⟩
 ·refine w_condt rfl c5 <| awp_seq <| w_reg <| s_mov (.bool false) rfl <| w_done <| k_seq <| w_ret <| ?_; obtain rfl := os hf; exact r_flat ⟨trivial, trivial⟩ rfl (.refl _)
 ·refine w_condf rfl (bf c5) <| w_skip <| k_seq <| awp_seq <| awp_seq <| w_reg <| s_mov (.int .i64 0) rfl <| w_done <| k_seq <| ?_
  obtain ⟨p36, hb1, hf⟩ := ob hf
  refine awp_cutx (X := {q : Unit // p36 = .go q}) (fun q => ([], [])) ?_ ?_
  ·refine awp_loop (X := {q : Nat // laws_eqRowS_L1 b_2 (a_1.drop q) q = some p36}) (fun q => ([(0, (.lst 2 (a_1.map encGRow))), (1, (.lst 2 (b_2.map encGRow))), (5, (.int .i64 (q.1 : Int)))], [])) (fun q => a_1.length - q.1) ⟨0, hb1⟩ ⟨[], [], _, _, rfl, rfl, ⟨.refl _, ⟨.refl _, ⟨.refl _, trivial⟩⟩⟩, (.refl _)⟩ ?_
   rintro ⟨i_25, hc1⟩
   have hc1 : laws_eqRowS_L1 b_2 (a_1.drop i_25) i_25 = some p36 := hc1
   refine (show awp Try.prog false 0 _ (ofL [(0, (.lst 2 (a_1.map encGRow))), (1, (.lst 2 (b_2.map encGRow))), (5, (.int .i64 (i_25 : Int)))]) [] _ from ?_)
   rcases dropc a_1 i_25 with ⟨hie39, hd42⟩ | ⟨hlt37, x_43, hx38, hd42⟩
   ·rw [hd42, laws_eqRowS_L1.eq_1] at hc1
    have hq41 := dlf hie39
    refine awp_seq <| awp_seq <| w_reg <| s_mov (.int .i64 (i_25 : Int)) rfl <| s_mov (.lst 2 (a_1.map encGRow)) rfl <| s_dof (o_len (enc := encGRow) rfl) fun hl44 => s_q (.bool (decide ((i_25 : Int) < (a_1.length : Int)))) rfl rfl rfl <| w_done <| k_seq <| w_condf rfl hq41 <| w_exit <| k_seqx <| k_loopx <| k_blkx <| ?_; obtain rfl := os hc1; exact k_cutn ⟨_, rfl⟩ ⟨[], [], _, _, rfl, rfl, trivial, (.refl _)⟩
   ·rw [hd42, laws_eqRowS_L1.eq_2] at hc1
    have hq41 := dlt hlt37
    refine awp_seq <| awp_seq <| w_reg <| s_mov (.int .i64 (i_25 : Int)) rfl <| s_mov (.lst 2 (a_1.map encGRow)) rfl <| s_dof (o_len (enc := encGRow) rfl) fun hl45 => s_q (.bool (decide ((i_25 : Int) < (a_1.length : Int)))) rfl rfl rfl <| w_done <| k_seq <| w_condt rfl hq41 <| w_skip <| k_seq <| awp_seq <| w_blk <| awp_seq <| w_reg <| ?_
    obtain ⟨x_46, ex47, hc1⟩ := ob hc1
    obtain ⟨r_48, er49, hc1⟩ := ob hc1
    refine s_mov (.lst 2 (a_1.map encGRow)) rfl <| s_mov (.int .i64 (i_25 : Int)) rfl <| s_do (o_iaddrn (enc := encGRow) rfl rfl hx38) <| s_q (encGRow x_43) rfl nle rfl <| s_mov (.lst 2 (b_2.map encGRow)) rfl <| s_mov (.int .i64 (i_25 : Int)) rfl <| s_do (o_iaddr (enc := encGRow) rfl rfl (idx0 ex47) (idx1 ex47)) <| s_q (encGRow x_46) rfl nle rfl <| s_dol (o_call (w_laws_eqRow _ _ _ er49) rfl (.refl _) rfl) a_same trivial <| s_q (.bool (!r_48)) rfl trivial rfl <| w_done <| k_seq <| ?_
    rcases oi hc1 with ⟨c50, hc1⟩ | ⟨c50, hc1⟩
    ·refine w_condt rfl c50 <| awp_seq <| w_reg <| s_mov (.bool false) rfl <| w_done <| k_seq <| w_ret <| ?_; obtain rfl := os hc1; obtain rfl := os hf; exact r_flat ⟨trivial, trivial⟩ rfl (.refl _)
    ·refine w_condf rfl (bf c50) <| w_skip <| k_blk <| k_seq <| w_reg <| s_mov (.int .i64 (i_25 : Int)) rfl <| s_q (.int .i64 (w64 ((i_25 : Int) + 1))) rfl rfl rfl <| s_mov (.int .i64 (w64 ((i_25 : Int) + 1))) rfl <| w_done <| ?_; exact k_loopn ⟨(i_25 + 1), hc1⟩ (mul hlt37) ⟨[], [], _, _, rfl, rfl, ⟨.refl _, ⟨.refl _, ⟨.of_eq (congrArg (AV.int _) (w64_incr hlt37 hl45)), trivial⟩⟩⟩, (.refl _)⟩
  ·rintro ⟨_, rfl⟩
   refine awp_seq <| w_reg <| s_mov (.bool true) rfl <| w_done <| k_seq <| w_ret <| ?_; obtain rfl := os hf; exact r_flat ⟨trivial, trivial⟩ rfl (.refl _)

/- laws.eqResult -/
def c76 : ACode :=
 (.seq (.reg (tq 2 (.box 5 (.t 0)) (tq 3 (.box 5 (.t 1)) (tm 4 (.c (.bool false)) .done))))
 (.seq (.seq (.reg (tq 5 (.faddr 0 (.t 2)) (tq 6 (.load 1 false (.t 5)) (tq 7 (.faddr 0 (.t 3)) (tq 8 (.load 1 false (.t 7)) (tq 9 (.bin .neq (.t 6) (.t 8)) .done))))))
 (.cond (.t 9) (.seq (.reg (tm 4 (.c (.bool false)) .done))
 .ret)
 .skip))
 (.seq (.seq (.reg (tq 10 (.faddr 1 (.t 2)) (tq 11 (.load 1 false (.t 10)) (tq 12 (.faddr 1 (.t 3)) (tq 13 (.load 1 false (.t 12)) (tq 14 (.bin .neq (.t 11) (.t 13)) .done))))))
 (.cond (.t 14) (.seq (.reg (tm 4 (.c (.bool false)) .done))
 .ret)
 .skip))
 (.seq (.seq (.reg (tq 15 (.faddr 2 (.t 2)) (tq 16 (.load 1 false (.t 15)) (tq 17 (.faddr 2 (.t 3)) (tq 18 (.load 1 false (.t 17)) (tq 19 (.bin .neq (.t 16) (.t 18)) .done))))))
 (.cond (.t 19) (.seq (.reg (tm 4 (.c (.bool false)) .done))
 .ret)
 .skip))
 (.seq (.seq (.reg (tq 20 (.faddr 3 (.t 2)) (tq 21 (.load 1 false (.t 20)) (tq 22 (.faddr 3 (.t 3)) (tq 23 (.load 1 false (.t 22)) (tq 24 (.call 45 [(.t 21), (.t 23)]) (tq 25 (.not (.t 24)) .done)))))))
 (.cond (.t 25) (.seq (.reg (tm 4 (.c (.bool false)) .done))
 .ret)
 .skip))
 (.seq (.seq (.reg (tq 26 (.faddr 4 (.t 2)) (tq 27 (.load 1 false (.t 26)) (tq 28 (.faddr 4 (.t 3)) (tq 29 (.load 1 false (.t 28)) (tq 30 (.call 163 [(.t 27), (.t 29)]) (tq 31 (.not (.t 30)) .done)))))))
 (.cond (.t 31) (.seq (.reg (tm 4 (.c (.bool false)) .done))
 .ret)
 .skip))
 (.seq (.reg (tm 4 (.c (.bool true)) .done))
 .ret)))))))
theorem fc76 : fcomp Try.prog Try.f76 = some (c76.erase, [.mov (.t 4)], 32) := by kernel_rfl
def laws_eqResult (a_1 : GResult) (b_2 : GResult) : Option Bool :=
    if (a_1.Code != b_2.Code) then
    some false
    else
    if (a_1.Count != b_2.Count) then
    some false
    else
    if (a_1.Id != b_2.Id) then
    some false
    else
    (laws_eqStringS a_1.Columns b_2.Columns).bind fun r_6 =>
    if (!r_6) then
    some false
    else
    (laws_eqRowS a_1.Rows b_2.Rows).bind fun r_9 =>
    if (!r_9) then
    some false
    else
    some true
theorem w_laws_eqResult (a_1 : GResult) (b_2 : GResult) (r : Bool) (hf : laws_eqResult a_1 b_2 = some r) : CallOK Try.prog 76 .flat [(encGResult a_1), (encGResult b_2)] (.bool r) := by
 refine CallOK.of_awp mixed Try.func76 fc76 nle ?_; rw [argT_eq]; unfold laws_eqResult at hf; unfold c76; refine (show awp Try.prog false 0 _ (ofL [(0, (encGResult a_1)), (1, (encGResult b_2))]) [] _ from ?_); refine awp_seq <| w_reg <| s_do (o_box (j := 0) (c := (.agg [(.int .i64 a_1.Code), (.int .i64 a_1.Count), (.int .i64 a_1.Id), (.lst 1 (a_1.Columns.map AV.str)), (.lst 2 (a_1.Rows.map encGRow))])) rfl trivial rfl rfl) <| s_do (o_box (j := 1) (c := (.agg [(.int .i64 b_2.Code), (.int .i64 b_2.Count), (.int .i64 b_2.Id), (.lst 1 (b_2.Columns.map AV.str)), (.lst 2 (b_2.Rows.map encGRow))])) rfl trivial rfl rfl) <| s_mov (.bool false) rfl <| w_done <| k_seq <| awp_seq <| awp_seq <| w_reg <| s_q (.ptr 0 0 0) rfl trivial rfl <| ?_
 refine s_q (.int .i64 a_1.Code) rfl nle rfl <| s_q (.ptr 1 0 0) rfl trivial rfl <| s_q (.int .i64 b_2.Code) rfl nle rfl <| s_q (.bool (a_1.Code != b_2.Code)) rfl rfl rfl <| w_done <| k_seq <| ?_
 rcases oi hf with ⟨c3, hf⟩ | ⟨c3, hf⟩
 ·refine w_condt rfl c3 <| awp_seq <| w_reg <| s_mov (.bool false) rfl <| w_done <| k_seq <| w_ret <| ?_; obtain rfl := os hf; exact r_flat ⟨trivial, trivial⟩ rfl (.refl _)
 ·refine w_condf rfl (bf c3) <| w_skip <| k_seq <| awp_seq <| awp_seq <| w_reg <| s_q (.ptr 0 0 1) rfl trivial rfl <| s_q (.int .i64 a_1.Count) rfl nle rfl <| s_q (.ptr 1 0 1) rfl trivial rfl <| s_q (.int .i64 b_2.Count) rfl nle rfl <| s_q (.bool (a_1.Count != b_2.Count)) rfl rfl rfl <| w_done <| k_seq <| ?_
  rcases oi hf with ⟨c4, hf⟩ | ⟨c4, hf⟩
  ·refine w_condt rfl c4 <| awp_seq <| w_reg <| s_mov (.bool false) rfl <| w_done <| k_seq <| w_ret <| ?_; obtain rfl := os hf; exact r_flat ⟨trivial, trivial⟩ rfl (.refl _)
  ·refine w_condf rfl (bf c4) <| w_skip <| k_seq <| awp_seq <| awp_seq <| w_reg <| s_q (.ptr 0 0 2) rfl trivial rfl <| s_q (.int .i64 a_1.Id) rfl nle rfl <| s_q (.ptr 1 0 2) rfl trivial rfl <| s_q (.int .i64 b_2.Id) rfl nle rfl <| s_q (.bool (a_1.Id != b_2.Id)) rfl rfl rfl <| w_done <| k_seq <| ?_
   rcases oi hf with ⟨c5, hf⟩ | ⟨c5, hf⟩
   ·refine w_condt rfl c5 <| awp_seq <| w_reg <| s_mov (.bool false) rfl <| w_done <| k_seq <| w_ret <| ?_; obtain rfl := os hf; exact r_flat ⟨trivial, trivial⟩ rfl (.refl _)
   ·refine w_condf rfl (bf c5) <| w_skip <| k_seq <| awp_seq <| awp_seq <| w_reg <| ?_
    obtain ⟨r_6, er7, hf⟩ := ob hf
    refine s_q (.ptr 0 0 3) rfl trivial rfl <| s_q (.lst 1 (a_1.Columns.map AV.str)) rfl nle rfl <| s_q (.ptr 1 0 3) rfl trivial rfl <| s_q (.lst 1 (b_2.Columns.map AV.str)) rfl nle rfl <| s_do (o_call (w_laws_eqStringS _ _ _ er7) rfl (.refl _) rfl) <| s_q (.bool (!r_6)) rfl trivial rfl <| w_done <| k_seq <| ?_
    rcases oi hf with ⟨c8, hf⟩ | ⟨c8, hf⟩
    ·refine w_condt rfl c8 <| awp_seq <| w_reg <| s_mov (.bool false) rfl <| w_done <| k_seq <| w_ret <| ?_; obtain rfl := os hf; exact r_flat ⟨trivial, trivial⟩ rfl (.refl _)
    ·refine w_condf rfl (bf c8) <| w_skip <| k_seq <| awp_seq <| awp_seq <| w_reg <| ?_
     obtain ⟨r_9, er10, hf⟩ := ob hf
     refine s_q (.ptr 0 0 4) rfl trivial rfl <| s_q (.lst 2 (a_1.Rows.map encGRow)) rfl nle rfl <| s_q (.ptr 1 0 4) rfl trivial rfl <| s_q (.lst 2 (b_2.Rows.map encGRow)) rfl nle rfl <| s_do (o_call (w_laws_eqRowS _ _ _ er10) rfl (.refl _) rfl) <| s_q (.bool (!r_9)) rfl trivial rfl <| w_done <| k_seq <| ?_
     rcases oi hf with ⟨c11, hf⟩ | ⟨c11, hf⟩
     ·refine w_condt rfl c11 <| awp_seq <| w_reg <| s_mov (.bool false) rfl <| w_done <| k_seq <| w_ret <| ?_; obtain rfl := os hf; exact r_flat ⟨trivial, trivial⟩ rfl (.refl _)
     ·refine w_condf rfl (bf c11) <| w_skip <| k_seq <| awp_seq <| w_reg <| s_mov (.bool true) rfl <| w_done <| k_seq <| w_ret <| ?_; obtain rfl := os hf; exact r_flat ⟨trivial, trivial⟩ rfl (.refl _)

/- laws.eqResultS -/
def c15 : ACode :=
 (.seq (.reg (tm 4 (.c (.bool false)) .done))
 (.seq (.seq (.reg (tm 6 (.t 0) (tq 7 (.len (.t 6)) (tm 8 (.t 1) (tq 9 (.len (.t 8)) (tq 10 (.bin .neq (.t 7) (.t 9)) .done))))))
 (.cond (.t 10) (.seq (.reg (tm 4 (.c (.bool false)) .done))
 .ret)
 .skip))
 (.seq (.seq (.reg (tm 5 (.c (.int .i64 0)) .done))
 (.block 0 (.loop (.seq (.seq (.reg (tm 11 (.t 5) (tm 12 (.t 0) (tq 13 (.len (.t 12)) (tq 14 (.bin .lss (.t 11) (.t 13)) .done)))))
 (.cond (.t 14) .skip
 (.exit 0)))
 (.seq (.block 1 (.seq (.reg (tm 17 (.t 0) (tm 18 (.t 5) (tq 19 (.iaddr 5 (.t 17) (.t 18)) (tq 20 (.load 5 true (.t 19)) (tm 21 (.t 1) (tm 22 (.t 5) (tq 23 (.iaddr 5 (.t 21) (.t 22)) (tq 24 (.load 5 true (.t 23)) (.l ⟨(some 25), none, .call 76 [(.t 20), (.t 24)]⟩ []
 (tq 26 (.not (.t 25)) .done) .non))))))))))
 (.cond (.t 26) (.seq (.reg (tm 4 (.c (.bool false)) .done))
 .ret)
 .skip)))
 (.reg (tm 15 (.t 5) (tq 16 (.bin .add (.t 15) (.c (.int .i64 1))) (tm 5 (.t 16) .done)))))))))
 (.cut (.seq (.reg (tm 4 (.c (.bool true)) .done))
 .ret)))))
theorem fc15 : fcomp Try.prog Try.f15 = some (c15.erase, [.mov (.t 4)], 27) := by kernel_rfl
def laws_eqResultS_L1 (b_2 : (List GResult)) : List GResult → Nat → Option (Fl Bool Unit)
  | [], i_25 =>
    some (.go ())
  | x_43 :: xs, i_25 =>
    (idx b_2 (i_25 : Int)).bind fun x_46 =>
    (laws_eqResult x_43 x_46).bind fun r_48 =>
    if (!r_48) then
    some (.ret false)
    else
    laws_eqResultS_L1 b_2 xs (i_25 + 1)

def laws_eqResultS (a_1 : (List GResult)) (b_2 : (List GResult)) : Option Bool :=
    if ((a_1.length : Int) != (b_2.length : Int)) then
    some false
    else
    (laws_eqResultS_L1 b_2 a_1 0).bind fun q => (match q with
    | .ret r => some r
    | .go _ =>
    some true)
theorem w_laws_eqResultS (a_1 : (List GResult)) (b_2 : (List GResult)) (r : Bool) (hf : laws_eqResultS a_1 b_2 = some r) : CallOK Try.prog 15 .flat [(.lst 5 (a_1.map encGResult)), (.lst 5 (b_2.map encGResult))] (.bool r) := by
 refine CallOK.of_awp mixed Try.func15 fc15 nle ?_; rw [argT_eq]; unfold laws_eqResultS at hf; unfold c15; refine (show awp Try.prog false 0 _ (ofL [(0, (.lst 5 (a_1.map encGResult))), (1, (.lst 5 (b_2.map encGResult)))]) [] _ from ?_); refine awp_seq <| w_reg <| s_mov (.bool false) rfl <| w_done <| k_seq <| awp_seq <| awp_seq <| w_reg <| s_mov (.lst 5 (a_1.map encGResult)) rfl <| s_dof (o_len (enc := encGResult) rfl) fun hl3 => s_mov (.lst 5 (b_2.map encGResult)) rfl <| s_dof (o_len (enc := encGResult) rfl) fun hl4 => s_q (.bool ((a_1.length : Int) != (b_2.length : Int))) rfl rfl rfl <| w_done <| k_seq <| ?_
 rcases oi hf with ⟨c5, hf⟩ | ⟨c5, hf⟩
 ·refine w_condt rfl c5 <| awp_seq <| w_reg <| s_mov (.bool false) rfl <| w_done <| k_seq <| w_ret <| ?_; obtain rfl := os hf; exact r_flat ⟨trivial, trivial⟩ rfl (.refl _)
 ·refine w_condf rfl (bf c5) <| w_skip <| k_seq <| awp_seq <| awp_seq <| w_reg <| s_mov (.int .i64 0) rfl <| w_done <| k_seq <| ?_
  obtain ⟨p36, hb1, hf⟩ := ob hf
  refine awp_cutx (X := {q : Unit // p36 = .go q}) (fun q => ([], [])) ?_ ?_
  ·refine awp_loop (X := {q : Nat // laws_eqResultS_L1 b_2 (a_1.drop q) q = some p36}) (fun q => ([(0, (.lst 5 (a_1.map encGResult))), (1, (.lst 5 (b_2.map encGResult))), (5, (.int .i64 (q.1 : Int)))], [])) (fun q => a_1.length - q.1) ⟨0, hb1⟩ ⟨[], [], _, _, rfl, rfl, ⟨.refl _, ⟨.refl _, ⟨.refl _, trivial⟩⟩⟩, (.refl _)⟩ ?_
   rintro ⟨i_25, hc1⟩
   have hc1 : laws_eqResultS_L1 b_2 (a_1.drop i_25) i_25 = some p36 := hc1
   refine (show awp Try.prog false 0 _ (ofL [(0, (.lst 5 (a_1.map encGResult))), (1, (.lst 5 (b_2.map encGResult))), (5, (.int .i64 (i_25 : Int)))]) [] _ from ?_)
   rcases dropc a_1 i_25 with ⟨hie39, hd42⟩ | ⟨hlt37, x_43, hx38, hd42⟩
   ·rw [hd42, laws_eqResultS_L1.eq_1] at hc1
    have hq41 := dlf hie39
    refine awp_seq <| awp_seq <| w_reg <| s_mov (.int .i64 (i_25 : Int)) rfl <| s_mov (.lst 5 (a_1.map encGResult)) rfl <| s_dof (o_len (enc := encGResult) rfl) fun hl44 => s_q (.bool (decide ((i_25 : Int) < (a_1.length : Int)))) rfl rfl rfl <| w_done <| k_seq <| w_condf rfl hq41 <| w_exit <| k_seqx <| k_loopx <| k_blkx <| ?_; obtain rfl := os hc1; exact k_cutn ⟨_, rfl⟩ ⟨[], [], _, _, rfl, rfl, trivial, (.refl _)⟩
   ·rw [hd42, laws_eqResultS_L1.eq_2] at hc1
    have hq41 := dlt hlt37
    refine awp_seq <| awp_seq <| w_reg <| s_mov (.int .i64 (i_25 : Int)) rfl <| s_mov (.lst 5 (a_1.map encGResult)) rfl <| s_dof (o_len (enc := encGResult) rfl) fun hl45 => s_q (.bool (decide ((i_25 : Int) < (a_1.length : Int)))) rfl rfl rfl <| w_done <| k_seq <| w_condt rfl hq41 <| w_skip <| k_seq <| awp_seq <| w_blk <| awp_seq <| w_reg <| ?_
    obtain ⟨x_46, ex47, hc1⟩ := ob hc1
    obtain ⟨r_48, er49, hc1⟩ := ob hc1
    refine s_mov (.lst 5 (a_1.map encGResult)) rfl <| s_mov (.int .i64 (i_25 : Int)) rfl <| s_do (o_iaddrn (enc := encGResult) rfl rfl hx38) <| s_q (encGResult x_43) rfl nle rfl <| s_mov (.lst 5 (b_2.map encGResult)) rfl <| s_mov (.int .i64 (i_25 : Int)) rfl <| s_do (o_iaddr (enc := encGResult) rfl rfl (idx0 ex47) (idx1 ex47)) <| s_q (encGResult x_46) rfl nle rfl <| s_dol (o_call (w_laws_eqResult _ _ _ er49) rfl (.refl _) rfl) a_same trivial <| s_q (.bool (!r_48)) rfl trivial rfl <| w_done <| k_seq <| ?_
    rcases oi hc1 with ⟨c50, hc1⟩ | ⟨c50, hc1⟩
    ·refine w_condt rfl c50 <| awp_seq <| w_reg <| s_mov (.bool false) rfl <| w_done <| k_seq <| w_ret <| ?_; obtain rfl := os hc1; obtain rfl := os hf; exact r_flat ⟨trivial, trivial⟩ rfl (.refl _)
    ·refine w_condf rfl (bf c50) <| w_skip <| k_blk <| k_seq <| w_reg <| s_mov (.int .i64 (i_25 : Int)) rfl <| s_q (.int .i64 (w64 ((i_25 : Int) + 1))) rfl rfl rfl <| s_mov (.int .i64 (w64 ((i_25 : Int) + 1))) rfl <| w_done <| ?_; exact k_loopn ⟨(i_25 + 1), hc1⟩ (mul hlt37) ⟨[], [], _, _, rfl, rfl, ⟨.refl _, ⟨.refl _, ⟨.of_eq (congrArg (AV.int _) (w64_incr hlt37 hl45)), trivial⟩⟩⟩, (.refl _)⟩
  ·rintro ⟨_, rfl⟩
   refine awp_seq <| w_reg <| s_mov (.bool true) rfl <| w_done <| k_seq <| w_ret <| ?_; obtain rfl := os hf; exact r_flat ⟨trivial, trivial⟩ rfl (.refl _)

/- laws.FnExactFailed -/
def c3 : ACode :=
 (.seq (.reg (tm 2 (.c (.bool false)) .done))
 (.seq (.reg (tm 3 (.c (.int .i64 1048576)) .done))
 (.seq (.reg (tm 9 (.t 0) (tm 10 (.t 3) (tq 11 (.call 11 [(.t 9), (.t 10)]) (tm 3 (.t 11) .done)))))
 (.seq (.seq (.reg (tm 12 (.t 3) (tq 13 (.bin .lss (.t 12) (.c (.int .i64 0))) .done)))
 (.cond (.t 13) (.seq (.reg (tm 2 (.c (.bool true)) .done))
 .ret)
 .skip))
 (.seq (.reg (tm 15 (.t 0) (tq 16 (.call 13 [(.t 15)]) (tq 17 (.call 12 [(.t 16)]) (tm 14 (.t 17) (tq 18 (.extract 0 (.t 14)) (tq 19 (.extract 1 (.t 14)) (tm 4 (.t 18) (tm 5 (.t 19) .done)))))))))
 (.seq (.reg (tm 20 (.t 0) (tq 21 (.call 13 [(.t 20)]) (tm 6 (.t 21) .done))))
 (.seq (.reg (tm 23 (.t 6) (tq 24 (.call 14 [(.t 23)]) (tm 22 (.t 24) (tq 25 (.extract 0 (.t 22)) (tq 26 (.extract 1 (.t 22)) (tm 7 (.t 25) (tm 8 (.t 26) .done))))))))
 (.seq (.seq (.reg (tm 27 (.t 7) (tm 28 (.t 4) (tq 29 (.eqB true (.t 27) (.t 28)) (tm 30 (.t 29) (tg 31 30 false (.mov (.t 8)) (tg 32 30 false (.mov (.t 5)) (tg 33 30 false (.bin .neq (.t 31) (.t 32)) (tq 34 (.pick (.t 30) (.c (.bool true)) (.t 33)) .done)))))))))
 (.cut (.cond (.t 34) (.seq (.reg (tm 2 (.c (.bool false)) .done))
 .ret)
 .skip)))
 (.seq (.seq (.reg (tm 35 (.t 6) (tm 36 (.t 0) (tq 37 (.call 13 [(.t 36)]) (tq 38 (.call 15 [(.t 35), (.t 37)]) (tq 39 (.not (.t 38)) .done))))))
 (.cond (.t 39) (.seq (.reg (tm 2 (.c (.bool false)) .done))
 .ret)
 .skip))
 (.seq (.reg (tm 2 (.c (.bool true)) .done))
 .ret))))))))))
theorem fc3 : fcomp Try.prog Try.f3 = some (c3.erase, [.mov (.t 2)], 40) := by kernel_rfl
def laws_FnExactFailed (aList_1 : (List GResult)) : Option Bool :=
    (laws_szResultS aList_1 1048576).bind fun r_2 =>
    if (decide (r_2 < 0)) then
    some true
    else
    (laws_toResultS aList_1).bind fun r_5 =>
    (spec_Failed r_5).bind fun r_7 =>
    (laws_toResultS aList_1).bind fun r_9 =>
    (impl_Failed r_9).bind fun r_11 =>
    ((if (!(r_11.1 == r_7.1)) then
    some true
    else
    some (r_11.2 != r_7.2) : Option Bool)).bind fun s34_14 =>
    if s34_14 then
    some false
    else
    (laws_toResultS aList_1).bind fun r_18 =>
    (laws_eqResultS r_9 r_18).bind fun r_20 =>
    if (!r_20) then
    some false
    else
    some true
theorem w_laws_FnExactFailed (aList_1 : (List GResult)) (r : Bool) (hf : laws_FnExactFailed aList_1 = some r) : CallOK Try.prog 3 .flat [(.lst 5 (aList_1.map encGResult))] (.bool r) := by
 refine CallOK.of_awp mixed Try.func3 fc3 nle ?_; rw [argT_eq]; unfold laws_FnExactFailed at hf; unfold c3; refine (show awp Try.prog false 0 _ (ofL [(0, (.lst 5 (aList_1.map encGResult)))]) [] _ from ?_); refine awp_seq <| w_reg <| s_mov (.bool false) rfl <| w_done <| k_seq <| awp_seq <| w_reg <| s_mov (.int .i64 1048576) rfl <| w_done <| k_seq <| awp_seq <| w_reg <| ?_
 obtain ⟨r_2, er3, hf⟩ := ob hf
 refine s_mov (.lst 5 (aList_1.map encGResult)) rfl <| s_mov (.int .i64 1048576) rfl <| s_do (o_call (w_laws_szResultS _ _ _ er3) rfl (.refl _) rfl) <| s_mov (.int .i64 r_2) rfl <| w_done <| k_seq <| awp_seq <| awp_seq <| w_reg <| s_mov (.int .i64 r_2) rfl <| s_q (.bool (decide (r_2 < 0))) rfl rfl rfl <| w_done <| k_seq <| ?_
 rcases oi hf with ⟨c4, hf⟩ | ⟨c4, hf⟩
 ·refine w_condt rfl c4 <| awp_seq <| w_reg <| s_mov (.bool true) rfl <| w_done <| k_seq <| w_ret <| ?_; obtain rfl := os hf; exact r_flat ⟨trivial, trivial⟩ rfl (.refl _)
 ·refine w_condf rfl (bf c4) <| w_skip <| k_seq <| awp_seq <| w_reg <| ?_
  obtain ⟨r_5, er6, hf⟩ := ob hf
  obtain ⟨r_7, er8, hf⟩ := ob hf
  refine s_mov (.lst 5 (aList_1.map encGResult)) rfl <| s_do (o_callc rfl (w_laws_toResultS _ _ er6) rfl (.refl _) rfl) <| s_do (o_call (w_spec_Failed _ _ er8) rfl (.refl _) rfl) <| s_mov (.tup [(.bool r_7.1), (.int .i64 r_7.2)]) rfl <| s_q (.bool r_7.1) rfl nle rfl <| s_q (.int .i64 r_7.2) rfl nle rfl <| s_mov (.bool r_7.1) rfl <| s_mov (.int .i64 r_7.2) rfl <| w_done <| k_seq <| awp_seq <| w_reg <| ?_
  obtain ⟨r_9, er10, hf⟩ := ob hf
  refine s_mov (.lst 5 (aList_1.map encGResult)) rfl <| s_do (o_callc rfl (w_laws_toResultS _ _ er10) rfl (.refl _) rfl) <| s_mov (.lst 5 (r_9.map encGResult)) rfl <| w_done <| k_seq <| awp_seq <| w_reg <| ?_
  obtain ⟨r_11, er12, hf⟩ := ob hf
  refine s_mov (.lst 5 (r_9.map encGResult)) rfl <| s_do (o_call (w_impl_Failed _ _ er12) rfl (.refl _) rfl) <| s_mov (.tup [(.bool r_11.1), (.int .i64 r_11.2)]) rfl <| s_q (.bool r_11.1) rfl nle rfl <| s_q (.int .i64 r_11.2) rfl nle rfl <| s_mov (.bool r_11.1) rfl <| s_mov (.int .i64 r_11.2) rfl <| w_done <| k_seq <| awp_seq <| awp_seq <| ?_
  obtain ⟨s34_14, hb1, hf⟩ := ob hf
  refine awp_cut ([(0, (.lst 5 (aList_1.map encGResult))), (6, (.lst 5 (r_9.map encGResult))), (34, (.bool s34_14))], []) ?_ ?_
  ·refine w_reg ?_
   rcases oi hb1 with ⟨c16, hb1⟩ | ⟨c16, hb1⟩
   ·refine s_mov (.bool r_11.1) rfl <| s_mov (.bool r_7.1) rfl <| s_q (.bool (!(r_11.1 == r_7.1))) rfl trivial rfl <| s_mov (.bool (!(r_11.1 == r_7.1))) rfl <| s_lit (s := 30) (b := true) rfl c16 <| s_off rfl rfl <| s_off rfl rfl <| s_off rfl rfl <| s_q (.bool true) rfl trivial rfl <| w_done <| ?_; obtain rfl := os hb1; exact ⟨[], [], _, _, rfl, rfl, ⟨.refl _, ⟨.refl _, ⟨.refl _, trivial⟩⟩⟩, (.refl _)⟩
   ·refine s_mov (.bool r_11.1) rfl <| s_mov (.bool r_7.1) rfl <| s_q (.bool (!(r_11.1 == r_7.1))) rfl trivial rfl <| s_mov (.bool (!(r_11.1 == r_7.1))) rfl <| s_lit (s := 30) (b := false) rfl (bf c16) <| s_on rfl <| s_mov (.int .i64 r_11.2) rfl <| s_on rfl <| s_mov (.int .i64 r_7.2) rfl <| s_on rfl <| s_q (.bool (r_11.2 != r_7.2)) rfl rfl rfl <| s_q (.bool (r_11.2 != r_7.2)) rfl trivial rfl <| w_done <| ?_; obtain rfl := os hb1; exact ⟨[], [], _, _, rfl, rfl, ⟨.refl _, ⟨.refl _, ⟨.refl _, trivial⟩⟩⟩, (.refl _)⟩
  ·rcases oi hf with ⟨c17, hf⟩ | ⟨c17, hf⟩
   ·refine w_condt rfl c17 <| awp_seq <| w_reg <| s_mov (.bool false) rfl <| w_done <| k_seq <| w_ret <| ?_; obtain rfl := os hf; exact r_flat ⟨trivial, trivial⟩ rfl (.refl _)
   ·refine w_condf rfl (bf c17) <| w_skip <| k_seq <| awp_seq <| awp_seq <| w_reg <| ?_
    obtain ⟨r_18, er19, hf⟩ := ob hf
    obtain ⟨r_20, er21, hf⟩ := ob hf
    refine s_mov (.lst 5 (r_9.map encGResult)) rfl <| s_mov (.lst 5 (aList_1.map encGResult)) rfl <| s_do (o_callc rfl (w_laws_toResultS _ _ er19) rfl (.refl _) rfl) <| s_do (o_call (w_laws_eqResultS _ _ _ er21) rfl (.refl _) rfl) <| s_q (.bool (!r_20)) rfl trivial rfl <| w_done <| k_seq <| ?_
    rcases oi hf with ⟨c22, hf⟩ | ⟨c22, hf⟩
    ·refine w_condt rfl c22 <| awp_seq <| w_reg <| s_mov (.bool false) rfl <| w_done <| k_seq <| w_ret <| ?_; obtain rfl := os hf; exact r_flat ⟨trivial, trivial⟩ rfl (.refl _)
    ·refine w_condf rfl (bf c22) <| w_skip <| k_seq <| awp_seq <| w_reg <| s_mov (.bool true) rfl <| w_done <| k_seq <| w_ret <| ?_; obtain rfl := os hf; exact r_flat ⟨trivial, trivial⟩ rfl (.refl _)

end Go.R
