/- Walks. -/
import Derived.Test.YtgmkibkmcohikaaRQ1
set_option linter.all false
namespace Go.R
open Go Go.Proofs
set_option linter.unusedVariables false
set_option linter.unusedSimpArgs false
set_option maxHeartbeats 8000000
/- (impl.Json).partOK -/
def c212 : ACode :=
 (.seq (.reg (tq 1 (.box 5 (.t 0)) (tm 2 (.c (.bool false)) .done)))
 (.seq (.seq (.reg (tq 3 (.faddr 0 (.t 1)) (tq 4 (.load 1 false (.t 3)) .done)))
 (.block 0 (.seq (.reg (tq 6 (.bin .eql (.t 4) (.c (.int .i64 0))) (tm 5 (.t 6) .done)))
 (.cond (.t 5) (.seq (.reg (tq 7 (.faddr 1 (.t 1)) (tq 8 (.load 1 false (.t 7)) (tq 9 (.bin .eql (.t 8) (.c (.int .i64 0))) (tm 10 (.t 9) (tg 11 10 true (.faddr 2 (.t 1)) (tg 12 10 true (.load 1 false (.t 11)) (tg 13 10 true (.bin .eql (.t 12) (.c (.str []))) (tq 14 (.pick (.t 10) (.t 13) (.c (.bool false))) (tm 15 (.t 14) (tg 16 15 true (.faddr 3 (.t 1)) (tg 17 15 true (.load 1 false (.t 16)) (tg 18 15 true (.len (.t 17)) (tg 19 15 true (.bin .eql (.t 18) (.c (.int .i64 0))) (tq 20 (.pick (.t 15) (.t 19) (.c (.bool false))) (tm 21 (.t 20) (tg 22 21 true (.faddr 4 (.t 1)) (tg 23 21 true (.load 1 false (.t 22)) (tg 24 21 true (.len (.t 23)) (tg 25 21 true (.bin .eql (.t 24) (.c (.int .i64 0))) (tq 26 (.pick (.t 21) (.t 25) (.c (.bool false))) (tm 2 (.t 26) .done))))))))))))))))))))))
 .ret)
 (.seq (.reg (tq 28 (.bin .eql (.t 4) (.c (.int .i64 1))) (tm 27 (.t 28) .done)))
 (.cond (.t 27) (.seq (.reg (tq 29 (.faddr 1 (.t 1)) (tq 30 (.load 1 false (.t 29)) (tq 31 (.call 86 [(.t 30), (.c (.int .i64 0)), (.c (.int .i64 1))]) (tm 32 (.t 31) (tg 33 32 true (.faddr 2 (.t 1)) (tg 34 32 true (.load 1 false (.t 33)) (tg 35 32 true (.bin .eql (.t 34) (.c (.str []))) (tq 36 (.pick (.t 32) (.t 35) (.c (.bool false))) (tm 37 (.t 36) (tg 38 37 true (.faddr 3 (.t 1)) (tg 39 37 true (.load 1 false (.t 38)) (tg 40 37 true (.len (.t 39)) (tg 41 37 true (.bin .eql (.t 40) (.c (.int .i64 0))) (tq 42 (.pick (.t 37) (.t 41) (.c (.bool false))) (tm 43 (.t 42) (tg 44 43 true (.faddr 4 (.t 1)) (tg 45 43 true (.load 1 false (.t 44)) (tg 46 43 true (.len (.t 45)) (tg 47 43 true (.bin .eql (.t 46) (.c (.int .i64 0))) (tq 48 (.pick (.t 43) (.t 47) (.c (.bool false))) (tm 2 (.t 48) .done))))))))))))))))))))))
 .ret)
 (.seq (.reg (tq 50 (.bin .eql (.t 4) (.c (.int .i64 2))) (tm 49 (.t 50) .done)))
 (.cond (.t 49) (.seq (.reg (tq 51 (.faddr 1 (.t 1)) (tq 52 (.load 1 false (.t 51)) (tq 53 (.call 136 [(.t 52)]) (tm 54 (.t 53) (tg 55 54 true (.faddr 2 (.t 1)) (tg 56 54 true (.load 1 false (.t 55)) (tg 57 54 true (.bin .eql (.t 56) (.c (.str []))) (tq 58 (.pick (.t 54) (.t 57) (.c (.bool false))) (tm 59 (.t 58) (tg 60 59 true (.faddr 3 (.t 1)) (tg 61 59 true (.load 1 false (.t 60)) (tg 62 59 true (.len (.t 61)) (tg 63 59 true (.bin .eql (.t 62) (.c (.int .i64 0))) (tq 64 (.pick (.t 59) (.t 63) (.c (.bool false))) (tm 65 (.t 64) (tg 66 65 true (.faddr 4 (.t 1)) (tg 67 65 true (.load 1 false (.t 66)) (tg 68 65 true (.len (.t 67)) (tg 69 65 true (.bin .eql (.t 68) (.c (.int .i64 0))) (tq 70 (.pick (.t 65) (.t 69) (.c (.bool false))) (tm 2 (.t 70) .done))))))))))))))))))))))
 .ret)
 (.seq (.reg (tq 72 (.bin .eql (.t 4) (.c (.int .i64 3))) (tm 71 (.t 72) .done)))
 (.cond (.t 71) (.seq (.reg (tq 73 (.faddr 1 (.t 1)) (tq 74 (.load 1 false (.t 73)) (tq 75 (.bin .eql (.t 74) (.c (.int .i64 0))) (tm 76 (.t 75) (tg 77 76 true (.faddr 2 (.t 1)) (tg 78 76 true (.load 1 false (.t 77)) (tg 79 76 true (.call 174 [(.t 78)]) (tq 80 (.pick (.t 76) (.t 79) (.c (.bool false))) (tm 81 (.t 80) (tg 82 81 true (.faddr 3 (.t 1)) (tg 83 81 true (.load 1 false (.t 82)) (tg 84 81 true (.len (.t 83)) (tg 85 81 true (.bin .eql (.t 84) (.c (.int .i64 0))) (tq 86 (.pick (.t 81) (.t 85) (.c (.bool false))) (tm 87 (.t 86) (tg 88 87 true (.faddr 4 (.t 1)) (tg 89 87 true (.load 1 false (.t 88)) (tg 90 87 true (.len (.t 89)) (tg 91 87 true (.bin .eql (.t 90) (.c (.int .i64 0))) (tq 92 (.pick (.t 87) (.t 91) (.c (.bool false))) (tm 2 (.t 92) .done))))))))))))))))))))))
 .ret)
 (.seq (.reg (tq 94 (.bin .eql (.t 4) (.c (.int .i64 4))) (tm 93 (.t 94) .done)))
 (.cond (.t 93) (.seq (.reg (tq 95 (.faddr 1 (.t 1)) (tq 96 (.load 1 false (.t 95)) (tq 97 (.bin .eql (.t 96) (.c (.int .i64 0))) (tm 98 (.t 97) (tg 99 98 true (.faddr 2 (.t 1)) (tg 100 98 true (.load 1 false (.t 99)) (tg 101 98 true (.bin .eql (.t 100) (.c (.str []))) (tq 102 (.pick (.t 98) (.t 101) (.c (.bool false))) (tm 103 (.t 102) (tg 104 103 true (.faddr 3 (.t 1)) (tg 105 103 true (.load 1 false (.t 104)) (tg 106 103 true (.len (.t 105)) (tg 107 103 true (.bin .eql (.t 106) (.c (.int .i64 0))) (tq 108 (.pick (.t 103) (.t 107) (.c (.bool false))) (tm 2 (.t 108) .done))))))))))))))))
 .ret)
 (.seq (.reg (tq 110 (.bin .eql (.t 4) (.c (.int .i64 5))) (tm 109 (.t 110) .done)))
 (.cond (.t 109) (.seq (.reg (tq 111 (.faddr 1 (.t 1)) (tq 112 (.load 1 false (.t 111)) (tq 113 (.bin .eql (.t 112) (.c (.int .i64 0))) (tm 114 (.t 113) (tg 115 114 true (.faddr 2 (.t 1)) (tg 116 114 true (.load 1 false (.t 115)) (tg 117 114 true (.bin .eql (.t 116) (.c (.str []))) (tq 118 (.pick (.t 114) (.t 117) (.c (.bool false))) (tm 119 (.t 118) (tg 120 119 true (.faddr 3 (.t 1)) (tg 121 119 true (.load 1 false (.t 120)) (tg 122 119 true (.len (.t 121)) (tg 123 119 true (.faddr 4 (.t 1)) (tg 124 119 true (.load 1 false (.t 123)) (tg 125 119 true (.len (.t 124)) (tg 126 119 true (.bin .eql (.t 122) (.t 125)) (tq 127 (.pick (.t 119) (.t 126) (.c (.bool false))) (tm 128 (.t 127) (tg 129 128 true (.faddr 3 (.t 1)) (tg 130 128 true (.load 1 false (.t 129)) (tg 131 128 true (.call 226 [(.t 130)]) (tq 132 (.pick (.t 128) (.t 131) (.c (.bool false))) (tm 2 (.t 132) .done))))))))))))))))))))))))
 .ret)
 .skip))))))))))))))
 (.seq (.reg (tm 2 (.c (.bool false)) .done))
 .ret)))
theorem fc212 : fcomp Try.prog Try.f212 = some (c212.erase, [.mov (.t 2)], 133) := by kernel_rfl
def impl_Json_partOK (j_1 : GJson) : Option Bool :=
    if (j_1.Kind == 0) then
    some (bif (bif (bif (j_1.N == 0) then (j_1.T == []) else false) then ((j_1.Keys.length : Int) == 0) else false) then ((j_1.Items.length : Int) == 0) else false)
    else
    if (j_1.Kind == 1) then
    (impl_within j_1.N 0 1).bind fun r_6 =>
    some (bif (bif (bif r_6 then (j_1.T == []) else false) then ((j_1.Keys.length : Int) == 0) else false) then ((j_1.Items.length : Int) == 0) else false)
    else
    if (j_1.Kind == 2) then
    (impl_isNumber j_1.N).bind fun r_11 =>
    some (bif (bif (bif r_11 then (j_1.T == []) else false) then ((j_1.Keys.length : Int) == 0) else false) then ((j_1.Items.length : Int) == 0) else false)
    else
    if (j_1.Kind == 3) then
    if (j_1.N == 0) then
    (impl_isPlain j_1.T).bind fun r_17 =>
    some (bif (bif r_17 then ((j_1.Keys.length : Int) == 0) else false) then ((j_1.Items.length : Int) == 0) else false)
    else
    some false
    else
    if (j_1.Kind == 4) then
    some (bif (bif (j_1.N == 0) then (j_1.T == []) else false) then ((j_1.Keys.length : Int) == 0) else false)
    else
    if (j_1.Kind == 5) then
    if (bif (bif (j_1.N == 0) then (j_1.T == []) else false) then ((j_1.Keys.length : Int) == (j_1.Items.length : Int)) else false) then
    (impl_areKeys j_1.Keys).bind fun r_27 =>
    some r_27
    else
    some false
    else
    some false
theorem w_impl_Json_partOK (j_1 : GJson) (r : Bool) (hf : impl_Json_partOK j_1 = some r) : CallOK Try.prog 212 .flat [(encGJson j_1)] (.bool r) := by
 refine CallOK.of_awp mixed Try.func212 fc212 nle ?_; rw [argT_eq]; rw [encGJson_eq j_1]; unfold impl_Json_partOK at hf; unfold c212; refine (show awp Try.prog false 0 _ (ofL [(0, (.agg [(.int .i64 j_1.Kind), (.int .i64 j_1.N), (.str j_1.T), (.lst 1 (j_1.Keys.map AV.str)), (.lst 5 (j_1.Items.map encGJson))]))]) [] _ from ?_); refine awp_seq <| w_reg <| s_do (o_box (j := 0) (c := (.agg [(.int .i64 j_1.Kind), (.int .i64 j_1.N), (.str j_1.T), (.lst 1 (j_1.Keys.map AV.str)), (.lst 5 (j_1.Items.map encGJson))])) rfl trivial rfl rfl) <| s_mov (.bool false) rfl <| w_done <| k_seq <| awp_seq <| awp_seq <| w_reg <| s_q (.ptr 0 0 0) rfl trivial rfl <| s_q (.int .i64 j_1.Kind) rfl nle rfl <| w_done <| k_seq <| w_blk <| awp_seq <| w_reg <| ?_
 refine s_q (.bool (j_1.Kind == 0)) rfl rfl rfl <| s_mov (.bool (j_1.Kind == 0)) rfl <| w_done <| k_seq <| ?_
 rcases oi hf with ⟨c2, hf⟩ | ⟨c2, hf⟩
 ·refine w_condt rfl c2 <| awp_seq <| w_reg <| s_q (.ptr 0 0 1) rfl trivial rfl <| s_q (.int .i64 j_1.N) rfl nle rfl <| s_q (.bool (j_1.N == 0)) rfl rfl rfl <| s_mov (.bool (j_1.N == 0)) rfl <| ?_; refine s_g (v := (j_1.N == 0)) (.ptr 0 0 2) rfl (fun hv => by (try simp only [gs_on hv]); exact ⟨rfl, trivial, rfl⟩) ?_; refine s_g (v := (j_1.N == 0)) (.str j_1.T) rfl (fun hv => by (try simp only [gs_on hv]); exact ⟨rfl, nle, rfl⟩) ?_; refine s_g (v := (j_1.N == 0)) (.bool (j_1.T == [])) rfl (fun hv => by (try simp only [gs_on hv]); exact ⟨rfl, trivial, rfl⟩) ?_; refine s_pick (x := (j_1.T == [])) (y := false) rfl (fun hv => by (try simp only [gs_on hv]); rfl) (fun hv => by (try simp only [gs_on hv]); rfl) ?_; refine s_mov (.bool (bif (j_1.N == 0) then (j_1.T == []) else false)) rfl ?_
  refine s_g (v := (bif (j_1.N == 0) then (j_1.T == []) else false)) (.ptr 0 0 3) rfl (fun hv => by (try simp only [gs_on hv]); exact ⟨rfl, trivial, rfl⟩) ?_; refine s_g (v := (bif (j_1.N == 0) then (j_1.T == []) else false)) (.lst 1 (j_1.Keys.map AV.str)) rfl (fun hv => by (try simp only [gs_on hv]); exact ⟨rfl, nle, rfl⟩) ?_; refine s_g (v := (bif (j_1.N == 0) then (j_1.T == []) else false)) (.int .i64 (j_1.Keys.length : Int)) rfl (fun hv => by (try simp only [gs_on hv]); exact ⟨rfl, trivial, lenV _ _⟩) ?_; refine s_g (v := (bif (j_1.N == 0) then (j_1.T == []) else false)) (.bool ((j_1.Keys.length : Int) == 0)) rfl (fun hv => by (try simp only [gs_on hv]); exact ⟨rfl, rfl, rfl⟩) ?_; refine s_pick (x := ((j_1.Keys.length : Int) == 0)) (y := false) rfl (fun hv => by (try simp only [gs_on hv]); rfl) (fun hv => by (try simp only [gs_on hv]); rfl) ?_
  refine s_mov (.bool (bif (bif (j_1.N == 0) then (j_1.T == []) else false) then ((j_1.Keys.length : Int) == 0) else false)) rfl ?_; refine s_g (v := (bif (bif (j_1.N == 0) then (j_1.T == []) else false) then ((j_1.Keys.length : Int) == 0) else false)) (.ptr 0 0 4) rfl (fun hv => by (try simp only [gs_on hv]); exact ⟨rfl, trivial, rfl⟩) ?_; refine s_g (v := (bif (bif (j_1.N == 0) then (j_1.T == []) else false) then ((j_1.Keys.length : Int) == 0) else false)) (.lst 5 (j_1.Items.map encGJson)) rfl (fun hv => by (try simp only [gs_on hv]); exact ⟨rfl, nle, rfl⟩) ?_; refine s_g (v := (bif (bif (j_1.N == 0) then (j_1.T == []) else false) then ((j_1.Keys.length : Int) == 0) else false)) (.int .i64 (j_1.Items.length : Int)) rfl (fun hv => by (try simp only [gs_on hv]); exact ⟨rfl, trivial, lenV _ _⟩) ?_
  refine s_g (v := (bif (bif (j_1.N == 0) then (j_1.T == []) else false) then ((j_1.Keys.length : Int) == 0) else false)) (.bool ((j_1.Items.length : Int) == 0)) rfl (fun hv => by (try simp only [gs_on hv]); exact ⟨rfl, rfl, rfl⟩) ?_; refine s_pick (x := ((j_1.Items.length : Int) == 0)) (y := false) rfl (fun hv => by (try simp only [gs_on hv]); rfl) (fun hv => by (try simp only [gs_on hv]); rfl) ?_; refine s_mov (.bool (bif (bif (bif (j_1.N == 0) then (j_1.T == []) else false) then ((j_1.Keys.length : Int) == 0) else false) then ((j_1.Items.length : Int) == 0) else false)) rfl <| w_done <| k_seq <| w_ret <| ?_; obtain rfl := os hf; exact r_flat ⟨trivial, trivial⟩ rfl (.refl _)
 ·refine w_condf rfl (bf c2) <| awp_seq <| w_reg <| s_q (.bool (j_1.Kind == 1)) rfl rfl rfl <| s_mov (.bool (j_1.Kind == 1)) rfl <| w_done <| k_seq <| ?_
  rcases oi hf with ⟨c5, hf⟩ | ⟨c5, hf⟩
  ·refine w_condt rfl c5 <| awp_seq <| w_reg <| s_q (.ptr 0 0 1) rfl trivial rfl <| s_q (.int .i64 j_1.N) rfl nle rfl <| ?_
   obtain ⟨r_6, er7, hf⟩ := ob hf
   refine s_do (o_call (w_impl_within _ _ _ _ er7) rfl (.refl _) rfl) <| s_mov (.bool r_6) rfl <| ?_; refine s_g (v := r_6) (.ptr 0 0 2) rfl (fun hv => by (try simp only [gs_on hv]); exact ⟨rfl, trivial, rfl⟩) ?_; refine s_g (v := r_6) (.str j_1.T) rfl (fun hv => by (try simp only [gs_on hv]); exact ⟨rfl, nle, rfl⟩) ?_; refine s_g (v := r_6) (.bool (j_1.T == [])) rfl (fun hv => by (try simp only [gs_on hv]); exact ⟨rfl, trivial, rfl⟩) ?_; refine s_pick (x := (j_1.T == [])) (y := false) rfl (fun hv => by (try simp only [gs_on hv]); rfl) (fun hv => by (try simp only [gs_on hv]); rfl) ?_; refine s_mov (.bool (bif r_6 then (j_1.T == []) else false)) rfl ?_; refine s_g (v := (bif r_6 then (j_1.T == []) else false)) (.ptr 0 0 3) rfl (fun hv => by (try simp only [gs_on hv]); exact ⟨rfl, trivial, rfl⟩) ?_
   refine s_g (v := (bif r_6 then (j_1.T == []) else false)) (.lst 1 (j_1.Keys.map AV.str)) rfl (fun hv => by (try simp only [gs_on hv]); exact ⟨rfl, nle, rfl⟩) ?_; refine s_g (v := (bif r_6 then (j_1.T == []) else false)) (.int .i64 (j_1.Keys.length : Int)) rfl (fun hv => by (try simp only [gs_on hv]); exact ⟨rfl, trivial, lenV _ _⟩) ?_; refine s_g (v := (bif r_6 then (j_1.T == []) else false)) (.bool ((j_1.Keys.length : Int) == 0)) rfl (fun hv => by (try simp only [gs_on hv]); exact ⟨rfl, rfl, rfl⟩) ?_; refine s_pick (x := ((j_1.Keys.length : Int) == 0)) (y := false) rfl (fun hv => by (try simp only [gs_on hv]); rfl) (fun hv => by (try simp only [gs_on hv]); rfl) ?_; refine s_mov (.bool (bif (bif r_6 then (j_1.T == []) else false) then ((j_1.Keys.length : Int) == 0) else false)) rfl ?_
   refine s_g (v := (bif (bif r_6 then (j_1.T == []) else false) then ((j_1.Keys.length : Int) == 0) else false)) (.ptr 0 0 4) rfl (fun hv => by (try simp only [gs_on hv]); exact ⟨rfl, trivial, rfl⟩) ?_; refine s_g (v := (bif (bif r_6 then (j_1.T == []) else false) then ((j_1.Keys.length : Int) == 0) else false)) (.lst 5 (j_1.Items.map encGJson)) rfl (fun hv => by (try simp only [gs_on hv]); exact ⟨rfl, nle, rfl⟩) ?_; refine s_g (v := (bif (bif r_6 then (j_1.T == []) else false) then ((j_1.Keys.length : Int) == 0) else false)) (.int .i64 (j_1.Items.length : Int)) rfl (fun hv => by (try simp only [gs_on hv]); exact ⟨rfl, trivial, lenV _ _⟩) ?_; refine s_g (v := (bif (bif r_6 then (j_1.T == []) else false) then ((j_1.Keys.length : Int) == 0) else false)) (.bool ((j_1.Items.length : Int) == 0)) rfl (fun hv => by (try simp only [gs_on hv]); exact ⟨rfl, rfl, rfl⟩) ?_
   refine s_pick (x := ((j_1.Items.length : Int) == 0)) (y := false) rfl (fun hv => by (try simp only [gs_on hv]); rfl) (fun hv => by (try simp only [gs_on hv]); rfl) ?_; refine s_mov (.bool (bif (bif (bif r_6 then (j_1.T == []) else false) then ((j_1.Keys.length : Int) == 0) else false) then ((j_1.Items.length : Int) == 0) else false)) rfl <| w_done <| k_seq <| w_ret <| ?_; obtain rfl := os hf; exact r_flat ⟨trivial, trivial⟩ rfl (.refl _)
  ·refine w_condf rfl (bf c5) <| awp_seq <| w_reg <| s_q (.bool (j_1.Kind == 2)) rfl rfl rfl <| s_mov (.bool (j_1.Kind == 2)) rfl <| w_done <| k_seq <| ?_
   rcases oi hf with ⟨c10, hf⟩ | ⟨c10, hf⟩
   ·refine w_condt rfl c10 <| awp_seq <| w_reg <| s_q (.ptr 0 0 1) rfl trivial rfl <| s_q (.int .i64 j_1.N) rfl nle rfl <| ?_
    obtain ⟨r_11, er12, hf⟩ := ob hf
    refine s_do (o_call (w_impl_isNumber _ _ er12) rfl (.refl _) rfl) <| s_mov (.bool r_11) rfl <| ?_; refine s_g (v := r_11) (.ptr 0 0 2) rfl (fun hv => by (try simp only [gs_on hv]); exact ⟨rfl, trivial, rfl⟩) ?_; refine s_g (v := r_11) (.str j_1.T) rfl (fun hv => by (try simp only [gs_on hv]); exact ⟨rfl, nle, rfl⟩) ?_; refine s_g (v := r_11) (.bool (j_1.T == [])) rfl (fun hv => by (try simp only [gs_on hv]); exact ⟨rfl, trivial, rfl⟩) ?_; refine s_pick (x := (j_1.T == [])) (y := false) rfl (fun hv => by (try simp only [gs_on hv]); rfl) (fun hv => by (try simp only [gs_on hv]); rfl) ?_; refine s_mov (.bool (bif r_11 then (j_1.T == []) else false)) rfl ?_; refine s_g (v := (bif r_11 then (j_1.T == []) else false)) (.ptr 0 0 3) rfl (fun hv => by (try simp only [gs_on hv]); exact ⟨rfl, trivial, rfl⟩) ?_
    refine s_g (v := (bif r_11 then (j_1.T == []) else false)) (.lst 1 (j_1.Keys.map AV.str)) rfl (fun hv => by (try simp only [gs_on hv]); exact ⟨rfl, nle, rfl⟩) ?_; refine s_g (v := (bif r_11 then (j_1.T == []) else false)) (.int .i64 (j_1.Keys.length : Int)) rfl (fun hv => by (try simp only [gs_on hv]); exact ⟨rfl, trivial, lenV _ _⟩) ?_; refine s_g (v := (bif r_11 then (j_1.T == []) else false)) (.bool ((j_1.Keys.length : Int) == 0)) rfl (fun hv => by (try simp only [gs_on hv]); exact ⟨rfl, rfl, rfl⟩) ?_; refine s_pick (x := ((j_1.Keys.length : Int) == 0)) (y := false) rfl (fun hv => by (try simp only [gs_on hv]); rfl) (fun hv => by (try simp only [gs_on hv]); rfl) ?_; refine s_mov (.bool (bif (bif r_11 then (j_1.T == []) else false) then ((j_1.Keys.length : Int) == 0) else false)) rfl ?_
    refine s_g (v := (bif (bif r_11 then (j_1.T == []) else false) then ((j_1.Keys.length : Int) == 0) else false)) (.ptr 0 0 4) rfl (fun hv => by (try simp only [gs_on hv]); exact ⟨rfl, trivial, rfl⟩) ?_; refine s_g (v := (bif (bif r_11 then (j_1.T == []) else false) then ((j_1.Keys.length : Int) == 0) else false)) (.lst 5 (j_1.Items.map encGJson)) rfl (fun hv => by (try simp only [gs_on hv]); exact ⟨rfl, nle, rfl⟩) ?_; refine s_g (v := (bif (bif r_11 then (j_1.T == []) else false) then ((j_1.Keys.length : Int) == 0) else false)) (.int .i64 (j_1.Items.length : Int)) rfl (fun hv => by (try simp only [gs_on hv]); exact ⟨rfl, trivial, lenV _ _⟩) ?_; refine s_g (v := (bif (bif r_11 then (j_1.T == []) else false) then ((j_1.Keys.length : Int) == 0) else false)) (.bool ((j_1.Items.length : Int) == 0)) rfl (fun hv => by (try simp only [gs_on hv]); exact ⟨rfl, rfl, rfl⟩) ?_
    refine s_pick (x := ((j_1.Items.length : Int) == 0)) (y := false) rfl (fun hv => by (try simp only [gs_on hv]); rfl) (fun hv => by (try simp only [gs_on hv]); rfl) ?_; refine s_mov (.bool (bif (bif (bif r_11 then (j_1.T == []) else false) then ((j_1.Keys.length : Int) == 0) else false) then ((j_1.Items.length : Int) == 0) else false)) rfl <| w_done <| k_seq <| w_ret <| ?_; obtain rfl := os hf; exact r_flat ⟨trivial, trivial⟩ rfl (.refl _)
   ·refine w_condf rfl (bf c10) <| awp_seq <| w_reg <| s_q (.bool (j_1.Kind == 3)) rfl rfl rfl <| s_mov (.bool (j_1.Kind == 3)) rfl <| w_done <| k_seq <| ?_
    rcases oi hf with ⟨c15, hf⟩ | ⟨c15, hf⟩
    ·refine w_condt rfl c15 <| awp_seq <| w_reg <| s_q (.ptr 0 0 1) rfl trivial rfl <| s_q (.int .i64 j_1.N) rfl nle rfl <| s_q (.bool (j_1.N == 0)) rfl rfl rfl <| s_mov (.bool (j_1.N == 0)) rfl <| ?_
     rcases oi hf with ⟨c16, hf⟩ | ⟨c16, hf⟩
     ·refine s_lit (s := 76) (b := true) rfl c16 <| s_on rfl <| s_q (.ptr 0 0 2) rfl trivial rfl <| s_on rfl <| s_q (.str j_1.T) rfl nle rfl <| s_on rfl <| ?_
      obtain ⟨r_17, er18, hf⟩ := ob hf
      refine s_do (o_call (w_impl_isPlain _ _ er18) rfl (.refl _) rfl) <| s_q (.bool r_17) rfl trivial rfl <| s_mov (.bool r_17) rfl <| ?_; refine s_g (v := r_17) (.ptr 0 0 3) rfl (fun hv => by (try simp only [gs_on hv]); exact ⟨rfl, trivial, rfl⟩) ?_; refine s_g (v := r_17) (.lst 1 (j_1.Keys.map AV.str)) rfl (fun hv => by (try simp only [gs_on hv]); exact ⟨rfl, nle, rfl⟩) ?_; refine s_g (v := r_17) (.int .i64 (j_1.Keys.length : Int)) rfl (fun hv => by (try simp only [gs_on hv]); exact ⟨rfl, trivial, lenV _ _⟩) ?_; refine s_g (v := r_17) (.bool ((j_1.Keys.length : Int) == 0)) rfl (fun hv => by (try simp only [gs_on hv]); exact ⟨rfl, rfl, rfl⟩) ?_; refine s_pick (x := ((j_1.Keys.length : Int) == 0)) (y := false) rfl (fun hv => by (try simp only [gs_on hv]); rfl) (fun hv => by (try simp only [gs_on hv]); rfl) ?_
      refine s_mov (.bool (bif r_17 then ((j_1.Keys.length : Int) == 0) else false)) rfl ?_; refine s_g (v := (bif r_17 then ((j_1.Keys.length : Int) == 0) else false)) (.ptr 0 0 4) rfl (fun hv => by (try simp only [gs_on hv]); exact ⟨rfl, trivial, rfl⟩) ?_; refine s_g (v := (bif r_17 then ((j_1.Keys.length : Int) == 0) else false)) (.lst 5 (j_1.Items.map encGJson)) rfl (fun hv => by (try simp only [gs_on hv]); exact ⟨rfl, nle, rfl⟩) ?_; refine s_g (v := (bif r_17 then ((j_1.Keys.length : Int) == 0) else false)) (.int .i64 (j_1.Items.length : Int)) rfl (fun hv => by (try simp only [gs_on hv]); exact ⟨rfl, trivial, lenV _ _⟩) ?_; refine s_g (v := (bif r_17 then ((j_1.Keys.length : Int) == 0) else false)) (.bool ((j_1.Items.length : Int) == 0)) rfl (fun hv => by (try simp only [gs_on hv]); exact ⟨rfl, rfl, rfl⟩) ?_
      refine s_pick (x := ((j_1.Items.length : Int) == 0)) (y := false) rfl (fun hv => by (try simp only [gs_on hv]); rfl) (fun hv => by (try simp only [gs_on hv]); rfl) ?_; refine s_mov (.bool (bif (bif r_17 then ((j_1.Keys.length : Int) == 0) else false) then ((j_1.Items.length : Int) == 0) else false)) rfl <| w_done <| k_seq <| w_ret <| ?_; obtain rfl := os hf; exact r_flat ⟨trivial, trivial⟩ rfl (.refl _)
     ·refine s_lit (s := 76) (b := false) rfl (bf c16) <| s_off rfl rfl <| s_off rfl rfl <| s_off rfl rfl <| s_q (.bool false) rfl trivial rfl <| s_mov (.bool false) rfl <| s_off rfl rfl <| s_off rfl rfl <| s_off rfl rfl <| s_off rfl rfl <| s_q (.bool false) rfl trivial rfl <| s_mov (.bool false) rfl <| s_off rfl rfl <| s_off rfl rfl <| s_off rfl rfl <| s_off rfl rfl <| s_q (.bool false) rfl trivial rfl <| s_mov (.bool false) rfl <| w_done <| k_seq <| w_ret <| ?_; obtain rfl := os hf; exact r_flat ⟨trivial, trivial⟩ rfl (.refl _)
    ·refine w_condf rfl (bf c15) <| awp_seq <| w_reg <| s_q (.bool (j_1.Kind == 4)) rfl rfl rfl <| s_mov (.bool (j_1.Kind == 4)) rfl <| w_done <| k_seq <| ?_
     rcases oi hf with ⟨c21, hf⟩ | ⟨c21, hf⟩
     ·refine w_condt rfl c21 <| awp_seq <| w_reg <| s_q (.ptr 0 0 1) rfl trivial rfl <| s_q (.int .i64 j_1.N) rfl nle rfl <| s_q (.bool (j_1.N == 0)) rfl rfl rfl <| s_mov (.bool (j_1.N == 0)) rfl <| ?_; refine s_g (v := (j_1.N == 0)) (.ptr 0 0 2) rfl (fun hv => by (try simp only [gs_on hv]); exact ⟨rfl, trivial, rfl⟩) ?_; refine s_g (v := (j_1.N == 0)) (.str j_1.T) rfl (fun hv => by (try simp only [gs_on hv]); exact ⟨rfl, nle, rfl⟩) ?_; refine s_g (v := (j_1.N == 0)) (.bool (j_1.T == [])) rfl (fun hv => by (try simp only [gs_on hv]); exact ⟨rfl, trivial, rfl⟩) ?_; refine s_pick (x := (j_1.T == [])) (y := false) rfl (fun hv => by (try simp only [gs_on hv]); rfl) (fun hv => by (try simp only [gs_on hv]); rfl) ?_; refine s_mov (.bool (bif (j_1.N == 0) then (j_1.T == []) else false)) rfl ?_
      refine s_g (v := (bif (j_1.N == 0) then (j_1.T == []) else false)) (.ptr 0 0 3) rfl (fun hv => by (try simp only [gs_on hv]); exact ⟨rfl, trivial, rfl⟩) ?_; refine s_g (v := (bif (j_1.N == 0) then (j_1.T == []) else false)) (.lst 1 (j_1.Keys.map AV.str)) rfl (fun hv => by (try simp only [gs_on hv]); exact ⟨rfl, nle, rfl⟩) ?_; refine s_g (v := (bif (j_1.N == 0) then (j_1.T == []) else false)) (.int .i64 (j_1.Keys.length : Int)) rfl (fun hv => by (try simp only [gs_on hv]); exact ⟨rfl, trivial, lenV _ _⟩) ?_; refine s_g (v := (bif (j_1.N == 0) then (j_1.T == []) else false)) (.bool ((j_1.Keys.length : Int) == 0)) rfl (fun hv => by (try simp only [gs_on hv]); exact ⟨rfl, rfl, rfl⟩) ?_; refine s_pick (x := ((j_1.Keys.length : Int) == 0)) (y := false) rfl (fun hv => by (try simp only [gs_on hv]); rfl) (fun hv => by (try simp only [gs_on hv]); rfl) ?_
      refine s_mov (.bool (bif (bif (j_1.N == 0) then (j_1.T == []) else false) then ((j_1.Keys.length : Int) == 0) else false)) rfl <| w_done <| k_seq <| w_ret <| ?_; obtain rfl := os hf; exact r_flat ⟨trivial, trivial⟩ rfl (.refl _)
     ·refine w_condf rfl (bf c21) <| awp_seq <| w_reg <| s_q (.bool (j_1.Kind == 5)) rfl rfl rfl <| s_mov (.bool (j_1.Kind == 5)) rfl <| w_done <| k_seq <| ?_
      rcases oi hf with ⟨c23, hf⟩ | ⟨c23, hf⟩
      ·refine w_condt rfl c23 <| awp_seq <| w_reg <| s_q (.ptr 0 0 1) rfl trivial rfl <| s_q (.int .i64 j_1.N) rfl nle rfl <| s_q (.bool (j_1.N == 0)) rfl rfl rfl <| s_mov (.bool (j_1.N == 0)) rfl <| ?_; refine s_g (v := (j_1.N == 0)) (.ptr 0 0 2) rfl (fun hv => by (try simp only [gs_on hv]); exact ⟨rfl, trivial, rfl⟩) ?_; refine s_g (v := (j_1.N == 0)) (.str j_1.T) rfl (fun hv => by (try simp only [gs_on hv]); exact ⟨rfl, nle, rfl⟩) ?_; refine s_g (v := (j_1.N == 0)) (.bool (j_1.T == [])) rfl (fun hv => by (try simp only [gs_on hv]); exact ⟨rfl, trivial, rfl⟩) ?_; refine s_pick (x := (j_1.T == [])) (y := false) rfl (fun hv => by (try simp only [gs_on hv]); rfl) (fun hv => by (try simp only [gs_on hv]); rfl) ?_; refine s_mov (.bool (bif (j_1.N == 0) then (j_1.T == []) else false)) rfl ?_
       refine s_g (v := (bif (j_1.N == 0) then (j_1.T == []) else false)) (.ptr 0 0 3) rfl (fun hv => by (try simp only [gs_on hv]); exact ⟨rfl, trivial, rfl⟩) ?_; refine s_g (v := (bif (j_1.N == 0) then (j_1.T == []) else false)) (.lst 1 (j_1.Keys.map AV.str)) rfl (fun hv => by (try simp only [gs_on hv]); exact ⟨rfl, nle, rfl⟩) ?_; refine s_g (v := (bif (j_1.N == 0) then (j_1.T == []) else false)) (.int .i64 (j_1.Keys.length : Int)) rfl (fun hv => by (try simp only [gs_on hv]); exact ⟨rfl, trivial, lenV _ _⟩) ?_; refine s_g (v := (bif (j_1.N == 0) then (j_1.T == []) else false)) (.ptr 0 0 4) rfl (fun hv => by (try simp only [gs_on hv]); exact ⟨rfl, trivial, rfl⟩) ?_; refine s_g (v := (bif (j_1.N == 0) then (j_1.T == []) else false)) (.lst 5 (j_1.Items.map encGJson)) rfl (fun hv => by (try simp only [gs_on hv]); exact ⟨rfl, nle, rfl⟩) ?_
       refine s_g (v := (bif (j_1.N == 0) then (j_1.T == []) else false)) (.int .i64 (j_1.Items.length : Int)) rfl (fun hv => by (try simp only [gs_on hv]); exact ⟨rfl, trivial, lenV _ _⟩) ?_; refine s_g (v := (bif (j_1.N == 0) then (j_1.T == []) else false)) (.bool ((j_1.Keys.length : Int) == (j_1.Items.length : Int))) rfl (fun hv => by (try simp only [gs_on hv]); exact ⟨rfl, rfl, rfl⟩) ?_; refine s_pick (x := ((j_1.Keys.length : Int) == (j_1.Items.length : Int))) (y := false) rfl (fun hv => by (try simp only [gs_on hv]); rfl) (fun hv => by (try simp only [gs_on hv]); rfl) ?_; refine s_mov (.bool (bif (bif (j_1.N == 0) then (j_1.T == []) else false) then ((j_1.Keys.length : Int) == (j_1.Items.length : Int)) else false)) rfl ?_
       rcases oi hf with ⟨c26, hf⟩ | ⟨c26, hf⟩
       ·refine s_lit (s := 128) (b := true) rfl c26 <| s_on rfl <| s_q (.ptr 0 0 3) rfl trivial rfl <| s_on rfl <| s_q (.lst 1 (j_1.Keys.map AV.str)) rfl nle rfl <| s_on rfl <| ?_
        obtain ⟨r_27, er28, hf⟩ := ob hf
        refine s_do (o_call (w_impl_areKeys _ _ er28) rfl (.refl _) rfl) <| s_q (.bool r_27) rfl trivial rfl <| s_mov (.bool r_27) rfl <| w_done <| k_seq <| w_ret <| ?_; obtain rfl := os hf; exact r_flat ⟨trivial, trivial⟩ rfl (.refl _)
       ·refine s_lit (s := 128) (b := false) rfl (bf c26) <| s_off rfl rfl <| s_off rfl rfl <| s_off rfl rfl <| s_q (.bool false) rfl trivial rfl <| s_mov (.bool false) rfl <| w_done <| k_seq <| w_ret <| ?_; obtain rfl := os hf; exact r_flat ⟨trivial, trivial⟩ rfl (.refl _)
      ·refine w_condf rfl (bf c23) <| w_skip <| k_blk <| k_seq <| awp_seq <| w_reg <| s_mov (.bool false) rfl <| w_done <| k_seq <| w_ret <| ?_; obtain rfl := os hf; exact r_flat ⟨trivial, trivial⟩ rfl (.refl _)

/- (impl.Json).rightIn$1 -/
def c214_h0 : ACode :=
 (.seq (.reg (tq 3 (.box 5 (.t 0)) (tm 4 (.c (.bool false)) .done)))
 (.seq (.reg (tq 5 (.load 5 true (.t 3)) (tq 6 (.load 1 false (.t 1)) (tq 7 (.bin .add (.t 6) (.c (.int .i64 1))) (tq 8 (.load 1 false (.t 2)) (tq 9 (.call 164 [(.t 5), (.t 7), (.t 8)]) (tq 10 (.not (.t 9)) (tm 4 (.t 10) .done))))))))
 .ret))
theorem fc214_h0 : fcomp Try.prog Try.f214 = some (c214_h0.erase, [.mov (.t 4)], 11) := by kernel_rfl
def impl_Json_rightIn_1_h0 (rec : (GJson → Int → Int → Option (Bool × Int))) (item_1 : GJson) (c_2 : Int) (c_3 : Int) : Option (Bool × Int × Int) :=
    (rec item_1 (w64 (c_2 + 1)) c_3).bind fun r_4 =>
    some ((!r_4.1), c_2, r_4.2)
theorem w_impl_Json_rightIn_1_h0 (rec : (GJson → Int → Int → Option (Bool × Int))) (hrec : ∀ a0 a1 a2 r, rec a0 a1 a2 = some r → CallHeap Try.prog false 164 [(encGJson a0), (.int .i64 a1), (.ptr 0 0 0)] [.box 1 (.int .i64 a2)] (.bool r.1) [.box 1 (.int .i64 r.2)]) (item_1 : GJson) (c_2 : Int) (c_3 : Int) (r : (Bool × Int × Int)) (hf : impl_Json_rightIn_1_h0 rec item_1 c_2 c_3 = some r) : CallHeap Try.prog false 214 [(encGJson item_1), (.ptr 0 0 0), (.ptr 1 0 0)] [.box 1 (.int .i64 c_2), .box 1 (.ptr 2 0 0), .box 1 (.int .i64 c_3)] (.bool r.1) [.box 1 (.int .i64 r.2.1), .box 1 (.ptr 2 0 0), .box 1 (.int .i64 r.2.2)] := by
 refine CallHeap.of_awp mixed Try.func214 fc214_h0 nle ?_; rw [argT_eq]; rw [encGJson_eq item_1]; unfold impl_Json_rightIn_1_h0 at hf; unfold c214_h0; refine (show awp Try.prog false 3 _ (ofL [(0, (.agg [(.int .i64 item_1.Kind), (.int .i64 item_1.N), (.str item_1.T), (.lst 1 (item_1.Keys.map AV.str)), (.lst 5 (item_1.Items.map encGJson))])), (1, (.ptr 0 0 0)), (2, (.ptr 1 0 0))]) [.box 1 (.int .i64 c_2), .box 1 (.ptr 2 0 0), .box 1 (.int .i64 c_3)] _ from ?_); refine awp_seq <| w_reg <| s_do (o_box (j := 3) (c := (.agg [(.int .i64 item_1.Kind), (.int .i64 item_1.N), (.str item_1.T), (.lst 1 (item_1.Keys.map AV.str)), (.lst 5 (item_1.Items.map encGJson))])) rfl trivial rfl rfl) <| s_mov (.bool false) rfl <| w_done <| k_seq <| ?_
 refine awp_seq <| w_reg <| ?_
 obtain ⟨r_4, er5, hf⟩ := ob hf
 refine s_q (.agg [(.int .i64 item_1.Kind), (.int .i64 item_1.N), (.str item_1.T), (.lst 1 (item_1.Keys.map AV.str)), (.lst 5 (item_1.Items.map encGJson))]) rfl nle rfl <| s_q (.int .i64 c_2) rfl ⟨rfl, rfl⟩ rfl <| s_q (.int .i64 (w64 (c_2 + 1))) rfl rfl rfl <| s_q (.ptr 2 0 0) rfl ⟨rfl, rfl⟩ rfl <| ?_; refine s_do (o_callh (v := (.bool r_4.1)) (h2 := [.box 1 (.int .i64 c_2), .box 1 (.ptr 2 0 0), .box 1 (.int .i64 r_4.2), .box 5 (.agg [(.int .i64 item_1.Kind), (.int .i64 item_1.N), (.str item_1.T), (.lst 1 (item_1.Keys.map AV.str)), (.lst 5 (item_1.Items.map encGJson))])]) [] [2] (fun _ => rfl) (hrec _ _ _ _ er5) rfl (.cons (.of_eq (encGJson_eq item_1).symm) (.cons (.refl _) (.cons (.refl _) .nil))) (.refl _) rfl rfl) ?_
 refine s_q (.bool (!r_4.1)) rfl trivial rfl <| s_mov (.bool (!r_4.1)) rfl <| w_done <| k_seq <| w_ret <| ?_; obtain rfl := os hf; exact r_heap [] [0, 1, 2] rfl ⟨trivial, trivial⟩ rfl (.refl _) (.refl _)

/- slices.IndexFunc[[]impl.Json,impl.Json] -/
def c227_h0 : ACode :=
 (.seq (.reg (tm 4 (.c (.int .i64 0)) .done))
 (.seq (.seq (.reg (tm 6 (.t 0) (tq 7 (.len (.t 6)) (tm 8 (.c (.int .i64 0)) .done))))
 (.block 0 (.loop (.seq (.reg (tq 9 (.bin .lss (.t 8) (.t 7)) .done))
 (.seq (.cond (.t 9) .skip
 (.exit 0))
 (.seq (.block 1 (.seq (.reg (tm 10 (.t 8) (tm 5 (.t 10) .done)))
 (.seq (.reg (tm 11 (.t 1) (tm 12 (.t 0) (tm 13 (.t 5) (tq 14 (.iaddr 5 (.t 12) (.t 13)) (tq 15 (.load 5 true (.t 14)) (tq 16 (.calv (.t 11) [(.t 15)]) .done)))))))
 (.cond (.t 16) (.seq (.reg (tm 17 (.t 5) (tm 4 (.t 17) .done)))
 .ret)
 .skip))))
 (.reg (tq 18 (.bin .add (.t 8) (.c (.int .i64 1))) (tm 8 (.t 18) .done)))))))))
 (.cut (.seq (.reg (tq 4 (.mov (.c (.int .i64 (-1)))) .done))
 .ret))))
theorem fc227_h0 : fcomp Try.prog Try.f227 = some (c227_h0.erase, [.mov (.t 4)], 19) := by kernel_rfl
def slices_IndexFunc_impl_Json_impl_Json_h0_L1 (rec : (GJson → Int → Int → Option (Bool × Int))) : List GJson → Nat → Int → Int → Option (Fl (Int × Int × Int) (Int × Int))
  | [], s8_20, x_21, x_22 =>
    some (.go (x_21, x_22))
  | x_38 :: xs, s8_20, x_21, x_22 =>
    (impl_Json_rightIn_1_h0 rec x_38 x_21 x_22).bind fun r_39 =>
    if r_39.1 then
    some (.ret ((s8_20 : Int), r_39.2.1, r_39.2.2))
    else
    slices_IndexFunc_impl_Json_impl_Json_h0_L1 rec xs (s8_20 + 1) r_39.2.1 r_39.2.2

def slices_IndexFunc_impl_Json_impl_Json_h0 (rec : (GJson → Int → Int → Option (Bool × Int))) (s_1 : (List GJson)) (c_2 : Int) (c_3 : Int) : Option (Int × Int × Int) :=
    (slices_IndexFunc_impl_Json_impl_Json_h0_L1 rec s_1 0 c_2 c_3).bind fun q => (match q with
    | .ret r => some r
    | .go (x_29, x_30) =>
    some ((-1), x_29, x_30))
theorem w_slices_IndexFunc_impl_Json_impl_Json_h0 (rec : (GJson → Int → Int → Option (Bool × Int))) (hrec : ∀ a0 a1 a2 r, rec a0 a1 a2 = some r → CallHeap Try.prog false 164 [(encGJson a0), (.int .i64 a1), (.ptr 0 0 0)] [.box 1 (.int .i64 a2)] (.bool r.1) [.box 1 (.int .i64 r.2)]) (s_1 : (List GJson)) (c_2 : Int) (c_3 : Int) (r : (Int × Int × Int)) (hf : slices_IndexFunc_impl_Json_impl_Json_h0 rec s_1 c_2 c_3 = some r) : CallHeap Try.prog false 227 [(.lst 5 (s_1.map encGJson)), (.fn 214 [(.ptr 0 0 0), (.ptr 1 0 0)])] [.box 1 (.int .i64 c_2), .box 1 (.ptr 2 0 0), .box 1 (.int .i64 c_3)] (.int .i64 r.1) [.box 1 (.int .i64 r.2.1), .box 1 (.ptr 2 0 0), .box 1 (.int .i64 r.2.2)] := by
 refine CallHeap.of_awp mixed Try.func227 fc227_h0 nle ?_; rw [argT_eq]; unfold slices_IndexFunc_impl_Json_impl_Json_h0 at hf; unfold c227_h0; refine (show awp Try.prog false 3 _ (ofL [(0, (.lst 5 (s_1.map encGJson))), (1, (.fn 214 [(.ptr 0 0 0), (.ptr 1 0 0)]))]) [.box 1 (.int .i64 c_2), .box 1 (.ptr 2 0 0), .box 1 (.int .i64 c_3)] _ from ?_); refine awp_seq <| w_reg <| s_mov (.int .i64 0) rfl <| w_done <| k_seq <| awp_seq <| awp_seq <| w_reg <| s_mov (.lst 5 (s_1.map encGJson)) rfl <| s_dof (o_len (enc := encGJson) rfl) fun hl4 => s_mov (.int .i64 0) rfl <| w_done <| k_seq <| ?_
 obtain ⟨p31, hb1, hf⟩ := ob hf
 refine awp_cutx (X := {q : (Int × Int) // p31 = .go q}) (fun q => ([], [.box 1 (.int .i64 q.1.1), .box 1 (.ptr 2 0 0), .box 1 (.int .i64 q.1.2)])) ?_ ?_
 ·refine awp_loop (X := {q : (Nat × Int × Int) // slices_IndexFunc_impl_Json_impl_Json_h0_L1 rec (s_1.drop q.1) q.1 q.2.1 q.2.2 = some p31}) (fun q => ([(0, (.lst 5 (s_1.map encGJson))), (1, (.fn 214 [(.ptr 0 0 0), (.ptr 1 0 0)])), (7, (.int .i64 (s_1.length : Int))), (8, (.int .i64 (q.1.1 : Int)))], [.box 1 (.int .i64 q.1.2.1), .box 1 (.ptr 2 0 0), .box 1 (.int .i64 q.1.2.2)])) (fun q => s_1.length - q.1.1) ⟨(0, c_2, c_3), hb1⟩ ⟨[], [0, 1, 2], _, _, rfl, rfl, ⟨.refl _, ⟨.refl _, ⟨.refl _, ⟨.refl _, trivial⟩⟩⟩⟩, (.refl _)⟩ ?_
  rintro ⟨⟨s8_20, x_21, x_22⟩, hc1⟩
  have hc1 : slices_IndexFunc_impl_Json_impl_Json_h0_L1 rec (s_1.drop s8_20) s8_20 x_21 x_22 = some p31 := hc1
  refine (show awp Try.prog false 3 _ (ofL [(0, (.lst 5 (s_1.map encGJson))), (1, (.fn 214 [(.ptr 0 0 0), (.ptr 1 0 0)])), (7, (.int .i64 (s_1.length : Int))), (8, (.int .i64 (s8_20 : Int)))]) [.box 1 (.int .i64 x_21), .box 1 (.ptr 2 0 0), .box 1 (.int .i64 x_22)] _ from ?_)
  rcases dropc s_1 s8_20 with ⟨hie34, hd37⟩ | ⟨hlt32, x_38, hx33, hd37⟩
  ·rw [hd37, slices_IndexFunc_impl_Json_impl_Json_h0_L1.eq_1] at hc1
   have hq36 := dlf hie34
   refine awp_seq <| w_reg <| s_q (.bool (decide ((s8_20 : Int) < (s_1.length : Int)))) rfl rfl rfl <| w_done <| k_seq <| awp_seq <| w_condf rfl hq36 <| w_exit <| k_seqx <| k_loopx <| k_blkx <| ?_; obtain rfl := os hc1; exact k_cutn ⟨_, rfl⟩ ⟨[], [0, 1, 2], _, _, rfl, rfl, trivial, (.refl _)⟩
  ·rw [hd37, slices_IndexFunc_impl_Json_impl_Json_h0_L1.eq_2] at hc1
   have hq36 := dlt hlt32
   refine awp_seq <| w_reg <| s_q (.bool (decide ((s8_20 : Int) < (s_1.length : Int)))) rfl rfl rfl <| w_done <| k_seq <| awp_seq <| w_condt rfl hq36 <| w_skip <| k_seq <| awp_seq <| w_blk <| awp_seq <| w_reg <| s_mov (.int .i64 (s8_20 : Int)) rfl <| s_mov (.int .i64 (s8_20 : Int)) rfl <| w_done <| k_seq <| awp_seq <| w_reg <| ?_
   obtain ⟨r_39, er40, hc1⟩ := ob hc1
   refine s_mov (.fn 214 [(.ptr 0 0 0), (.ptr 1 0 0)]) rfl <| s_mov (.lst 5 (s_1.map encGJson)) rfl <| s_mov (.int .i64 (s8_20 : Int)) rfl <| s_do (o_iaddrn (enc := encGJson) rfl rfl hx33) <| s_do (o_loadeq (v := (.agg [(.int .i64 x_38.Kind), (.int .i64 x_38.N), (.str x_38.T), (.lst 1 (x_38.Keys.map AV.str)), (.lst 5 (x_38.Items.map encGJson))])) rfl (encGJson_eq _) nle rfl) <| ?_; refine s_do (o_calvh (v := (.bool r_39.1)) (h2 := [.box 1 (.int .i64 r_39.2.1), .box 1 (.ptr 2 0 0), .box 1 (.int .i64 r_39.2.2)]) [] [0, 1, 2] (fun _ => rfl) rfl (by kernel_rfl) (w_impl_Json_rightIn_1_h0 rec hrec _ _ _ _ er40) rfl rfl (.cons (.of_eq (encGJson_eq x_38).symm) (.cons (.refl _) (.cons (.refl _) .nil))) (.refl _) rfl rfl) ?_
   refine w_done <| k_seq <| ?_
   rcases oi hc1 with ⟨c41, hc1⟩ | ⟨c41, hc1⟩
   ·refine w_condt rfl c41 <| awp_seq <| w_reg <| s_mov (.int .i64 (s8_20 : Int)) rfl <| s_mov (.int .i64 (s8_20 : Int)) rfl <| w_done <| k_seq <| w_ret <| ?_; obtain rfl := os hc1; obtain rfl := os hf; exact r_heap [] [0, 1, 2] rfl ⟨trivial, trivial⟩ rfl (.refl _) (.refl _)
   ·refine w_condf rfl (bf c41) <| w_skip <| k_blk <| k_seq <| w_reg <| s_q (.int .i64 (w64 ((s8_20 : Int) + 1))) rfl rfl rfl <| s_mov (.int .i64 (w64 ((s8_20 : Int) + 1))) rfl <| w_done <| ?_; exact k_loopn ⟨((s8_20 + 1), r_39.2.1, r_39.2.2), hc1⟩ (mul hlt32) ⟨[], [0, 1, 2], _, _, rfl, rfl, ⟨.refl _, ⟨.refl _, ⟨.refl _, ⟨.of_eq (congrArg (AV.int _) (w64_incr hlt32 hl4)), trivial⟩⟩⟩⟩, (.refl _)⟩
 ·rintro ⟨⟨x_29, x_30⟩, rfl⟩
  refine awp_seq <| w_reg <| s_mov (.int .i64 (-1)) rfl <| w_done <| k_seq <| w_ret <| ?_; obtain rfl := os hf; exact r_heap [] [0, 1, 2] rfl ⟨trivial, trivial⟩ rfl (.refl _) (.refl _)

/- slices.ContainsFunc[[]impl.Json,impl.Json] -/
def c213_h0 : ACode :=
 (.seq (.reg (tm 4 (.c (.bool false)) .done))
 (.seq (.reg (tm 5 (.t 0) (tm 6 (.t 1) (tq 7 (.call 227 [(.t 5), (.t 6)]) (tq 8 (.bin .geq (.t 7) (.c (.int .i64 0))) (tm 4 (.t 8) .done))))))
 .ret))
theorem fc213_h0 : fcomp Try.prog Try.f213 = some (c213_h0.erase, [.mov (.t 4)], 9) := by kernel_rfl
def slices_ContainsFunc_impl_Json_impl_Json_h0 (rec : (GJson → Int → Int → Option (Bool × Int))) (s_1 : (List GJson)) (c_2 : Int) (c_3 : Int) : Option (Bool × Int × Int) :=
    (slices_IndexFunc_impl_Json_impl_Json_h0 rec s_1 c_2 c_3).bind fun r_4 =>
    some ((decide (r_4.1 ≥ 0)), r_4.2.1, r_4.2.2)
theorem w_slices_ContainsFunc_impl_Json_impl_Json_h0 (rec : (GJson → Int → Int → Option (Bool × Int))) (hrec : ∀ a0 a1 a2 r, rec a0 a1 a2 = some r → CallHeap Try.prog false 164 [(encGJson a0), (.int .i64 a1), (.ptr 0 0 0)] [.box 1 (.int .i64 a2)] (.bool r.1) [.box 1 (.int .i64 r.2)]) (s_1 : (List GJson)) (c_2 : Int) (c_3 : Int) (r : (Bool × Int × Int)) (hf : slices_ContainsFunc_impl_Json_impl_Json_h0 rec s_1 c_2 c_3 = some r) : CallHeap Try.prog false 213 [(.lst 5 (s_1.map encGJson)), (.fn 214 [(.ptr 0 0 0), (.ptr 1 0 0)])] [.box 1 (.int .i64 c_2), .box 1 (.ptr 2 0 0), .box 1 (.int .i64 c_3)] (.bool r.1) [.box 1 (.int .i64 r.2.1), .box 1 (.ptr 2 0 0), .box 1 (.int .i64 r.2.2)] := by
 refine CallHeap.of_awp mixed Try.func213 fc213_h0 nle ?_; rw [argT_eq]; unfold slices_ContainsFunc_impl_Json_impl_Json_h0 at hf; unfold c213_h0; refine (show awp Try.prog false 3 _ (ofL [(0, (.lst 5 (s_1.map encGJson))), (1, (.fn 214 [(.ptr 0 0 0), (.ptr 1 0 0)]))]) [.box 1 (.int .i64 c_2), .box 1 (.ptr 2 0 0), .box 1 (.int .i64 c_3)] _ from ?_); refine awp_seq <| w_reg <| s_mov (.bool false) rfl <| w_done <| k_seq <| awp_seq <| w_reg <| ?_
 obtain ⟨r_4, er5, hf⟩ := ob hf
 refine s_mov (.lst 5 (s_1.map encGJson)) rfl <| s_mov (.fn 214 [(.ptr 0 0 0), (.ptr 1 0 0)]) rfl <| ?_; refine s_do (o_callh (v := (.int .i64 r_4.1)) (h2 := [.box 1 (.int .i64 r_4.2.1), .box 1 (.ptr 2 0 0), .box 1 (.int .i64 r_4.2.2)]) [] [0, 1, 2] (fun _ => rfl) (w_slices_IndexFunc_impl_Json_impl_Json_h0 rec hrec _ _ _ _ er5) rfl (.refl _) (.refl _) rfl rfl) ?_; refine s_q (.bool (decide (r_4.1 ≥ 0))) rfl rfl rfl <| s_mov (.bool (decide (r_4.1 ≥ 0))) rfl <| w_done <| k_seq <| w_ret <| ?_; obtain rfl := os hf; exact r_heap [] [0, 1, 2] rfl ⟨trivial, trivial⟩ rfl (.refl _) (.refl _)

/- (impl.Json).rightIn -/
def c164_h0 : ACode :=
 (.seq (.reg (tq 3 (.box 5 (.t 0)) (tq 4 (.box 1 (.t 1)) (tq 5 (.box 1 (.t 2)) (tm 6 (.c (.bool false)) .done)))))
 (.seq (.seq (.reg (tq 7 (.load 1 false (.t 5)) (tq 8 (.nilck (.t 7)) (tq 9 (.load 1 false (.t 8)) (tq 10 (.bin .sub (.t 9) (.c (.int .i64 1))) (tq 11 (.nilck (.t 7)) (.q ⟨none, none, .store 1 (.t 11) (.t 10)⟩
 .done)))))))
 (.seq (.reg (tq 12 (.load 1 false (.t 5)) (tq 13 (.nilck (.t 12)) (tq 14 (.load 1 false (.t 13)) (tq 15 (.bin .lss (.t 14) (.c (.int .i64 0))) (tm 16 (.t 15) (tg 17 16 false (.load 1 false (.t 4)) (tg 18 16 false (.bin .geq (.t 17) (.c (.int .i64 12))) (tq 19 (.pick (.t 16) (.c (.bool true)) (.t 18)) (tm 20 (.t 19) (tg 21 20 false (.load 5 true (.t 3)) (tg 22 20 false (.call 212 [(.t 21)]) (tg 23 20 false (.not (.t 22)) (tq 24 (.pick (.t 20) (.c (.bool true)) (.t 23)) .done))))))))))))))
 (.cut (.cond (.t 24) (.seq (.reg (tm 6 (.c (.bool false)) .done))
 .ret)
 .skip))))
 (.seq (.reg (tq 25 (.faddr 4 (.t 3)) (tq 26 (.load 1 false (.t 25)) (tq 27 (.mkfn 214 [(.t 4), (.t 5)]) (tq 28 (.call 213 [(.t 26), (.t 27)]) (tq 29 (.not (.t 28)) (tm 6 (.t 29) .done)))))))
 .ret)))
theorem fc164_h0 : fcomp Try.prog Try.f164 = some (c164_h0.erase, [.mov (.t 6)], 30) := by kernel_rfl
def impl_Json_rightIn_B (rec : (GJson → Int → Int → Option (Bool × Int))) (j_1 : GJson) (deep_2 : Int) (room_3 : Int) : Option (Bool × Int) :=
    ((if (bif (decide (w64 (room_3 - 1) < 0)) then true else (decide (deep_2 ≥ 12))) then
    some true
    else
    (impl_Json_partOK j_1).bind fun r_10 =>
    some (!r_10) : Option Bool)).bind fun s24_7 =>
    if s24_7 then
    some (false, w64 (room_3 - 1))
    else
    (slices_ContainsFunc_impl_Json_impl_Json_h0 rec j_1.Items deep_2 (w64 (room_3 - 1))).bind fun r_13 =>
    some ((!r_13.1), r_13.2.2)
theorem w_impl_Json_rightIn_B (rec : (GJson → Int → Int → Option (Bool × Int))) (hrec : ∀ a0 a1 a2 r, rec a0 a1 a2 = some r → CallHeap Try.prog false 164 [(encGJson a0), (.int .i64 a1), (.ptr 0 0 0)] [.box 1 (.int .i64 a2)] (.bool r.1) [.box 1 (.int .i64 r.2)]) (j_1 : GJson) (deep_2 : Int) (room_3 : Int) (r : (Bool × Int)) (hf : impl_Json_rightIn_B rec j_1 deep_2 room_3 = some r) : CallHeap Try.prog false 164 [(encGJson j_1), (.int .i64 deep_2), (.ptr 0 0 0)] [.box 1 (.int .i64 room_3)] (.bool r.1) [.box 1 (.int .i64 r.2)] := by
 refine CallHeap.of_awp mixed Try.func164 fc164_h0 nle ?_; rw [argT_eq]; rw [encGJson_eq j_1]; unfold impl_Json_rightIn_B at hf; unfold c164_h0; refine (show awp Try.prog false 1 _ (ofL [(0, (.agg [(.int .i64 j_1.Kind), (.int .i64 j_1.N), (.str j_1.T), (.lst 1 (j_1.Keys.map AV.str)), (.lst 5 (j_1.Items.map encGJson))])), (1, (.int .i64 deep_2)), (2, (.ptr 0 0 0))]) [.box 1 (.int .i64 room_3)] _ from ?_); refine awp_seq <| w_reg <| s_do (o_box (j := 1) (c := (.agg [(.int .i64 j_1.Kind), (.int .i64 j_1.N), (.str j_1.T), (.lst 1 (j_1.Keys.map AV.str)), (.lst 5 (j_1.Items.map encGJson))])) rfl trivial rfl rfl) <| s_do (o_box (j := 2) (c := (.int .i64 deep_2)) rfl trivial rfl rfl) <| s_do (o_box (j := 3) (c := (.ptr 0 0 0)) rfl trivial rfl rfl) <| ?_
 refine s_mov (.bool false) rfl <| w_done <| k_seq <| awp_seq <| awp_seq <| w_reg <| s_q (.ptr 0 0 0) rfl ⟨rfl, rfl⟩ rfl <| s_q (.ptr 0 0 0) rfl trivial rfl <| s_q (.int .i64 room_3) rfl ⟨rfl, rfl⟩ rfl <| s_q (.int .i64 (w64 (room_3 - 1))) rfl rfl rfl <| s_q (.ptr 0 0 0) rfl trivial rfl <| s_do0 (o_storebox (v := (.int .i64 (w64 (room_3 - 1)))) (y' := (.int .i64 (w64 (room_3 - 1)))) rfl rfl rfl trivial ⟨rfl, rfl, rfl⟩ ⟨⟨rfl, trivial⟩, trivial⟩ rfl) <| w_done <| k_seq <| awp_seq <| ?_
 obtain ⟨s24_7, hb1, hf⟩ := ob hf
 refine awp_cut ([(3, (.ptr 1 0 0)), (4, (.ptr 2 0 0)), (5, (.ptr 3 0 0)), (24, (.bool s24_7))], [.box 1 (.int .i64 (w64 (room_3 - 1))), .box 5 (.agg [(.int .i64 j_1.Kind), (.int .i64 j_1.N), (.str j_1.T), (.lst 1 (j_1.Keys.map AV.str)), (.lst 5 (j_1.Items.map encGJson))]), .box 1 (.int .i64 deep_2), .box 1 (.ptr 0 0 0)]) ?_ ?_
 ·refine w_reg <| s_q (.ptr 0 0 0) rfl ⟨rfl, rfl⟩ rfl <| s_q (.ptr 0 0 0) rfl trivial rfl <| s_q (.int .i64 (w64 (room_3 - 1))) rfl ⟨rfl, rfl⟩ rfl <| s_q (.bool (decide (w64 (room_3 - 1) < 0))) rfl rfl rfl <| s_mov (.bool (decide (w64 (room_3 - 1) < 0))) rfl <| ?_; refine s_g (v := (decide (w64 (room_3 - 1) < 0))) (.int .i64 deep_2) rfl (fun hv => by (try simp only [gs_on hv]); exact ⟨rfl, ⟨rfl, rfl⟩, rfl⟩) ?_; refine s_g (v := (decide (w64 (room_3 - 1) < 0))) (.bool (decide (deep_2 ≥ 12))) rfl (fun hv => by (try simp only [gs_on hv]); exact ⟨rfl, rfl, rfl⟩) ?_; refine s_pick (x := true) (y := (decide (deep_2 ≥ 12))) rfl (fun hv => by (try simp only [gs_on hv]); rfl) (fun hv => by (try simp only [gs_on hv]); rfl) ?_
  refine s_mov (.bool (bif (decide (w64 (room_3 - 1) < 0)) then true else (decide (deep_2 ≥ 12)))) rfl ?_
  rcases oi hb1 with ⟨c9, hb1⟩ | ⟨c9, hb1⟩
  ·refine s_lit (s := 20) (b := true) rfl c9 <| s_off rfl rfl <| s_off rfl rfl <| s_off rfl rfl <| s_q (.bool true) rfl trivial rfl <| w_done <| ?_; obtain rfl := os hb1; exact ⟨[], [0, 1, 2, 3], _, _, rfl, rfl, ⟨.refl _, ⟨.refl _, ⟨.refl _, ⟨.refl _, trivial⟩⟩⟩⟩, (.refl _)⟩
  ·refine s_lit (s := 20) (b := false) rfl (bf c9) <| s_on rfl <| s_q (.agg [(.int .i64 j_1.Kind), (.int .i64 j_1.N), (.str j_1.T), (.lst 1 (j_1.Keys.map AV.str)), (.lst 5 (j_1.Items.map encGJson))]) rfl nle rfl <| s_on rfl <| ?_
   obtain ⟨r_10, er11, hb1⟩ := ob hb1
   refine s_do (o_call (w_impl_Json_partOK _ _ er11) rfl (.cons (.of_eq (encGJson_eq j_1).symm) .nil) rfl) <| s_on rfl <| s_q (.bool (!r_10)) rfl trivial rfl <| s_q (.bool (!r_10)) rfl trivial rfl <| w_done <| ?_; obtain rfl := os hb1; exact ⟨[], [0, 1, 2, 3], _, _, rfl, rfl, ⟨.refl _, ⟨.refl _, ⟨.refl _, ⟨.refl _, trivial⟩⟩⟩⟩, (.refl _)⟩
 ·rcases oi hf with ⟨c12, hf⟩ | ⟨c12, hf⟩
  ·refine w_condt rfl c12 <| awp_seq <| w_reg <| s_mov (.bool false) rfl <| w_done <| k_seq <| w_ret <| ?_; obtain rfl := os hf; exact r_heap [] [0] rfl ⟨trivial, trivial⟩ rfl (.refl _) (.refl _)
  ·refine w_condf rfl (bf c12) <| w_skip <| k_seq <| awp_seq <| w_reg <| ?_
   obtain ⟨r_13, er14, hf⟩ := ob hf
   refine s_q (.ptr 1 0 4) rfl trivial rfl <| s_q (.lst 5 (j_1.Items.map encGJson)) rfl nle rfl <| s_q (.fn 214 [(.ptr 2 0 0), (.ptr 3 0 0)]) rfl trivial rfl <| ?_; refine s_do (o_callh (v := (.bool r_13.1)) (h2 := [.box 1 (.int .i64 r_13.2.2), .box 5 (.agg [(.int .i64 j_1.Kind), (.int .i64 j_1.N), (.str j_1.T), (.lst 1 (j_1.Keys.map AV.str)), (.lst 5 (j_1.Items.map encGJson))]), .box 1 (.int .i64 r_13.2.1), .box 1 (.ptr 0 0 0)]) [] [2, 3, 0] (fun _ => rfl) (w_slices_ContainsFunc_impl_Json_impl_Json_h0 rec hrec _ _ _ _ er14) rfl (.refl _) (.refl _) rfl rfl) ?_; refine s_q (.bool (!r_13.1)) rfl trivial rfl <| s_mov (.bool (!r_13.1)) rfl <| w_done <| k_seq <| w_ret <| ?_; obtain rfl := os hf; exact r_heap [] [0] rfl ⟨trivial, trivial⟩ rfl (.refl _) (.refl _)
def impl_Json_rightIn : Nat → GJson → Int → Int → Option (Bool × Int)
 | 0, _, _, _ => none
 | k + 1, j_1, deep_2, room_3 => impl_Json_rightIn_B (impl_Json_rightIn k) j_1 deep_2 room_3
theorem w_impl_Json_rightIn : ∀ (k : Nat) (j_1 : GJson) (deep_2 : Int) (room_3 : Int) (r : (Bool × Int)), impl_Json_rightIn k j_1 deep_2 room_3 = some r → CallHeap Try.prog false 164 [(encGJson j_1), (.int .i64 deep_2), (.ptr 0 0 0)] [.box 1 (.int .i64 room_3)] (.bool r.1) [.box 1 (.int .i64 r.2)]
 | 0, j_1, deep_2, room_3, r, h => by rw [impl_Json_rightIn.eq_1] at h; cases h
 | k + 1, j_1, deep_2, room_3, r, h => by
  rw [impl_Json_rightIn.eq_2] at h; exact w_impl_Json_rightIn_B _ (w_impl_Json_rightIn k) j_1 deep_2 room_3 r h

/- impl.JsonOK -/
def c101 : ACode :=
 (.seq (.reg (tq 1 (.box 5 (.t 0)) (tm 2 (.c (.bool false)) .done)))
 (.seq (.reg (tq 3 (.box 1 (.c (.int .i64 0))) (.q ⟨none, none, .store 1 (.t 3) (.c (.int .i64 400))⟩
 .done)))
 (.seq (.reg (tq 4 (.load 5 true (.t 1)) (tq 5 (.call 164 [(.t 4), (.c (.int .i64 0)), (.t 3)]) (tm 2 (.t 5) .done))))
 .ret)))
theorem fc101 : fcomp Try.prog Try.f101 = some (c101.erase, [.mov (.t 2)], 6) := by kernel_rfl
def impl_JsonOK (j_1 : GJson) : Option Bool :=
    (impl_Json_rightIn FUEL j_1 0 400).bind fun r_2 =>
    some r_2.1
theorem w_impl_JsonOK (j_1 : GJson) (r : Bool) (hf : impl_JsonOK j_1 = some r) : CallOK Try.prog 101 .flat [(encGJson j_1)] (.bool r) := by
 refine CallOK.of_awp mixed Try.func101 fc101 nle ?_; rw [argT_eq]; rw [encGJson_eq j_1]; unfold impl_JsonOK at hf; unfold c101; refine (show awp Try.prog false 0 _ (ofL [(0, (.agg [(.int .i64 j_1.Kind), (.int .i64 j_1.N), (.str j_1.T), (.lst 1 (j_1.Keys.map AV.str)), (.lst 5 (j_1.Items.map encGJson))]))]) [] _ from ?_); refine awp_seq <| w_reg <| s_do (o_box (j := 0) (c := (.agg [(.int .i64 j_1.Kind), (.int .i64 j_1.N), (.str j_1.T), (.lst 1 (j_1.Keys.map AV.str)), (.lst 5 (j_1.Items.map encGJson))])) rfl trivial rfl rfl) <| s_mov (.bool false) rfl <| w_done <| k_seq <| awp_seq <| w_reg <| s_do (o_box (j := 1) (c := (.int .i64 0)) rfl trivial rfl rfl) <| s_do0 (o_storebox (v := (.int .i64 400)) (y' := (.int .i64 400)) rfl rfl rfl trivial ⟨rfl, rfl, rfl⟩ ⟨⟨rfl, trivial⟩, trivial⟩ rfl) <| ?_
 refine w_done <| k_seq <| awp_seq <| w_reg <| ?_
 obtain ⟨r_2, er3, hf⟩ := ob hf
 refine s_q (.agg [(.int .i64 j_1.Kind), (.int .i64 j_1.N), (.str j_1.T), (.lst 1 (j_1.Keys.map AV.str)), (.lst 5 (j_1.Items.map encGJson))]) rfl nle rfl ?_; refine s_do (o_callh (v := (.bool r_2.1)) (h2 := [.box 5 (.agg [(.int .i64 j_1.Kind), (.int .i64 j_1.N), (.str j_1.T), (.lst 1 (j_1.Keys.map AV.str)), (.lst 5 (j_1.Items.map encGJson))]), .box 1 (.int .i64 r_2.2)]) [] [1] (fun _ => rfl) (w_impl_Json_rightIn FUEL _ _ _ _ er3) rfl (.cons (.of_eq (encGJson_eq j_1).symm) (.cons (.refl _) (.cons (.refl _) .nil))) (.refl _) rfl rfl) ?_; refine s_mov (.bool r_2.1) rfl <| w_done <| k_seq <| w_ret <| ?_; obtain rfl := os hf; exact r_flat ⟨trivial, trivial⟩ rfl (.refl _)

/- slices.Equal[[]string,string] -/
def c167 : ACode :=
 (.seq (.reg (tm 4 (.c (.bool false)) .done))
 (.seq (.seq (.reg (tm 6 (.t 0) (tq 7 (.len (.t 6)) (tm 8 (.t 1) (tq 9 (.len (.t 8)) (tq 10 (.bin .neq (.t 7) (.t 9)) .done))))))
 (.cond (.t 10) (.seq (.reg (tm 4 (.c (.bool false)) .done))
 .ret)
 .skip))
 (.seq (.seq (.reg (tm 11 (.t 0) (tq 12 (.len (.t 11)) (tm 13 (.c (.int .i64 0)) .done))))
 (.block 0 (.loop (.seq (.reg (tq 14 (.bin .lss (.t 13) (.t 12)) .done))
 (.seq (.cond (.t 14) .skip
 (.exit 0))
 (.seq (.block 1 (.seq (.reg (tm 15 (.t 13) (tm 5 (.t 15) .done)))
 (.seq (.reg (tm 16 (.t 0) (tm 17 (.t 5) (tq 18 (.iaddr 1 (.t 16) (.t 17)) (tq 19 (.load 1 false (.t 18)) (tm 20 (.t 1) (tm 21 (.t 5) (tq 22 (.iaddr 1 (.t 20) (.t 21)) (tq 23 (.load 1 false (.t 22)) (tq 24 (.bin .neq (.t 19) (.t 23)) .done))))))))))
 (.cond (.t 24) (.seq (.reg (tm 4 (.c (.bool false)) .done))
 .ret)
 .skip))))
 (.reg (tq 25 (.bin .add (.t 13) (.c (.int .i64 1))) (tm 13 (.t 25) .done)))))))))
 (.cut (.seq (.reg (tm 4 (.c (.bool true)) .done))
 .ret)))))
theorem fc167 : fcomp Try.prog Try.f167 = some (c167.erase, [.mov (.t 4)], 26) := by kernel_rfl
def slices_Equal_string_string_L1 (s2_2 : (List Str)) : List Str → Nat → Option (Fl Bool Unit)
  | [], s13_20 =>
    some (.go ())
  | x_34 :: xs, s13_20 =>
    (idx s2_2 (s13_20 : Int)).bind fun x_35 =>
    if (!(x_34 == x_35)) then
    some (.ret false)
    else
    slices_Equal_string_string_L1 s2_2 xs (s13_20 + 1)

def slices_Equal_string_string (s1_1 : (List Str)) (s2_2 : (List Str)) : Option Bool :=
    if ((s1_1.length : Int) != (s2_2.length : Int)) then
    some false
    else
    (slices_Equal_string_string_L1 s2_2 s1_1 0).bind fun q => (match q with
    | .ret r => some r
    | .go _ =>
    some true)
theorem w_slices_Equal_string_string (s1_1 : (List Str)) (s2_2 : (List Str)) (r : Bool) (hf : slices_Equal_string_string s1_1 s2_2 = some r) : CallOK Try.prog 167 .flat [(.lst 1 (s1_1.map AV.str)), (.lst 1 (s2_2.map AV.str))] (.bool r) := by
 refine CallOK.of_awp mixed Try.func167 fc167 nle ?_; rw [argT_eq]; unfold slices_Equal_string_string at hf; unfold c167; refine (show awp Try.prog false 0 _ (ofL [(0, (.lst 1 (s1_1.map AV.str))), (1, (.lst 1 (s2_2.map AV.str)))]) [] _ from ?_); refine awp_seq <| w_reg <| s_mov (.bool false) rfl <| w_done <| k_seq <| awp_seq <| awp_seq <| w_reg <| s_mov (.lst 1 (s1_1.map AV.str)) rfl <| s_dof (o_len (enc := AV.str) rfl) fun hl3 => s_mov (.lst 1 (s2_2.map AV.str)) rfl <| s_dof (o_len (enc := AV.str) rfl) fun hl4 => s_q (.bool ((s1_1.length : Int) != (s2_2.length : Int))) rfl rfl rfl <| w_done <| k_seq <| ?_
 rcases oi hf with ⟨c5, hf⟩ | ⟨c5, hf⟩
 ·refine w_condt rfl c5 <| awp_seq <| w_reg <| s_mov (.bool false) rfl <| w_done <| k_seq <| w_ret <| ?_; obtain rfl := os hf; exact r_flat ⟨trivial, trivial⟩ rfl (.refl _)
 ·refine w_condf rfl (bf c5) <| w_skip <| k_seq <| awp_seq <| awp_seq <| w_reg <| s_mov (.lst 1 (s1_1.map AV.str)) rfl <| s_dof (o_len (enc := AV.str) rfl) fun hl6 => s_mov (.int .i64 0) rfl <| w_done <| k_seq <| ?_
  obtain ⟨p27, hb1, hf⟩ := ob hf
  refine awp_cutx (X := {q : Unit // p27 = .go q}) (fun q => ([], [])) ?_ ?_
  ·refine awp_loop (X := {q : Nat // slices_Equal_string_string_L1 s2_2 (s1_1.drop q) q = some p27}) (fun q => ([(0, (.lst 1 (s1_1.map AV.str))), (1, (.lst 1 (s2_2.map AV.str))), (12, (.int .i64 (s1_1.length : Int))), (13, (.int .i64 (q.1 : Int)))], [])) (fun q => s1_1.length - q.1) ⟨0, hb1⟩ ⟨[], [], _, _, rfl, rfl, ⟨.refl _, ⟨.refl _, ⟨.refl _, ⟨.refl _, trivial⟩⟩⟩⟩, (.refl _)⟩ ?_
   rintro ⟨s13_20, hc1⟩
   have hc1 : slices_Equal_string_string_L1 s2_2 (s1_1.drop s13_20) s13_20 = some p27 := hc1
   refine (show awp Try.prog false 0 _ (ofL [(0, (.lst 1 (s1_1.map AV.str))), (1, (.lst 1 (s2_2.map AV.str))), (12, (.int .i64 (s1_1.length : Int))), (13, (.int .i64 (s13_20 : Int)))]) [] _ from ?_)
   rcases dropc s1_1 s13_20 with ⟨hie30, hd33⟩ | ⟨hlt28, x_34, hx29, hd33⟩
   ·rw [hd33, slices_Equal_string_string_L1.eq_1] at hc1
    have hq32 := dlf hie30
    refine awp_seq <| w_reg <| s_q (.bool (decide ((s13_20 : Int) < (s1_1.length : Int)))) rfl rfl rfl <| w_done <| k_seq <| awp_seq <| w_condf rfl hq32 <| w_exit <| k_seqx <| k_loopx <| k_blkx <| ?_; obtain rfl := os hc1; exact k_cutn ⟨_, rfl⟩ ⟨[], [], _, _, rfl, rfl, trivial, (.refl _)⟩
   ·rw [hd33, slices_Equal_string_string_L1.eq_2] at hc1
    have hq32 := dlt hlt28
    refine awp_seq <| w_reg <| s_q (.bool (decide ((s13_20 : Int) < (s1_1.length : Int)))) rfl rfl rfl <| w_done <| k_seq <| awp_seq <| w_condt rfl hq32 <| w_skip <| k_seq <| awp_seq <| w_blk <| awp_seq <| w_reg <| s_mov (.int .i64 (s13_20 : Int)) rfl <| s_mov (.int .i64 (s13_20 : Int)) rfl <| w_done <| k_seq <| awp_seq <| w_reg <| ?_
    obtain ⟨x_35, ex36, hc1⟩ := ob hc1
    refine s_mov (.lst 1 (s1_1.map AV.str)) rfl <| s_mov (.int .i64 (s13_20 : Int)) rfl <| s_do (o_iaddrn (enc := AV.str) rfl rfl hx29) <| s_q (.str x_34) rfl ⟨rfl, rfl⟩ rfl <| s_mov (.lst 1 (s2_2.map AV.str)) rfl <| s_mov (.int .i64 (s13_20 : Int)) rfl <| s_do (o_iaddr (enc := AV.str) rfl rfl (idx0 ex36) (idx1 ex36)) <| s_q (.str x_35) rfl ⟨rfl, rfl⟩ rfl <| s_q (.bool (!(x_34 == x_35))) rfl trivial rfl <| w_done <| k_seq <| ?_
    rcases oi hc1 with ⟨c37, hc1⟩ | ⟨c37, hc1⟩
    ·refine w_condt rfl c37 <| awp_seq <| w_reg <| s_mov (.bool false) rfl <| w_done <| k_seq <| w_ret <| ?_; obtain rfl := os hc1; obtain rfl := os hf; exact r_flat ⟨trivial, trivial⟩ rfl (.refl _)
    ·refine w_condf rfl (bf c37) <| w_skip <| k_blk <| k_seq <| w_reg <| s_q (.int .i64 (w64 ((s13_20 : Int) + 1))) rfl rfl rfl <| s_mov (.int .i64 (w64 ((s13_20 : Int) + 1))) rfl <| w_done <| ?_; exact k_loopn ⟨(s13_20 + 1), hc1⟩ (mul hlt28) ⟨[], [], _, _, rfl, rfl, ⟨.refl _, ⟨.refl _, ⟨.refl _, ⟨.of_eq (congrArg (AV.int _) (w64_incr hlt28 hl6)), trivial⟩⟩⟩⟩, (.refl _)⟩
  ·rintro ⟨_, rfl⟩
   refine awp_seq <| w_reg <| s_mov (.bool true) rfl <| w_done <| k_seq <| w_ret <| ?_; obtain rfl := os hf; exact r_flat ⟨trivial, trivial⟩ rfl (.refl _)

/- slices.Clone[[]string,string] -/
def c166 : ACode :=
 (.seq (.reg (tm 2 (.c .nil) .done))
 (.seq (.seq (.reg (tm 3 (.t 0) (tq 4 (.isnil false (.t 3)) .done)))
 (.cond (.t 4) (.seq (.reg (tm 2 (.c .nil) .done))
 .ret)
 .skip))
 (.seq (.reg (tq 5 (.bslice 1 []) (tm 6 (.t 0) (tq 7 (.append 1 16 (.t 5) (.t 6)) (tm 2 (.t 7) .done)))))
 .ret)))
theorem fc166 : fcomp Try.prog Try.f166 = some (c166.erase, [.mov (.t 2)], 8) := by kernel_rfl
def slices_Clone_string_string (s_1 : (List Str)) : Option (List Str) :=
    if ([] ++ s_1).length ≤ 2 ^ 30 then
    some ([] ++ s_1)
    else none
theorem w_slices_Clone_string_string (s_1 : (List Str)) (r : (List Str)) (hf : slices_Clone_string_string s_1 = some r) : CallOK Try.prog 166 .fresh [(.lst 1 (s_1.map AV.str))] (.lst 1 (r.map AV.str)) := by
 refine CallOK.of_awp mixed Try.func166 fc166 nle ?_; rw [argT_eq]; unfold slices_Clone_string_string at hf; unfold c166; refine (show awp Try.prog true 0 _ (ofL [(0, (.lst 1 (s_1.map AV.str)))]) [] _ from ?_); refine awp_seq <| w_reg <| s_mov .nil rfl <| w_done <| k_seq <| awp_seq <| awp_seq <| w_reg <| s_mov (.lst 1 (s_1.map AV.str)) rfl <| s_isn (l := s_1.map AV.str) rfl <| ?_
 intro b hb3
 rcases b with _ | _
 ·refine w_done <| k_seq <| w_condf rfl rfl <| w_skip <| k_seq <| awp_seq <| w_reg <| ?_
  obtain ⟨g2, hf⟩ := og hf
  refine s_do (o_bslice (j := 0) (as' := []) rfl (fun _ => by decide) trivial (.refl _) rfl rfl rfl) ?_; refine s_mov (.lst 1 (s_1.map AV.str)) rfl ?_
  refine s_do (o_appendd (j := 1) (L := (([] ++ s_1).map AV.str)) (len := ([] ++ s_1).length) rfl false rfl rfl (fun _ => flm (fun _ => rfl) _) (fun _ _ _ => flm (fun _ => rfl) _) (by decide) ((by simp)) (by simp <;> omega) g2 rfl rfl) ?_
  refine s_mov (.own 1 0 (([] ++ s_1).length)) rfl <| w_done <| k_seq <| w_ret <| ?_; obtain rfl := os hf; exact r_fresh ⟨trivial, trivial⟩ rfl (by decide) (.of_eq (congrArg (AV.lst _) (tk (enc := AV.str) ([] ++ s_1))))
 ·have he4 : s_1 = [] := mapnil (hb3 rfl)
  have hE : (if ([] ++ s_1).length ≤ 2 ^ 30 then some ([] ++ s_1) else none) = (some []) := by simp [he4]
  rw [hE] at hf; refine w_done <| k_seq <| w_condt rfl rfl <| awp_seq <| w_reg <| s_mov .nil rfl <| w_done <| k_seq <| w_ret <| ?_; obtain rfl := os hf; exact r_fresh ⟨trivial, trivial⟩ rfl (by decide) (.nil _)

/- impl.copyJson -/
def c103 : ACode :=
 (.seq (.reg (tq 1 (.box 5 (.t 0)) (tq 2 (.box 5 (.c (.agg [(.int .i64 0), (.int .i64 0), (.str []), .nil, .nil]))) .done)))
 (.seq (.reg (tq 6 (.faddr 3 (.t 1)) (tq 7 (.load 1 false (.t 6)) (tq 8 (.call 166 [(.t 7)]) (tq 9 (.faddr 3 (.t 1)) (.q ⟨none, none, .store 1 (.t 9) (.t 8)⟩
 .done))))))
 (.seq (.reg (tq 10 (.bslice 5 []) (tm 3 (.t 10) .done)))
 (.seq (.seq (.reg (tq 11 (.faddr 4 (.t 1)) (tq 12 (.load 1 false (.t 11)) (tq 13 (.len (.t 12)) (tm 14 (.c (.int .i64 0)) .done)))))
 (.block 0 (.loop (.seq (.reg (tq 15 (.bin .lss (.t 14) (.t 13)) .done))
 (.seq (.cond (.t 15) .skip
 (.exit 0))
 (.seq (.block 1 (.seq (.reg (tq 16 (.iaddr 5 (.t 12) (.t 14)) (tq 17 (.load 5 true (.t 16)) (tq 5 (.box 5 (.c (.agg [(.int .i64 0), (.int .i64 0), (.str []), .nil, .nil]))) (.q ⟨none, none, .store 5 (.t 5) (.t 17)⟩
 .done)))))
 (.reg (tm 18 (.t 3) (tq 19 (.load 5 true (.t 5)) (tq 20 (.call 103 [(.t 19)]) (tq 21 (.bslice 5 [(.t 20)]) (tq 22 (.append 5 80 (.t 18) (.t 21)) (tm 3 (.t 22) .done)))))))))
 (.reg (tq 23 (.bin .add (.t 14) (.c (.int .i64 1))) (tm 14 (.t 23) .done)))))))))
 (.cut (.seq (.seq (.reg (tq 24 (.faddr 4 (.t 1)) (.q ⟨none, none, .store 1 (.t 24) (.c .nil)⟩
 .done)))
 (.seq (.reg (tm 25 (.t 3) (tq 26 (.len (.t 25)) (tq 27 (.bin .gtr (.t 26) (.c (.int .i64 0))) .done))))
 (.cond (.t 27) (.reg (tm 28 (.t 3) (tq 29 (.faddr 4 (.t 1)) (.q ⟨none, none, .store 1 (.t 29) (.t 28)⟩
 .done))))
 .skip)))
 (.seq (.reg (tq 30 (.load 5 true (.t 1)) (.q ⟨none, none, .store 5 (.t 2) (.t 30)⟩
 .done)))
 .ret)))))))
theorem fc103 : fcomp Try.prog Try.f103 = some (c103.erase, [.load 5 true (.t 2)], 31) := by kernel_rfl
def impl_copyJson_B_L1 (rec : (GJson → Option GJson)) : List GJson → (List GJson) → Option (List GJson)
  | [], items_20 =>
    some items_20
  | x_35 :: xs, items_20 =>
    (rec x_35).bind fun r_36 =>
    if (items_20 ++ [r_36]).length ≤ 2 ^ 30 then
    impl_copyJson_B_L1 rec xs  (items_20 ++ [r_36])
    else none

def impl_copyJson_B (rec : (GJson → Option GJson)) (j_1 : GJson) : Option GJson :=
    (slices_Clone_string_string j_1.Keys).bind fun r_2 =>
    (impl_copyJson_B_L1 rec j_1.Items []).bind fun items_27 =>
    if (decide ((items_27.length : Int) > 0)) then
    some (⟨j_1.Kind, j_1.N, j_1.T, r_2, items_27⟩ : GJson)
    else
    some (⟨j_1.Kind, j_1.N, j_1.T, r_2, []⟩ : GJson)
theorem w_impl_copyJson_B (rec : (GJson → Option GJson)) (hrec : ∀ a0 r, rec a0 = some r → CallOK Try.prog 103 .fresh [(encGJson a0)] (encGJson r)) (j_1 : GJson) (r : GJson) (hf : impl_copyJson_B rec j_1 = some r) : CallOK Try.prog 103 .fresh [(encGJson j_1)] (encGJson r) := by
 refine CallOK.of_awp mixed Try.func103 fc103 nle ?_; rw [argT_eq]; rw [encGJson_eq j_1]; unfold impl_copyJson_B at hf; unfold c103; refine (show awp Try.prog true 0 _ (ofL [(0, (.agg [(.int .i64 j_1.Kind), (.int .i64 j_1.N), (.str j_1.T), (.lst 1 (j_1.Keys.map AV.str)), (.lst 5 (j_1.Items.map encGJson))]))]) [] _ from ?_); refine awp_seq <| w_reg <| s_do (o_box (j := 0) (c := (.agg [(.int .i64 j_1.Kind), (.int .i64 j_1.N), (.str j_1.T), (.lst 1 (j_1.Keys.map AV.str)), (.lst 5 (j_1.Items.map encGJson))])) rfl trivial rfl rfl) <| s_do (o_box (j := 1) (c := (.agg [(.int .i64 0), (.int .i64 0), (.str []), .nil, .nil])) rfl trivial rfl rfl) <| w_done <| k_seq <| awp_seq <| w_reg <| ?_
 obtain ⟨r_2, er3, hf⟩ := ob hf
 refine s_q (.ptr 0 0 3) rfl trivial rfl <| s_q (.lst 1 (j_1.Keys.map AV.str)) rfl nle rfl <| s_do (o_callf (v := (.own 2 0 r_2.length)) (h' := [.row 1 (r_2.map AV.str)]) (w_slices_Clone_string_string _ _ er3) rfl (.refl _) (by simp only [openV, openVs, List.length_map, List.nil_append, List.append_nil, List.cons_append]; rfl)) <| s_q (.ptr 0 0 3) rfl trivial rfl <| s_do0 (o_storebox (v := (.own 2 0 r_2.length)) (y' := (.agg [(.int .i64 j_1.Kind), (.int .i64 j_1.N), (.str j_1.T), (.own 2 0 r_2.length), (.lst 5 (j_1.Items.map encGJson))])) rfl rfl rfl trivial ⟨rfl, nle⟩ ⟨⟨rfl, trivial⟩, trivial⟩ rfl) <| w_done <| k_seq <| awp_seq <| w_reg <| ?_; refine s_do (o_bslice (j := 3) (as' := []) rfl (fun _ => by decide) trivial (.refl _) rfl rfl rfl) ?_
 refine s_mov (.own 3 0 0) rfl <| w_done <| k_seq <| awp_seq <| awp_seq <| w_reg <| s_q (.ptr 0 0 4) rfl trivial rfl <| s_q (.lst 5 (j_1.Items.map encGJson)) rfl nle rfl <| s_dof (o_len (enc := encGJson) rfl) fun hl4 => s_mov (.int .i64 0) rfl <| w_done <| k_seq <| ?_
 obtain ⟨items_27, hb1, hf⟩ := ob hf
 refine awp_cut ([(1, (.ptr 0 0 0)), (2, (.ptr 1 0 0)), (3, (.own 2 0 items_27.length))], [.box 5 (.agg [(.int .i64 j_1.Kind), (.int .i64 j_1.N), (.str j_1.T), (.own 3 0 r_2.length), (.lst 5 (j_1.Items.map encGJson))]), .box 5 (.agg [(.int .i64 0), (.int .i64 0), (.str []), .nil, .nil]), .row 5 (items_27.map encGJson), .row 1 (r_2.map AV.str)]) ?_ ?_
 ·refine awp_loop (X := {q : (Nat × (List GJson)) // impl_copyJson_B_L1 rec (j_1.Items.drop q.1) q.2 = some items_27}) (fun q => ([(1, (.ptr 0 0 0)), (2, (.ptr 1 0 0)), (3, (.own 2 0 q.1.2.length)), (12, (.lst 5 (j_1.Items.map encGJson))), (13, (.int .i64 (j_1.Items.length : Int))), (14, (.int .i64 (q.1.1 : Int)))], [.box 5 (.agg [(.int .i64 j_1.Kind), (.int .i64 j_1.N), (.str j_1.T), (.own 3 0 r_2.length), (.lst 5 (j_1.Items.map encGJson))]), .box 5 (.agg [(.int .i64 0), (.int .i64 0), (.str []), .nil, .nil]), .row 5 (q.1.2.map encGJson), .row 1 (r_2.map AV.str)])) (fun q => j_1.Items.length - q.1.1) ⟨(0, []), hb1⟩ ⟨[], [0, 1, 3, 2], _, _, rfl, rfl, ⟨.refl _, ⟨.refl _, ⟨.of_eq (congrArg (AV.own _ 0) (by simp)), ⟨.refl _, ⟨.refl _, ⟨.refl _, trivial⟩⟩⟩⟩⟩⟩, (.refl _)⟩ ?_
  rintro ⟨⟨s14_19, items_20⟩, hc1⟩
  have hc1 : impl_copyJson_B_L1 rec (j_1.Items.drop s14_19) items_20 = some items_27 := hc1
  refine (show awp Try.prog true 0 _ (ofL [(1, (.ptr 0 0 0)), (2, (.ptr 1 0 0)), (3, (.own 2 0 items_20.length)), (12, (.lst 5 (j_1.Items.map encGJson))), (13, (.int .i64 (j_1.Items.length : Int))), (14, (.int .i64 (s14_19 : Int)))]) [.box 5 (.agg [(.int .i64 j_1.Kind), (.int .i64 j_1.N), (.str j_1.T), (.own 3 0 r_2.length), (.lst 5 (j_1.Items.map encGJson))]), .box 5 (.agg [(.int .i64 0), (.int .i64 0), (.str []), .nil, .nil]), .row 5 (items_20.map encGJson), .row 1 (r_2.map AV.str)] _ from ?_)
  rcases dropc j_1.Items s14_19 with ⟨hie31, hd34⟩ | ⟨hlt29, x_35, hx30, hd34⟩
  ·rw [hd34, impl_copyJson_B_L1.eq_1] at hc1
   have hq33 := dlf hie31
   refine awp_seq <| w_reg <| s_q (.bool (decide ((s14_19 : Int) < (j_1.Items.length : Int)))) rfl rfl rfl <| w_done <| k_seq <| awp_seq <| w_condf rfl hq33 <| w_exit <| k_seqx <| k_loopx <| k_blkx <| ?_; obtain rfl := os hc1; exact ⟨[], [0, 1, 2, 3], _, _, rfl, rfl, ⟨.refl _, ⟨.refl _, ⟨.refl _, trivial⟩⟩⟩, (.refl _)⟩
  ·rw [hd34, impl_copyJson_B_L1.eq_2] at hc1
   have hq33 := dlt hlt29
   refine awp_seq <| w_reg <| s_q (.bool (decide ((s14_19 : Int) < (j_1.Items.length : Int)))) rfl rfl rfl <| w_done <| k_seq <| awp_seq <| w_condt rfl hq33 <| w_skip <| k_seq <| awp_seq <| w_blk <| awp_seq <| w_reg <| s_do (o_iaddrn (enc := encGJson) rfl rfl hx30) <| s_do (o_loadeq (v := (.agg [(.int .i64 x_35.Kind), (.int .i64 x_35.N), (.str x_35.T), (.lst 1 (x_35.Keys.map AV.str)), (.lst 5 (x_35.Items.map encGJson))])) rfl (encGJson_eq _) nle rfl) <| s_do (o_box (j := 4) (c := (.agg [(.int .i64 0), (.int .i64 0), (.str []), .nil, .nil])) rfl trivial rfl rfl) <| s_do0 (o_storebox (v := (.agg [(.int .i64 x_35.Kind), (.int .i64 x_35.N), (.str x_35.T), (.lst 1 (x_35.Keys.map AV.str)), (.lst 5 (x_35.Items.map encGJson))])) (y' := (.agg [(.int .i64 x_35.Kind), (.int .i64 x_35.N), (.str x_35.T), (.lst 1 (x_35.Keys.map AV.str)), (.lst 5 (x_35.Items.map encGJson))])) rfl rfl rfl trivial ⟨rfl, nle⟩ ⟨⟨rfl, trivial⟩, ⟨⟨rfl, trivial⟩, ⟨⟨rfl, trivial⟩, ⟨⟨rfl, trivial⟩, ⟨⟨rfl, trivial⟩, trivial⟩⟩⟩⟩⟩ rfl) <| ?_
   refine w_done <| k_seq <| w_reg <| ?_
   obtain ⟨r_36, er37, hc1⟩ := ob hc1
   obtain ⟨g38, hc1⟩ := og hc1
   refine s_mov (.own 2 0 items_20.length) rfl <| s_q (.agg [(.int .i64 x_35.Kind), (.int .i64 x_35.N), (.str x_35.T), (.lst 1 (x_35.Keys.map AV.str)), (.lst 5 (x_35.Items.map encGJson))]) rfl nle rfl <| s_do (o_callf (v := (.agg [(.int .i64 r_36.Kind), (.int .i64 r_36.N), (.str r_36.T), (.own 5 0 r_36.Keys.length), (.own 6 0 r_36.Items.length)])) (h' := [.row 1 (r_36.Keys.map AV.str), .row 5 (r_36.Items.map encGJson)]) (hrec _ _ er37) rfl (.cons (.of_eq (encGJson_eq x_35).symm) .nil) (by simp only [openV, openVs, List.length_map, encGJson_eq, List.nil_append, List.append_nil, List.cons_append]; rfl)) <| ?_; refine s_do (o_bslice (j := 7) (as' := [(encGJson r_36)]) rfl (fun _ => by decide) ⟨rfl, trivial⟩ (.cons (leJ (x := r_36) (.agg (.cons (.refl _) (.cons (.refl _) (.cons (.refl _) (.cons (.of_eq (congrArg (AV.lst _) (tk (enc := AV.str) r_36.Keys))) (.cons (.of_eq (congrArg (AV.lst _) (tk (enc := encGJson) r_36.Items))) .nil))))))) .nil) rfl rfl rfl) ?_
   refine s_do (o_appendd (j := 8) (L := ((items_20 ++ [r_36]).map encGJson)) (len := (items_20 ++ [r_36]).length) rfl true rfl rfl (fun h => Bool.noConfusion h) (fun _ _ h => (ownl (show AV.own _ _ _ = AV.lst _ _ from h)).elim) (by decide) (apo (enc := encGJson) items_20 [r_36]) (by simp <;> omega) g38 rfl rfl) ?_
   refine s_mov (.own 8 0 ((items_20 ++ [r_36]).length)) rfl <| w_done <| k_blk <| k_seq <| w_reg <| s_q (.int .i64 (w64 ((s14_19 : Int) + 1))) rfl rfl rfl <| s_mov (.int .i64 (w64 ((s14_19 : Int) + 1))) rfl <| w_done <| ?_; exact k_loopn ⟨((s14_19 + 1), items_20 ++ [r_36]), hc1⟩ (mul hlt29) ⟨[], [0, 1, 8, 3], _, _, rfl, rfl, ⟨.refl _, ⟨.refl _, ⟨.refl _, ⟨.refl _, ⟨.refl _, ⟨.of_eq (congrArg (AV.int _) (w64_incr hlt29 hl4)), trivial⟩⟩⟩⟩⟩⟩, (.refl _)⟩
 ·refine awp_seq <| awp_seq <| w_reg <| s_q (.ptr 0 0 4) rfl trivial rfl <| s_do0 (o_storebox (v := .nil) (y' := (.agg [(.int .i64 j_1.Kind), (.int .i64 j_1.N), (.str j_1.T), (.own 3 0 r_2.length), .nil])) rfl rfl rfl trivial ⟨rfl, nle⟩ ⟨⟨rfl, trivial⟩, trivial⟩ rfl) <| w_done <| k_seq <| awp_seq <| w_reg <| s_mov (.own 2 0 items_27.length) rfl <| s_dof (o_lenown rfl rfl) fun hl39 => s_q (.bool (decide ((items_27.length : Int) > 0))) rfl rfl rfl <| w_done <| k_seq <| ?_
  rcases oi hf with ⟨c40, hf⟩ | ⟨c40, hf⟩
  ·refine w_condt rfl c40 <| w_reg <| s_mov (.own 2 0 items_27.length) rfl <| s_q (.ptr 0 0 4) rfl trivial rfl <| s_do0 (o_storebox (v := (.own 2 0 items_27.length)) (y' := (.agg [(.int .i64 j_1.Kind), (.int .i64 j_1.N), (.str j_1.T), (.own 3 0 r_2.length), (.own 2 0 items_27.length)])) rfl rfl rfl trivial ⟨rfl, nle⟩ ⟨⟨rfl, trivial⟩, trivial⟩ rfl) <| w_done <| k_seq <| awp_seq <| w_reg <| s_q (.agg [(.int .i64 j_1.Kind), (.int .i64 j_1.N), (.str j_1.T), (.own 3 0 r_2.length), (.own 2 0 items_27.length)]) rfl nle rfl <| s_do0 (o_storebox (v := (.agg [(.int .i64 j_1.Kind), (.int .i64 j_1.N), (.str j_1.T), (.own 3 0 r_2.length), (.own 2 0 items_27.length)])) (y' := (.agg [(.int .i64 j_1.Kind), (.int .i64 j_1.N), (.str j_1.T), (.own 3 0 r_2.length), (.own 2 0 items_27.length)])) rfl rfl rfl trivial ⟨rfl, nle⟩ ⟨⟨rfl, trivial⟩, ⟨⟨rfl, trivial⟩, ⟨⟨rfl, trivial⟩, ⟨⟨rfl, trivial⟩, ⟨⟨rfl, trivial⟩, trivial⟩⟩⟩⟩⟩ rfl) <| ?_
   refine w_done <| k_seq <| w_ret <| ?_; obtain rfl := os hf; exact r_fresh ⟨nle, trivial⟩ rfl (by decide) (leJ (x := (⟨j_1.Kind, j_1.N, j_1.T, r_2, items_27⟩ : GJson)) (.agg (.cons (.refl _) (.cons (.refl _) (.cons (.refl _) (.cons (.of_eq (congrArg (AV.lst _) (tk (enc := AV.str) r_2))) (.cons (.of_eq (congrArg (AV.lst _) (tk (enc := encGJson) items_27))) .nil)))))))
  ·refine w_condf rfl (bf c40) <| w_skip <| k_seq <| awp_seq <| w_reg <| s_q (.agg [(.int .i64 j_1.Kind), (.int .i64 j_1.N), (.str j_1.T), (.own 3 0 r_2.length), .nil]) rfl nle rfl <| s_do0 (o_storebox (v := (.agg [(.int .i64 j_1.Kind), (.int .i64 j_1.N), (.str j_1.T), (.own 3 0 r_2.length), .nil])) (y' := (.agg [(.int .i64 j_1.Kind), (.int .i64 j_1.N), (.str j_1.T), (.own 3 0 r_2.length), .nil])) rfl rfl rfl trivial ⟨rfl, nle⟩ ⟨⟨rfl, trivial⟩, ⟨⟨rfl, trivial⟩, ⟨⟨rfl, trivial⟩, ⟨⟨rfl, trivial⟩, ⟨⟨rfl, trivial⟩, trivial⟩⟩⟩⟩⟩ rfl) <| w_done <| k_seq <| w_ret <| ?_; obtain rfl := os hf; exact r_fresh ⟨nle, trivial⟩ rfl (by decide) (leJ (x := (⟨j_1.Kind, j_1.N, j_1.T, r_2, []⟩ : GJson)) (.agg (.cons (.refl _) (.cons (.refl _) (.cons (.refl _) (.cons (.of_eq (congrArg (AV.lst _) (tk (enc := AV.str) r_2))) (.cons (.nil _) .nil)))))))
def impl_copyJson : Nat → GJson → Option GJson
 | 0, _ => none
 | k + 1, j_1 => impl_copyJson_B (impl_copyJson k) j_1
theorem w_impl_copyJson : ∀ (k : Nat) (j_1 : GJson) (r : GJson), impl_copyJson k j_1 = some r → CallOK Try.prog 103 .fresh [(encGJson j_1)] (encGJson r)
 | 0, j_1, r, h => by rw [impl_copyJson.eq_1] at h; cases h
 | k + 1, j_1, r, h => by
  rw [impl_copyJson.eq_2] at h; exact w_impl_copyJson_B _ (w_impl_copyJson k) j_1 r h

/- impl.jsonRequest -/
def c138 : ACode :=
 (.seq (.reg (tq 1 (.box 5 (.t 0)) (tq 2 (.box 3 (.c (.agg [(.int .i64 0), (.str []), .nil]))) (tm 3 (.c (.bool false)) .done))))
 (.seq (.seq (.reg (tq 7 (.faddr 0 (.t 1)) (tq 8 (.load 1 false (.t 7)) (tq 9 (.bin .neq (.t 8) (.c (.int .i64 5))) (tm 10 (.t 9) (tg 11 10 false (.faddr 3 (.t 1)) (tg 12 10 false (.load 1 false (.t 11)) (tg 13 10 false (.bslice 1 [(.c (.str [105, 100])), (.c (.str [109, 101, 116, 104, 111, 100])), (.c (.str [112, 97, 114, 97, 109, 115]))]) (tg 14 10 false (.call 167 [(.t 12), (.t 13)]) (tg 15 10 false (.not (.t 14)) (tq 16 (.pick (.t 10) (.c (.bool true)) (.t 15)) .done)))))))))))
 (.cut (.cond (.t 16) (.seq (.reg (tq 17 (.build [(.int .i64 0), (.str []), .nil] []) (.q ⟨none, none, .store 3 (.t 2) (.t 17)⟩
 (tm 3 (.c (.bool false)) .done))))
 .ret)
 .skip)))
 (.seq (.reg (tq 18 (.faddr 4 (.t 1)) (tq 19 (.load 1 false (.t 18)) (tq 20 (.iaddr 5 (.t 19) (.c (.int .i64 0))) (tq 21 (.load 5 true (.t 20)) (tq 22 (.faddr 4 (.t 1)) (tq 23 (.load 1 false (.t 22)) (tq 24 (.iaddr 5 (.t 23) (.c (.int .i64 1))) (tq 25 (.load 5 true (.t 24)) (tq 26 (.faddr 4 (.t 1)) (tq 27 (.load 1 false (.t 26)) (tq 28 (.iaddr 5 (.t 27) (.c (.int .i64 2))) (tq 29 (.load 5 true (.t 28)) (.l ⟨(some 4), none, .box 5 (.c (.agg [(.int .i64 0), (.int .i64 0), (.str []), .nil, .nil]))⟩ [⟨(some 29), none, .load 5 true (.t 28)⟩, ⟨(some 28), none, .iaddr 5 (.t 27) (.c (.int .i64 2))⟩, ⟨(some 27), none, .load 1 false (.t 26)⟩, ⟨(some 26), none, .faddr 4 (.t 1)⟩, ⟨(some 25), none, .load 5 true (.t 24)⟩, ⟨(some 24), none, .iaddr 5 (.t 23) (.c (.int .i64 1))⟩, ⟨(some 23), none, .load 1 false (.t 22)⟩, ⟨(some 22), none, .faddr 4 (.t 1)⟩, ⟨(some 21), none, .load 5 true (.t 20)⟩, ⟨(some 20), none, .iaddr 5 (.t 19) (.c (.int .i64 0))⟩, ⟨(some 19), none, .load 1 false (.t 18)⟩, ⟨(some 18), none, .faddr 4 (.t 1)⟩]
 (.l ⟨(some 5), none, .box 5 (.c (.agg [(.int .i64 0), (.int .i64 0), (.str []), .nil, .nil]))⟩ [⟨(some 29), none, .load 5 true (.t 28)⟩, ⟨(some 28), none, .iaddr 5 (.t 27) (.c (.int .i64 2))⟩, ⟨(some 27), none, .load 1 false (.t 26)⟩, ⟨(some 26), none, .faddr 4 (.t 1)⟩, ⟨(some 25), none, .load 5 true (.t 24)⟩, ⟨(some 24), none, .iaddr 5 (.t 23) (.c (.int .i64 1))⟩, ⟨(some 23), none, .load 1 false (.t 22)⟩, ⟨(some 22), none, .faddr 4 (.t 1)⟩, ⟨(some 21), none, .load 5 true (.t 20)⟩, ⟨(some 20), none, .iaddr 5 (.t 19) (.c (.int .i64 0))⟩, ⟨(some 19), none, .load 1 false (.t 18)⟩, ⟨(some 18), none, .faddr 4 (.t 1)⟩]
 (.l ⟨(some 6), none, .box 5 (.c (.agg [(.int .i64 0), (.int .i64 0), (.str []), .nil, .nil]))⟩ [⟨(some 29), none, .load 5 true (.t 28)⟩, ⟨(some 28), none, .iaddr 5 (.t 27) (.c (.int .i64 2))⟩, ⟨(some 27), none, .load 1 false (.t 26)⟩, ⟨(some 26), none, .faddr 4 (.t 1)⟩, ⟨(some 25), none, .load 5 true (.t 24)⟩, ⟨(some 24), none, .iaddr 5 (.t 23) (.c (.int .i64 1))⟩, ⟨(some 23), none, .load 1 false (.t 22)⟩, ⟨(some 22), none, .faddr 4 (.t 1)⟩, ⟨(some 21), none, .load 5 true (.t 20)⟩, ⟨(some 20), none, .iaddr 5 (.t 19) (.c (.int .i64 0))⟩, ⟨(some 19), none, .load 1 false (.t 18)⟩, ⟨(some 18), none, .faddr 4 (.t 1)⟩]
 (.l ⟨none, none, .store 5 (.t 4) (.t 21)⟩ [⟨(some 29), none, .load 5 true (.t 28)⟩, ⟨(some 28), none, .iaddr 5 (.t 27) (.c (.int .i64 2))⟩, ⟨(some 27), none, .load 1 false (.t 26)⟩, ⟨(some 26), none, .faddr 4 (.t 1)⟩, ⟨(some 25), none, .load 5 true (.t 24)⟩, ⟨(some 24), none, .iaddr 5 (.t 23) (.c (.int .i64 1))⟩, ⟨(some 23), none, .load 1 false (.t 22)⟩, ⟨(some 22), none, .faddr 4 (.t 1)⟩]
 (.l ⟨none, none, .store 5 (.t 5) (.t 25)⟩ [⟨(some 29), none, .load 5 true (.t 28)⟩, ⟨(some 28), none, .iaddr 5 (.t 27) (.c (.int .i64 2))⟩, ⟨(some 27), none, .load 1 false (.t 26)⟩, ⟨(some 26), none, .faddr 4 (.t 1)⟩]
 (.l ⟨none, none, .store 5 (.t 6) (.t 29)⟩ []
 .done .non) .non) .non) .non) (.l ⟨(some 6), none, .box 5 (.c (.agg [(.int .i64 0), (.int .i64 0), (.str []), .nil, .nil]))⟩ [⟨(some 29), none, .load 5 true (.t 28)⟩, ⟨(some 28), none, .iaddr 5 (.t 27) (.c (.int .i64 2))⟩, ⟨(some 27), none, .load 1 false (.t 26)⟩, ⟨(some 26), none, .faddr 4 (.t 1)⟩, ⟨(some 25), none, .load 5 true (.t 24)⟩, ⟨(some 24), none, .iaddr 5 (.t 23) (.c (.int .i64 1))⟩, ⟨(some 23), none, .load 1 false (.t 22)⟩, ⟨(some 22), none, .faddr 4 (.t 1)⟩, ⟨(some 21), none, .load 5 true (.t 20)⟩, ⟨(some 20), none, .iaddr 5 (.t 19) (.c (.int .i64 0))⟩, ⟨(some 19), none, .load 1 false (.t 18)⟩, ⟨(some 18), none, .faddr 4 (.t 1)⟩]
 (.l ⟨(some 5), none, .box 5 (.c (.agg [(.int .i64 0), (.int .i64 0), (.str []), .nil, .nil]))⟩ [⟨(some 29), none, .load 5 true (.t 28)⟩, ⟨(some 28), none, .iaddr 5 (.t 27) (.c (.int .i64 2))⟩, ⟨(some 27), none, .load 1 false (.t 26)⟩, ⟨(some 26), none, .faddr 4 (.t 1)⟩, ⟨(some 25), none, .load 5 true (.t 24)⟩, ⟨(some 24), none, .iaddr 5 (.t 23) (.c (.int .i64 1))⟩, ⟨(some 23), none, .load 1 false (.t 22)⟩, ⟨(some 22), none, .faddr 4 (.t 1)⟩, ⟨(some 21), none, .load 5 true (.t 20)⟩, ⟨(some 20), none, .iaddr 5 (.t 19) (.c (.int .i64 0))⟩, ⟨(some 19), none, .load 1 false (.t 18)⟩, ⟨(some 18), none, .faddr 4 (.t 1)⟩]
 (.l ⟨none, none, .store 5 (.t 4) (.t 21)⟩ [⟨(some 29), none, .load 5 true (.t 28)⟩, ⟨(some 28), none, .iaddr 5 (.t 27) (.c (.int .i64 2))⟩, ⟨(some 27), none, .load 1 false (.t 26)⟩, ⟨(some 26), none, .faddr 4 (.t 1)⟩, ⟨(some 25), none, .load 5 true (.t 24)⟩, ⟨(some 24), none, .iaddr 5 (.t 23) (.c (.int .i64 1))⟩, ⟨(some 23), none, .load 1 false (.t 22)⟩, ⟨(some 22), none, .faddr 4 (.t 1)⟩]
 (.l ⟨none, none, .store 5 (.t 5) (.t 25)⟩ [⟨(some 29), none, .load 5 true (.t 28)⟩, ⟨(some 28), none, .iaddr 5 (.t 27) (.c (.int .i64 2))⟩, ⟨(some 27), none, .load 1 false (.t 26)⟩, ⟨(some 26), none, .faddr 4 (.t 1)⟩]
 (.l ⟨none, none, .store 5 (.t 6) (.t 29)⟩ []
 .done .non) .non) .non) .non) .non)) (.l ⟨(some 5), none, .box 5 (.c (.agg [(.int .i64 0), (.int .i64 0), (.str []), .nil, .nil]))⟩ [⟨(some 29), none, .load 5 true (.t 28)⟩, ⟨(some 28), none, .iaddr 5 (.t 27) (.c (.int .i64 2))⟩, ⟨(some 27), none, .load 1 false (.t 26)⟩, ⟨(some 26), none, .faddr 4 (.t 1)⟩, ⟨(some 25), none, .load 5 true (.t 24)⟩, ⟨(some 24), none, .iaddr 5 (.t 23) (.c (.int .i64 1))⟩, ⟨(some 23), none, .load 1 false (.t 22)⟩, ⟨(some 22), none, .faddr 4 (.t 1)⟩, ⟨(some 21), none, .load 5 true (.t 20)⟩, ⟨(some 20), none, .iaddr 5 (.t 19) (.c (.int .i64 0))⟩, ⟨(some 19), none, .load 1 false (.t 18)⟩, ⟨(some 18), none, .faddr 4 (.t 1)⟩]
 (.l ⟨(some 4), none, .box 5 (.c (.agg [(.int .i64 0), (.int .i64 0), (.str []), .nil, .nil]))⟩ [⟨(some 29), none, .load 5 true (.t 28)⟩, ⟨(some 28), none, .iaddr 5 (.t 27) (.c (.int .i64 2))⟩, ⟨(some 27), none, .load 1 false (.t 26)⟩, ⟨(some 26), none, .faddr 4 (.t 1)⟩, ⟨(some 25), none, .load 5 true (.t 24)⟩, ⟨(some 24), none, .iaddr 5 (.t 23) (.c (.int .i64 1))⟩, ⟨(some 23), none, .load 1 false (.t 22)⟩, ⟨(some 22), none, .faddr 4 (.t 1)⟩, ⟨(some 21), none, .load 5 true (.t 20)⟩, ⟨(some 20), none, .iaddr 5 (.t 19) (.c (.int .i64 0))⟩, ⟨(some 19), none, .load 1 false (.t 18)⟩, ⟨(some 18), none, .faddr 4 (.t 1)⟩]
 (.l ⟨(some 6), none, .box 5 (.c (.agg [(.int .i64 0), (.int .i64 0), (.str []), .nil, .nil]))⟩ [⟨(some 29), none, .load 5 true (.t 28)⟩, ⟨(some 28), none, .iaddr 5 (.t 27) (.c (.int .i64 2))⟩, ⟨(some 27), none, .load 1 false (.t 26)⟩, ⟨(some 26), none, .faddr 4 (.t 1)⟩, ⟨(some 25), none, .load 5 true (.t 24)⟩, ⟨(some 24), none, .iaddr 5 (.t 23) (.c (.int .i64 1))⟩, ⟨(some 23), none, .load 1 false (.t 22)⟩, ⟨(some 22), none, .faddr 4 (.t 1)⟩, ⟨(some 21), none, .load 5 true (.t 20)⟩, ⟨(some 20), none, .iaddr 5 (.t 19) (.c (.int .i64 0))⟩, ⟨(some 19), none, .load 1 false (.t 18)⟩, ⟨(some 18), none, .faddr 4 (.t 1)⟩]
 (.l ⟨none, none, .store 5 (.t 4) (.t 21)⟩ [⟨(some 29), none, .load 5 true (.t 28)⟩, ⟨(some 28), none, .iaddr 5 (.t 27) (.c (.int .i64 2))⟩, ⟨(some 27), none, .load 1 false (.t 26)⟩, ⟨(some 26), none, .faddr 4 (.t 1)⟩, ⟨(some 25), none, .load 5 true (.t 24)⟩, ⟨(some 24), none, .iaddr 5 (.t 23) (.c (.int .i64 1))⟩, ⟨(some 23), none, .load 1 false (.t 22)⟩, ⟨(some 22), none, .faddr 4 (.t 1)⟩]
 (.l ⟨none, none, .store 5 (.t 5) (.t 25)⟩ [⟨(some 29), none, .load 5 true (.t 28)⟩, ⟨(some 28), none, .iaddr 5 (.t 27) (.c (.int .i64 2))⟩, ⟨(some 27), none, .load 1 false (.t 26)⟩, ⟨(some 26), none, .faddr 4 (.t 1)⟩]
 (.l ⟨none, none, .store 5 (.t 6) (.t 29)⟩ []
 .done .non) .non) .non) .non) (.l ⟨(some 6), none, .box 5 (.c (.agg [(.int .i64 0), (.int .i64 0), (.str []), .nil, .nil]))⟩ [⟨(some 29), none, .load 5 true (.t 28)⟩, ⟨(some 28), none, .iaddr 5 (.t 27) (.c (.int .i64 2))⟩, ⟨(some 27), none, .load 1 false (.t 26)⟩, ⟨(some 26), none, .faddr 4 (.t 1)⟩, ⟨(some 25), none, .load 5 true (.t 24)⟩, ⟨(some 24), none, .iaddr 5 (.t 23) (.c (.int .i64 1))⟩, ⟨(some 23), none, .load 1 false (.t 22)⟩, ⟨(some 22), none, .faddr 4 (.t 1)⟩, ⟨(some 21), none, .load 5 true (.t 20)⟩, ⟨(some 20), none, .iaddr 5 (.t 19) (.c (.int .i64 0))⟩, ⟨(some 19), none, .load 1 false (.t 18)⟩, ⟨(some 18), none, .faddr 4 (.t 1)⟩]
 (.l ⟨(some 4), none, .box 5 (.c (.agg [(.int .i64 0), (.int .i64 0), (.str []), .nil, .nil]))⟩ [⟨(some 29), none, .load 5 true (.t 28)⟩, ⟨(some 28), none, .iaddr 5 (.t 27) (.c (.int .i64 2))⟩, ⟨(some 27), none, .load 1 false (.t 26)⟩, ⟨(some 26), none, .faddr 4 (.t 1)⟩, ⟨(some 25), none, .load 5 true (.t 24)⟩, ⟨(some 24), none, .iaddr 5 (.t 23) (.c (.int .i64 1))⟩, ⟨(some 23), none, .load 1 false (.t 22)⟩, ⟨(some 22), none, .faddr 4 (.t 1)⟩, ⟨(some 21), none, .load 5 true (.t 20)⟩, ⟨(some 20), none, .iaddr 5 (.t 19) (.c (.int .i64 0))⟩, ⟨(some 19), none, .load 1 false (.t 18)⟩, ⟨(some 18), none, .faddr 4 (.t 1)⟩]
 (.l ⟨none, none, .store 5 (.t 4) (.t 21)⟩ [⟨(some 29), none, .load 5 true (.t 28)⟩, ⟨(some 28), none, .iaddr 5 (.t 27) (.c (.int .i64 2))⟩, ⟨(some 27), none, .load 1 false (.t 26)⟩, ⟨(some 26), none, .faddr 4 (.t 1)⟩, ⟨(some 25), none, .load 5 true (.t 24)⟩, ⟨(some 24), none, .iaddr 5 (.t 23) (.c (.int .i64 1))⟩, ⟨(some 23), none, .load 1 false (.t 22)⟩, ⟨(some 22), none, .faddr 4 (.t 1)⟩]
 (.l ⟨none, none, .store 5 (.t 5) (.t 25)⟩ [⟨(some 29), none, .load 5 true (.t 28)⟩, ⟨(some 28), none, .iaddr 5 (.t 27) (.c (.int .i64 2))⟩, ⟨(some 27), none, .load 1 false (.t 26)⟩, ⟨(some 26), none, .faddr 4 (.t 1)⟩]
 (.l ⟨none, none, .store 5 (.t 6) (.t 29)⟩ []
 .done .non) .non) .non) .non) .non)) (.l ⟨(some 6), none, .box 5 (.c (.agg [(.int .i64 0), (.int .i64 0), (.str []), .nil, .nil]))⟩ [⟨(some 29), none, .load 5 true (.t 28)⟩, ⟨(some 28), none, .iaddr 5 (.t 27) (.c (.int .i64 2))⟩, ⟨(some 27), none, .load 1 false (.t 26)⟩, ⟨(some 26), none, .faddr 4 (.t 1)⟩, ⟨(some 25), none, .load 5 true (.t 24)⟩, ⟨(some 24), none, .iaddr 5 (.t 23) (.c (.int .i64 1))⟩, ⟨(some 23), none, .load 1 false (.t 22)⟩, ⟨(some 22), none, .faddr 4 (.t 1)⟩, ⟨(some 21), none, .load 5 true (.t 20)⟩, ⟨(some 20), none, .iaddr 5 (.t 19) (.c (.int .i64 0))⟩, ⟨(some 19), none, .load 1 false (.t 18)⟩, ⟨(some 18), none, .faddr 4 (.t 1)⟩]
 (.l ⟨(some 4), none, .box 5 (.c (.agg [(.int .i64 0), (.int .i64 0), (.str []), .nil, .nil]))⟩ [⟨(some 29), none, .load 5 true (.t 28)⟩, ⟨(some 28), none, .iaddr 5 (.t 27) (.c (.int .i64 2))⟩, ⟨(some 27), none, .load 1 false (.t 26)⟩, ⟨(some 26), none, .faddr 4 (.t 1)⟩, ⟨(some 25), none, .load 5 true (.t 24)⟩, ⟨(some 24), none, .iaddr 5 (.t 23) (.c (.int .i64 1))⟩, ⟨(some 23), none, .load 1 false (.t 22)⟩, ⟨(some 22), none, .faddr 4 (.t 1)⟩, ⟨(some 21), none, .load 5 true (.t 20)⟩, ⟨(some 20), none, .iaddr 5 (.t 19) (.c (.int .i64 0))⟩, ⟨(some 19), none, .load 1 false (.t 18)⟩, ⟨(some 18), none, .faddr 4 (.t 1)⟩]
 (.l ⟨(some 5), none, .box 5 (.c (.agg [(.int .i64 0), (.int .i64 0), (.str []), .nil, .nil]))⟩ [⟨(some 29), none, .load 5 true (.t 28)⟩, ⟨(some 28), none, .iaddr 5 (.t 27) (.c (.int .i64 2))⟩, ⟨(some 27), none, .load 1 false (.t 26)⟩, ⟨(some 26), none, .faddr 4 (.t 1)⟩, ⟨(some 25), none, .load 5 true (.t 24)⟩, ⟨(some 24), none, .iaddr 5 (.t 23) (.c (.int .i64 1))⟩, ⟨(some 23), none, .load 1 false (.t 22)⟩, ⟨(some 22), none, .faddr 4 (.t 1)⟩, ⟨(some 21), none, .load 5 true (.t 20)⟩, ⟨(some 20), none, .iaddr 5 (.t 19) (.c (.int .i64 0))⟩, ⟨(some 19), none, .load 1 false (.t 18)⟩, ⟨(some 18), none, .faddr 4 (.t 1)⟩]
 (.l ⟨none, none, .store 5 (.t 4) (.t 21)⟩ [⟨(some 29), none, .load 5 true (.t 28)⟩, ⟨(some 28), none, .iaddr 5 (.t 27) (.c (.int .i64 2))⟩, ⟨(some 27), none, .load 1 false (.t 26)⟩, ⟨(some 26), none, .faddr 4 (.t 1)⟩, ⟨(some 25), none, .load 5 true (.t 24)⟩, ⟨(some 24), none, .iaddr 5 (.t 23) (.c (.int .i64 1))⟩, ⟨(some 23), none, .load 1 false (.t 22)⟩, ⟨(some 22), none, .faddr 4 (.t 1)⟩]
 (.l ⟨none, none, .store 5 (.t 5) (.t 25)⟩ [⟨(some 29), none, .load 5 true (.t 28)⟩, ⟨(some 28), none, .iaddr 5 (.t 27) (.c (.int .i64 2))⟩, ⟨(some 27), none, .load 1 false (.t 26)⟩, ⟨(some 26), none, .faddr 4 (.t 1)⟩]
 (.l ⟨none, none, .store 5 (.t 6) (.t 29)⟩ []
 .done .non) .non) .non) .non) (.l ⟨(some 5), none, .box 5 (.c (.agg [(.int .i64 0), (.int .i64 0), (.str []), .nil, .nil]))⟩ [⟨(some 29), none, .load 5 true (.t 28)⟩, ⟨(some 28), none, .iaddr 5 (.t 27) (.c (.int .i64 2))⟩, ⟨(some 27), none, .load 1 false (.t 26)⟩, ⟨(some 26), none, .faddr 4 (.t 1)⟩, ⟨(some 25), none, .load 5 true (.t 24)⟩, ⟨(some 24), none, .iaddr 5 (.t 23) (.c (.int .i64 1))⟩, ⟨(some 23), none, .load 1 false (.t 22)⟩, ⟨(some 22), none, .faddr 4 (.t 1)⟩, ⟨(some 21), none, .load 5 true (.t 20)⟩, ⟨(some 20), none, .iaddr 5 (.t 19) (.c (.int .i64 0))⟩, ⟨(some 19), none, .load 1 false (.t 18)⟩, ⟨(some 18), none, .faddr 4 (.t 1)⟩]
 (.l ⟨(some 4), none, .box 5 (.c (.agg [(.int .i64 0), (.int .i64 0), (.str []), .nil, .nil]))⟩ [⟨(some 29), none, .load 5 true (.t 28)⟩, ⟨(some 28), none, .iaddr 5 (.t 27) (.c (.int .i64 2))⟩, ⟨(some 27), none, .load 1 false (.t 26)⟩, ⟨(some 26), none, .faddr 4 (.t 1)⟩, ⟨(some 25), none, .load 5 true (.t 24)⟩, ⟨(some 24), none, .iaddr 5 (.t 23) (.c (.int .i64 1))⟩, ⟨(some 23), none, .load 1 false (.t 22)⟩, ⟨(some 22), none, .faddr 4 (.t 1)⟩, ⟨(some 21), none, .load 5 true (.t 20)⟩, ⟨(some 20), none, .iaddr 5 (.t 19) (.c (.int .i64 0))⟩, ⟨(some 19), none, .load 1 false (.t 18)⟩, ⟨(some 18), none, .faddr 4 (.t 1)⟩]
 (.l ⟨none, none, .store 5 (.t 4) (.t 21)⟩ [⟨(some 29), none, .load 5 true (.t 28)⟩, ⟨(some 28), none, .iaddr 5 (.t 27) (.c (.int .i64 2))⟩, ⟨(some 27), none, .load 1 false (.t 26)⟩, ⟨(some 26), none, .faddr 4 (.t 1)⟩, ⟨(some 25), none, .load 5 true (.t 24)⟩, ⟨(some 24), none, .iaddr 5 (.t 23) (.c (.int .i64 1))⟩, ⟨(some 23), none, .load 1 false (.t 22)⟩, ⟨(some 22), none, .faddr 4 (.t 1)⟩]
 (.l ⟨none, none, .store 5 (.t 5) (.t 25)⟩ [⟨(some 29), none, .load 5 true (.t 28)⟩, ⟨(some 28), none, .iaddr 5 (.t 27) (.c (.int .i64 2))⟩, ⟨(some 27), none, .load 1 false (.t 26)⟩, ⟨(some 26), none, .faddr 4 (.t 1)⟩]
 (.l ⟨none, none, .store 5 (.t 6) (.t 29)⟩ []
 .done .non) .non) .non) .non) .non)) .non))))))))))))))))
 (.cut (.seq (.seq (.reg (tq 30 (.faddr 0 (.t 4)) (tq 31 (.load 1 false (.t 30)) (tq 32 (.bin .neq (.t 31) (.c (.int .i64 2))) (tm 33 (.t 32) (tg 34 33 false (.faddr 0 (.t 5)) (tg 35 33 false (.load 1 false (.t 34)) (tg 36 33 false (.bin .neq (.t 35) (.c (.int .i64 3))) (tq 37 (.pick (.t 33) (.c (.bool true)) (.t 36)) (tm 38 (.t 37) (tg 39 38 false (.faddr 0 (.t 6)) (tg 40 38 false (.load 1 false (.t 39)) (tg 41 38 false (.bin .neq (.t 40) (.c (.int .i64 4))) (tq 42 (.pick (.t 38) (.c (.bool true)) (.t 41)) .done))))))))))))))
 (.cut (.cond (.t 42) (.seq (.reg (tq 43 (.build [(.int .i64 0), (.str []), .nil] []) (.q ⟨none, none, .store 3 (.t 2) (.t 43)⟩
 (tm 3 (.c (.bool false)) .done))))
 .ret)
 .skip)))
 (.seq (.reg (tq 44 (.faddr 1 (.t 4)) (tq 45 (.load 1 false (.t 44)) (tq 46 (.faddr 2 (.t 5)) (tq 47 (.load 1 false (.t 46)) (tq 48 (.load 5 true (.t 6)) (.l ⟨(some 49), none, .call 103 [(.t 48)]⟩ [⟨(some 47), none, .load 1 false (.t 46)⟩, ⟨(some 46), none, .faddr 2 (.t 5)⟩, ⟨(some 45), none, .load 1 false (.t 44)⟩, ⟨(some 44), none, .faddr 1 (.t 4)⟩]
 (tq 50 (.field 4 1 false (.t 49)) (tq 51 (.build [(.int .i64 0), (.str []), .nil] [(0, 1, (.t 45)), (1, 1, (.t 47)), (2, 1, (.t 50))]) (.l ⟨none, none, .store 3 (.t 2) (.t 51)⟩ []
 (tm 3 (.c (.bool true)) .done) .non))) .non)))))))
 .ret))))))
theorem fc138 : fcomp Try.prog Try.f138 = some (c138.erase, [.load 3 true (.t 2), .mov (.t 3)], 52) := by kernel_rfl
def impl_jsonRequest (j_1 : GJson) : Option (GRequest × Bool) :=
    ((if (j_1.Kind != 5) then
    some true
    else
    (slices_Equal_string_string j_1.Keys [[105, 100], [109, 101, 116, 104, 111, 100], [112, 97, 114, 97, 109, 115]]).bind fun r_8 =>
    some (!r_8) : Option Bool)).bind fun s16_5 =>
    if s16_5 then
    some ((⟨0, [], []⟩ : GRequest), false)
    else
    (((idx j_1.Items 0).bind fun x_33 =>
    (idx j_1.Items 1).bind fun x_35 =>
    (idx j_1.Items 2).bind fun x_37 =>
    some (x_33.Kind, x_33.N, x_33.T, x_33.Keys, x_33.Items, x_35.Kind, x_35.N, x_35.T, x_35.Keys, x_35.Items, x_37.Kind, x_37.N, x_37.T, x_37.Keys, x_37.Items) : Option (Int × Int × Str × (List Str) × (List GJson) × Int × Int × Str × (List Str) × (List GJson) × Int × Int × Str × (List Str) × (List GJson)))).bind fun p32 =>
    (match p32 with
    | (x_17, x_18, x_19, x_20, x_21, x_22, x_23, x_24, x_25, x_26, x_27, x_28, x_29, x_30, x_31) =>
    ((some () : Option Unit)).bind fun _ =>
    if (bif (bif (x_17 != 2) then true else (x_22 != 3)) then true else (x_27 != 4)) then
    some ((⟨0, [], []⟩ : GRequest), false)
    else
    (impl_copyJson FUEL (⟨x_27, x_28, x_29, x_30, x_31⟩ : GJson)).bind fun r_41 =>
    some ((⟨x_18, x_24, r_41.Items⟩ : GRequest), true))
theorem w_impl_jsonRequest (j_1 : GJson) (r : (GRequest × Bool)) (hf : impl_jsonRequest j_1 = some r) : CallOK Try.prog 138 .fresh [(encGJson j_1)] (.tup [(encGRequest r.1), (.bool r.2)]) := by
 refine CallOK.of_awp mixed Try.func138 fc138 nle ?_; rw [argT_eq]; rw [encGJson_eq j_1]; unfold impl_jsonRequest at hf; unfold c138; refine (show awp Try.prog true 0 _ (ofL [(0, (.agg [(.int .i64 j_1.Kind), (.int .i64 j_1.N), (.str j_1.T), (.lst 1 (j_1.Keys.map AV.str)), (.lst 5 (j_1.Items.map encGJson))]))]) [] _ from ?_); refine awp_seq <| w_reg <| s_do (o_box (j := 0) (c := (.agg [(.int .i64 j_1.Kind), (.int .i64 j_1.N), (.str j_1.T), (.lst 1 (j_1.Keys.map AV.str)), (.lst 5 (j_1.Items.map encGJson))])) rfl trivial rfl rfl) <| s_do (o_box (j := 1) (c := (.agg [(.int .i64 0), (.str []), .nil])) rfl trivial rfl rfl) <| s_mov (.bool false) rfl <| w_done <| k_seq <| awp_seq <| awp_seq <| ?_
 obtain ⟨s16_5, hb1, hf⟩ := ob hf
 refine awp_cut ([(1, (.ptr 0 0 0)), (2, (.ptr 1 0 0)), (16, (.bool s16_5))], [.box 5 (.agg [(.int .i64 j_1.Kind), (.int .i64 j_1.N), (.str j_1.T), (.lst 1 (j_1.Keys.map AV.str)), (.lst 5 (j_1.Items.map encGJson))]), .box 3 (.agg [(.int .i64 0), (.str []), .nil])]) ?_ ?_
 ·refine w_reg ?_
  rcases oi hb1 with ⟨c7, hb1⟩ | ⟨c7, hb1⟩
  ·refine s_q (.ptr 0 0 0) rfl trivial rfl <| s_q (.int .i64 j_1.Kind) rfl nle rfl <| s_q (.bool (j_1.Kind != 5)) rfl rfl rfl <| s_mov (.bool (j_1.Kind != 5)) rfl <| s_lit (s := 10) (b := true) rfl c7 <| s_off rfl rfl <| s_off rfl rfl <| s_off rfl rfl <| s_off rfl rfl <| s_off rfl rfl <| s_q (.bool true) rfl trivial rfl <| w_done <| ?_; obtain rfl := os hb1; exact ⟨[], [0, 1], _, _, rfl, rfl, ⟨.refl _, ⟨.refl _, ⟨.refl _, trivial⟩⟩⟩, (.refl _)⟩
  ·obtain ⟨r_8, er9, hb1⟩ := ob hb1
   refine s_q (.ptr 0 0 0) rfl trivial rfl <| s_q (.int .i64 j_1.Kind) rfl nle rfl <| s_q (.bool (j_1.Kind != 5)) rfl rfl rfl <| s_mov (.bool (j_1.Kind != 5)) rfl <| s_lit (s := 10) (b := false) rfl (bf c7) <| s_on rfl <| s_q (.ptr 0 0 3) rfl trivial rfl <| s_on rfl <| s_q (.lst 1 (j_1.Keys.map AV.str)) rfl nle rfl <| s_on rfl <| ?_; refine s_do (o_bslice (j := 2) (as' := [(.str [105, 100]), (.str [109, 101, 116, 104, 111, 100]), (.str [112, 97, 114, 97, 109, 115])]) rfl (fun _ => by decide) ⟨rfl, ⟨rfl, ⟨rfl, trivial⟩⟩⟩ (.refl _) rfl rfl rfl) ?_; refine s_on rfl <| s_do (o_call (w_slices_Equal_string_string _ _ _ er9) rfl (.cons (.refl _) (.cons (.of_eq (congrArg (AV.lst _) (tko [[105, 100], [109, 101, 116, 104, 111, 100], [112, 97, 114, 97, 109, 115]]))) .nil)) rfl) <| ?_
   refine s_on rfl <| s_q (.bool (!r_8)) rfl trivial rfl <| s_q (.bool (!r_8)) rfl trivial rfl <| w_done <| ?_; obtain rfl := os hb1; exact ⟨[], [0, 1], _, _, rfl, rfl, ⟨.refl _, ⟨.refl _, ⟨.refl _, trivial⟩⟩⟩, (.refl _)⟩
 ·rcases oi hf with ⟨c10, hf⟩ | ⟨c10, hf⟩
  ·refine w_condt rfl c10 <| awp_seq <| w_reg <| s_q (.agg [(.int .i64 0), (.str []), .nil]) rfl trivial rfl <| s_do0 (o_storebox (v := (.agg [(.int .i64 0), (.str []), .nil])) (y' := (.agg [(.int .i64 0), (.str []), .nil])) rfl rfl rfl trivial ⟨rfl, nle⟩ ⟨⟨rfl, trivial⟩, ⟨⟨rfl, trivial⟩, ⟨⟨rfl, trivial⟩, trivial⟩⟩⟩ rfl) <| s_mov (.bool false) rfl <| w_done <| k_seq <| w_ret <| ?_; obtain rfl := os hf; exact r_fresh ⟨nle, ⟨trivial, trivial⟩⟩ rfl (by decide) (.tup (.cons (.agg (.cons (.refl _) (.cons (.refl _) (.cons (.nil _) .nil)))) (.cons (.refl _) .nil)))
  ·refine w_condf rfl (bf c10) <| w_skip <| k_seq <| awp_seq <| ?_
   obtain ⟨p32, hb1, hf⟩ := ob hf
   refine awp_cut ([(2, (.ptr 0 0 0)), (4, (.ptr 1 0 0)), (5, (.ptr 2 0 0)), (6, (.ptr 3 0 0))], [.box 3 (.agg [(.int .i64 0), (.str []), .nil]), .box 5 (.agg [(.int .i64 p32.1), (.int .i64 p32.2.1), (.str p32.2.2.1), (.lst 1 (p32.2.2.2.1.map AV.str)), (.lst 5 (p32.2.2.2.2.1.map encGJson))]), .box 5 (.agg [(.int .i64 p32.2.2.2.2.2.1), (.int .i64 p32.2.2.2.2.2.2.1), (.str p32.2.2.2.2.2.2.2.1), (.lst 1 (p32.2.2.2.2.2.2.2.2.1.map AV.str)), (.lst 5 (p32.2.2.2.2.2.2.2.2.2.1.map encGJson))]), .box 5 (.agg [(.int .i64 p32.2.2.2.2.2.2.2.2.2.2.1), (.int .i64 p32.2.2.2.2.2.2.2.2.2.2.2.1), (.str p32.2.2.2.2.2.2.2.2.2.2.2.2.1), (.lst 1 (p32.2.2.2.2.2.2.2.2.2.2.2.2.2.1.map AV.str)), (.lst 5 (p32.2.2.2.2.2.2.2.2.2.2.2.2.2.2.map encGJson))])]) ?_ ?_
   ·refine w_reg ?_
    obtain ⟨x_33, ex34, hb1⟩ := ob hb1
    obtain ⟨x_35, ex36, hb1⟩ := ob hb1
    obtain ⟨x_37, ex38, hb1⟩ := ob hb1
    refine s_q (.ptr 0 0 4) rfl trivial rfl <| s_q (.lst 5 (j_1.Items.map encGJson)) rfl nle rfl <| s_do (o_iaddr (enc := encGJson) rfl rfl (idx0 ex34) (idx1 ex34)) <| s_do (o_loadeq (v := (.agg [(.int .i64 x_33.Kind), (.int .i64 x_33.N), (.str x_33.T), (.lst 1 (x_33.Keys.map AV.str)), (.lst 5 (x_33.Items.map encGJson))])) rfl (encGJson_eq _) nle rfl) <| s_q (.ptr 0 0 4) rfl trivial rfl <| s_q (.lst 5 (j_1.Items.map encGJson)) rfl nle rfl <| s_do (o_iaddr (enc := encGJson) rfl rfl (idx0 ex36) (idx1 ex36)) <| s_do (o_loadeq (v := (.agg [(.int .i64 x_35.Kind), (.int .i64 x_35.N), (.str x_35.T), (.lst 1 (x_35.Keys.map AV.str)), (.lst 5 (x_35.Items.map encGJson))])) rfl (encGJson_eq _) nle rfl) <| s_q (.ptr 0 0 4) rfl trivial rfl <| ?_
    refine s_q (.lst 5 (j_1.Items.map encGJson)) rfl nle rfl <| s_do (o_iaddr (enc := encGJson) rfl rfl (idx0 ex38) (idx1 ex38)) <| s_do (o_loadeq (v := (.agg [(.int .i64 x_37.Kind), (.int .i64 x_37.N), (.str x_37.T), (.lst 1 (x_37.Keys.map AV.str)), (.lst 5 (x_37.Items.map encGJson))])) rfl (encGJson_eq _) nle rfl) <| ?_; refine s_dol (o_box (j := 2) (c := (.agg [(.int .i64 0), (.int .i64 0), (.str []), .nil, .nil])) rfl trivial rfl rfl) (.inr ⟨(ag_loadeq (v := (.agg [(.int .i64 x_37.Kind), (.int .i64 x_37.N), (.str x_37.T), (.lst 1 (x_37.Keys.map AV.str)), (.lst 5 (x_37.Items.map encGJson))])) rfl (encGJson_eq _) nle rfl), ⟨(ag_iaddr (enc := encGJson) rfl rfl (idx0 ex38) (idx1 ex38)), ⟨⟨nle, rfl⟩, ⟨⟨trivial, rfl⟩, ⟨(ag_loadeq (v := (.agg [(.int .i64 x_35.Kind), (.int .i64 x_35.N), (.str x_35.T), (.lst 1 (x_35.Keys.map AV.str)), (.lst 5 (x_35.Items.map encGJson))])) rfl (encGJson_eq _) nle rfl), ⟨(ag_iaddr (enc := encGJson) rfl rfl (idx0 ex36) (idx1 ex36)), ⟨⟨nle, rfl⟩, ⟨⟨trivial, rfl⟩, ⟨(ag_loadeq (v := (.agg [(.int .i64 x_33.Kind), (.int .i64 x_33.N), (.str x_33.T), (.lst 1 (x_33.Keys.map AV.str)), (.lst 5 (x_33.Items.map encGJson))])) rfl (encGJson_eq _) nle rfl), ⟨(ag_iaddr (enc := encGJson) rfl rfl (idx0 ex34) (idx1 ex34)), ⟨⟨nle, rfl⟩, ⟨⟨trivial, rfl⟩, trivial⟩⟩⟩⟩⟩⟩⟩⟩⟩⟩⟩⟩) ?_ ?_
    ·refine s_dol (o_box (j := 2) (c := (.agg [(.int .i64 0), (.int .i64 0), (.str []), .nil, .nil])) rfl trivial rfl rfl) (.inr ⟨(ag_loadeq (v := (.agg [(.int .i64 x_37.Kind), (.int .i64 x_37.N), (.str x_37.T), (.lst 1 (x_37.Keys.map AV.str)), (.lst 5 (x_37.Items.map encGJson))])) rfl (encGJson_eq _) nle rfl), ⟨(ag_iaddr (enc := encGJson) rfl rfl (idx0 ex38) (idx1 ex38)), ⟨⟨nle, rfl⟩, ⟨⟨trivial, rfl⟩, ⟨(ag_loadeq (v := (.agg [(.int .i64 x_35.Kind), (.int .i64 x_35.N), (.str x_35.T), (.lst 1 (x_35.Keys.map AV.str)), (.lst 5 (x_35.Items.map encGJson))])) rfl (encGJson_eq _) nle rfl), ⟨(ag_iaddr (enc := encGJson) rfl rfl (idx0 ex36) (idx1 ex36)), ⟨⟨nle, rfl⟩, ⟨⟨trivial, rfl⟩, ⟨(ag_loadeq (v := (.agg [(.int .i64 x_33.Kind), (.int .i64 x_33.N), (.str x_33.T), (.lst 1 (x_33.Keys.map AV.str)), (.lst 5 (x_33.Items.map encGJson))])) rfl (encGJson_eq _) nle rfl), ⟨(ag_iaddr (enc := encGJson) rfl rfl (idx0 ex34) (idx1 ex34)), ⟨⟨nle, rfl⟩, ⟨⟨trivial, rfl⟩, trivial⟩⟩⟩⟩⟩⟩⟩⟩⟩⟩⟩⟩) ?_ ?_
     ·refine s_dol (o_box (j := 2) (c := (.agg [(.int .i64 0), (.int .i64 0), (.str []), .nil, .nil])) rfl trivial rfl rfl) (.inr ⟨(ag_loadeq (v := (.agg [(.int .i64 x_37.Kind), (.int .i64 x_37.N), (.str x_37.T), (.lst 1 (x_37.Keys.map AV.str)), (.lst 5 (x_37.Items.map encGJson))])) rfl (encGJson_eq _) nle rfl), ⟨(ag_iaddr (enc := encGJson) rfl rfl (idx0 ex38) (idx1 ex38)), ⟨⟨nle, rfl⟩, ⟨⟨trivial, rfl⟩, ⟨(ag_loadeq (v := (.agg [(.int .i64 x_35.Kind), (.int .i64 x_35.N), (.str x_35.T), (.lst 1 (x_35.Keys.map AV.str)), (.lst 5 (x_35.Items.map encGJson))])) rfl (encGJson_eq _) nle rfl), ⟨(ag_iaddr (enc := encGJson) rfl rfl (idx0 ex36) (idx1 ex36)), ⟨⟨nle, rfl⟩, ⟨⟨trivial, rfl⟩, ⟨(ag_loadeq (v := (.agg [(.int .i64 x_33.Kind), (.int .i64 x_33.N), (.str x_33.T), (.lst 1 (x_33.Keys.map AV.str)), (.lst 5 (x_33.Items.map encGJson))])) rfl (encGJson_eq _) nle rfl), ⟨(ag_iaddr (enc := encGJson) rfl rfl (idx0 ex34) (idx1 ex34)), ⟨⟨nle, rfl⟩, ⟨⟨trivial, rfl⟩, trivial⟩⟩⟩⟩⟩⟩⟩⟩⟩⟩⟩⟩) trivial ?_
      refine s_dol (o_box (j := 3) (c := (.agg [(.int .i64 0), (.int .i64 0), (.str []), .nil, .nil])) rfl trivial rfl rfl) (.inr ⟨(ag_loadeq (v := (.agg [(.int .i64 x_37.Kind), (.int .i64 x_37.N), (.str x_37.T), (.lst 1 (x_37.Keys.map AV.str)), (.lst 5 (x_37.Items.map encGJson))])) rfl (encGJson_eq _) nle rfl), ⟨(ag_iaddr (enc := encGJson) rfl rfl (idx0 ex38) (idx1 ex38)), ⟨⟨nle, rfl⟩, ⟨⟨trivial, rfl⟩, ⟨(ag_loadeq (v := (.agg [(.int .i64 x_35.Kind), (.int .i64 x_35.N), (.str x_35.T), (.lst 1 (x_35.Keys.map AV.str)), (.lst 5 (x_35.Items.map encGJson))])) rfl (encGJson_eq _) nle rfl), ⟨(ag_iaddr (enc := encGJson) rfl rfl (idx0 ex36) (idx1 ex36)), ⟨⟨nle, rfl⟩, ⟨⟨trivial, rfl⟩, ⟨(ag_loadeq (v := (.agg [(.int .i64 x_33.Kind), (.int .i64 x_33.N), (.str x_33.T), (.lst 1 (x_33.Keys.map AV.str)), (.lst 5 (x_33.Items.map encGJson))])) rfl (encGJson_eq _) nle rfl), ⟨(ag_iaddr (enc := encGJson) rfl rfl (idx0 ex34) (idx1 ex34)), ⟨⟨nle, rfl⟩, ⟨⟨trivial, rfl⟩, trivial⟩⟩⟩⟩⟩⟩⟩⟩⟩⟩⟩⟩) ?_ ?_
      ·refine s_dol (o_box (j := 3) (c := (.agg [(.int .i64 0), (.int .i64 0), (.str []), .nil, .nil])) rfl trivial rfl rfl) (.inr ⟨(ag_loadeq (v := (.agg [(.int .i64 x_37.Kind), (.int .i64 x_37.N), (.str x_37.T), (.lst 1 (x_37.Keys.map AV.str)), (.lst 5 (x_37.Items.map encGJson))])) rfl (encGJson_eq _) nle rfl), ⟨(ag_iaddr (enc := encGJson) rfl rfl (idx0 ex38) (idx1 ex38)), ⟨⟨nle, rfl⟩, ⟨⟨trivial, rfl⟩, ⟨(ag_loadeq (v := (.agg [(.int .i64 x_35.Kind), (.int .i64 x_35.N), (.str x_35.T), (.lst 1 (x_35.Keys.map AV.str)), (.lst 5 (x_35.Items.map encGJson))])) rfl (encGJson_eq _) nle rfl), ⟨(ag_iaddr (enc := encGJson) rfl rfl (idx0 ex36) (idx1 ex36)), ⟨⟨nle, rfl⟩, ⟨⟨trivial, rfl⟩, ⟨(ag_loadeq (v := (.agg [(.int .i64 x_33.Kind), (.int .i64 x_33.N), (.str x_33.T), (.lst 1 (x_33.Keys.map AV.str)), (.lst 5 (x_33.Items.map encGJson))])) rfl (encGJson_eq _) nle rfl), ⟨(ag_iaddr (enc := encGJson) rfl rfl (idx0 ex34) (idx1 ex34)), ⟨⟨nle, rfl⟩, ⟨⟨trivial, rfl⟩, trivial⟩⟩⟩⟩⟩⟩⟩⟩⟩⟩⟩⟩) trivial ?_
       refine s_dol (o_box (j := 4) (c := (.agg [(.int .i64 0), (.int .i64 0), (.str []), .nil, .nil])) rfl trivial rfl rfl) (.inr ⟨(ag_loadeq (v := (.agg [(.int .i64 x_37.Kind), (.int .i64 x_37.N), (.str x_37.T), (.lst 1 (x_37.Keys.map AV.str)), (.lst 5 (x_37.Items.map encGJson))])) rfl (encGJson_eq _) nle rfl), ⟨(ag_iaddr (enc := encGJson) rfl rfl (idx0 ex38) (idx1 ex38)), ⟨⟨nle, rfl⟩, ⟨⟨trivial, rfl⟩, ⟨(ag_loadeq (v := (.agg [(.int .i64 x_35.Kind), (.int .i64 x_35.N), (.str x_35.T), (.lst 1 (x_35.Keys.map AV.str)), (.lst 5 (x_35.Items.map encGJson))])) rfl (encGJson_eq _) nle rfl), ⟨(ag_iaddr (enc := encGJson) rfl rfl (idx0 ex36) (idx1 ex36)), ⟨⟨nle, rfl⟩, ⟨⟨trivial, rfl⟩, ⟨(ag_loadeq (v := (.agg [(.int .i64 x_33.Kind), (.int .i64 x_33.N), (.str x_33.T), (.lst 1 (x_33.Keys.map AV.str)), (.lst 5 (x_33.Items.map encGJson))])) rfl (encGJson_eq _) nle rfl), ⟨(ag_iaddr (enc := encGJson) rfl rfl (idx0 ex34) (idx1 ex34)), ⟨⟨nle, rfl⟩, ⟨⟨trivial, rfl⟩, trivial⟩⟩⟩⟩⟩⟩⟩⟩⟩⟩⟩⟩) trivial ?_
       refine s_dol0 (o_storebox (v := (.agg [(.int .i64 x_33.Kind), (.int .i64 x_33.N), (.str x_33.T), (.lst 1 (x_33.Keys.map AV.str)), (.lst 5 (x_33.Items.map encGJson))])) (y' := (.agg [(.int .i64 x_33.Kind), (.int .i64 x_33.N), (.str x_33.T), (.lst 1 (x_33.Keys.map AV.str)), (.lst 5 (x_33.Items.map encGJson))])) rfl rfl rfl trivial ⟨rfl, nle⟩ ⟨⟨rfl, trivial⟩, ⟨⟨rfl, trivial⟩, ⟨⟨rfl, trivial⟩, ⟨⟨rfl, trivial⟩, ⟨⟨rfl, trivial⟩, trivial⟩⟩⟩⟩⟩ rfl) (.inr ⟨(ag_loadeq (v := (.agg [(.int .i64 x_37.Kind), (.int .i64 x_37.N), (.str x_37.T), (.lst 1 (x_37.Keys.map AV.str)), (.lst 5 (x_37.Items.map encGJson))])) rfl (encGJson_eq _) nle rfl), ⟨(ag_iaddr (enc := encGJson) rfl rfl (idx0 ex38) (idx1 ex38)), ⟨⟨nle, rfl⟩, ⟨⟨trivial, rfl⟩, ⟨(ag_loadeq (v := (.agg [(.int .i64 x_35.Kind), (.int .i64 x_35.N), (.str x_35.T), (.lst 1 (x_35.Keys.map AV.str)), (.lst 5 (x_35.Items.map encGJson))])) rfl (encGJson_eq _) nle rfl), ⟨(ag_iaddr (enc := encGJson) rfl rfl (idx0 ex36) (idx1 ex36)), ⟨⟨nle, rfl⟩, ⟨⟨trivial, rfl⟩, trivial⟩⟩⟩⟩⟩⟩⟩⟩) trivial ?_
       refine s_dol0 (o_storebox (v := (.agg [(.int .i64 x_35.Kind), (.int .i64 x_35.N), (.str x_35.T), (.lst 1 (x_35.Keys.map AV.str)), (.lst 5 (x_35.Items.map encGJson))])) (y' := (.agg [(.int .i64 x_35.Kind), (.int .i64 x_35.N), (.str x_35.T), (.lst 1 (x_35.Keys.map AV.str)), (.lst 5 (x_35.Items.map encGJson))])) rfl rfl rfl trivial ⟨rfl, nle⟩ ⟨⟨rfl, trivial⟩, ⟨⟨rfl, trivial⟩, ⟨⟨rfl, trivial⟩, ⟨⟨rfl, trivial⟩, ⟨⟨rfl, trivial⟩, trivial⟩⟩⟩⟩⟩ rfl) (.inr ⟨(ag_loadeq (v := (.agg [(.int .i64 x_37.Kind), (.int .i64 x_37.N), (.str x_37.T), (.lst 1 (x_37.Keys.map AV.str)), (.lst 5 (x_37.Items.map encGJson))])) rfl (encGJson_eq _) nle rfl), ⟨(ag_iaddr (enc := encGJson) rfl rfl (idx0 ex38) (idx1 ex38)), ⟨⟨nle, rfl⟩, ⟨⟨trivial, rfl⟩, trivial⟩⟩⟩⟩) trivial ?_
       refine s_dol0 (o_storebox (v := (.agg [(.int .i64 x_37.Kind), (.int .i64 x_37.N), (.str x_37.T), (.lst 1 (x_37.Keys.map AV.str)), (.lst 5 (x_37.Items.map encGJson))])) (y' := (.agg [(.int .i64 x_37.Kind), (.int .i64 x_37.N), (.str x_37.T), (.lst 1 (x_37.Keys.map AV.str)), (.lst 5 (x_37.Items.map encGJson))])) rfl rfl rfl trivial ⟨rfl, nle⟩ ⟨⟨rfl, trivial⟩, ⟨⟨rfl, trivial⟩, ⟨⟨rfl, trivial⟩, ⟨⟨rfl, trivial⟩, ⟨⟨rfl, trivial⟩, trivial⟩⟩⟩⟩⟩ rfl) trivial trivial <| w_done <| ?_; obtain rfl := os hb1; exact ⟨[], [1, 4, 3, 2], _, _, rfl, rfl, ⟨.refl _, ⟨.refl _, ⟨.refl _, ⟨.refl _, trivial⟩⟩⟩⟩, (.refl _)⟩
      ·refine s_dol (o_box (j := 4) (c := (.agg [(.int .i64 0), (.int .i64 0), (.str []), .nil, .nil])) rfl trivial rfl rfl) (.inr ⟨(ag_loadeq (v := (.agg [(.int .i64 x_37.Kind), (.int .i64 x_37.N), (.str x_37.T), (.lst 1 (x_37.Keys.map AV.str)), (.lst 5 (x_37.Items.map encGJson))])) rfl (encGJson_eq _) nle rfl), ⟨(ag_iaddr (enc := encGJson) rfl rfl (idx0 ex38) (idx1 ex38)), ⟨⟨nle, rfl⟩, ⟨⟨trivial, rfl⟩, ⟨(ag_loadeq (v := (.agg [(.int .i64 x_35.Kind), (.int .i64 x_35.N), (.str x_35.T), (.lst 1 (x_35.Keys.map AV.str)), (.lst 5 (x_35.Items.map encGJson))])) rfl (encGJson_eq _) nle rfl), ⟨(ag_iaddr (enc := encGJson) rfl rfl (idx0 ex36) (idx1 ex36)), ⟨⟨nle, rfl⟩, ⟨⟨trivial, rfl⟩, ⟨(ag_loadeq (v := (.agg [(.int .i64 x_33.Kind), (.int .i64 x_33.N), (.str x_33.T), (.lst 1 (x_33.Keys.map AV.str)), (.lst 5 (x_33.Items.map encGJson))])) rfl (encGJson_eq _) nle rfl), ⟨(ag_iaddr (enc := encGJson) rfl rfl (idx0 ex34) (idx1 ex34)), ⟨⟨nle, rfl⟩, ⟨⟨trivial, rfl⟩, trivial⟩⟩⟩⟩⟩⟩⟩⟩⟩⟩⟩⟩) trivial ?_
       refine s_dol0 (o_storebox (v := (.agg [(.int .i64 x_33.Kind), (.int .i64 x_33.N), (.str x_33.T), (.lst 1 (x_33.Keys.map AV.str)), (.lst 5 (x_33.Items.map encGJson))])) (y' := (.agg [(.int .i64 x_33.Kind), (.int .i64 x_33.N), (.str x_33.T), (.lst 1 (x_33.Keys.map AV.str)), (.lst 5 (x_33.Items.map encGJson))])) rfl rfl rfl trivial ⟨rfl, nle⟩ ⟨⟨rfl, trivial⟩, ⟨⟨rfl, trivial⟩, ⟨⟨rfl, trivial⟩, ⟨⟨rfl, trivial⟩, ⟨⟨rfl, trivial⟩, trivial⟩⟩⟩⟩⟩ rfl) (.inr ⟨(ag_loadeq (v := (.agg [(.int .i64 x_37.Kind), (.int .i64 x_37.N), (.str x_37.T), (.lst 1 (x_37.Keys.map AV.str)), (.lst 5 (x_37.Items.map encGJson))])) rfl (encGJson_eq _) nle rfl), ⟨(ag_iaddr (enc := encGJson) rfl rfl (idx0 ex38) (idx1 ex38)), ⟨⟨nle, rfl⟩, ⟨⟨trivial, rfl⟩, ⟨(ag_loadeq (v := (.agg [(.int .i64 x_35.Kind), (.int .i64 x_35.N), (.str x_35.T), (.lst 1 (x_35.Keys.map AV.str)), (.lst 5 (x_35.Items.map encGJson))])) rfl (encGJson_eq _) nle rfl), ⟨(ag_iaddr (enc := encGJson) rfl rfl (idx0 ex36) (idx1 ex36)), ⟨⟨nle, rfl⟩, ⟨⟨trivial, rfl⟩, trivial⟩⟩⟩⟩⟩⟩⟩⟩) trivial ?_
       refine s_dol0 (o_storebox (v := (.agg [(.int .i64 x_35.Kind), (.int .i64 x_35.N), (.str x_35.T), (.lst 1 (x_35.Keys.map AV.str)), (.lst 5 (x_35.Items.map encGJson))])) (y' := (.agg [(.int .i64 x_35.Kind), (.int .i64 x_35.N), (.str x_35.T), (.lst 1 (x_35.Keys.map AV.str)), (.lst 5 (x_35.Items.map encGJson))])) rfl rfl rfl trivial ⟨rfl, nle⟩ ⟨⟨rfl, trivial⟩, ⟨⟨rfl, trivial⟩, ⟨⟨rfl, trivial⟩, ⟨⟨rfl, trivial⟩, ⟨⟨rfl, trivial⟩, trivial⟩⟩⟩⟩⟩ rfl) (.inr ⟨(ag_loadeq (v := (.agg [(.int .i64 x_37.Kind), (.int .i64 x_37.N), (.str x_37.T), (.lst 1 (x_37.Keys.map AV.str)), (.lst 5 (x_37.Items.map encGJson))])) rfl (encGJson_eq _) nle rfl), ⟨(ag_iaddr (enc := encGJson) rfl rfl (idx0 ex38) (idx1 ex38)), ⟨⟨nle, rfl⟩, ⟨⟨trivial, rfl⟩, trivial⟩⟩⟩⟩) trivial ?_
       refine s_dol0 (o_storebox (v := (.agg [(.int .i64 x_37.Kind), (.int .i64 x_37.N), (.str x_37.T), (.lst 1 (x_37.Keys.map AV.str)), (.lst 5 (x_37.Items.map encGJson))])) (y' := (.agg [(.int .i64 x_37.Kind), (.int .i64 x_37.N), (.str x_37.T), (.lst 1 (x_37.Keys.map AV.str)), (.lst 5 (x_37.Items.map encGJson))])) rfl rfl rfl trivial ⟨rfl, nle⟩ ⟨⟨rfl, trivial⟩, ⟨⟨rfl, trivial⟩, ⟨⟨rfl, trivial⟩, ⟨⟨rfl, trivial⟩, ⟨⟨rfl, trivial⟩, trivial⟩⟩⟩⟩⟩ rfl) trivial trivial <| w_done <| ?_; obtain rfl := os hb1; exact ⟨[], [1, 3, 4, 2], _, _, rfl, rfl, ⟨.refl _, ⟨.refl _, ⟨.refl _, ⟨.refl _, trivial⟩⟩⟩⟩, (.refl _)⟩
     ·refine s_dol (o_box (j := 3) (c := (.agg [(.int .i64 0), (.int .i64 0), (.str []), .nil, .nil])) rfl trivial rfl rfl) (.inr ⟨(ag_loadeq (v := (.agg [(.int .i64 x_37.Kind), (.int .i64 x_37.N), (.str x_37.T), (.lst 1 (x_37.Keys.map AV.str)), (.lst 5 (x_37.Items.map encGJson))])) rfl (encGJson_eq _) nle rfl), ⟨(ag_iaddr (enc := encGJson) rfl rfl (idx0 ex38) (idx1 ex38)), ⟨⟨nle, rfl⟩, ⟨⟨trivial, rfl⟩, ⟨(ag_loadeq (v := (.agg [(.int .i64 x_35.Kind), (.int .i64 x_35.N), (.str x_35.T), (.lst 1 (x_35.Keys.map AV.str)), (.lst 5 (x_35.Items.map encGJson))])) rfl (encGJson_eq _) nle rfl), ⟨(ag_iaddr (enc := encGJson) rfl rfl (idx0 ex36) (idx1 ex36)), ⟨⟨nle, rfl⟩, ⟨⟨trivial, rfl⟩, ⟨(ag_loadeq (v := (.agg [(.int .i64 x_33.Kind), (.int .i64 x_33.N), (.str x_33.T), (.lst 1 (x_33.Keys.map AV.str)), (.lst 5 (x_33.Items.map encGJson))])) rfl (encGJson_eq _) nle rfl), ⟨(ag_iaddr (enc := encGJson) rfl rfl (idx0 ex34) (idx1 ex34)), ⟨⟨nle, rfl⟩, ⟨⟨trivial, rfl⟩, trivial⟩⟩⟩⟩⟩⟩⟩⟩⟩⟩⟩⟩) ?_ ?_
      ·refine s_dol (o_box (j := 3) (c := (.agg [(.int .i64 0), (.int .i64 0), (.str []), .nil, .nil])) rfl trivial rfl rfl) (.inr ⟨(ag_loadeq (v := (.agg [(.int .i64 x_37.Kind), (.int .i64 x_37.N), (.str x_37.T), (.lst 1 (x_37.Keys.map AV.str)), (.lst 5 (x_37.Items.map encGJson))])) rfl (encGJson_eq _) nle rfl), ⟨(ag_iaddr (enc := encGJson) rfl rfl (idx0 ex38) (idx1 ex38)), ⟨⟨nle, rfl⟩, ⟨⟨trivial, rfl⟩, ⟨(ag_loadeq (v := (.agg [(.int .i64 x_35.Kind), (.int .i64 x_35.N), (.str x_35.T), (.lst 1 (x_35.Keys.map AV.str)), (.lst 5 (x_35.Items.map encGJson))])) rfl (encGJson_eq _) nle rfl), ⟨(ag_iaddr (enc := encGJson) rfl rfl (idx0 ex36) (idx1 ex36)), ⟨⟨nle, rfl⟩, ⟨⟨trivial, rfl⟩, ⟨(ag_loadeq (v := (.agg [(.int .i64 x_33.Kind), (.int .i64 x_33.N), (.str x_33.T), (.lst 1 (x_33.Keys.map AV.str)), (.lst 5 (x_33.Items.map encGJson))])) rfl (encGJson_eq _) nle rfl), ⟨(ag_iaddr (enc := encGJson) rfl rfl (idx0 ex34) (idx1 ex34)), ⟨⟨nle, rfl⟩, ⟨⟨trivial, rfl⟩, trivial⟩⟩⟩⟩⟩⟩⟩⟩⟩⟩⟩⟩) trivial ?_
       refine s_dol (o_box (j := 4) (c := (.agg [(.int .i64 0), (.int .i64 0), (.str []), .nil, .nil])) rfl trivial rfl rfl) (.inr ⟨(ag_loadeq (v := (.agg [(.int .i64 x_37.Kind), (.int .i64 x_37.N), (.str x_37.T), (.lst 1 (x_37.Keys.map AV.str)), (.lst 5 (x_37.Items.map encGJson))])) rfl (encGJson_eq _) nle rfl), ⟨(ag_iaddr (enc := encGJson) rfl rfl (idx0 ex38) (idx1 ex38)), ⟨⟨nle, rfl⟩, ⟨⟨trivial, rfl⟩, ⟨(ag_loadeq (v := (.agg [(.int .i64 x_35.Kind), (.int .i64 x_35.N), (.str x_35.T), (.lst 1 (x_35.Keys.map AV.str)), (.lst 5 (x_35.Items.map encGJson))])) rfl (encGJson_eq _) nle rfl), ⟨(ag_iaddr (enc := encGJson) rfl rfl (idx0 ex36) (idx1 ex36)), ⟨⟨nle, rfl⟩, ⟨⟨trivial, rfl⟩, ⟨(ag_loadeq (v := (.agg [(.int .i64 x_33.Kind), (.int .i64 x_33.N), (.str x_33.T), (.lst 1 (x_33.Keys.map AV.str)), (.lst 5 (x_33.Items.map encGJson))])) rfl (encGJson_eq _) nle rfl), ⟨(ag_iaddr (enc := encGJson) rfl rfl (idx0 ex34) (idx1 ex34)), ⟨⟨nle, rfl⟩, ⟨⟨trivial, rfl⟩, trivial⟩⟩⟩⟩⟩⟩⟩⟩⟩⟩⟩⟩) trivial ?_
       refine s_dol0 (o_storebox (v := (.agg [(.int .i64 x_33.Kind), (.int .i64 x_33.N), (.str x_33.T), (.lst 1 (x_33.Keys.map AV.str)), (.lst 5 (x_33.Items.map encGJson))])) (y' := (.agg [(.int .i64 x_33.Kind), (.int .i64 x_33.N), (.str x_33.T), (.lst 1 (x_33.Keys.map AV.str)), (.lst 5 (x_33.Items.map encGJson))])) rfl rfl rfl trivial ⟨rfl, nle⟩ ⟨⟨rfl, trivial⟩, ⟨⟨rfl, trivial⟩, ⟨⟨rfl, trivial⟩, ⟨⟨rfl, trivial⟩, ⟨⟨rfl, trivial⟩, trivial⟩⟩⟩⟩⟩ rfl) (.inr ⟨(ag_loadeq (v := (.agg [(.int .i64 x_37.Kind), (.int .i64 x_37.N), (.str x_37.T), (.lst 1 (x_37.Keys.map AV.str)), (.lst 5 (x_37.Items.map encGJson))])) rfl (encGJson_eq _) nle rfl), ⟨(ag_iaddr (enc := encGJson) rfl rfl (idx0 ex38) (idx1 ex38)), ⟨⟨nle, rfl⟩, ⟨⟨trivial, rfl⟩, ⟨(ag_loadeq (v := (.agg [(.int .i64 x_35.Kind), (.int .i64 x_35.N), (.str x_35.T), (.lst 1 (x_35.Keys.map AV.str)), (.lst 5 (x_35.Items.map encGJson))])) rfl (encGJson_eq _) nle rfl), ⟨(ag_iaddr (enc := encGJson) rfl rfl (idx0 ex36) (idx1 ex36)), ⟨⟨nle, rfl⟩, ⟨⟨trivial, rfl⟩, trivial⟩⟩⟩⟩⟩⟩⟩⟩) trivial ?_
       refine s_dol0 (o_storebox (v := (.agg [(.int .i64 x_35.Kind), (.int .i64 x_35.N), (.str x_35.T), (.lst 1 (x_35.Keys.map AV.str)), (.lst 5 (x_35.Items.map encGJson))])) (y' := (.agg [(.int .i64 x_35.Kind), (.int .i64 x_35.N), (.str x_35.T), (.lst 1 (x_35.Keys.map AV.str)), (.lst 5 (x_35.Items.map encGJson))])) rfl rfl rfl trivial ⟨rfl, nle⟩ ⟨⟨rfl, trivial⟩, ⟨⟨rfl, trivial⟩, ⟨⟨rfl, trivial⟩, ⟨⟨rfl, trivial⟩, ⟨⟨rfl, trivial⟩, trivial⟩⟩⟩⟩⟩ rfl) (.inr ⟨(ag_loadeq (v := (.agg [(.int .i64 x_37.Kind), (.int .i64 x_37.N), (.str x_37.T), (.lst 1 (x_37.Keys.map AV.str)), (.lst 5 (x_37.Items.map encGJson))])) rfl (encGJson_eq _) nle rfl), ⟨(ag_iaddr (enc := encGJson) rfl rfl (idx0 ex38) (idx1 ex38)), ⟨⟨nle, rfl⟩, ⟨⟨trivial, rfl⟩, trivial⟩⟩⟩⟩) trivial ?_
       refine s_dol0 (o_storebox (v := (.agg [(.int .i64 x_37.Kind), (.int .i64 x_37.N), (.str x_37.T), (.lst 1 (x_37.Keys.map AV.str)), (.lst 5 (x_37.Items.map encGJson))])) (y' := (.agg [(.int .i64 x_37.Kind), (.int .i64 x_37.N), (.str x_37.T), (.lst 1 (x_37.Keys.map AV.str)), (.lst 5 (x_37.Items.map encGJson))])) rfl rfl rfl trivial ⟨rfl, nle⟩ ⟨⟨rfl, trivial⟩, ⟨⟨rfl, trivial⟩, ⟨⟨rfl, trivial⟩, ⟨⟨rfl, trivial⟩, ⟨⟨rfl, trivial⟩, trivial⟩⟩⟩⟩⟩ rfl) trivial trivial <| w_done <| ?_; obtain rfl := os hb1; exact ⟨[], [1, 4, 2, 3], _, _, rfl, rfl, ⟨.refl _, ⟨.refl _, ⟨.refl _, ⟨.refl _, trivial⟩⟩⟩⟩, (.refl _)⟩
      ·refine s_dol (o_box (j := 4) (c := (.agg [(.int .i64 0), (.int .i64 0), (.str []), .nil, .nil])) rfl trivial rfl rfl) (.inr ⟨(ag_loadeq (v := (.agg [(.int .i64 x_37.Kind), (.int .i64 x_37.N), (.str x_37.T), (.lst 1 (x_37.Keys.map AV.str)), (.lst 5 (x_37.Items.map encGJson))])) rfl (encGJson_eq _) nle rfl), ⟨(ag_iaddr (enc := encGJson) rfl rfl (idx0 ex38) (idx1 ex38)), ⟨⟨nle, rfl⟩, ⟨⟨trivial, rfl⟩, ⟨(ag_loadeq (v := (.agg [(.int .i64 x_35.Kind), (.int .i64 x_35.N), (.str x_35.T), (.lst 1 (x_35.Keys.map AV.str)), (.lst 5 (x_35.Items.map encGJson))])) rfl (encGJson_eq _) nle rfl), ⟨(ag_iaddr (enc := encGJson) rfl rfl (idx0 ex36) (idx1 ex36)), ⟨⟨nle, rfl⟩, ⟨⟨trivial, rfl⟩, ⟨(ag_loadeq (v := (.agg [(.int .i64 x_33.Kind), (.int .i64 x_33.N), (.str x_33.T), (.lst 1 (x_33.Keys.map AV.str)), (.lst 5 (x_33.Items.map encGJson))])) rfl (encGJson_eq _) nle rfl), ⟨(ag_iaddr (enc := encGJson) rfl rfl (idx0 ex34) (idx1 ex34)), ⟨⟨nle, rfl⟩, ⟨⟨trivial, rfl⟩, trivial⟩⟩⟩⟩⟩⟩⟩⟩⟩⟩⟩⟩) trivial ?_
       refine s_dol0 (o_storebox (v := (.agg [(.int .i64 x_33.Kind), (.int .i64 x_33.N), (.str x_33.T), (.lst 1 (x_33.Keys.map AV.str)), (.lst 5 (x_33.Items.map encGJson))])) (y' := (.agg [(.int .i64 x_33.Kind), (.int .i64 x_33.N), (.str x_33.T), (.lst 1 (x_33.Keys.map AV.str)), (.lst 5 (x_33.Items.map encGJson))])) rfl rfl rfl trivial ⟨rfl, nle⟩ ⟨⟨rfl, trivial⟩, ⟨⟨rfl, trivial⟩, ⟨⟨rfl, trivial⟩, ⟨⟨rfl, trivial⟩, ⟨⟨rfl, trivial⟩, trivial⟩⟩⟩⟩⟩ rfl) (.inr ⟨(ag_loadeq (v := (.agg [(.int .i64 x_37.Kind), (.int .i64 x_37.N), (.str x_37.T), (.lst 1 (x_37.Keys.map AV.str)), (.lst 5 (x_37.Items.map encGJson))])) rfl (encGJson_eq _) nle rfl), ⟨(ag_iaddr (enc := encGJson) rfl rfl (idx0 ex38) (idx1 ex38)), ⟨⟨nle, rfl⟩, ⟨⟨trivial, rfl⟩, ⟨(ag_loadeq (v := (.agg [(.int .i64 x_35.Kind), (.int .i64 x_35.N), (.str x_35.T), (.lst 1 (x_35.Keys.map AV.str)), (.lst 5 (x_35.Items.map encGJson))])) rfl (encGJson_eq _) nle rfl), ⟨(ag_iaddr (enc := encGJson) rfl rfl (idx0 ex36) (idx1 ex36)), ⟨⟨nle, rfl⟩, ⟨⟨trivial, rfl⟩, trivial⟩⟩⟩⟩⟩⟩⟩⟩) trivial ?_
       refine s_dol0 (o_storebox (v := (.agg [(.int .i64 x_35.Kind), (.int .i64 x_35.N), (.str x_35.T), (.lst 1 (x_35.Keys.map AV.str)), (.lst 5 (x_35.Items.map encGJson))])) (y' := (.agg [(.int .i64 x_35.Kind), (.int .i64 x_35.N), (.str x_35.T), (.lst 1 (x_35.Keys.map AV.str)), (.lst 5 (x_35.Items.map encGJson))])) rfl rfl rfl trivial ⟨rfl, nle⟩ ⟨⟨rfl, trivial⟩, ⟨⟨rfl, trivial⟩, ⟨⟨rfl, trivial⟩, ⟨⟨rfl, trivial⟩, ⟨⟨rfl, trivial⟩, trivial⟩⟩⟩⟩⟩ rfl) (.inr ⟨(ag_loadeq (v := (.agg [(.int .i64 x_37.Kind), (.int .i64 x_37.N), (.str x_37.T), (.lst 1 (x_37.Keys.map AV.str)), (.lst 5 (x_37.Items.map encGJson))])) rfl (encGJson_eq _) nle rfl), ⟨(ag_iaddr (enc := encGJson) rfl rfl (idx0 ex38) (idx1 ex38)), ⟨⟨nle, rfl⟩, ⟨⟨trivial, rfl⟩, trivial⟩⟩⟩⟩) trivial ?_
       refine s_dol0 (o_storebox (v := (.agg [(.int .i64 x_37.Kind), (.int .i64 x_37.N), (.str x_37.T), (.lst 1 (x_37.Keys.map AV.str)), (.lst 5 (x_37.Items.map encGJson))])) (y' := (.agg [(.int .i64 x_37.Kind), (.int .i64 x_37.N), (.str x_37.T), (.lst 1 (x_37.Keys.map AV.str)), (.lst 5 (x_37.Items.map encGJson))])) rfl rfl rfl trivial ⟨rfl, nle⟩ ⟨⟨rfl, trivial⟩, ⟨⟨rfl, trivial⟩, ⟨⟨rfl, trivial⟩, ⟨⟨rfl, trivial⟩, ⟨⟨rfl, trivial⟩, trivial⟩⟩⟩⟩⟩ rfl) trivial trivial <| w_done <| ?_; obtain rfl := os hb1; exact ⟨[], [1, 3, 2, 4], _, _, rfl, rfl, ⟨.refl _, ⟨.refl _, ⟨.refl _, ⟨.refl _, trivial⟩⟩⟩⟩, (.refl _)⟩
    ·refine s_dol (o_box (j := 3) (c := (.agg [(.int .i64 0), (.int .i64 0), (.str []), .nil, .nil])) rfl trivial rfl rfl) (.inr ⟨(ag_loadeq (v := (.agg [(.int .i64 x_37.Kind), (.int .i64 x_37.N), (.str x_37.T), (.lst 1 (x_37.Keys.map AV.str)), (.lst 5 (x_37.Items.map encGJson))])) rfl (encGJson_eq _) nle rfl), ⟨(ag_iaddr (enc := encGJson) rfl rfl (idx0 ex38) (idx1 ex38)), ⟨⟨nle, rfl⟩, ⟨⟨trivial, rfl⟩, ⟨(ag_loadeq (v := (.agg [(.int .i64 x_35.Kind), (.int .i64 x_35.N), (.str x_35.T), (.lst 1 (x_35.Keys.map AV.str)), (.lst 5 (x_35.Items.map encGJson))])) rfl (encGJson_eq _) nle rfl), ⟨(ag_iaddr (enc := encGJson) rfl rfl (idx0 ex36) (idx1 ex36)), ⟨⟨nle, rfl⟩, ⟨⟨trivial, rfl⟩, ⟨(ag_loadeq (v := (.agg [(.int .i64 x_33.Kind), (.int .i64 x_33.N), (.str x_33.T), (.lst 1 (x_33.Keys.map AV.str)), (.lst 5 (x_33.Items.map encGJson))])) rfl (encGJson_eq _) nle rfl), ⟨(ag_iaddr (enc := encGJson) rfl rfl (idx0 ex34) (idx1 ex34)), ⟨⟨nle, rfl⟩, ⟨⟨trivial, rfl⟩, trivial⟩⟩⟩⟩⟩⟩⟩⟩⟩⟩⟩⟩) ?_ ?_
     ·refine s_dol (o_box (j := 3) (c := (.agg [(.int .i64 0), (.int .i64 0), (.str []), .nil, .nil])) rfl trivial rfl rfl) (.inr ⟨(ag_loadeq (v := (.agg [(.int .i64 x_37.Kind), (.int .i64 x_37.N), (.str x_37.T), (.lst 1 (x_37.Keys.map AV.str)), (.lst 5 (x_37.Items.map encGJson))])) rfl (encGJson_eq _) nle rfl), ⟨(ag_iaddr (enc := encGJson) rfl rfl (idx0 ex38) (idx1 ex38)), ⟨⟨nle, rfl⟩, ⟨⟨trivial, rfl⟩, ⟨(ag_loadeq (v := (.agg [(.int .i64 x_35.Kind), (.int .i64 x_35.N), (.str x_35.T), (.lst 1 (x_35.Keys.map AV.str)), (.lst 5 (x_35.Items.map encGJson))])) rfl (encGJson_eq _) nle rfl), ⟨(ag_iaddr (enc := encGJson) rfl rfl (idx0 ex36) (idx1 ex36)), ⟨⟨nle, rfl⟩, ⟨⟨trivial, rfl⟩, ⟨(ag_loadeq (v := (.agg [(.int .i64 x_33.Kind), (.int .i64 x_33.N), (.str x_33.T), (.lst 1 (x_33.Keys.map AV.str)), (.lst 5 (x_33.Items.map encGJson))])) rfl (encGJson_eq _) nle rfl), ⟨(ag_iaddr (enc := encGJson) rfl rfl (idx0 ex34) (idx1 ex34)), ⟨⟨nle, rfl⟩, ⟨⟨trivial, rfl⟩, trivial⟩⟩⟩⟩⟩⟩⟩⟩⟩⟩⟩⟩) trivial ?_
      refine s_dol (o_box (j := 4) (c := (.agg [(.int .i64 0), (.int .i64 0), (.str []), .nil, .nil])) rfl trivial rfl rfl) (.inr ⟨(ag_loadeq (v := (.agg [(.int .i64 x_37.Kind), (.int .i64 x_37.N), (.str x_37.T), (.lst 1 (x_37.Keys.map AV.str)), (.lst 5 (x_37.Items.map encGJson))])) rfl (encGJson_eq _) nle rfl), ⟨(ag_iaddr (enc := encGJson) rfl rfl (idx0 ex38) (idx1 ex38)), ⟨⟨nle, rfl⟩, ⟨⟨trivial, rfl⟩, ⟨(ag_loadeq (v := (.agg [(.int .i64 x_35.Kind), (.int .i64 x_35.N), (.str x_35.T), (.lst 1 (x_35.Keys.map AV.str)), (.lst 5 (x_35.Items.map encGJson))])) rfl (encGJson_eq _) nle rfl), ⟨(ag_iaddr (enc := encGJson) rfl rfl (idx0 ex36) (idx1 ex36)), ⟨⟨nle, rfl⟩, ⟨⟨trivial, rfl⟩, ⟨(ag_loadeq (v := (.agg [(.int .i64 x_33.Kind), (.int .i64 x_33.N), (.str x_33.T), (.lst 1 (x_33.Keys.map AV.str)), (.lst 5 (x_33.Items.map encGJson))])) rfl (encGJson_eq _) nle rfl), ⟨(ag_iaddr (enc := encGJson) rfl rfl (idx0 ex34) (idx1 ex34)), ⟨⟨nle, rfl⟩, ⟨⟨trivial, rfl⟩, trivial⟩⟩⟩⟩⟩⟩⟩⟩⟩⟩⟩⟩) trivial ?_
      refine s_dol0 (o_storebox (v := (.agg [(.int .i64 x_33.Kind), (.int .i64 x_33.N), (.str x_33.T), (.lst 1 (x_33.Keys.map AV.str)), (.lst 5 (x_33.Items.map encGJson))])) (y' := (.agg [(.int .i64 x_33.Kind), (.int .i64 x_33.N), (.str x_33.T), (.lst 1 (x_33.Keys.map AV.str)), (.lst 5 (x_33.Items.map encGJson))])) rfl rfl rfl trivial ⟨rfl, nle⟩ ⟨⟨rfl, trivial⟩, ⟨⟨rfl, trivial⟩, ⟨⟨rfl, trivial⟩, ⟨⟨rfl, trivial⟩, ⟨⟨rfl, trivial⟩, trivial⟩⟩⟩⟩⟩ rfl) (.inr ⟨(ag_loadeq (v := (.agg [(.int .i64 x_37.Kind), (.int .i64 x_37.N), (.str x_37.T), (.lst 1 (x_37.Keys.map AV.str)), (.lst 5 (x_37.Items.map encGJson))])) rfl (encGJson_eq _) nle rfl), ⟨(ag_iaddr (enc := encGJson) rfl rfl (idx0 ex38) (idx1 ex38)), ⟨⟨nle, rfl⟩, ⟨⟨trivial, rfl⟩, ⟨(ag_loadeq (v := (.agg [(.int .i64 x_35.Kind), (.int .i64 x_35.N), (.str x_35.T), (.lst 1 (x_35.Keys.map AV.str)), (.lst 5 (x_35.Items.map encGJson))])) rfl (encGJson_eq _) nle rfl), ⟨(ag_iaddr (enc := encGJson) rfl rfl (idx0 ex36) (idx1 ex36)), ⟨⟨nle, rfl⟩, ⟨⟨trivial, rfl⟩, trivial⟩⟩⟩⟩⟩⟩⟩⟩) trivial ?_
      refine s_dol0 (o_storebox (v := (.agg [(.int .i64 x_35.Kind), (.int .i64 x_35.N), (.str x_35.T), (.lst 1 (x_35.Keys.map AV.str)), (.lst 5 (x_35.Items.map encGJson))])) (y' := (.agg [(.int .i64 x_35.Kind), (.int .i64 x_35.N), (.str x_35.T), (.lst 1 (x_35.Keys.map AV.str)), (.lst 5 (x_35.Items.map encGJson))])) rfl rfl rfl trivial ⟨rfl, nle⟩ ⟨⟨rfl, trivial⟩, ⟨⟨rfl, trivial⟩, ⟨⟨rfl, trivial⟩, ⟨⟨rfl, trivial⟩, ⟨⟨rfl, trivial⟩, trivial⟩⟩⟩⟩⟩ rfl) (.inr ⟨(ag_loadeq (v := (.agg [(.int .i64 x_37.Kind), (.int .i64 x_37.N), (.str x_37.T), (.lst 1 (x_37.Keys.map AV.str)), (.lst 5 (x_37.Items.map encGJson))])) rfl (encGJson_eq _) nle rfl), ⟨(ag_iaddr (enc := encGJson) rfl rfl (idx0 ex38) (idx1 ex38)), ⟨⟨nle, rfl⟩, ⟨⟨trivial, rfl⟩, trivial⟩⟩⟩⟩) trivial ?_
      refine s_dol0 (o_storebox (v := (.agg [(.int .i64 x_37.Kind), (.int .i64 x_37.N), (.str x_37.T), (.lst 1 (x_37.Keys.map AV.str)), (.lst 5 (x_37.Items.map encGJson))])) (y' := (.agg [(.int .i64 x_37.Kind), (.int .i64 x_37.N), (.str x_37.T), (.lst 1 (x_37.Keys.map AV.str)), (.lst 5 (x_37.Items.map encGJson))])) rfl rfl rfl trivial ⟨rfl, nle⟩ ⟨⟨rfl, trivial⟩, ⟨⟨rfl, trivial⟩, ⟨⟨rfl, trivial⟩, ⟨⟨rfl, trivial⟩, ⟨⟨rfl, trivial⟩, trivial⟩⟩⟩⟩⟩ rfl) trivial trivial <| w_done <| ?_; obtain rfl := os hb1; exact ⟨[], [1, 2, 4, 3], _, _, rfl, rfl, ⟨.refl _, ⟨.refl _, ⟨.refl _, ⟨.refl _, trivial⟩⟩⟩⟩, (.refl _)⟩
     ·refine s_dol (o_box (j := 4) (c := (.agg [(.int .i64 0), (.int .i64 0), (.str []), .nil, .nil])) rfl trivial rfl rfl) (.inr ⟨(ag_loadeq (v := (.agg [(.int .i64 x_37.Kind), (.int .i64 x_37.N), (.str x_37.T), (.lst 1 (x_37.Keys.map AV.str)), (.lst 5 (x_37.Items.map encGJson))])) rfl (encGJson_eq _) nle rfl), ⟨(ag_iaddr (enc := encGJson) rfl rfl (idx0 ex38) (idx1 ex38)), ⟨⟨nle, rfl⟩, ⟨⟨trivial, rfl⟩, ⟨(ag_loadeq (v := (.agg [(.int .i64 x_35.Kind), (.int .i64 x_35.N), (.str x_35.T), (.lst 1 (x_35.Keys.map AV.str)), (.lst 5 (x_35.Items.map encGJson))])) rfl (encGJson_eq _) nle rfl), ⟨(ag_iaddr (enc := encGJson) rfl rfl (idx0 ex36) (idx1 ex36)), ⟨⟨nle, rfl⟩, ⟨⟨trivial, rfl⟩, ⟨(ag_loadeq (v := (.agg [(.int .i64 x_33.Kind), (.int .i64 x_33.N), (.str x_33.T), (.lst 1 (x_33.Keys.map AV.str)), (.lst 5 (x_33.Items.map encGJson))])) rfl (encGJson_eq _) nle rfl), ⟨(ag_iaddr (enc := encGJson) rfl rfl (idx0 ex34) (idx1 ex34)), ⟨⟨nle, rfl⟩, ⟨⟨trivial, rfl⟩, trivial⟩⟩⟩⟩⟩⟩⟩⟩⟩⟩⟩⟩) trivial ?_
      refine s_dol0 (o_storebox (v := (.agg [(.int .i64 x_33.Kind), (.int .i64 x_33.N), (.str x_33.T), (.lst 1 (x_33.Keys.map AV.str)), (.lst 5 (x_33.Items.map encGJson))])) (y' := (.agg [(.int .i64 x_33.Kind), (.int .i64 x_33.N), (.str x_33.T), (.lst 1 (x_33.Keys.map AV.str)), (.lst 5 (x_33.Items.map encGJson))])) rfl rfl rfl trivial ⟨rfl, nle⟩ ⟨⟨rfl, trivial⟩, ⟨⟨rfl, trivial⟩, ⟨⟨rfl, trivial⟩, ⟨⟨rfl, trivial⟩, ⟨⟨rfl, trivial⟩, trivial⟩⟩⟩⟩⟩ rfl) (.inr ⟨(ag_loadeq (v := (.agg [(.int .i64 x_37.Kind), (.int .i64 x_37.N), (.str x_37.T), (.lst 1 (x_37.Keys.map AV.str)), (.lst 5 (x_37.Items.map encGJson))])) rfl (encGJson_eq _) nle rfl), ⟨(ag_iaddr (enc := encGJson) rfl rfl (idx0 ex38) (idx1 ex38)), ⟨⟨nle, rfl⟩, ⟨⟨trivial, rfl⟩, ⟨(ag_loadeq (v := (.agg [(.int .i64 x_35.Kind), (.int .i64 x_35.N), (.str x_35.T), (.lst 1 (x_35.Keys.map AV.str)), (.lst 5 (x_35.Items.map encGJson))])) rfl (encGJson_eq _) nle rfl), ⟨(ag_iaddr (enc := encGJson) rfl rfl (idx0 ex36) (idx1 ex36)), ⟨⟨nle, rfl⟩, ⟨⟨trivial, rfl⟩, trivial⟩⟩⟩⟩⟩⟩⟩⟩) trivial ?_
      refine s_dol0 (o_storebox (v := (.agg [(.int .i64 x_35.Kind), (.int .i64 x_35.N), (.str x_35.T), (.lst 1 (x_35.Keys.map AV.str)), (.lst 5 (x_35.Items.map encGJson))])) (y' := (.agg [(.int .i64 x_35.Kind), (.int .i64 x_35.N), (.str x_35.T), (.lst 1 (x_35.Keys.map AV.str)), (.lst 5 (x_35.Items.map encGJson))])) rfl rfl rfl trivial ⟨rfl, nle⟩ ⟨⟨rfl, trivial⟩, ⟨⟨rfl, trivial⟩, ⟨⟨rfl, trivial⟩, ⟨⟨rfl, trivial⟩, ⟨⟨rfl, trivial⟩, trivial⟩⟩⟩⟩⟩ rfl) (.inr ⟨(ag_loadeq (v := (.agg [(.int .i64 x_37.Kind), (.int .i64 x_37.N), (.str x_37.T), (.lst 1 (x_37.Keys.map AV.str)), (.lst 5 (x_37.Items.map encGJson))])) rfl (encGJson_eq _) nle rfl), ⟨(ag_iaddr (enc := encGJson) rfl rfl (idx0 ex38) (idx1 ex38)), ⟨⟨nle, rfl⟩, ⟨⟨trivial, rfl⟩, trivial⟩⟩⟩⟩) trivial ?_
      refine s_dol0 (o_storebox (v := (.agg [(.int .i64 x_37.Kind), (.int .i64 x_37.N), (.str x_37.T), (.lst 1 (x_37.Keys.map AV.str)), (.lst 5 (x_37.Items.map encGJson))])) (y' := (.agg [(.int .i64 x_37.Kind), (.int .i64 x_37.N), (.str x_37.T), (.lst 1 (x_37.Keys.map AV.str)), (.lst 5 (x_37.Items.map encGJson))])) rfl rfl rfl trivial ⟨rfl, nle⟩ ⟨⟨rfl, trivial⟩, ⟨⟨rfl, trivial⟩, ⟨⟨rfl, trivial⟩, ⟨⟨rfl, trivial⟩, ⟨⟨rfl, trivial⟩, trivial⟩⟩⟩⟩⟩ rfl) trivial trivial <| w_done <| ?_; obtain rfl := os hb1; exact ⟨[], [1, 2, 3, 4], _, _, rfl, rfl, ⟨.refl _, ⟨.refl _, ⟨.refl _, ⟨.refl _, trivial⟩⟩⟩⟩, (.refl _)⟩
   ·obtain ⟨x_17, x_18, x_19, x_20, x_21, x_22, x_23, x_24, x_25, x_26, x_27, x_28, x_29, x_30, x_31⟩ := p32
    refine awp_seq <| awp_seq <| ?_
    obtain ⟨p39, hb1, hf⟩ := ob hf
    refine awp_cut ([(2, (.ptr 0 0 0)), (4, (.ptr 1 0 0)), (5, (.ptr 2 0 0)), (6, (.ptr 3 0 0)), (42, (.bool (bif (bif (x_17 != 2) then true else (x_22 != 3)) then true else (x_27 != 4))))], [.box 3 (.agg [(.int .i64 0), (.str []), .nil]), .box 5 (.agg [(.int .i64 x_17), (.int .i64 x_18), (.str x_19), (.lst 1 (x_20.map AV.str)), (.lst 5 (x_21.map encGJson))]), .box 5 (.agg [(.int .i64 x_22), (.int .i64 x_23), (.str x_24), (.lst 1 (x_25.map AV.str)), (.lst 5 (x_26.map encGJson))]), .box 5 (.agg [(.int .i64 x_27), (.int .i64 x_28), (.str x_29), (.lst 1 (x_30.map AV.str)), (.lst 5 (x_31.map encGJson))])]) ?_ ?_
    ·refine w_reg <| s_q (.ptr 1 0 0) rfl trivial rfl <| s_q (.int .i64 x_17) rfl nle rfl <| s_q (.bool (x_17 != 2)) rfl rfl rfl <| s_mov (.bool (x_17 != 2)) rfl <| ?_; refine s_g (v := (x_17 != 2)) (.ptr 2 0 0) rfl (fun hv => by (try simp only [gs_on hv]); exact ⟨rfl, trivial, rfl⟩) ?_; refine s_g (v := (x_17 != 2)) (.int .i64 x_22) rfl (fun hv => by (try simp only [gs_on hv]); exact ⟨rfl, nle, rfl⟩) ?_; refine s_g (v := (x_17 != 2)) (.bool (x_22 != 3)) rfl (fun hv => by (try simp only [gs_on hv]); exact ⟨rfl, rfl, rfl⟩) ?_; refine s_pick (x := true) (y := (x_22 != 3)) rfl (fun hv => by (try simp only [gs_on hv]); rfl) (fun hv => by (try simp only [gs_on hv]); rfl) ?_; refine s_mov (.bool (bif (x_17 != 2) then true else (x_22 != 3))) rfl ?_
     refine s_g (v := (bif (x_17 != 2) then true else (x_22 != 3))) (.ptr 3 0 0) rfl (fun hv => by (try simp only [gs_on hv]); exact ⟨rfl, trivial, rfl⟩) ?_; refine s_g (v := (bif (x_17 != 2) then true else (x_22 != 3))) (.int .i64 x_27) rfl (fun hv => by (try simp only [gs_on hv]); exact ⟨rfl, nle, rfl⟩) ?_; refine s_g (v := (bif (x_17 != 2) then true else (x_22 != 3))) (.bool (x_27 != 4)) rfl (fun hv => by (try simp only [gs_on hv]); exact ⟨rfl, rfl, rfl⟩) ?_; refine s_pick (x := true) (y := (x_27 != 4)) rfl (fun hv => by (try simp only [gs_on hv]); rfl) (fun hv => by (try simp only [gs_on hv]); rfl) ?_; refine w_done ?_; obtain rfl := os hb1; exact ⟨[], [0, 1, 2, 3], _, _, rfl, rfl, ⟨.refl _, ⟨.refl _, ⟨.refl _, ⟨.refl _, ⟨.refl _, trivial⟩⟩⟩⟩⟩, (.refl _)⟩
    ·rcases oi hf with ⟨c40, hf⟩ | ⟨c40, hf⟩
     ·refine w_condt rfl c40 <| awp_seq <| w_reg <| s_q (.agg [(.int .i64 0), (.str []), .nil]) rfl trivial rfl <| s_do0 (o_storebox (v := (.agg [(.int .i64 0), (.str []), .nil])) (y' := (.agg [(.int .i64 0), (.str []), .nil])) rfl rfl rfl trivial ⟨rfl, nle⟩ ⟨⟨rfl, trivial⟩, ⟨⟨rfl, trivial⟩, ⟨⟨rfl, trivial⟩, trivial⟩⟩⟩ rfl) <| s_mov (.bool false) rfl <| w_done <| k_seq <| w_ret <| ?_; obtain rfl := os hf; exact r_fresh ⟨nle, ⟨trivial, trivial⟩⟩ rfl (by decide) (.tup (.cons (.agg (.cons (.refl _) (.cons (.refl _) (.cons (.nil _) .nil)))) (.cons (.refl _) .nil)))
     ·refine w_condf rfl (bf c40) <| w_skip <| k_seq <| awp_seq <| w_reg <| ?_
      obtain ⟨r_41, er42, hf⟩ := ob hf
      refine s_q (.ptr 1 0 1) rfl trivial rfl <| s_q (.int .i64 x_18) rfl nle rfl <| s_q (.ptr 2 0 2) rfl trivial rfl <| s_q (.str x_24) rfl nle rfl <| s_q (.agg [(.int .i64 x_27), (.int .i64 x_28), (.str x_29), (.lst 1 (x_30.map AV.str)), (.lst 5 (x_31.map encGJson))]) rfl nle rfl <| s_dol (o_callf (v := (.agg [(.int .i64 r_41.Kind), (.int .i64 r_41.N), (.str r_41.T), (.own 4 0 r_41.Keys.length), (.own 5 0 r_41.Items.length)])) (h' := [.row 1 (r_41.Keys.map AV.str), .row 5 (r_41.Items.map encGJson)]) (w_impl_copyJson FUEL _ _ er42) rfl (.cons (.of_eq (encGJson_eq (⟨x_27, x_28, x_29, x_30, x_31⟩ : GJson)).symm) .nil) (by simp only [openV, openVs, List.length_map, encGJson_eq, List.nil_append, List.append_nil, List.cons_append]; rfl)) (.inr ⟨⟨nle, rfl⟩, ⟨⟨trivial, rfl⟩, ⟨⟨nle, rfl⟩, ⟨⟨trivial, rfl⟩, trivial⟩⟩⟩⟩) trivial <| ?_
      refine s_q (.own 5 0 r_41.Items.length) rfl nle rfl <| s_q (.agg [(.int .i64 x_18), (.str x_24), (.own 5 0 r_41.Items.length)]) rfl ⟨⟨rfl, nle, trivial⟩, ⟨⟨rfl, nle, trivial⟩, ⟨⟨rfl, nle, trivial⟩, trivial⟩⟩⟩ rfl <| s_dol0 (o_storebox (v := (.agg [(.int .i64 x_18), (.str x_24), (.own 5 0 r_41.Items.length)])) (y' := (.agg [(.int .i64 x_18), (.str x_24), (.own 5 0 r_41.Items.length)])) rfl rfl rfl trivial ⟨rfl, nle⟩ ⟨⟨rfl, trivial⟩, ⟨⟨rfl, trivial⟩, ⟨⟨rfl, trivial⟩, trivial⟩⟩⟩ rfl) trivial trivial <| s_mov (.bool true) rfl <| w_done <| k_seq <| w_ret <| ?_; obtain rfl := os hf; exact r_fresh ⟨nle, ⟨trivial, trivial⟩⟩ rfl (by decide) (.tup (.cons (.agg (.cons (.refl _) (.cons (.refl _) (.cons (.of_eq (congrArg (AV.lst _) (tk (enc := encGJson) r_41.Items))) .nil)))) (.cons (.refl _) .nil)))

/- impl.JsonRequest -/
def c62 : ACode :=
 (.seq (.reg (tq 1 (.box 5 (.t 0)) (tq 2 (.box 3 (.c (.agg [(.int .i64 0), (.str []), .nil]))) (tm 3 (.c (.int .i64 0)) .done))))
 (.seq (.seq (.reg (tq 6 (.load 5 true (.t 1)) (tq 7 (.call 101 [(.t 6)]) (tq 8 (.not (.t 7)) .done))))
 (.cond (.t 8) (.seq (.reg (tq 9 (.build [(.int .i64 0), (.str []), .nil] []) (.q ⟨none, none, .store 3 (.t 2) (.t 9)⟩
 (tm 3 (.c (.int .i64 1)) .done))))
 .ret)
 .skip))
 (.seq (.reg (tq 11 (.load 5 true (.t 1)) (tq 12 (.call 138 [(.t 11)]) (tm 10 (.t 12) (tq 13 (.extract 0 (.t 10)) (tq 14 (.extract 1 (.t 10)) (tq 4 (.box 3 (.c (.agg [(.int .i64 0), (.str []), .nil]))) (.q ⟨none, none, .store 3 (.t 4) (.t 13)⟩
 (tm 5 (.t 14) .done)))))))))
 (.seq (.seq (.reg (tm 15 (.t 5) (tq 16 (.not (.t 15)) .done)))
 (.cond (.t 16) (.seq (.reg (tq 17 (.build [(.int .i64 0), (.str []), .nil] []) (.q ⟨none, none, .store 3 (.t 2) (.t 17)⟩
 (tm 3 (.c (.int .i64 3)) .done))))
 .ret)
 .skip))
 (.seq (.reg (tq 18 (.load 3 true (.t 4)) (.q ⟨none, none, .store 3 (.t 2) (.t 18)⟩
 (tm 3 (.c (.int .i64 0)) .done))))
 .ret)))))
theorem fc62 : fcomp Try.prog Try.f62 = some (c62.erase, [.load 3 true (.t 2), .mov (.t 3)], 19) := by kernel_rfl
def impl_JsonRequest (j_1 : GJson) : Option (GRequest × Int) :=
    (impl_JsonOK j_1).bind fun r_2 =>
    if (!r_2) then
    some ((⟨0, [], []⟩ : GRequest), 1)
    else
    (impl_jsonRequest j_1).bind fun r_5 =>
    if (!r_5.2) then
    some ((⟨0, [], []⟩ : GRequest), 3)
    else
    some (r_5.1, 0)
theorem w_impl_JsonRequest (j_1 : GJson) (r : (GRequest × Int)) (hf : impl_JsonRequest j_1 = some r) : CallOK Try.prog 62 .fresh [(encGJson j_1)] (.tup [(encGRequest r.1), (.int .i64 r.2)]) := by
 refine CallOK.of_awp mixed Try.func62 fc62 nle ?_; rw [argT_eq]; rw [encGJson_eq j_1]; unfold impl_JsonRequest at hf; unfold c62; refine (show awp Try.prog true 0 _ (ofL [(0, (.agg [(.int .i64 j_1.Kind), (.int .i64 j_1.N), (.str j_1.T), (.lst 1 (j_1.Keys.map AV.str)), (.lst 5 (j_1.Items.map encGJson))]))]) [] _ from ?_); refine awp_seq <| w_reg <| s_do (o_box (j := 0) (c := (.agg [(.int .i64 j_1.Kind), (.int .i64 j_1.N), (.str j_1.T), (.lst 1 (j_1.Keys.map AV.str)), (.lst 5 (j_1.Items.map encGJson))])) rfl trivial rfl rfl) <| s_do (o_box (j := 1) (c := (.agg [(.int .i64 0), (.str []), .nil])) rfl trivial rfl rfl) <| s_mov (.int .i64 0) rfl <| w_done <| k_seq <| awp_seq <| awp_seq <| w_reg <| ?_
 obtain ⟨r_2, er3, hf⟩ := ob hf
 refine s_q (.agg [(.int .i64 j_1.Kind), (.int .i64 j_1.N), (.str j_1.T), (.lst 1 (j_1.Keys.map AV.str)), (.lst 5 (j_1.Items.map encGJson))]) rfl nle rfl <| s_do (o_call (w_impl_JsonOK _ _ er3) rfl (.cons (.of_eq (encGJson_eq j_1).symm) .nil) rfl) <| s_q (.bool (!r_2)) rfl trivial rfl <| w_done <| k_seq <| ?_
 rcases oi hf with ⟨c4, hf⟩ | ⟨c4, hf⟩
 ·refine w_condt rfl c4 <| awp_seq <| w_reg <| s_q (.agg [(.int .i64 0), (.str []), .nil]) rfl trivial rfl <| s_do0 (o_storebox (v := (.agg [(.int .i64 0), (.str []), .nil])) (y' := (.agg [(.int .i64 0), (.str []), .nil])) rfl rfl rfl trivial ⟨rfl, nle⟩ ⟨⟨rfl, trivial⟩, ⟨⟨rfl, trivial⟩, ⟨⟨rfl, trivial⟩, trivial⟩⟩⟩ rfl) <| s_mov (.int .i64 1) rfl <| w_done <| k_seq <| w_ret <| ?_; obtain rfl := os hf; exact r_fresh ⟨nle, ⟨trivial, trivial⟩⟩ rfl (by decide) (.tup (.cons (.agg (.cons (.refl _) (.cons (.refl _) (.cons (.nil _) .nil)))) (.cons (.refl _) .nil)))
 ·refine w_condf rfl (bf c4) <| w_skip <| k_seq <| awp_seq <| w_reg <| ?_
  obtain ⟨r_5, er6, hf⟩ := ob hf
  refine s_q (.agg [(.int .i64 j_1.Kind), (.int .i64 j_1.N), (.str j_1.T), (.lst 1 (j_1.Keys.map AV.str)), (.lst 5 (j_1.Items.map encGJson))]) rfl nle rfl <| s_do (o_callf (v := (.tup [(.agg [(.int .i64 r_5.1.Id), (.str r_5.1.Method), (.own 2 0 r_5.1.Params.length)]), (.bool r_5.2)])) (h' := [.row 5 (r_5.1.Params.map encGJson)]) (w_impl_jsonRequest _ _ er6) rfl (.cons (.of_eq (encGJson_eq j_1).symm) .nil) (by simp only [openV, openVs, List.length_map, encGRequest_eq, List.nil_append, List.append_nil, List.cons_append]; rfl)) <| s_mov (.tup [(.agg [(.int .i64 r_5.1.Id), (.str r_5.1.Method), (.own 2 0 r_5.1.Params.length)]), (.bool r_5.2)]) rfl <| s_q (.agg [(.int .i64 r_5.1.Id), (.str r_5.1.Method), (.own 2 0 r_5.1.Params.length)]) rfl nle rfl <| ?_
  refine s_q (.bool r_5.2) rfl nle rfl <| s_do (o_box (j := 3) (c := (.agg [(.int .i64 0), (.str []), .nil])) rfl trivial rfl rfl) <| s_do0 (o_storebox (v := (.agg [(.int .i64 r_5.1.Id), (.str r_5.1.Method), (.own 2 0 r_5.1.Params.length)])) (y' := (.agg [(.int .i64 r_5.1.Id), (.str r_5.1.Method), (.own 2 0 r_5.1.Params.length)])) rfl rfl rfl trivial ⟨rfl, nle⟩ ⟨⟨rfl, trivial⟩, ⟨⟨rfl, trivial⟩, ⟨⟨rfl, trivial⟩, trivial⟩⟩⟩ rfl) <| s_mov (.bool r_5.2) rfl <| w_done <| k_seq <| awp_seq <| awp_seq <| w_reg <| s_mov (.bool r_5.2) rfl <| s_q (.bool (!r_5.2)) rfl trivial rfl <| w_done <| k_seq <| ?_
  rcases oi hf with ⟨c7, hf⟩ | ⟨c7, hf⟩
  ·refine w_condt rfl c7 <| awp_seq <| w_reg <| s_q (.agg [(.int .i64 0), (.str []), .nil]) rfl trivial rfl <| s_do0 (o_storebox (v := (.agg [(.int .i64 0), (.str []), .nil])) (y' := (.agg [(.int .i64 0), (.str []), .nil])) rfl rfl rfl trivial ⟨rfl, nle⟩ ⟨⟨rfl, trivial⟩, ⟨⟨rfl, trivial⟩, ⟨⟨rfl, trivial⟩, trivial⟩⟩⟩ rfl) <| s_mov (.int .i64 3) rfl <| w_done <| k_seq <| w_ret <| ?_; obtain rfl := os hf; exact r_fresh ⟨nle, ⟨trivial, trivial⟩⟩ rfl (by decide) (.tup (.cons (.agg (.cons (.refl _) (.cons (.refl _) (.cons (.nil _) .nil)))) (.cons (.refl _) .nil)))
  ·refine w_condf rfl (bf c7) <| w_skip <| k_seq <| awp_seq <| w_reg <| s_q (.agg [(.int .i64 r_5.1.Id), (.str r_5.1.Method), (.own 2 0 r_5.1.Params.length)]) rfl nle rfl <| s_do0 (o_storebox (v := (.agg [(.int .i64 r_5.1.Id), (.str r_5.1.Method), (.own 2 0 r_5.1.Params.length)])) (y' := (.agg [(.int .i64 r_5.1.Id), (.str r_5.1.Method), (.own 2 0 r_5.1.Params.length)])) rfl rfl rfl trivial ⟨rfl, nle⟩ ⟨⟨rfl, trivial⟩, ⟨⟨rfl, trivial⟩, ⟨⟨rfl, trivial⟩, trivial⟩⟩⟩ rfl) <| s_mov (.int .i64 0) rfl <| w_done <| k_seq <| w_ret <| ?_; obtain rfl := os hf; exact r_fresh ⟨nle, ⟨trivial, trivial⟩⟩ rfl (by decide) (.tup (.cons (.agg (.cons (.refl _) (.cons (.refl _) (.cons (.of_eq (congrArg (AV.lst _) (tk (enc := encGJson) r_5.1.Params))) .nil)))) (.cons (.refl _) .nil)))

/- laws.eqStringS -/
def c43 : ACode :=
 (.seq (.reg (tm 4 (.c (.bool false)) .done))
 (.seq (.seq (.reg (tm 6 (.t 0) (tq 7 (.len (.t 6)) (tm 8 (.t 1) (tq 9 (.len (.t 8)) (tq 10 (.bin .neq (.t 7) (.t 9)) .done))))))
 (.cond (.t 10) (.seq (.reg (tm 4 (.c (.bool false)) .done))
 .ret)
 .skip))
 (.seq (.seq (.reg (tm 5 (.c (.int .i64 0)) .done))
 (.block 0 (.loop (.seq (.seq (.reg (tm 11 (.t 5) (tm 12 (.t 0) (tq 13 (.len (.t 12)) (tq 14 (.bin .lss (.t 11) (.t 13)) .done)))))
 (.cond (.t 14) .skip
 (.exit 0)))
 (.seq (.block 1 (.seq (.reg (tm 17 (.t 0) (tm 18 (.t 5) (tq 19 (.iaddr 1 (.t 17) (.t 18)) (tq 20 (.load 1 false (.t 19)) (tm 21 (.t 1) (tm 22 (.t 5) (tq 23 (.iaddr 1 (.t 21) (.t 22)) (tq 24 (.load 1 false (.t 23)) (tq 25 (.bin .neq (.t 20) (.t 24)) .done))))))))))
 (.cond (.t 25) (.seq (.reg (tm 4 (.c (.bool false)) .done))
 .ret)
 .skip)))
 (.reg (tm 15 (.t 5) (tq 16 (.bin .add (.t 15) (.c (.int .i64 1))) (tm 5 (.t 16) .done)))))))))
 (.cut (.seq (.reg (tm 4 (.c (.bool true)) .done))
 .ret)))))
theorem fc43 : fcomp Try.prog Try.f43 = some (c43.erase, [.mov (.t 4)], 26) := by kernel_rfl
def laws_eqStringS_L1 (b_2 : (List Str)) : List Str → Nat → Option (Fl Bool Unit)
  | [], i_21 =>
    some (.go ())
  | x_37 :: xs, i_21 =>
    (idx b_2 (i_21 : Int)).bind fun x_40 =>
    if (!(x_37 == x_40)) then
    some (.ret false)
    else
    laws_eqStringS_L1 b_2 xs (i_21 + 1)

def laws_eqStringS (a_1 : (List Str)) (b_2 : (List Str)) : Option Bool :=
    if ((a_1.length : Int) != (b_2.length : Int)) then
    some false
    else
    (laws_eqStringS_L1 b_2 a_1 0).bind fun q => (match q with
    | .ret r => some r
    | .go _ =>
    some true)
theorem w_laws_eqStringS (a_1 : (List Str)) (b_2 : (List Str)) (r : Bool) (hf : laws_eqStringS a_1 b_2 = some r) : CallOK Try.prog 43 .flat [(.lst 1 (a_1.map AV.str)), (.lst 1 (b_2.map AV.str))] (.bool r) := by
 refine CallOK.of_awp mixed Try.func43 fc43 nle ?_; rw [argT_eq]; unfold laws_eqStringS at hf; unfold c43; refine (show awp Try.prog false 0 _ (ofL [(0, (.lst 1 (a_1.map AV.str))), (1, (.lst 1 (b_2.map AV.str)))]) [] _ from ?_); refine awp_seq <| w_reg <| s_mov (.bool false) rfl <| w_done <| k_seq <| awp_seq <| awp_seq <| w_reg <| s_mov (.lst 1 (a_1.map AV.str)) rfl <| s_dof (o_len (enc := AV.str) rfl) fun hl3 => s_mov (.lst 1 (b_2.map AV.str)) rfl <| s_dof (o_len (enc := AV.str) rfl) fun hl4 => s_q (.bool ((a_1.length : Int) != (b_2.length : Int))) rfl rfl rfl <| w_done <| k_seq <| ?_
 rcases oi hf with ⟨c5, hf⟩ | ⟨c5, hf⟩
 ·refine w_condt rfl c5 <| awp_seq <| w_reg <| s_mov (.bool false) rfl <| w_done <| k_seq <| w_ret <| ?_; obtain rfl := os hf; exact r_flat ⟨trivial, trivial⟩ rfl (.refl _)
 ·refine w_condf rfl (bf c5) <| w_skip <| k_seq <| awp_seq <| awp_seq <| w_reg <| s_mov (.int .i64 0) rfl <| w_done <| k_seq <| ?_
  obtain ⟨p30, hb1, hf⟩ := ob hf
  refine awp_cutx (X := {q : Unit // p30 = .go q}) (fun q => ([], [])) ?_ ?_
  ·refine awp_loop (X := {q : Nat // laws_eqStringS_L1 b_2 (a_1.drop q) q = some p30}) (fun q => ([(0, (.lst 1 (a_1.map AV.str))), (1, (.lst 1 (b_2.map AV.str))), (5, (.int .i64 (q.1 : Int)))], [])) (fun q => a_1.length - q.1) ⟨0, hb1⟩ ⟨[], [], _, _, rfl, rfl, ⟨.refl _, ⟨.refl _, ⟨.refl _, trivial⟩⟩⟩, (.refl _)⟩ ?_
   rintro ⟨i_21, hc1⟩
   have hc1 : laws_eqStringS_L1 b_2 (a_1.drop i_21) i_21 = some p30 := hc1
   refine (show awp Try.prog false 0 _ (ofL [(0, (.lst 1 (a_1.map AV.str))), (1, (.lst 1 (b_2.map AV.str))), (5, (.int .i64 (i_21 : Int)))]) [] _ from ?_)
   rcases dropc a_1 i_21 with ⟨hie33, hd36⟩ | ⟨hlt31, x_37, hx32, hd36⟩
   ·rw [hd36, laws_eqStringS_L1.eq_1] at hc1
    have hq35 := dlf hie33
    refine awp_seq <| awp_seq <| w_reg <| s_mov (.int .i64 (i_21 : Int)) rfl <| s_mov (.lst 1 (a_1.map AV.str)) rfl <| s_dof (o_len (enc := AV.str) rfl) fun hl38 => s_q (.bool (decide ((i_21 : Int) < (a_1.length : Int)))) rfl rfl rfl <| w_done <| k_seq <| w_condf rfl hq35 <| w_exit <| k_seqx <| k_loopx <| k_blkx <| ?_; obtain rfl := os hc1; exact k_cutn ⟨_, rfl⟩ ⟨[], [], _, _, rfl, rfl, trivial, (.refl _)⟩
   ·rw [hd36, laws_eqStringS_L1.eq_2] at hc1
    have hq35 := dlt hlt31
    refine awp_seq <| awp_seq <| w_reg <| s_mov (.int .i64 (i_21 : Int)) rfl <| s_mov (.lst 1 (a_1.map AV.str)) rfl <| s_dof (o_len (enc := AV.str) rfl) fun hl39 => s_q (.bool (decide ((i_21 : Int) < (a_1.length : Int)))) rfl rfl rfl <| w_done <| k_seq <| w_condt rfl hq35 <| w_skip <| k_seq <| awp_seq <| w_blk <| awp_seq <| w_reg <| ?_
    obtain ⟨x_40, ex41, hc1⟩ := ob hc1
    refine s_mov (.lst 1 (a_1.map AV.str)) rfl <| s_mov (.int .i64 (i_21 : Int)) rfl <| s_do (o_iaddrn (enc := AV.str) rfl rfl hx32) <| s_q (.str x_37) rfl ⟨rfl, rfl⟩ rfl <| s_mov (.lst 1 (b_2.map AV.str)) rfl <| s_mov (.int .i64 (i_21 : Int)) rfl <| s_do (o_iaddr (enc := AV.str) rfl rfl (idx0 ex41) (idx1 ex41)) <| s_q (.str x_40) rfl ⟨rfl, rfl⟩ rfl <| s_q (.bool (!(x_37 == x_40))) rfl trivial rfl <| w_done <| k_seq <| ?_
    rcases oi hc1 with ⟨c42, hc1⟩ | ⟨c42, hc1⟩
    ·refine w_condt rfl c42 <| awp_seq <| w_reg <| s_mov (.bool false) rfl <| w_done <| k_seq <| w_ret <| ?_; obtain rfl := os hc1; obtain rfl := os hf; exact r_flat ⟨trivial, trivial⟩ rfl (.refl _)
    ·refine w_condf rfl (bf c42) <| w_skip <| k_blk <| k_seq <| w_reg <| s_mov (.int .i64 (i_21 : Int)) rfl <| s_q (.int .i64 (w64 ((i_21 : Int) + 1))) rfl rfl rfl <| s_mov (.int .i64 (w64 ((i_21 : Int) + 1))) rfl <| w_done <| ?_; exact k_loopn ⟨(i_21 + 1), hc1⟩ (mul hlt31) ⟨[], [], _, _, rfl, rfl, ⟨.refl _, ⟨.refl _, ⟨.of_eq (congrArg (AV.int _) (w64_incr hlt31 hl39)), trivial⟩⟩⟩, (.refl _)⟩
  ·rintro ⟨_, rfl⟩
   refine awp_seq <| w_reg <| s_mov (.bool true) rfl <| w_done <| k_seq <| w_ret <| ?_; obtain rfl := os hf; exact r_flat ⟨trivial, trivial⟩ rfl (.refl _)

/- laws.eqJsonS -/
def c111 : ACode :=
 (.seq (.reg (tm 4 (.c (.bool false)) .done))
 (.seq (.seq (.reg (tm 6 (.t 0) (tq 7 (.len (.t 6)) (tm 8 (.t 1) (tq 9 (.len (.t 8)) (tq 10 (.bin .neq (.t 7) (.t 9)) .done))))))
 (.cond (.t 10) (.seq (.reg (tm 4 (.c (.bool false)) .done))
 .ret)
 .skip))
 (.seq (.seq (.reg (tm 5 (.c (.int .i64 0)) .done))
 (.block 0 (.loop (.seq (.seq (.reg (tm 11 (.t 5) (tm 12 (.t 0) (tq 13 (.len (.t 12)) (tq 14 (.bin .lss (.t 11) (.t 13)) .done)))))
 (.cond (.t 14) .skip
 (.exit 0)))
 (.seq (.block 1 (.seq (.reg (tm 17 (.t 0) (tm 18 (.t 5) (tq 19 (.iaddr 5 (.t 17) (.t 18)) (tq 20 (.load 5 true (.t 19)) (tm 21 (.t 1) (tm 22 (.t 5) (tq 23 (.iaddr 5 (.t 21) (.t 22)) (tq 24 (.load 5 true (.t 23)) (.l ⟨(some 25), none, .call 38 [(.t 20), (.t 24)]⟩ []
 (tq 26 (.not (.t 25)) .done) .non))))))))))
 (.cond (.t 26) (.seq (.reg (tm 4 (.c (.bool false)) .done))
 .ret)
 .skip)))
 (.reg (tm 15 (.t 5) (tq 16 (.bin .add (.t 15) (.c (.int .i64 1))) (tm 5 (.t 16) .done)))))))))
 (.cut (.seq (.reg (tm 4 (.c (.bool true)) .done))
 .ret)))))
theorem fc111 : fcomp Try.prog Try.f111 = some (c111.erase, [.mov (.t 4)], 27) := by kernel_rfl
def laws_eqJsonS_L1 (b_2 : (List GJson)) (rec : (GJson → GJson → Option Bool)) : List GJson → Nat → Option (Fl Bool Unit)
  | [], i_25 =>
    some (.go ())
  | x_43 :: xs, i_25 =>
    (idx b_2 (i_25 : Int)).bind fun x_46 =>
    (rec x_43 x_46).bind fun r_48 =>
    if (!r_48) then
    some (.ret false)
    else
    laws_eqJsonS_L1 b_2 rec xs (i_25 + 1)

def laws_eqJsonS (rec : (GJson → GJson → Option Bool)) (a_1 : (List GJson)) (b_2 : (List GJson)) : Option Bool :=
    if ((a_1.length : Int) != (b_2.length : Int)) then
    some false
    else
    (laws_eqJsonS_L1 b_2 rec a_1 0).bind fun q => (match q with
    | .ret r => some r
    | .go _ =>
    some true)
theorem w_laws_eqJsonS (rec : (GJson → GJson → Option Bool)) (hrec : ∀ a0 a1 r, rec a0 a1 = some r → CallOK Try.prog 38 .flat [(encGJson a0), (encGJson a1)] (.bool r)) (a_1 : (List GJson)) (b_2 : (List GJson)) (r : Bool) (hf : laws_eqJsonS rec a_1 b_2 = some r) : CallOK Try.prog 111 .flat [(.lst 5 (a_1.map encGJson)), (.lst 5 (b_2.map encGJson))] (.bool r) := by
 refine CallOK.of_awp mixed Try.func111 fc111 nle ?_; rw [argT_eq]; unfold laws_eqJsonS at hf; unfold c111; refine (show awp Try.prog false 0 _ (ofL [(0, (.lst 5 (a_1.map encGJson))), (1, (.lst 5 (b_2.map encGJson)))]) [] _ from ?_); refine awp_seq <| w_reg <| s_mov (.bool false) rfl <| w_done <| k_seq <| awp_seq <| awp_seq <| w_reg <| s_mov (.lst 5 (a_1.map encGJson)) rfl <| s_dof (o_len (enc := encGJson) rfl) fun hl3 => s_mov (.lst 5 (b_2.map encGJson)) rfl <| s_dof (o_len (enc := encGJson) rfl) fun hl4 => s_q (.bool ((a_1.length : Int) != (b_2.length : Int))) rfl rfl rfl <| w_done <| k_seq <| ?_
 rcases oi hf with ⟨c5, hf⟩ | ⟨c5, hf⟩
 ·refine w_condt rfl c5 <| awp_seq <| w_reg <| s_mov (.bool false) rfl <| w_done <| k_seq <| w_ret <| ?_; obtain rfl := os hf; exact r_flat ⟨trivial, trivial⟩ rfl (.refl _)
 ·refine w_condf rfl (bf c5) <| w_skip <| k_seq <| awp_seq <| awp_seq <| w_reg <| s_mov (.int .i64 0) rfl <| w_done <| k_seq <| ?_
  obtain ⟨p36, hb1, hf⟩ := ob hf
  refine awp_cutx (X := {q : Unit // p36 = .go q}) (fun q => ([], [])) ?_ ?_
  ·refine awp_loop (X := {q : Nat // laws_eqJsonS_L1 b_2 rec (a_1.drop q) q = some p36}) (fun q => ([(0, (.lst 5 (a_1.map encGJson))), (1, (.lst 5 (b_2.map encGJson))), (5, (.int .i64 (q.1 : Int)))], [])) (fun q => a_1.length - q.1) ⟨0, hb1⟩ ⟨[], [], _, _, rfl, rfl, ⟨.refl _, ⟨.refl _, ⟨.refl _, trivial⟩⟩⟩, (.refl _)⟩ ?_
   rintro ⟨i_25, hc1⟩
   have hc1 : laws_eqJsonS_L1 b_2 rec (a_1.drop i_25) i_25 = some p36 := hc1
   refine (show awp Try.prog false 0 _ (ofL [(0, (.lst 5 (a_1.map encGJson))), (1, (.lst 5 (b_2.map encGJson))), (5, (.int .i64 (i_25 : Int)))]) [] _ from ?_)
   rcases dropc a_1 i_25 with ⟨hie39, hd42⟩ | ⟨hlt37, x_43, hx38, hd42⟩
   ·rw [hd42, laws_eqJsonS_L1.eq_1] at hc1
    have hq41 := dlf hie39
    refine awp_seq <| awp_seq <| w_reg <| s_mov (.int .i64 (i_25 : Int)) rfl <| s_mov (.lst 5 (a_1.map encGJson)) rfl <| s_dof (o_len (enc := encGJson) rfl) fun hl44 => s_q (.bool (decide ((i_25 : Int) < (a_1.length : Int)))) rfl rfl rfl <| w_done <| k_seq <| w_condf rfl hq41 <| w_exit <| k_seqx <| k_loopx <| k_blkx <| ?_; obtain rfl := os hc1; exact k_cutn ⟨_, rfl⟩ ⟨[], [], _, _, rfl, rfl, trivial, (.refl _)⟩
   ·rw [hd42, laws_eqJsonS_L1.eq_2] at hc1
    have hq41 := dlt hlt37
    refine awp_seq <| awp_seq <| w_reg <| s_mov (.int .i64 (i_25 : Int)) rfl <| s_mov (.lst 5 (a_1.map encGJson)) rfl <| s_dof (o_len (enc := encGJson) rfl) fun hl45 => s_q (.bool (decide ((i_25 : Int) < (a_1.length : Int)))) rfl rfl rfl <| w_done <| k_seq <| w_condt rfl hq41 <| w_skip <| k_seq <| awp_seq <| w_blk <| awp_seq <| w_reg <| ?_
    obtain ⟨x_46, ex47, hc1⟩ := ob hc1
    obtain ⟨r_48, er49, hc1⟩ := ob hc1
    refine s_mov (.lst 5 (a_1.map encGJson)) rfl <| s_mov (.int .i64 (i_25 : Int)) rfl <| s_do (o_iaddrn (enc := encGJson) rfl rfl hx38) <| s_do (o_loadeq (v := (.agg [(.int .i64 x_43.Kind), (.int .i64 x_43.N), (.str x_43.T), (.lst 1 (x_43.Keys.map AV.str)), (.lst 5 (x_43.Items.map encGJson))])) rfl (encGJson_eq _) nle rfl) <| s_mov (.lst 5 (b_2.map encGJson)) rfl <| s_mov (.int .i64 (i_25 : Int)) rfl <| s_do (o_iaddr (enc := encGJson) rfl rfl (idx0 ex47) (idx1 ex47)) <| s_do (o_loadeq (v := (.agg [(.int .i64 x_46.Kind), (.int .i64 x_46.N), (.str x_46.T), (.lst 1 (x_46.Keys.map AV.str)), (.lst 5 (x_46.Items.map encGJson))])) rfl (encGJson_eq _) nle rfl) <| s_dol (o_call (hrec _ _ _ er49) rfl (.cons (.of_eq (encGJson_eq x_43).symm) (.cons (.of_eq (encGJson_eq x_46).symm) .nil)) rfl) a_same trivial <| ?_
    refine s_q (.bool (!r_48)) rfl trivial rfl <| w_done <| k_seq <| ?_
    rcases oi hc1 with ⟨c50, hc1⟩ | ⟨c50, hc1⟩
    ·refine w_condt rfl c50 <| awp_seq <| w_reg <| s_mov (.bool false) rfl <| w_done <| k_seq <| w_ret <| ?_; obtain rfl := os hc1; obtain rfl := os hf; exact r_flat ⟨trivial, trivial⟩ rfl (.refl _)
    ·refine w_condf rfl (bf c50) <| w_skip <| k_blk <| k_seq <| w_reg <| s_mov (.int .i64 (i_25 : Int)) rfl <| s_q (.int .i64 (w64 ((i_25 : Int) + 1))) rfl rfl rfl <| s_mov (.int .i64 (w64 ((i_25 : Int) + 1))) rfl <| w_done <| ?_; exact k_loopn ⟨(i_25 + 1), hc1⟩ (mul hlt37) ⟨[], [], _, _, rfl, rfl, ⟨.refl _, ⟨.refl _, ⟨.of_eq (congrArg (AV.int _) (w64_incr hlt37 hl45)), trivial⟩⟩⟩, (.refl _)⟩
  ·rintro ⟨_, rfl⟩
   refine awp_seq <| w_reg <| s_mov (.bool true) rfl <| w_done <| k_seq <| w_ret <| ?_; obtain rfl := os hf; exact r_flat ⟨trivial, trivial⟩ rfl (.refl _)

/- laws.eqJson -/
def c38 : ACode :=
 (.seq (.reg (tq 2 (.box 5 (.t 0)) (tq 3 (.box 5 (.t 1)) (tm 4 (.c (.bool false)) .done))))
 (.seq (.seq (.reg (tq 5 (.faddr 0 (.t 2)) (tq 6 (.load 1 false (.t 5)) (tq 7 (.faddr 0 (.t 3)) (tq 8 (.load 1 false (.t 7)) (tq 9 (.bin .neq (.t 6) (.t 8)) .done))))))
 (.cond (.t 9) (.seq (.reg (tm 4 (.c (.bool false)) .done))
 .ret)
 .skip))
 (.seq (.seq (.reg (tq 10 (.faddr 1 (.t 2)) (tq 11 (.load 1 false (.t 10)) (tq 12 (.faddr 1 (.t 3)) (tq 13 (.load 1 false (.t 12)) (tq 14 (.bin .neq (.t 11) (.t 13)) .done))))))
 (.cond (.t 14) (.seq (.reg (tm 4 (.c (.bool false)) .done))
 .ret)
 .skip))
 (.seq (.seq (.reg (tq 15 (.faddr 2 (.t 2)) (tq 16 (.load 1 false (.t 15)) (tq 17 (.faddr 2 (.t 3)) (tq 18 (.load 1 false (.t 17)) (tq 19 (.bin .neq (.t 16) (.t 18)) .done))))))
 (.cond (.t 19) (.seq (.reg (tm 4 (.c (.bool false)) .done))
 .ret)
 .skip))
 (.seq (.seq (.reg (tq 20 (.faddr 3 (.t 2)) (tq 21 (.load 1 false (.t 20)) (tq 22 (.faddr 3 (.t 3)) (tq 23 (.load 1 false (.t 22)) (tq 24 (.call 43 [(.t 21), (.t 23)]) (tq 25 (.not (.t 24)) .done)))))))
 (.cond (.t 25) (.seq (.reg (tm 4 (.c (.bool false)) .done))
 .ret)
 .skip))
 (.seq (.seq (.reg (tq 26 (.faddr 4 (.t 2)) (tq 27 (.load 1 false (.t 26)) (tq 28 (.faddr 4 (.t 3)) (tq 29 (.load 1 false (.t 28)) (tq 30 (.call 111 [(.t 27), (.t 29)]) (tq 31 (.not (.t 30)) .done)))))))
 (.cond (.t 31) (.seq (.reg (tm 4 (.c (.bool false)) .done))
 .ret)
 .skip))
 (.seq (.reg (tm 4 (.c (.bool true)) .done))
 .ret)))))))
theorem fc38 : fcomp Try.prog Try.f38 = some (c38.erase, [.mov (.t 4)], 32) := by kernel_rfl
def laws_eqJson_B (rec : (GJson → GJson → Option Bool)) (a_1 : GJson) (b_2 : GJson) : Option Bool :=
    if (a_1.Kind != b_2.Kind) then
    some false
    else
    if (a_1.N != b_2.N) then
    some false
    else
    if (!(a_1.T == b_2.T)) then
    some false
    else
    (laws_eqStringS a_1.Keys b_2.Keys).bind fun r_6 =>
    if (!r_6) then
    some false
    else
    (laws_eqJsonS rec a_1.Items b_2.Items).bind fun r_9 =>
    if (!r_9) then
    some false
    else
    some true
theorem w_laws_eqJson_B (rec : (GJson → GJson → Option Bool)) (hrec : ∀ a0 a1 r, rec a0 a1 = some r → CallOK Try.prog 38 .flat [(encGJson a0), (encGJson a1)] (.bool r)) (a_1 : GJson) (b_2 : GJson) (r : Bool) (hf : laws_eqJson_B rec a_1 b_2 = some r) : CallOK Try.prog 38 .flat [(encGJson a_1), (encGJson b_2)] (.bool r) := by
 refine CallOK.of_awp mixed Try.func38 fc38 nle ?_; rw [argT_eq]; rw [encGJson_eq a_1, encGJson_eq b_2]; unfold laws_eqJson_B at hf; unfold c38; refine (show awp Try.prog false 0 _ (ofL [(0, (.agg [(.int .i64 a_1.Kind), (.int .i64 a_1.N), (.str a_1.T), (.lst 1 (a_1.Keys.map AV.str)), (.lst 5 (a_1.Items.map encGJson))])), (1, (.agg [(.int .i64 b_2.Kind), (.int .i64 b_2.N), (.str b_2.T), (.lst 1 (b_2.Keys.map AV.str)), (.lst 5 (b_2.Items.map encGJson))]))]) [] _ from ?_); refine awp_seq <| w_reg <| s_do (o_box (j := 0) (c := (.agg [(.int .i64 a_1.Kind), (.int .i64 a_1.N), (.str a_1.T), (.lst 1 (a_1.Keys.map AV.str)), (.lst 5 (a_1.Items.map encGJson))])) rfl trivial rfl rfl) <| s_do (o_box (j := 1) (c := (.agg [(.int .i64 b_2.Kind), (.int .i64 b_2.N), (.str b_2.T), (.lst 1 (b_2.Keys.map AV.str)), (.lst 5 (b_2.Items.map encGJson))])) rfl trivial rfl rfl) <| ?_
 refine s_mov (.bool false) rfl <| w_done <| k_seq <| awp_seq <| awp_seq <| w_reg <| s_q (.ptr 0 0 0) rfl trivial rfl <| s_q (.int .i64 a_1.Kind) rfl nle rfl <| s_q (.ptr 1 0 0) rfl trivial rfl <| s_q (.int .i64 b_2.Kind) rfl nle rfl <| s_q (.bool (a_1.Kind != b_2.Kind)) rfl rfl rfl <| w_done <| k_seq <| ?_
 rcases oi hf with ⟨c3, hf⟩ | ⟨c3, hf⟩
 ·refine w_condt rfl c3 <| awp_seq <| w_reg <| s_mov (.bool false) rfl <| w_done <| k_seq <| w_ret <| ?_; obtain rfl := os hf; exact r_flat ⟨trivial, trivial⟩ rfl (.refl _)
 ·refine w_condf rfl (bf c3) <| w_skip <| k_seq <| awp_seq <| awp_seq <| w_reg <| s_q (.ptr 0 0 1) rfl trivial rfl <| s_q (.int .i64 a_1.N) rfl nle rfl <| s_q (.ptr 1 0 1) rfl trivial rfl <| s_q (.int .i64 b_2.N) rfl nle rfl <| s_q (.bool (a_1.N != b_2.N)) rfl rfl rfl <| w_done <| k_seq <| ?_
  rcases oi hf with ⟨c4, hf⟩ | ⟨c4, hf⟩
  ·refine w_condt rfl c4 <| awp_seq <| w_reg <| s_mov (.bool false) rfl <| w_done <| k_seq <| w_ret <| ?_; obtain rfl := os hf; exact r_flat ⟨trivial, trivial⟩ rfl (.refl _)
  ·refine w_condf rfl (bf c4) <| w_skip <| k_seq <| awp_seq <| awp_seq <| w_reg <| s_q (.ptr 0 0 2) rfl trivial rfl <| s_q (.str a_1.T) rfl nle rfl <| s_q (.ptr 1 0 2) rfl trivial rfl <| s_q (.str b_2.T) rfl nle rfl <| s_q (.bool (!(a_1.T == b_2.T))) rfl trivial rfl <| w_done <| k_seq <| ?_
   rcases oi hf with ⟨c5, hf⟩ | ⟨c5, hf⟩
   ·refine w_condt rfl c5 <| awp_seq <| w_reg <| s_mov (.bool false) rfl <| w_done <| k_seq <| w_ret <| ?_; obtain rfl := os hf; exact r_flat ⟨trivial, trivial⟩ rfl (.refl _)
   ·refine w_condf rfl (bf c5) <| w_skip <| k_seq <| awp_seq <| awp_seq <| w_reg <| ?_
    obtain ⟨r_6, er7, hf⟩ := ob hf
    refine s_q (.ptr 0 0 3) rfl trivial rfl <| s_q (.lst 1 (a_1.Keys.map AV.str)) rfl nle rfl <| s_q (.ptr 1 0 3) rfl trivial rfl <| s_q (.lst 1 (b_2.Keys.map AV.str)) rfl nle rfl <| s_do (o_call (w_laws_eqStringS _ _ _ er7) rfl (.refl _) rfl) <| s_q (.bool (!r_6)) rfl trivial rfl <| w_done <| k_seq <| ?_
    rcases oi hf with ⟨c8, hf⟩ | ⟨c8, hf⟩
    ·refine w_condt rfl c8 <| awp_seq <| w_reg <| s_mov (.bool false) rfl <| w_done <| k_seq <| w_ret <| ?_; obtain rfl := os hf; exact r_flat ⟨trivial, trivial⟩ rfl (.refl _)
    ·refine w_condf rfl (bf c8) <| w_skip <| k_seq <| awp_seq <| awp_seq <| w_reg <| ?_
     obtain ⟨r_9, er10, hf⟩ := ob hf
     refine s_q (.ptr 0 0 4) rfl trivial rfl <| s_q (.lst 5 (a_1.Items.map encGJson)) rfl nle rfl <| s_q (.ptr 1 0 4) rfl trivial rfl <| s_q (.lst 5 (b_2.Items.map encGJson)) rfl nle rfl <| s_do (o_call (w_laws_eqJsonS rec hrec _ _ _ er10) rfl (.refl _) rfl) <| s_q (.bool (!r_9)) rfl trivial rfl <| w_done <| k_seq <| ?_
     rcases oi hf with ⟨c11, hf⟩ | ⟨c11, hf⟩
     ·refine w_condt rfl c11 <| awp_seq <| w_reg <| s_mov (.bool false) rfl <| w_done <| k_seq <| w_ret <| ?_; obtain rfl := os hf; exact r_flat ⟨trivial, trivial⟩ rfl (.refl _)
     ·refine w_condf rfl (bf c11) <| w_skip <| k_seq <| awp_seq <| w_reg <| s_mov (.bool true) rfl <| w_done <| k_seq <| w_ret <| ?_; obtain rfl := os hf; exact r_flat ⟨trivial, trivial⟩ rfl (.refl _)
def laws_eqJson : Nat → GJson → GJson → Option Bool
 | 0, _, _ => none
 | k + 1, a_1, b_2 => laws_eqJson_B (laws_eqJson k) a_1 b_2
theorem w_laws_eqJson : ∀ (k : Nat) (a_1 : GJson) (b_2 : GJson) (r : Bool), laws_eqJson k a_1 b_2 = some r → CallOK Try.prog 38 .flat [(encGJson a_1), (encGJson b_2)] (.bool r)
 | 0, a_1, b_2, r, h => by rw [laws_eqJson.eq_1] at h; cases h
 | k + 1, a_1, b_2, r, h => by
  rw [laws_eqJson.eq_2] at h; exact w_laws_eqJson_B _ (w_laws_eqJson k) a_1 b_2 r h

/- laws.eqRequest -/
def c63 : ACode :=
 (.seq (.reg (tq 2 (.box 3 (.t 0)) (tq 3 (.box 3 (.t 1)) (tm 4 (.c (.bool false)) .done))))
 (.seq (.seq (.reg (tq 5 (.faddr 0 (.t 2)) (tq 6 (.load 1 false (.t 5)) (tq 7 (.faddr 0 (.t 3)) (tq 8 (.load 1 false (.t 7)) (tq 9 (.bin .neq (.t 6) (.t 8)) .done))))))
 (.cond (.t 9) (.seq (.reg (tm 4 (.c (.bool false)) .done))
 .ret)
 .skip))
 (.seq (.seq (.reg (tq 10 (.faddr 1 (.t 2)) (tq 11 (.load 1 false (.t 10)) (tq 12 (.faddr 1 (.t 3)) (tq 13 (.load 1 false (.t 12)) (tq 14 (.bin .neq (.t 11) (.t 13)) .done))))))
 (.cond (.t 14) (.seq (.reg (tm 4 (.c (.bool false)) .done))
 .ret)
 .skip))
 (.seq (.seq (.reg (tq 15 (.faddr 2 (.t 2)) (tq 16 (.load 1 false (.t 15)) (tq 17 (.faddr 2 (.t 3)) (tq 18 (.load 1 false (.t 17)) (tq 19 (.call 111 [(.t 16), (.t 18)]) (tq 20 (.not (.t 19)) .done)))))))
 (.cond (.t 20) (.seq (.reg (tm 4 (.c (.bool false)) .done))
 .ret)
 .skip))
 (.seq (.reg (tm 4 (.c (.bool true)) .done))
 .ret)))))
theorem fc63 : fcomp Try.prog Try.f63 = some (c63.erase, [.mov (.t 4)], 21) := by kernel_rfl
def laws_eqRequest (a_1 : GRequest) (b_2 : GRequest) : Option Bool :=
    if (a_1.Id != b_2.Id) then
    some false
    else
    if (!(a_1.Method == b_2.Method)) then
    some false
    else
    (laws_eqJsonS (laws_eqJson FUEL) a_1.Params b_2.Params).bind fun r_5 =>
    if (!r_5) then
    some false
    else
    some true
theorem w_laws_eqRequest (a_1 : GRequest) (b_2 : GRequest) (r : Bool) (hf : laws_eqRequest a_1 b_2 = some r) : CallOK Try.prog 63 .flat [(encGRequest a_1), (encGRequest b_2)] (.bool r) := by
 refine CallOK.of_awp mixed Try.func63 fc63 nle ?_; rw [argT_eq]; unfold laws_eqRequest at hf; unfold c63; refine (show awp Try.prog false 0 _ (ofL [(0, (encGRequest a_1)), (1, (encGRequest b_2))]) [] _ from ?_); refine awp_seq <| w_reg <| s_do (o_box (j := 0) (c := (.agg [(.int .i64 a_1.Id), (.str a_1.Method), (.lst 5 (a_1.Params.map encGJson))])) rfl trivial rfl rfl) <| s_do (o_box (j := 1) (c := (.agg [(.int .i64 b_2.Id), (.str b_2.Method), (.lst 5 (b_2.Params.map encGJson))])) rfl trivial rfl rfl) <| s_mov (.bool false) rfl <| w_done <| k_seq <| awp_seq <| awp_seq <| w_reg <| s_q (.ptr 0 0 0) rfl trivial rfl <| s_q (.int .i64 a_1.Id) rfl nle rfl <| s_q (.ptr 1 0 0) rfl trivial rfl <| s_q (.int .i64 b_2.Id) rfl nle rfl <| ?_
 refine s_q (.bool (a_1.Id != b_2.Id)) rfl rfl rfl <| w_done <| k_seq <| ?_
 rcases oi hf with ⟨c3, hf⟩ | ⟨c3, hf⟩
 ·refine w_condt rfl c3 <| awp_seq <| w_reg <| s_mov (.bool false) rfl <| w_done <| k_seq <| w_ret <| ?_; obtain rfl := os hf; exact r_flat ⟨trivial, trivial⟩ rfl (.refl _)
 ·refine w_condf rfl (bf c3) <| w_skip <| k_seq <| awp_seq <| awp_seq <| w_reg <| s_q (.ptr 0 0 1) rfl trivial rfl <| s_q (.str a_1.Method) rfl nle rfl <| s_q (.ptr 1 0 1) rfl trivial rfl <| s_q (.str b_2.Method) rfl nle rfl <| s_q (.bool (!(a_1.Method == b_2.Method))) rfl trivial rfl <| w_done <| k_seq <| ?_
  rcases oi hf with ⟨c4, hf⟩ | ⟨c4, hf⟩
  ·refine w_condt rfl c4 <| awp_seq <| w_reg <| s_mov (.bool false) rfl <| w_done <| k_seq <| w_ret <| ?_; obtain rfl := os hf; exact r_flat ⟨trivial, trivial⟩ rfl (.refl _)
  ·refine w_condf rfl (bf c4) <| w_skip <| k_seq <| awp_seq <| awp_seq <| w_reg <| ?_
   obtain ⟨r_5, er6, hf⟩ := ob hf
   refine s_q (.ptr 0 0 2) rfl trivial rfl <| s_q (.lst 5 (a_1.Params.map encGJson)) rfl nle rfl <| s_q (.ptr 1 0 2) rfl trivial rfl <| s_q (.lst 5 (b_2.Params.map encGJson)) rfl nle rfl <| s_do (o_call (w_laws_eqJsonS (laws_eqJson FUEL) (w_laws_eqJson FUEL) _ _ _ er6) rfl (.refl _) rfl) <| s_q (.bool (!r_5)) rfl trivial rfl <| w_done <| k_seq <| ?_
   rcases oi hf with ⟨c7, hf⟩ | ⟨c7, hf⟩
   ·refine w_condt rfl c7 <| awp_seq <| w_reg <| s_mov (.bool false) rfl <| w_done <| k_seq <| w_ret <| ?_; obtain rfl := os hf; exact r_flat ⟨trivial, trivial⟩ rfl (.refl _)
   ·refine w_condf rfl (bf c7) <| w_skip <| k_seq <| awp_seq <| w_reg <| s_mov (.bool true) rfl <| w_done <| k_seq <| w_ret <| ?_; obtain rfl := os hf; exact r_flat ⟨trivial, trivial⟩ rfl (.refl _)

/- laws.markText -/
def c117 : ACode :=
 (.seq (.reg (tm 2 (.c (.str [])) .done))
 (.seq (.seq (.reg (tm 4 (.t 0) (tq 5 (.bin .leq (.t 4) (.c (.int .i64 0))) .done)))
 (.cond (.t 5) (.seq (.reg (tm 2 (.c (.str [109, 48])) .done))
 .ret)
 .skip))
 (.seq (.reg (tm 3 (.c (.str [])) .done))
 (.seq (.block 0 (.loop (.seq (.seq (.reg (tm 6 (.t 0) (tq 7 (.bin .gtr (.t 6) (.c (.int .i64 0))) .done)))
 (.cond (.t 7) .skip
 (.exit 0)))
 (.block 1 (.seq (.reg (tm 8 (.t 0) (tq 9 (.bin .rem (.t 8) (.c (.int .i64 10))) (tq 10 (.bin .add (.c (.int .i64 48)) (.t 9)) (tq 11 (.convI .u8 (.t 10)) (tq 12 (.bslice 1 [(.t 11)]) (tq 13 (.convBS (.t 12)) (tm 14 (.t 3) (tq 15 (.bin .add (.t 13) (.t 14)) (tm 3 (.t 15) .done))))))))))
 (.reg (tm 16 (.t 0) (tq 17 (.bin .quo (.t 16) (.c (.int .i64 10))) (tm 0 (.t 17) .done)))))))))
 (.cut (.seq (.reg (tm 18 (.t 3) (tq 19 (.bin .add (.c (.str [109])) (.t 18)) (tm 2 (.t 19) .done))))
 .ret))))))
theorem fc117 : fcomp Try.prog Try.f117 = some (c117.erase, [.mov (.t 2)], 20) := by kernel_rfl
def laws_markText_L1  : Nat → Int → Str → Option Str
  | 0, _, _ => none
  | k + 1, k_9, out_10 =>
    if (decide (k_9 > 0)) then
    if (bstr [IntKind.u8.wrap (w64 (48 + (k_9.tmod 10)))]).length + out_10.length ≤ maxLen then
    laws_markText_L1 k (w64 (k_9.tdiv 10)) ((bstr [IntKind.u8.wrap (w64 (48 + (k_9.tmod 10)))]) ++ out_10)
    else none
    else
    some out_10

def laws_markText (k_1 : Int) : Option Str :=
    if (decide (k_1 ≤ 0)) then
    some [109, 48]
    else
    (laws_markText_L1 FUEL k_1 []).bind fun out_13 =>
    if [109].length + out_13.length ≤ maxLen then
    some ([109] ++ out_13)
    else none
theorem w_laws_markText (k_1 : Int) (r : Str) (hf : laws_markText k_1 = some r) : CallOK Try.prog 117 .flat [(.int .i64 k_1)] (.str r) := by
 refine CallOK.of_awp mixed Try.func117 fc117 nle ?_; rw [argT_eq]; unfold laws_markText at hf; unfold c117; refine (show awp Try.prog false 0 _ (ofL [(0, (.int .i64 k_1))]) [] _ from ?_); refine awp_seq <| w_reg <| s_mov (.str []) rfl <| w_done <| k_seq <| awp_seq <| awp_seq <| w_reg <| s_mov (.int .i64 k_1) rfl <| s_q (.bool (decide (k_1 ≤ 0))) rfl rfl rfl <| w_done <| k_seq <| ?_
 rcases oi hf with ⟨c2, hf⟩ | ⟨c2, hf⟩
 ·refine w_condt rfl c2 <| awp_seq <| w_reg <| s_mov (.str [109, 48]) rfl <| w_done <| k_seq <| w_ret <| ?_; obtain rfl := os hf; exact r_flat ⟨trivial, trivial⟩ rfl (.refl _)
 ·refine w_condf rfl (bf c2) <| w_skip <| k_seq <| awp_seq <| w_reg <| s_mov (.str []) rfl <| w_done <| k_seq <| awp_seq <| ?_
  obtain ⟨out_13, hb1, hf⟩ := ob hf
  refine awp_cut ([(3, (.str out_13))], []) ?_ ?_
  ·refine awp_loop (X := {q : (Nat × Int × Str) // laws_markText_L1 q.1 q.2.1 q.2.2 = some out_13}) (fun q => ([(0, (.int .i64 q.1.2.1)), (3, (.str q.1.2.2))], [])) (fun q => q.1.1) ⟨(FUEL, k_1, []), hb1⟩ ⟨[], [], _, _, rfl, rfl, ⟨.refl _, ⟨.refl _, trivial⟩⟩, (.refl _)⟩ ?_
   rintro ⟨⟨k, k_9, out_10⟩, hc1⟩
   have hc1 : laws_markText_L1 k k_9 out_10 = some out_13 := hc1
   refine (show awp Try.prog false 0 _ (ofL [(0, (.int .i64 k_9)), (3, (.str out_10))]) [] _ from ?_)
   rcases k with _ | k
   ·rw [laws_markText_L1.eq_1] at hc1
    cases hc1
   ·rw [laws_markText_L1.eq_2] at hc1; refine awp_seq <| awp_seq <| w_reg <| s_mov (.int .i64 k_9) rfl <| s_q (.bool (decide (k_9 > 0))) rfl rfl rfl <| w_done <| k_seq <| ?_
    rcases oi hc1 with ⟨c15, hc1⟩ | ⟨c15, hc1⟩
    ·refine w_condt rfl c15 <| w_skip <| k_seq <| w_blk <| awp_seq <| w_reg <| ?_
     obtain ⟨g16, hc1⟩ := og hc1
     refine s_mov (.int .i64 k_9) rfl <| s_q (.int .i64 (k_9.tmod 10)) rfl ⟨rfl, by decide⟩ rfl <| s_q (.int .i64 (w64 (48 + (k_9.tmod 10)))) rfl rfl rfl <| s_q (.int .u8 (IntKind.u8.wrap (w64 (48 + (k_9.tmod 10))))) rfl trivial rfl <| ?_; refine s_do (o_bslice (j := 0) (as' := [(.int .u8 (IntKind.u8.wrap (w64 (48 + (k_9.tmod 10)))))]) rfl (fun _ => by decide) ⟨rfl, trivial⟩ (.refl _) rfl rfl rfl) ?_; refine s_do (o_convbso (l := [IntKind.u8.wrap (w64 (48 + (k_9.tmod 10)))]) rfl rfl (by simp)) <| s_mov (.str out_10) rfl <| s_q (.str ((bstr [IntKind.u8.wrap (w64 (48 + (k_9.tmod 10)))]) ++ out_10)) rfl g16 rfl <| s_mov (.str ((bstr [IntKind.u8.wrap (w64 (48 + (k_9.tmod 10)))]) ++ out_10)) rfl <| w_done <| k_seq <| w_reg <| s_mov (.int .i64 k_9) rfl <| ?_
     refine s_q (.int .i64 (w64 (k_9.tdiv 10))) rfl ⟨rfl, by decide⟩ rfl <| s_mov (.int .i64 (w64 (k_9.tdiv 10))) rfl <| w_done <| k_blk <| ?_; exact k_loopn ⟨(k, w64 (k_9.tdiv 10), (bstr [IntKind.u8.wrap (w64 (48 + (k_9.tmod 10)))]) ++ out_10), hc1⟩ (Nat.lt_succ_self _) ⟨[], [], _, _, rfl, rfl, ⟨.refl _, ⟨.refl _, trivial⟩⟩, (.refl _)⟩
    ·refine w_condf rfl (bf c15) <| w_exit <| k_seqx <| k_loopx <| k_blkx <| ?_; obtain rfl := os hc1; exact ⟨[], [], _, _, rfl, rfl, ⟨.refl _, trivial⟩, (.refl _)⟩
  ·refine awp_seq <| w_reg <| ?_
   obtain ⟨g17, hf⟩ := og hf
   refine s_mov (.str out_13) rfl <| s_q (.str ([109] ++ out_13)) rfl g17 rfl <| s_mov (.str ([109] ++ out_13)) rfl <| w_done <| k_seq <| w_ret <| ?_; obtain rfl := os hf; exact r_flat ⟨trivial, trivial⟩ rfl (.refl _)

/- laws.markStringS -/
def c45_h0 : ACode :=
 (.seq (.reg (tm 4 (.c (.int .i64 0)) .done))
 (.seq (.seq (.reg (tm 5 (.c (.int .i64 0)) .done))
 (.block 0 (.loop (.seq (.seq (.reg (tm 6 (.t 5) (tm 7 (.t 0) (tq 8 (.len (.t 7)) (tq 9 (.bin .lss (.t 6) (.t 8)) .done)))))
 (.cond (.t 9) .skip
 (.exit 0)))
 (.seq (.block 1 (.seq (.reg (tm 12 (.t 0) (tm 13 (.t 5) (tm 14 (.t 1) (tq 15 (.call 117 [(.t 14)]) (tq 16 (.iaddr 1 (.t 12) (.t 13)) (.q ⟨none, none, .store 1 (.t 16) (.t 15)⟩
 .done)))))))
 (.reg (tm 17 (.t 1) (tq 18 (.bin .add (.t 17) (.c (.int .i64 1))) (tm 1 (.t 18) .done))))))
 (.reg (tm 10 (.t 5) (tq 11 (.bin .add (.t 10) (.c (.int .i64 1))) (tm 5 (.t 11) .done)))))))))
 (.cut (.seq (.reg (tm 19 (.t 1) (tm 4 (.t 19) .done)))
 .ret))))
theorem fc45_h0 : fcomp Try.prog Try.f45 = some (c45_h0.erase, [.mov (.t 4)], 20) := by kernel_rfl
def laws_markStringS_L1  : Nat → Int → Int → (List Str) → Option (Int × (List Str))
  | 0, _, _, _ => none
  | k + 1, k_48, i_49, a_50 =>
    if (decide (i_49 < (a_50.length : Int))) then
    (laws_markText k_48).bind fun r_63 =>
    if 0 ≤ i_49 ∧ i_49 < (a_50.length : Int) then
    (a_50[(0 + i_49.toNat)]?).bind fun x_66 =>
    laws_markStringS_L1 k (w64 (k_48 + 1)) (w64 (i_49 + 1)) (a_50.set (0 + i_49.toNat) r_63)
    else none
    else
    some (k_48, a_50)

def laws_markStringS (a_1 : (List Str)) (k_2 : Int) : Option (Int × (List Str)) :=
    (laws_markStringS_L1 FUEL k_2 0 a_1).bind fun p60 =>
    (match p60 with
    | (k_58, l_59) =>
    some (k_58, l_59))
theorem w_laws_markStringS (a_1 : (List Str)) (k_2 : Int) (r : (Int × (List Str))) (hf : laws_markStringS a_1 k_2 = some r) : CallHeap Try.prog ⟨true, true⟩ 45 [(.own 0 0 a_1.length), (.int .i64 k_2)] [.row 1 (a_1.map AV.str)] (.int .i64 r.1) [.row 1 (r.2.map AV.str)] := by
 refine CallHeap.of_awp mixed Try.func45 fc45_h0 nle ?_; rw [argT_eq]; unfold laws_markStringS at hf; unfold c45_h0; refine (show awp Try.prog ⟨true, true⟩ 1 _ (ofL [(0, (.own 0 0 a_1.length)), (1, (.int .i64 k_2))]) [.row 1 (a_1.map AV.str)] _ from ?_); refine awp_seq <| w_reg <| s_mov (.int .i64 0) rfl <| w_done <| k_seq <| awp_seq <| awp_seq <| w_reg <| s_mov (.int .i64 0) rfl <| w_done <| k_seq <| ?_
 obtain ⟨p60, hb1, hf⟩ := ob hf
 refine awp_cut ([(1, (.int .i64 p60.1))], [.row 1 (p60.2.map AV.str)]) ?_ ?_
 ·refine awp_loop (X := {q : (Nat × Int × Int × (List Str)) // laws_markStringS_L1 q.1 q.2.1 q.2.2.1 q.2.2.2 = some p60}) (fun q => ([(0, (.own 0 0 q.1.2.2.2.length)), (1, (.int .i64 q.1.2.1)), (5, (.int .i64 q.1.2.2.1))], [.row 1 (q.1.2.2.2.map AV.str)])) (fun q => q.1.1) ⟨(FUEL, k_2, 0, a_1), hb1⟩ ⟨[], [0], _, _, rfl, rfl, ⟨.refl _, ⟨.refl _, ⟨.refl _, trivial⟩⟩⟩, (.refl _)⟩ ?_
  rintro ⟨⟨k, k_48, i_49, a_50⟩, hc1⟩
  have hc1 : laws_markStringS_L1 k k_48 i_49 a_50 = some p60 := hc1
  refine (show awp Try.prog ⟨true, true⟩ 1 _ (ofL [(0, (.own 0 0 a_50.length)), (1, (.int .i64 k_48)), (5, (.int .i64 i_49))]) [.row 1 (a_50.map AV.str)] _ from ?_)
  rcases k with _ | k
  ·rw [laws_markStringS_L1.eq_1] at hc1
   cases hc1
  ·rw [laws_markStringS_L1.eq_2] at hc1; refine awp_seq <| awp_seq <| w_reg <| s_mov (.int .i64 i_49) rfl <| s_mov (.own 0 0 a_50.length) rfl <| s_dof (o_lenown rfl rfl) fun hl61 => s_q (.bool (decide (i_49 < (a_50.length : Int)))) rfl (.of rfl trivial) rfl <| w_done <| k_seq <| ?_
   rcases oi hc1 with ⟨c62, hc1⟩ | ⟨c62, hc1⟩
   ·refine w_condt rfl c62 <| w_skip <| k_seq <| awp_seq <| w_blk <| awp_seq <| w_reg <| ?_
    obtain ⟨r_63, er64, hc1⟩ := ob hc1
    obtain ⟨g65, hc1⟩ := og hc1
    obtain ⟨x_66, ex67, hc1⟩ := ob hc1
    refine s_mov (.own 0 0 a_50.length) rfl <| s_mov (.int .i64 i_49) rfl <| s_mov (.int .i64 k_48) rfl <| s_do (o_call (w_laws_markText _ _ er64) rfl (.refl _) rfl) <| s_do (o_iaddrown rfl rfl g65.1 g65.2 rfl rfl) <| ?_; refine s_do0 (o_storerow (v' := (.str r_63)) (e' := r_63) rfl rfl ex67 rfl rfl rfl (by decide) (fun _ => by decide) ⟨rfl, rfl, rfl⟩ (.refl _) rfl) ?_; refine w_done <| k_seq <| w_reg <| s_mov (.int .i64 k_48) rfl <| s_q (.int .i64 (w64 (k_48 + 1))) rfl (.of rfl trivial) rfl <| s_mov (.int .i64 (w64 (k_48 + 1))) rfl <| w_done <| k_blk <| k_seq <| w_reg <| s_mov (.int .i64 i_49) rfl <| s_q (.int .i64 (w64 (i_49 + 1))) rfl (.of rfl trivial) rfl <| s_mov (.int .i64 (w64 (i_49 + 1))) rfl <| w_done <| ?_; exact k_loopn ⟨(k, w64 (k_48 + 1), w64 (i_49 + 1), a_50.set (0 + i_49.toNat) r_63), hc1⟩ (Nat.lt_succ_self _) ⟨[], [0], _, _, rfl, rfl, ⟨.of_eq (congrArg (AV.own _ 0) (by simp)), ⟨.refl _, ⟨.refl _, trivial⟩⟩⟩, (.refl _)⟩
   ·refine w_condf rfl (bf c62) <| w_exit <| k_seqx <| k_loopx <| k_blkx <| ?_; obtain rfl := os hc1; exact ⟨[], [0], _, _, rfl, rfl, ⟨.refl _, trivial⟩, (.refl _)⟩
 ·obtain ⟨k_58, l_59⟩ := p60
  refine awp_seq <| w_reg <| s_mov (.int .i64 k_58) rfl <| s_mov (.int .i64 k_58) rfl <| w_done <| k_seq <| w_ret <| ?_; obtain rfl := os hf; exact r_heap [] [0] rfl ⟨.of trivial trivial, trivial⟩ rfl (.refl _) (.refl _)

/- laws.markJsonS -/
def c112_h0 : ACode :=
 (.seq (.reg (tm 4 (.c (.int .i64 0)) .done))
 (.seq (.seq (.reg (tm 5 (.c (.int .i64 0)) .done))
 (.block 0 (.loop (.seq (.seq (.reg (tm 6 (.t 5) (tm 7 (.t 0) (tq 8 (.len (.t 7)) (tq 9 (.bin .lss (.t 6) (.t 8)) .done)))))
 (.cond (.t 9) .skip
 (.exit 0)))
 (.seq (.block 1 (.seq (.reg (tm 12 (.t 0) (tm 13 (.t 5) (tm 14 (.t 1) (tq 15 (.iaddr 5 (.t 12) (.t 13)) (tq 16 (.faddr 0 (.t 15)) (.q ⟨none, none, .store 1 (.t 16) (.t 14)⟩
 .done)))))))
 (.seq (.reg (tm 17 (.t 1) (tq 18 (.bin .add (.t 17) (.c (.int .i64 1))) (tm 1 (.t 18) .done))))
 (.seq (.reg (tm 19 (.t 0) (tm 20 (.t 5) (tm 21 (.t 1) (tq 22 (.iaddr 5 (.t 19) (.t 20)) (tq 23 (.faddr 1 (.t 22)) (.q ⟨none, none, .store 1 (.t 23) (.t 21)⟩
 .done)))))))
 (.seq (.reg (tm 24 (.t 1) (tq 25 (.bin .add (.t 24) (.c (.int .i64 1))) (tm 1 (.t 25) .done))))
 (.seq (.reg (tm 26 (.t 0) (tm 27 (.t 5) (tm 28 (.t 1) (tq 29 (.call 117 [(.t 28)]) (tq 30 (.iaddr 5 (.t 26) (.t 27)) (tq 31 (.faddr 2 (.t 30)) (.q ⟨none, none, .store 1 (.t 31) (.t 29)⟩
 .done))))))))
 (.seq (.reg (tm 32 (.t 1) (tq 33 (.bin .add (.t 32) (.c (.int .i64 1))) (tm 1 (.t 33) .done))))
 (.seq (.rev (.reg (tm 34 (.t 0) (tm 35 (.t 5) (tq 36 (.iaddr 5 (.t 34) (.t 35)) (tq 37 (.faddr 3 (.t 36)) (tq 38 (.load 1 false (.t 37)) (tm 39 (.t 1) (tq 40 (.call 45 [(.t 38), (.t 39)]) (tm 1 (.t 40) .done))))))))))
 (.rev (.reg (tm 41 (.t 0) (tm 42 (.t 5) (tq 43 (.iaddr 5 (.t 41) (.t 42)) (tq 44 (.faddr 4 (.t 43)) (tq 45 (.load 1 false (.t 44)) (tm 46 (.t 1) (tq 47 (.call 112 [(.t 45), (.t 46)]) (tm 1 (.t 47) .done))))))))))))))))))
 (.reg (tm 10 (.t 5) (tq 11 (.bin .add (.t 10) (.c (.int .i64 1))) (tm 5 (.t 11) .done)))))))))
 (.cut (.seq (.reg (tm 48 (.t 1) (tm 4 (.t 48) .done)))
 .ret))))
theorem fc112_h0 : fcomp Try.prog Try.f112 = some (c112_h0.erase, [.mov (.t 4)], 49) := by kernel_rfl
def laws_markJsonS_B_L1 (rec : ((List GJson) → Int → Option (Int × (List GJson)))) : Nat → Int → Int → (List GJson) → Option (Int × (List GJson))
  | 0, _, _, _ => none
  | k + 1, k_108, i_109, a_110 =>
    if (decide (i_109 < (a_110.length : Int))) then
    if 0 ≤ i_109 ∧ i_109 < (a_110.length : Int) then
    (a_110[(0 + i_109.toNat)]?).bind fun x_136 =>
    if 0 ≤ i_109 ∧ i_109 < (a_110.length : Int) then
    (laws_markText (w64 ((w64 (k_108 + 1)) + 1))).bind fun r_139 =>
    if 0 ≤ i_109 ∧ i_109 < (a_110.length : Int) then
    if 0 ≤ i_109 ∧ i_109 < (a_110.length : Int) then
    (laws_markStringS x_136.Keys (w64 ((w64 ((w64 (k_108 + 1)) + 1)) + 1))).bind fun r_145 =>
    if 0 ≤ i_109 ∧ i_109 < (a_110.length : Int) then
    (rec x_136.Items r_145.1).bind fun r_150 =>
    laws_markJsonS_B_L1 rec k r_150.1 (w64 (i_109 + 1)) (((((a_110.set (0 + i_109.toNat) (⟨k_108, x_136.N, x_136.T, x_136.Keys, x_136.Items⟩ : GJson)).set (0 + i_109.toNat) (⟨k_108, w64 (k_108 + 1), x_136.T, x_136.Keys, x_136.Items⟩ : GJson)).set (0 + i_109.toNat) (⟨k_108, w64 (k_108 + 1), r_139, x_136.Keys, x_136.Items⟩ : GJson)).set (0 + i_109.toNat) (⟨k_108, w64 (k_108 + 1), r_139, r_145.2, x_136.Items⟩ : GJson)).set (0 + i_109.toNat) (⟨k_108, w64 (k_108 + 1), r_139, r_145.2, r_150.2⟩ : GJson))
    else none
    else none
    else none
    else none
    else none
    else
    some (k_108, a_110)

def laws_markJsonS_B (rec : ((List GJson) → Int → Option (Int × (List GJson)))) (a_1 : (List GJson)) (k_2 : Int) : Option (Int × (List GJson)) :=
    (laws_markJsonS_B_L1 rec FUEL k_2 0 a_1).bind fun p132 =>
    (match p132 with
    | (k_130, l_131) =>
    some (k_130, l_131))
theorem w_laws_markJsonS_B (rec : ((List GJson) → Int → Option (Int × (List GJson)))) (hrec : ∀ a0 a1 r, rec a0 a1 = some r → CallHeap Try.prog ⟨true, true⟩ 112 [(.own 0 0 a0.length), (.int .i64 a1)] [.row 5 (a0.map encGJson)] (.int .i64 r.1) [.row 5 (r.2.map encGJson)]) (a_1 : (List GJson)) (k_2 : Int) (r : (Int × (List GJson))) (hf : laws_markJsonS_B rec a_1 k_2 = some r) : CallHeap Try.prog ⟨true, true⟩ 112 [(.own 0 0 a_1.length), (.int .i64 k_2)] [.row 5 (a_1.map encGJson)] (.int .i64 r.1) [.row 5 (r.2.map encGJson)] := by
 refine CallHeap.of_awp mixed Try.func112 fc112_h0 nle ?_; rw [argT_eq]; unfold laws_markJsonS_B at hf; unfold c112_h0; refine (show awp Try.prog ⟨true, true⟩ 1 _ (ofL [(0, (.own 0 0 a_1.length)), (1, (.int .i64 k_2))]) [.row 5 (a_1.map encGJson)] _ from ?_); refine awp_seq <| w_reg <| s_mov (.int .i64 0) rfl <| w_done <| k_seq <| awp_seq <| awp_seq <| w_reg <| s_mov (.int .i64 0) rfl <| w_done <| k_seq <| ?_
 obtain ⟨p132, hb1, hf⟩ := ob hf
 refine awp_cut ([(1, (.int .i64 p132.1))], [.row 5 (p132.2.map encGJson)]) ?_ ?_
 ·refine awp_loop (X := {q : (Nat × Int × Int × (List GJson)) // laws_markJsonS_B_L1 rec q.1 q.2.1 q.2.2.1 q.2.2.2 = some p132}) (fun q => ([(0, (.own 0 0 q.1.2.2.2.length)), (1, (.int .i64 q.1.2.1)), (5, (.int .i64 q.1.2.2.1))], [.row 5 (q.1.2.2.2.map encGJson)])) (fun q => q.1.1) ⟨(FUEL, k_2, 0, a_1), hb1⟩ ⟨[], [0], _, _, rfl, rfl, ⟨.refl _, ⟨.refl _, ⟨.refl _, trivial⟩⟩⟩, (.refl _)⟩ ?_
  rintro ⟨⟨k, k_108, i_109, a_110⟩, hc1⟩
  have hc1 : laws_markJsonS_B_L1 rec k k_108 i_109 a_110 = some p132 := hc1
  refine (show awp Try.prog ⟨true, true⟩ 1 _ (ofL [(0, (.own 0 0 a_110.length)), (1, (.int .i64 k_108)), (5, (.int .i64 i_109))]) [.row 5 (a_110.map encGJson)] _ from ?_)
  rcases k with _ | k
  ·rw [laws_markJsonS_B_L1.eq_1] at hc1
   cases hc1
  ·rw [laws_markJsonS_B_L1.eq_2] at hc1; refine awp_seq <| awp_seq <| w_reg <| s_mov (.int .i64 i_109) rfl <| s_mov (.own 0 0 a_110.length) rfl <| s_dof (o_lenown rfl rfl) fun hl133 => s_q (.bool (decide (i_109 < (a_110.length : Int)))) rfl (.of rfl trivial) rfl <| w_done <| k_seq <| ?_
   rcases oi hc1 with ⟨c134, hc1⟩ | ⟨c134, hc1⟩
   ·refine w_condt rfl c134 <| w_skip <| k_seq <| awp_seq <| w_blk <| awp_seq <| w_reg <| ?_
    obtain ⟨g135, hc1⟩ := og hc1
    obtain ⟨x_136, ex137, hc1⟩ := ob hc1
    refine s_mov (.own 0 0 a_110.length) rfl <| s_mov (.int .i64 i_109) rfl <| s_mov (.int .i64 k_108) rfl <| s_do (o_iaddrown rfl rfl g135.1 g135.2 rfl rfl) <| s_q (.ptr 0 (0 + i_109.toNat) 0) rfl (.of trivial trivial) rfl <| ?_; refine s_do0 (o_storeroweq (v' := (.int .i64 k_108)) (e' := (⟨k_108, x_136.N, x_136.T, x_136.Keys, x_136.Items⟩ : GJson)) rfl rfl ex137 (encGJson_eq _) rfl rfl rfl (by decide) (fun _ => by decide) ⟨rfl, nle⟩ (.of_eq (encGJson_eq (⟨k_108, x_136.N, x_136.T, x_136.Keys, x_136.Items⟩ : GJson)).symm) rfl) ?_; refine w_done <| k_seq <| awp_seq <| w_reg <| s_mov (.int .i64 k_108) rfl <| s_q (.int .i64 (w64 (k_108 + 1))) rfl (.of rfl trivial) rfl <| s_mov (.int .i64 (w64 (k_108 + 1))) rfl <| w_done <| k_seq <| ?_
    refine awp_seq <| w_reg <| ?_
    obtain ⟨g138, hc1⟩ := og hc1
    refine s_mov (.own 0 0 a_110.length) rfl <| s_mov (.int .i64 i_109) rfl <| s_mov (.int .i64 (w64 (k_108 + 1))) rfl <| s_do (o_iaddrown rfl rfl g138.1 g138.2 rfl rfl) <| s_q (.ptr 0 (0 + i_109.toNat) 1) rfl (.of trivial trivial) rfl <| ?_; refine s_do0 (o_storeroweq (v' := (.int .i64 (w64 (k_108 + 1)))) (e' := (⟨k_108, w64 (k_108 + 1), x_136.T, x_136.Keys, x_136.Items⟩ : GJson)) rfl rfl (setget ex137) (encGJson_eq _) rfl rfl rfl (by decide) (fun _ => by decide) ⟨rfl, nle⟩ (.of_eq (encGJson_eq (⟨k_108, w64 (k_108 + 1), x_136.T, x_136.Keys, x_136.Items⟩ : GJson)).symm) rfl) ?_; refine w_done <| k_seq <| awp_seq <| w_reg <| s_mov (.int .i64 (w64 (k_108 + 1))) rfl <| s_q (.int .i64 (w64 ((w64 (k_108 + 1)) + 1))) rfl (.of rfl trivial) rfl <| ?_
    refine s_mov (.int .i64 (w64 ((w64 (k_108 + 1)) + 1))) rfl <| w_done <| k_seq <| awp_seq <| w_reg <| ?_
    obtain ⟨r_139, er140, hc1⟩ := ob hc1
    obtain ⟨g141, hc1⟩ := og hc1
    refine s_mov (.own 0 0 a_110.length) rfl <| s_mov (.int .i64 i_109) rfl <| s_mov (.int .i64 (w64 ((w64 (k_108 + 1)) + 1))) rfl <| s_do (o_call (w_laws_markText _ _ er140) rfl (.refl _) rfl) <| s_do (o_iaddrown rfl rfl g141.1 g141.2 rfl rfl) <| s_q (.ptr 0 (0 + i_109.toNat) 2) rfl (.of trivial trivial) rfl <| ?_; refine s_do0 (o_storeroweq (v' := (.str r_139)) (e' := (⟨k_108, w64 (k_108 + 1), r_139, x_136.Keys, x_136.Items⟩ : GJson)) rfl rfl (setget (setget ex137)) (encGJson_eq _) rfl rfl rfl (by decide) (fun _ => by decide) ⟨rfl, nle⟩ (.of_eq (encGJson_eq (⟨k_108, w64 (k_108 + 1), r_139, x_136.Keys, x_136.Items⟩ : GJson)).symm) rfl) ?_; refine w_done <| k_seq <| awp_seq <| w_reg <| s_mov (.int .i64 (w64 ((w64 (k_108 + 1)) + 1))) rfl <| ?_
    refine s_q (.int .i64 (w64 ((w64 ((w64 (k_108 + 1)) + 1)) + 1))) rfl (.of rfl trivial) rfl <| s_mov (.int .i64 (w64 ((w64 ((w64 (k_108 + 1)) + 1)) + 1))) rfl <| w_done <| k_seq <| awp_seq <| ?_; refine w_rev (o := 0) (f := 3) (l' := x_136.Keys) (enc' := AV.str) (el := (.agg [(.int .i64 k_108), (.int .i64 (w64 (k_108 + 1))), (.str r_139), (.lst 1 (x_136.Keys.map AV.str)), (.lst 5 (x_136.Items.map encGJson))])) rfl (setget (setget (setget ex137))) (encGJson_eq _) rfl fun v_143 => ?_; refine w_reg ?_
    obtain ⟨g144, hc1⟩ := og hc1
    obtain ⟨r_145, er146, hc1⟩ := ob hc1
    refine s_mov (.own 0 0 a_110.length) rfl <| s_mov (.int .i64 i_109) rfl <| s_do (o_iaddrown rfl rfl g144.1 g144.2 rfl rfl) <| s_q (.ptr 0 (0 + i_109.toNat) 3) rfl (.of trivial trivial) rfl <| s_do (o_loadhdr rfl rfl (getset (setget (setget (setget ex137)))) nle rfl) <| s_mov (.int .i64 (w64 ((w64 ((w64 (k_108 + 1)) + 1)) + 1))) rfl <| s_do (o_callm (o := 0) (l := (((a_110.set (0 + i_109.toNat) (⟨k_108, x_136.N, x_136.T, x_136.Keys, x_136.Items⟩ : GJson)).set (0 + i_109.toNat) (⟨k_108, w64 (k_108 + 1), x_136.T, x_136.Keys, x_136.Items⟩ : GJson)).set (0 + i_109.toNat) (⟨k_108, w64 (k_108 + 1), r_139, x_136.Keys, x_136.Items⟩ : GJson))) (enc := encGJson) (enc' := AV.str) (l'' := r_145.2) (y := (⟨k_108, w64 (k_108 + 1), r_139, r_145.2, x_136.Items⟩ : GJson)) (j := 3) (el := (.agg [(.int .i64 k_108), (.int .i64 (w64 (k_108 + 1))), (.str r_139), (.hdr v_143 1 (x_136.Keys.map AV.str)), (.lst 5 (x_136.Items.map encGJson))])) rfl rfl (w_laws_markStringS _ _ _ er146) rfl rfl (setget (setget (setget ex137))) rfl (by decide) (encGJson_eq (⟨k_108, w64 (k_108 + 1), r_139, r_145.2, x_136.Items⟩ : GJson)).symm) <| ?_
    refine s_mov (.int .i64 r_145.1) rfl <| w_done <| k_seq <| ?_; refine w_rev (o := 0) (f := 4) (l' := x_136.Items) (enc' := encGJson) (el := (.agg [(.int .i64 k_108), (.int .i64 (w64 (k_108 + 1))), (.str r_139), (.lst 1 (r_145.2.map AV.str)), (.lst 5 (x_136.Items.map encGJson))])) rfl (setget (setget (setget (setget ex137)))) (encGJson_eq _) rfl fun v_148 => ?_; refine w_reg ?_
    obtain ⟨g149, hc1⟩ := og hc1
    obtain ⟨r_150, er151, hc1⟩ := ob hc1
    refine s_mov (.own 0 0 a_110.length) rfl <| s_mov (.int .i64 i_109) rfl <| s_do (o_iaddrown rfl rfl g149.1 g149.2 rfl rfl) <| s_q (.ptr 0 (0 + i_109.toNat) 4) rfl (.of trivial trivial) rfl <| s_do (o_loadhdr rfl rfl (getset (setget (setget (setget (setget ex137))))) nle rfl) <| s_mov (.int .i64 r_145.1) rfl <| s_do (o_callm (o := 0) (l := ((((a_110.set (0 + i_109.toNat) (⟨k_108, x_136.N, x_136.T, x_136.Keys, x_136.Items⟩ : GJson)).set (0 + i_109.toNat) (⟨k_108, w64 (k_108 + 1), x_136.T, x_136.Keys, x_136.Items⟩ : GJson)).set (0 + i_109.toNat) (⟨k_108, w64 (k_108 + 1), r_139, x_136.Keys, x_136.Items⟩ : GJson)).set (0 + i_109.toNat) (⟨k_108, w64 (k_108 + 1), r_139, r_145.2, x_136.Items⟩ : GJson))) (enc := encGJson) (enc' := encGJson) (l'' := r_150.2) (y := (⟨k_108, w64 (k_108 + 1), r_139, r_145.2, r_150.2⟩ : GJson)) (j := 4) (el := (.agg [(.int .i64 k_108), (.int .i64 (w64 (k_108 + 1))), (.str r_139), (.lst 1 (r_145.2.map AV.str)), (.hdr v_148 5 (x_136.Items.map encGJson))])) rfl rfl (hrec _ _ _ er151) rfl rfl (setget (setget (setget (setget ex137)))) rfl (by decide) (encGJson_eq (⟨k_108, w64 (k_108 + 1), r_139, r_145.2, r_150.2⟩ : GJson)).symm) <| ?_
    refine s_mov (.int .i64 r_150.1) rfl <| w_done <| k_blk <| k_seq <| w_reg <| s_mov (.int .i64 i_109) rfl <| s_q (.int .i64 (w64 (i_109 + 1))) rfl (.of rfl trivial) rfl <| s_mov (.int .i64 (w64 (i_109 + 1))) rfl <| w_done <| ?_; exact k_loopn ⟨(k, r_150.1, w64 (i_109 + 1), ((((a_110.set (0 + i_109.toNat) (⟨k_108, x_136.N, x_136.T, x_136.Keys, x_136.Items⟩ : GJson)).set (0 + i_109.toNat) (⟨k_108, w64 (k_108 + 1), x_136.T, x_136.Keys, x_136.Items⟩ : GJson)).set (0 + i_109.toNat) (⟨k_108, w64 (k_108 + 1), r_139, x_136.Keys, x_136.Items⟩ : GJson)).set (0 + i_109.toNat) (⟨k_108, w64 (k_108 + 1), r_139, r_145.2, x_136.Items⟩ : GJson)).set (0 + i_109.toNat) (⟨k_108, w64 (k_108 + 1), r_139, r_145.2, r_150.2⟩ : GJson)), hc1⟩ (Nat.lt_succ_self _) ⟨[], [0], _, _, rfl, rfl, ⟨.of_eq (congrArg (AV.own _ 0) (by simp)), ⟨.refl _, ⟨.refl _, trivial⟩⟩⟩, (.refl _)⟩
   ·refine w_condf rfl (bf c134) <| w_exit <| k_seqx <| k_loopx <| k_blkx <| ?_; obtain rfl := os hc1; exact ⟨[], [0], _, _, rfl, rfl, ⟨.refl _, trivial⟩, (.refl _)⟩
 ·obtain ⟨k_130, l_131⟩ := p132
  refine awp_seq <| w_reg <| s_mov (.int .i64 k_130) rfl <| s_mov (.int .i64 k_130) rfl <| w_done <| k_seq <| w_ret <| ?_; obtain rfl := os hf; exact r_heap [] [0] rfl ⟨.of trivial trivial, trivial⟩ rfl (.refl _) (.refl _)
def laws_markJsonS : Nat → (List GJson) → Int → Option (Int × (List GJson))
 | 0, _, _ => none
 | k + 1, a_1, k_2 => laws_markJsonS_B (laws_markJsonS k) a_1 k_2
theorem w_laws_markJsonS : ∀ (k : Nat) (a_1 : (List GJson)) (k_2 : Int) (r : (Int × (List GJson))), laws_markJsonS k a_1 k_2 = some r → CallHeap Try.prog ⟨true, true⟩ 112 [(.own 0 0 a_1.length), (.int .i64 k_2)] [.row 5 (a_1.map encGJson)] (.int .i64 r.1) [.row 5 (r.2.map encGJson)]
 | 0, a_1, k_2, r, h => by rw [laws_markJsonS.eq_1] at h; cases h
 | k + 1, a_1, k_2, r, h => by
  rw [laws_markJsonS.eq_2] at h; exact w_laws_markJsonS_B _ (w_laws_markJsonS k) a_1 k_2 r h

/- laws.markJson -/
def c39_h0 : ACode :=
 (.seq (.reg (tq 2 (.box 5 (.t 0)) (tm 4 (.c (.int .i64 0)) .done)))
 (.seq (.reg (tq 5 (.faddr 3 (.t 2)) (tq 6 (.load 1 false (.t 5)) (tm 7 (.t 1) (tq 8 (.call 45 [(.t 6), (.t 7)]) (tm 1 (.t 8) .done))))))
 (.seq (.reg (tq 9 (.faddr 4 (.t 2)) (tq 10 (.load 1 false (.t 9)) (tm 11 (.t 1) (tq 12 (.call 112 [(.t 10), (.t 11)]) (tm 1 (.t 12) .done))))))
 (.seq (.reg (tm 13 (.t 1) (tm 4 (.t 13) .done)))
 .ret))))
theorem fc39_h0 : fcomp Try.prog Try.f39 = some (c39_h0.erase, [.mov (.t 4)], 14) := by kernel_rfl
def laws_markJson (a_1 : GJson) (k_2 : Int) : Option (Int × GJson) :=
    (laws_markStringS a_1.Keys k_2).bind fun r_3 =>
    (laws_markJsonS FUEL a_1.Items r_3.1).bind fun r_6 =>
    some (r_6.1, (⟨a_1.Kind, a_1.N, a_1.T, r_3.2, r_6.2⟩ : GJson))
theorem w_laws_markJson (a_1 : GJson) (k_2 : Int) (r : (Int × GJson)) (hf : laws_markJson a_1 k_2 = some r) : CallHeap Try.prog ⟨true, true⟩ 39 [(.agg [(.int .i64 a_1.Kind), (.int .i64 a_1.N), (.str a_1.T), (.own 0 0 a_1.Keys.length), (.own 1 0 a_1.Items.length)]), (.int .i64 k_2)] [.row 1 (a_1.Keys.map AV.str), .row 5 (a_1.Items.map encGJson)] (.int .i64 r.1) [.row 1 (r.2.Keys.map AV.str), .row 5 (r.2.Items.map encGJson)] := by
 refine CallHeap.of_awp mixed Try.func39 fc39_h0 nle ?_; rw [argT_eq]; unfold laws_markJson at hf; unfold c39_h0; refine (show awp Try.prog ⟨true, true⟩ 2 _ (ofL [(0, (.agg [(.int .i64 a_1.Kind), (.int .i64 a_1.N), (.str a_1.T), (.own 0 0 a_1.Keys.length), (.own 1 0 a_1.Items.length)])), (1, (.int .i64 k_2))]) [.row 1 (a_1.Keys.map AV.str), .row 5 (a_1.Items.map encGJson)] _ from ?_); refine awp_seq <| w_reg <| s_do (o_box (j := 2) (c := (.agg [(.int .i64 a_1.Kind), (.int .i64 a_1.N), (.str a_1.T), (.own 0 0 a_1.Keys.length), (.own 1 0 a_1.Items.length)])) rfl trivial rfl rfl) <| s_mov (.int .i64 0) rfl <| w_done <| k_seq <| awp_seq <| w_reg <| ?_
 obtain ⟨r_3, er4, hf⟩ := ob hf
 refine s_q (.ptr 2 0 3) rfl (.of trivial trivial) rfl <| s_q (.own 0 0 a_1.Keys.length) rfl (.of nle trivial) rfl <| s_mov (.int .i64 k_2) rfl <| ?_; refine s_dof (o_callhs (v := (.int .i64 r_3.1)) (h2 := [.row 1 (r_3.2.map AV.str), .row 5 (a_1.Items.map encGJson), .box 5 (.agg [(.int .i64 a_1.Kind), (.int .i64 a_1.N), (.str a_1.T), (.own 0 0 a_1.Keys.length), (.own 1 0 a_1.Items.length)])]) [] [0] (fun _ => rfl) (w_laws_markStringS _ _ _ er4) rfl (.refl _) (.refl _) rfl rfl) fun hl5 => ?_; refine s_mov (.int .i64 r_3.1) rfl <| w_done <| k_seq <| awp_seq <| w_reg <| ?_
 obtain ⟨r_6, er7, hf⟩ := ob hf
 refine s_q (.ptr 2 0 4) rfl (.of trivial trivial) rfl <| s_q (.own 1 0 a_1.Items.length) rfl (.of nle trivial) rfl <| s_mov (.int .i64 r_3.1) rfl <| ?_; refine s_dof (o_callhs (v := (.int .i64 r_6.1)) (h2 := [.row 1 (r_3.2.map AV.str), .row 5 (r_6.2.map encGJson), .box 5 (.agg [(.int .i64 a_1.Kind), (.int .i64 a_1.N), (.str a_1.T), (.own 0 0 a_1.Keys.length), (.own 1 0 a_1.Items.length)])]) [] [1] (fun _ => rfl) (w_laws_markJsonS FUEL _ _ _ er7) rfl (.refl _) (.refl _) rfl rfl) fun hl8 => ?_; refine s_mov (.int .i64 r_6.1) rfl <| w_done <| k_seq <| awp_seq <| w_reg <| s_mov (.int .i64 r_6.1) rfl <| s_mov (.int .i64 r_6.1) rfl <| w_done <| k_seq <| w_ret <| ?_; obtain rfl := os hf; exact r_heap [] [0, 1] rfl ⟨.of trivial trivial, trivial⟩ rfl (.refl _) (.refl _)

/- laws.markRequest -/
def c64_h0 : ACode :=
 (.seq (.reg (tq 2 (.box 3 (.t 0)) (tm 4 (.c (.int .i64 0)) .done)))
 (.seq (.reg (tq 5 (.faddr 2 (.t 2)) (tq 6 (.load 1 false (.t 5)) (tm 7 (.t 1) (tq 8 (.call 112 [(.t 6), (.t 7)]) (tm 1 (.t 8) .done))))))
 (.seq (.reg (tm 9 (.t 1) (tm 4 (.t 9) .done)))
 .ret)))
theorem fc64_h0 : fcomp Try.prog Try.f64 = some (c64_h0.erase, [.mov (.t 4)], 10) := by kernel_rfl
def laws_markRequest (a_1 : GRequest) (k_2 : Int) : Option (Int × GRequest) :=
    (laws_markJsonS FUEL a_1.Params k_2).bind fun r_3 =>
    some (r_3.1, (⟨a_1.Id, a_1.Method, r_3.2⟩ : GRequest))
theorem w_laws_markRequest (a_1 : GRequest) (k_2 : Int) (r : (Int × GRequest)) (hf : laws_markRequest a_1 k_2 = some r) : CallHeap Try.prog ⟨true, true⟩ 64 [(.agg [(.int .i64 a_1.Id), (.str a_1.Method), (.own 0 0 a_1.Params.length)]), (.int .i64 k_2)] [.row 5 (a_1.Params.map encGJson)] (.int .i64 r.1) [.row 5 (r.2.Params.map encGJson)] := by
 refine CallHeap.of_awp mixed Try.func64 fc64_h0 nle ?_; rw [argT_eq]; unfold laws_markRequest at hf; unfold c64_h0; refine (show awp Try.prog ⟨true, true⟩ 1 _ (ofL [(0, (.agg [(.int .i64 a_1.Id), (.str a_1.Method), (.own 0 0 a_1.Params.length)])), (1, (.int .i64 k_2))]) [.row 5 (a_1.Params.map encGJson)] _ from ?_); refine awp_seq <| w_reg <| s_do (o_box (j := 1) (c := (.agg [(.int .i64 a_1.Id), (.str a_1.Method), (.own 0 0 a_1.Params.length)])) rfl trivial rfl rfl) <| s_mov (.int .i64 0) rfl <| w_done <| k_seq <| awp_seq <| w_reg <| ?_
 obtain ⟨r_3, er4, hf⟩ := ob hf
 refine s_q (.ptr 1 0 2) rfl (.of trivial trivial) rfl <| s_q (.own 0 0 a_1.Params.length) rfl (.of nle trivial) rfl <| s_mov (.int .i64 k_2) rfl <| ?_; refine s_dof (o_callhs (v := (.int .i64 r_3.1)) (h2 := [.row 5 (r_3.2.map encGJson), .box 3 (.agg [(.int .i64 a_1.Id), (.str a_1.Method), (.own 0 0 a_1.Params.length)])]) [] [0] (fun _ => rfl) (w_laws_markJsonS FUEL _ _ _ er4) rfl (.refl _) (.refl _) rfl rfl) fun hl5 => ?_; refine s_mov (.int .i64 r_3.1) rfl <| w_done <| k_seq <| awp_seq <| w_reg <| s_mov (.int .i64 r_3.1) rfl <| s_mov (.int .i64 r_3.1) rfl <| w_done <| k_seq <| w_ret <| ?_; obtain rfl := os hf; exact r_heap [] [0] rfl ⟨.of trivial trivial, trivial⟩ rfl (.refl _) (.refl _)

/- laws.heldStringS -/
def c46 : ACode :=
 (.seq (.reg (tm 4 (.c (.int .i64 0)) .done))
 (.seq (.seq (.reg (tm 5 (.c (.int .i64 0)) .done))
 (.block 0 (.loop (.seq (.seq (.reg (tm 6 (.t 5) (tm 7 (.t 0) (tq 8 (.len (.t 7)) (tq 9 (.bin .lss (.t 6) (.t 8)) .done)))))
 (.cond (.t 9) .skip
 (.exit 0)))
 (.seq (.block 1 (.seq (.seq (.reg (tm 12 (.t 0) (tm 13 (.t 5) (tq 14 (.iaddr 1 (.t 12) (.t 13)) (tq 15 (.load 1 false (.t 14)) (tm 16 (.t 1) (.l ⟨(some 17), none, .call 117 [(.t 16)]⟩ [⟨(some 15), none, .load 1 false (.t 14)⟩, ⟨(some 14), none, .iaddr 1 (.t 12) (.t 13)⟩]
 (tq 18 (.bin .neq (.t 15) (.t 17)) .done) .non)))))))
 (.cond (.t 18) (.seq (.reg (tq 4 (.mov (.c (.int .i64 (-1)))) .done))
 .ret)
 .skip))
 (.reg (tm 19 (.t 1) (tq 20 (.bin .add (.t 19) (.c (.int .i64 1))) (tm 1 (.t 20) .done))))))
 (.reg (tm 10 (.t 5) (tq 11 (.bin .add (.t 10) (.c (.int .i64 1))) (tm 5 (.t 11) .done)))))))))
 (.cut (.seq (.reg (tm 21 (.t 1) (tm 4 (.t 21) .done)))
 .ret))))
theorem fc46 : fcomp Try.prog Try.f46 = some (c46.erase, [.mov (.t 4)], 22) := by kernel_rfl
def laws_heldStringS_L1  : List Str → Int → Option (Fl Int Int)
  | [], k_19 =>
    some (.go k_19)
  | x_37 :: xs, k_19 =>
    (laws_markText k_19).bind fun r_40 =>
    if (!(x_37 == r_40)) then
    some (.ret (-1))
    else
    laws_heldStringS_L1 xs (w64 (k_19 + 1)) 

def laws_heldStringS (a_1 : (List Str)) (k_2 : Int) : Option Int :=
    (laws_heldStringS_L1 a_1 k_2).bind fun q => (match q with
    | .ret r => some r
    | .go k_29 =>
    some k_29)
theorem w_laws_heldStringS (a_1 : (List Str)) (k_2 : Int) (r : Int) (hf : laws_heldStringS a_1 k_2 = some r) : CallOK Try.prog 46 .flat [(.lst 1 (a_1.map AV.str)), (.int .i64 k_2)] (.int .i64 r) := by
 refine CallOK.of_awp mixed Try.func46 fc46 nle ?_; rw [argT_eq]; unfold laws_heldStringS at hf; unfold c46; refine (show awp Try.prog false 0 _ (ofL [(0, (.lst 1 (a_1.map AV.str))), (1, (.int .i64 k_2))]) [] _ from ?_); refine awp_seq <| w_reg <| s_mov (.int .i64 0) rfl <| w_done <| k_seq <| awp_seq <| awp_seq <| w_reg <| s_mov (.int .i64 0) rfl <| w_done <| k_seq <| ?_
 obtain ⟨p30, hb1, hf⟩ := ob hf
 refine awp_cutx (X := {q : Int // p30 = .go q}) (fun q => ([(1, (.int .i64 q.1))], [])) ?_ ?_
 ·refine awp_loop (X := {q : (Int × Nat) // laws_heldStringS_L1 (a_1.drop q.2) q.1 = some p30}) (fun q => ([(0, (.lst 1 (a_1.map AV.str))), (1, (.int .i64 q.1.1)), (5, (.int .i64 (q.1.2 : Int)))], [])) (fun q => a_1.length - q.1.2) ⟨(k_2, 0), hb1⟩ ⟨[], [], _, _, rfl, rfl, ⟨.refl _, ⟨.refl _, ⟨.refl _, trivial⟩⟩⟩, (.refl _)⟩ ?_
  rintro ⟨⟨k_19, i_20⟩, hc1⟩
  have hc1 : laws_heldStringS_L1 (a_1.drop i_20) k_19 = some p30 := hc1
  refine (show awp Try.prog false 0 _ (ofL [(0, (.lst 1 (a_1.map AV.str))), (1, (.int .i64 k_19)), (5, (.int .i64 (i_20 : Int)))]) [] _ from ?_)
  rcases dropc a_1 i_20 with ⟨hie33, hd36⟩ | ⟨hlt31, x_37, hx32, hd36⟩
  ·rw [hd36, laws_heldStringS_L1.eq_1] at hc1
   have hq35 := dlf hie33
   refine awp_seq <| awp_seq <| w_reg <| s_mov (.int .i64 (i_20 : Int)) rfl <| s_mov (.lst 1 (a_1.map AV.str)) rfl <| s_dof (o_len (enc := AV.str) rfl) fun hl38 => s_q (.bool (decide ((i_20 : Int) < (a_1.length : Int)))) rfl rfl rfl <| w_done <| k_seq <| w_condf rfl hq35 <| w_exit <| k_seqx <| k_loopx <| k_blkx <| ?_; obtain rfl := os hc1; exact k_cutn ⟨_, rfl⟩ ⟨[], [], _, _, rfl, rfl, ⟨.refl _, trivial⟩, (.refl _)⟩
  ·rw [hd36, laws_heldStringS_L1.eq_2] at hc1
   have hq35 := dlt hlt31
   refine awp_seq <| awp_seq <| w_reg <| s_mov (.int .i64 (i_20 : Int)) rfl <| s_mov (.lst 1 (a_1.map AV.str)) rfl <| s_dof (o_len (enc := AV.str) rfl) fun hl39 => s_q (.bool (decide ((i_20 : Int) < (a_1.length : Int)))) rfl rfl rfl <| w_done <| k_seq <| w_condt rfl hq35 <| w_skip <| k_seq <| awp_seq <| w_blk <| awp_seq <| awp_seq <| w_reg <| ?_
   obtain ⟨r_40, er41, hc1⟩ := ob hc1
   refine s_mov (.lst 1 (a_1.map AV.str)) rfl <| s_mov (.int .i64 (i_20 : Int)) rfl <| s_do (o_iaddrn (enc := AV.str) rfl rfl hx32) <| s_q (.str x_37) rfl ⟨rfl, rfl⟩ rfl <| s_mov (.int .i64 k_19) rfl <| s_dol (o_call (w_laws_markText _ _ er41) rfl (.refl _) rfl) a_same trivial <| s_q (.bool (!(x_37 == r_40))) rfl trivial rfl <| w_done <| k_seq <| ?_
   rcases oi hc1 with ⟨c42, hc1⟩ | ⟨c42, hc1⟩
   ·refine w_condt rfl c42 <| awp_seq <| w_reg <| s_mov (.int .i64 (-1)) rfl <| w_done <| k_seq <| w_ret <| ?_; obtain rfl := os hc1; obtain rfl := os hf; exact r_flat ⟨trivial, trivial⟩ rfl (.refl _)
   ·refine w_condf rfl (bf c42) <| w_skip <| k_seq <| w_reg <| s_mov (.int .i64 k_19) rfl <| s_q (.int .i64 (w64 (k_19 + 1))) rfl rfl rfl <| s_mov (.int .i64 (w64 (k_19 + 1))) rfl <| w_done <| k_blk <| k_seq <| w_reg <| s_mov (.int .i64 (i_20 : Int)) rfl <| s_q (.int .i64 (w64 ((i_20 : Int) + 1))) rfl rfl rfl <| s_mov (.int .i64 (w64 ((i_20 : Int) + 1))) rfl <| w_done <| ?_; exact k_loopn ⟨(w64 (k_19 + 1), (i_20 + 1)), hc1⟩ (mul hlt31) ⟨[], [], _, _, rfl, rfl, ⟨.refl _, ⟨.refl _, ⟨.of_eq (congrArg (AV.int _) (w64_incr hlt31 hl39)), trivial⟩⟩⟩, (.refl _)⟩
 ·rintro ⟨k_29, rfl⟩
  refine awp_seq <| w_reg <| s_mov (.int .i64 k_29) rfl <| s_mov (.int .i64 k_29) rfl <| w_done <| k_seq <| w_ret <| ?_; obtain rfl := os hf; exact r_flat ⟨trivial, trivial⟩ rfl (.refl _)

end Go.R
