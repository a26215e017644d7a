/- Walks. -/
import Derived.Test.YtdnjjfoooagphaaOW1
set_option linter.all false
namespace Go.R
open Go Go.Proofs
set_option linter.unusedVariables false
set_option linter.unusedSimpArgs false
set_option maxHeartbeats 8000000
/- impl.OwnedBy -/
def c25 : ACode :=
 (.seq (.reg (tm 4 (.c .nil) (tm 5 (.c (.int .i64 0)) .done)))
 (.seq (.seq (.reg (tm 10 (.t 0) (tm 11 (.t 1) (tq 12 (.call 97 [(.t 10), (.t 11)]) (tm 6 (.t 12) .done)))))
 (.seq (.reg (tm 13 (.t 6) (tq 14 (.bin .neq (.t 13) (.c (.int .i64 0))) .done)))
 (.cond (.t 14) (.seq (.reg (tm 15 (.t 6) (tm 4 (.c .nil) (tm 5 (.t 15) .done))))
 .ret)
 .skip)))
 (.seq (.reg (tq 16 (.bslice 1 []) (tm 7 (.t 16) .done)))
 (.seq (.seq (.reg (tm 17 (.t 0) (tq 18 (.len (.t 17)) (tm 19 (.c (.int .i64 0)) .done))))
 (.block 0 (.loop (.seq (.reg (tq 20 (.bin .lss (.t 19) (.t 18)) .done))
 (.seq (.cond (.t 20) .skip
 (.exit 0))
 (.seq (.block 1 (.seq (.reg (tq 21 (.iaddr 2 (.t 17) (.t 19)) (tq 22 (.load 2 true (.t 21)) (tq 9 (.box 2 (.c (.agg [(.str []), .nil]))) (.q ⟨none, none, .store 2 (.t 9) (.t 22)⟩
 .done)))))
 (.seq (.reg (tq 23 (.faddr 1 (.t 9)) (tq 24 (.load 1 false (.t 23)) (tq 25 (.iaddr 1 (.t 24) (.c (.int .i64 0))) (tq 26 (.load 1 false (.t 25)) (tm 27 (.t 1) (tq 28 (.bin .eql (.t 26) (.t 27)) .done)))))))
 (.cond (.t 28) (.reg (tm 29 (.t 7) (tq 30 (.faddr 0 (.t 9)) (tq 31 (.load 1 false (.t 30)) (tq 32 (.bslice 1 [(.t 31)]) (tq 33 (.append 1 16 (.t 29) (.t 32)) (tm 7 (.t 33) .done)))))))
 .skip))))
 (.reg (tq 34 (.bin .add (.t 19) (.c (.int .i64 1))) (tm 19 (.t 34) .done)))))))))
 (.cut (.seq (.reg (tm 35 (.t 7) (tm 4 (.t 35) (tm 5 (.c (.int .i64 0)) .done))))
 .ret))))))
theorem fc25 : fcomp Try.prog Try.f25 = some (c25.erase, [.mov (.t 4), .mov (.t 5)], 36) := by kernel_rfl
def impl_OwnedBy_L1 (session_2 : Int) : List GLock → (List Str) → Option (List Str)
  | [], out_24 =>
    some out_24
  | x_40 :: xs, out_24 =>
    (idx x_40.Queue 0).bind fun x_41 =>
    if (x_41 == session_2) then
    if (out_24 ++ [x_40.Name]).length ≤ 2 ^ 30 then
    impl_OwnedBy_L1 session_2 xs  (out_24 ++ [x_40.Name])
    else none
    else
    impl_OwnedBy_L1 session_2 xs  out_24

def impl_OwnedBy (list_1 : (List GLock)) (session_2 : Int) : Option ((List Str) × Int) :=
    (impl_sessionCode list_1 session_2).bind fun r_3 =>
    if (r_3 != 0) then
    some ([], r_3)
    else
    (impl_OwnedBy_L1 session_2 list_1 []).bind fun out_32 =>
    some (out_32, 0)
theorem w_impl_OwnedBy (list_1 : (List GLock)) (session_2 : Int) (r : ((List Str) × Int)) (hf : impl_OwnedBy list_1 session_2 = some r) : CallOK Try.prog 25 .fresh [(.lst 2 (list_1.map encGLock)), (.int .i64 session_2)] (.tup [(.lst 1 (r.1.map AV.str)), (.int .i64 r.2)]) := by
 refine CallOK.of_awp mixed Try.func25 fc25 nle ?_; rw [argT_eq]; unfold impl_OwnedBy at hf; unfold c25; refine (show awp Try.prog true 0 _ (ofL [(0, (.lst 2 (list_1.map encGLock))), (1, (.int .i64 session_2))]) [] _ from ?_); refine awp_seq <| w_reg <| s_mov .nil rfl <| s_mov (.int .i64 0) rfl <| w_done <| k_seq <| awp_seq <| awp_seq <| w_reg <| ?_
 obtain ⟨r_3, er4, hf⟩ := ob hf
 refine s_mov (.lst 2 (list_1.map encGLock)) rfl <| s_mov (.int .i64 session_2) rfl <| s_do (o_call (w_impl_sessionCode _ _ _ er4) rfl (.refl _) rfl) <| s_mov (.int .i64 r_3) rfl <| w_done <| k_seq <| awp_seq <| w_reg <| s_mov (.int .i64 r_3) rfl <| s_q (.bool (r_3 != 0)) rfl rfl rfl <| w_done <| k_seq <| ?_
 rcases oi hf with ⟨c5, hf⟩ | ⟨c5, hf⟩
 ·refine w_condt rfl c5 <| awp_seq <| w_reg <| s_mov (.int .i64 r_3) rfl <| s_mov .nil rfl <| s_mov (.int .i64 r_3) rfl <| w_done <| k_seq <| w_ret <| ?_; obtain rfl := os hf; exact r_fresh ⟨trivial, ⟨trivial, trivial⟩⟩ rfl (by decide) (.tup (.cons (.nil _) (.cons (.refl _) .nil)))
 ·refine w_condf rfl (bf c5) <| w_skip <| k_seq <| awp_seq <| w_reg <| ?_; refine s_do (o_bslice (j := 0) (as' := []) rfl (fun _ => by decide) trivial (.refl _) rfl rfl rfl) ?_; refine s_mov (.own 0 0 0) rfl <| w_done <| k_seq <| awp_seq <| awp_seq <| w_reg <| s_mov (.lst 2 (list_1.map encGLock)) rfl <| s_dof (o_len (enc := encGLock) rfl) fun hl6 => s_mov (.int .i64 0) rfl <| w_done <| k_seq <| ?_
  obtain ⟨out_32, hb1, hf⟩ := ob hf
  refine awp_cut ([(7, (.own 0 0 out_32.length))], [.row 1 (out_32.map AV.str)]) ?_ ?_
  ·refine awp_loop (X := {q : (Nat × (List Str)) // impl_OwnedBy_L1 session_2 (list_1.drop q.1) q.2 = some out_32}) (fun q => ([(1, (.int .i64 session_2)), (7, (.own 0 0 q.1.2.length)), (17, (.lst 2 (list_1.map encGLock))), (18, (.int .i64 (list_1.length : Int))), (19, (.int .i64 (q.1.1 : Int)))], [.row 1 (q.1.2.map AV.str)])) (fun q => list_1.length - q.1.1) ⟨(0, []), hb1⟩ ⟨[], [0], _, _, rfl, rfl, ⟨.refl _, ⟨.of_eq (congrArg (AV.own _ 0) (by simp)), ⟨.refl _, ⟨.refl _, ⟨.refl _, trivial⟩⟩⟩⟩⟩, (.refl _)⟩ ?_
   rintro ⟨⟨s19_23, out_24⟩, hc1⟩
   have hc1 : impl_OwnedBy_L1 session_2 (list_1.drop s19_23) out_24 = some out_32 := hc1
   refine (show awp Try.prog true 0 _ (ofL [(1, (.int .i64 session_2)), (7, (.own 0 0 out_24.length)), (17, (.lst 2 (list_1.map encGLock))), (18, (.int .i64 (list_1.length : Int))), (19, (.int .i64 (s19_23 : Int)))]) [.row 1 (out_24.map AV.str)] _ from ?_)
   rcases dropc list_1 s19_23 with ⟨hie36, hd39⟩ | ⟨hlt34, x_40, hx35, hd39⟩
   ·rw [hd39, impl_OwnedBy_L1.eq_1] at hc1
    have hq38 := dlf hie36
    refine awp_seq <| w_reg <| s_q (.bool (decide ((s19_23 : Int) < (list_1.length : Int)))) rfl rfl rfl <| w_done <| k_seq <| awp_seq <| w_condf rfl hq38 <| w_exit <| k_seqx <| k_loopx <| k_blkx <| ?_; obtain rfl := os hc1; exact ⟨[], [0], _, _, rfl, rfl, ⟨.refl _, trivial⟩, (.refl _)⟩
   ·rw [hd39, impl_OwnedBy_L1.eq_2] at hc1
    have hq38 := dlt hlt34
    refine awp_seq <| w_reg <| s_q (.bool (decide ((s19_23 : Int) < (list_1.length : Int)))) rfl rfl rfl <| w_done <| k_seq <| awp_seq <| w_condt rfl hq38 <| w_skip <| k_seq <| awp_seq <| w_blk <| awp_seq <| w_reg <| s_do (o_iaddrn (enc := encGLock) rfl rfl hx35) <| s_q (encGLock x_40) rfl nle rfl <| s_do (o_box (j := 1) (c := (.agg [(.str []), .nil])) rfl trivial rfl rfl) <| s_do0 (o_storebox (v := (.agg [(.str x_40.Name), (.lst 1 (x_40.Queue.map encI))])) (y' := (.agg [(.str x_40.Name), (.lst 1 (x_40.Queue.map encI))])) rfl rfl rfl trivial ⟨rfl, nle⟩ ⟨⟨rfl, trivial⟩, ⟨⟨rfl, trivial⟩, trivial⟩⟩ rfl) <| w_done <| k_seq <| awp_seq <| w_reg <| ?_
    obtain ⟨x_41, ex42, hc1⟩ := ob hc1
    refine s_q (.ptr 1 0 1) rfl trivial rfl <| s_q (.lst 1 (x_40.Queue.map encI)) rfl nle rfl <| s_do (o_iaddr (enc := encI) rfl rfl (idx0 ex42) (idx1 ex42)) <| s_q (.int .i64 x_41) rfl ⟨rfl, rfl⟩ rfl <| s_mov (.int .i64 session_2) rfl <| s_q (.bool (x_41 == session_2)) rfl rfl rfl <| w_done <| k_seq <| ?_
    rcases oi hc1 with ⟨c43, hc1⟩ | ⟨c43, hc1⟩
    ·refine w_condt rfl c43 <| w_reg <| ?_
     obtain ⟨g44, hc1⟩ := og hc1
     refine s_mov (.own 0 0 out_24.length) rfl <| s_q (.ptr 1 0 0) rfl trivial rfl <| s_q (.str x_40.Name) rfl nle rfl <| ?_; refine s_do (o_bslice (j := 2) (as' := [(.str x_40.Name)]) rfl (fun _ => by decide) ⟨rfl, trivial⟩ (.refl _) rfl rfl rfl) ?_
     refine s_do (o_appendd (j := 3) (L := ((out_24 ++ [x_40.Name]).map AV.str)) (len := (out_24 ++ [x_40.Name]).length) rfl false rfl rfl (fun _ => flo (enc := AV.str) (fun _ => rfl) [x_40.Name] _) (fun _ _ h => (ownl (show AV.own _ _ _ = AV.lst _ _ from h)).elim) (by decide) (apoc (enc := AV.str) out_24 [x_40.Name] _ (by rfl)) (by simp <;> omega) g44 rfl rfl) ?_
     refine s_mov (.own 3 0 ((out_24 ++ [x_40.Name]).length)) rfl <| w_done <| k_blk <| k_seq <| w_reg <| s_q (.int .i64 (w64 ((s19_23 : Int) + 1))) rfl rfl rfl <| s_mov (.int .i64 (w64 ((s19_23 : Int) + 1))) rfl <| w_done <| ?_; exact k_loopn ⟨((s19_23 + 1), out_24 ++ [x_40.Name]), hc1⟩ (mul hlt34) ⟨[], [3], _, _, rfl, rfl, ⟨.refl _, ⟨.refl _, ⟨.refl _, ⟨.refl _, ⟨.of_eq (congrArg (AV.int _) (w64_incr hlt34 hl6)), trivial⟩⟩⟩⟩⟩, (.refl _)⟩
    ·refine w_condf rfl (bf c43) <| w_skip <| k_blk <| k_seq <| w_reg <| s_q (.int .i64 (w64 ((s19_23 : Int) + 1))) rfl rfl rfl <| s_mov (.int .i64 (w64 ((s19_23 : Int) + 1))) rfl <| w_done <| ?_; exact k_loopn ⟨((s19_23 + 1), out_24), hc1⟩ (mul hlt34) ⟨[], [0], _, _, rfl, rfl, ⟨.refl _, ⟨.refl _, ⟨.refl _, ⟨.refl _, ⟨.of_eq (congrArg (AV.int _) (w64_incr hlt34 hl6)), trivial⟩⟩⟩⟩⟩, (.refl _)⟩
  ·refine awp_seq <| w_reg <| s_mov (.own 0 0 out_32.length) rfl <| s_mov (.own 0 0 out_32.length) rfl <| s_mov (.int .i64 0) rfl <| w_done <| k_seq <| w_ret <| ?_; obtain rfl := os hf; exact r_fresh ⟨trivial, ⟨trivial, trivial⟩⟩ rfl (by decide) (.tup (.cons (.of_eq (congrArg (AV.lst _) (tk (enc := AV.str) out_32))) (.cons (.refl _) .nil)))

/- laws.at -/
def c26 : ACode :=
 (.seq (.reg (tm 6 (.c (.int .i64 0)) .done))
 (.seq (.seq (.reg (tm 7 (.t 2) (tq 8 (.bin .leq (.t 7) (.c (.int .i64 1))) .done)))
 (.cond (.t 8) (.seq (.reg (tm 6 (.c (.int .i64 0)) .done))
 .ret)
 .skip))
 (.seq (.seq (.reg (tm 9 (.t 0) (tq 10 (.len (.t 9)) (tq 11 (.bin .eql (.t 10) (.c (.int .i64 0))) .done))))
 (.cond (.t 11) (.seq (.reg (tm 12 (.t 1) (tq 13 (.bin .mul (.t 12) (.c (.int .i64 7))) (tm 14 (.t 2) (tq 15 (.bin .rem (.t 13) (.t 14)) (tm 6 (.t 15) .done))))))
 .ret)
 .skip))
 (.seq (.reg (tm 16 (.t 0) (tm 17 (.t 1) (tm 18 (.t 0) (tq 19 (.len (.t 18)) (tq 20 (.bin .rem (.t 17) (.t 19)) (tq 21 (.iaddr 1 (.t 16) (.t 20)) (tq 22 (.load 1 false (.t 21)) (tq 23 (.convI .i64 (.t 22)) (tq 24 (.bin .mul (.t 23) (.c (.int .i64 31))) (tm 25 (.t 0) (tm 26 (.t 1) (tq 27 (.bin .add (.t 26) (.c (.int .i64 1))) (tm 28 (.t 0) (tq 29 (.len (.t 28)) (tq 30 (.bin .rem (.t 27) (.t 29)) (tq 31 (.iaddr 1 (.t 25) (.t 30)) (tq 32 (.load 1 false (.t 31)) (tq 33 (.convI .i64 (.t 32)) (tq 34 (.bin .add (.t 24) (.t 33)) (tm 35 (.t 1) (tm 36 (.t 0) (tq 37 (.len (.t 36)) (tq 38 (.bin .quo (.t 35) (.t 37)) (tq 39 (.bin .add (.t 34) (.t 38)) (tm 40 (.t 2) (tq 41 (.bin .rem (.t 39) (.t 40)) (tm 6 (.t 41) .done))))))))))))))))))))))))))))
 .ret))))
theorem fc26 : fcomp Try.prog Try.f26 = some (c26.erase, [.mov (.t 6)], 42) := by kernel_rfl
def laws_at (more_1 : (List Int)) (i_2 : Int) (n_3 : Int) : Option Int :=
    if (decide (n_3 ≤ 1)) then
    some 0
    else
    if ((more_1.length : Int) == 0) then
    if n_3 ≠ 0 then
    some ((w64 (i_2 * 7)).tmod n_3)
    else none
    else
    if (more_1.length : Int) ≠ 0 then
    (idx more_1 (i_2.tmod (more_1.length : Int))).bind fun x_10 =>
    if (more_1.length : Int) ≠ 0 then
    (idx more_1 ((w64 (i_2 + 1)).tmod (more_1.length : Int))).bind fun x_14 =>
    if (more_1.length : Int) ≠ 0 then
    if n_3 ≠ 0 then
    some ((w64 ((w64 ((w64 ((w64 x_10) * 31)) + (w64 x_14))) + (w64 (i_2.tdiv (more_1.length : Int))))).tmod n_3)
    else none
    else none
    else none
    else none
theorem w_laws_at (more_1 : (List Int)) (i_2 : Int) (n_3 : Int) (r : Int) (hf : laws_at more_1 i_2 n_3 = some r) : CallOK Try.prog 26 .flat [(.lst 1 (more_1.map enc_u8)), (.int .i64 i_2), (.int .i64 n_3)] (.int .i64 r) := by
 refine CallOK.of_awp mixed Try.func26 fc26 nle ?_; rw [argT_eq]; unfold laws_at at hf; unfold c26; refine (show awp Try.prog false 0 _ (ofL [(0, (.lst 1 (more_1.map enc_u8))), (1, (.int .i64 i_2)), (2, (.int .i64 n_3))]) [] _ from ?_); refine awp_seq <| w_reg <| s_mov (.int .i64 0) rfl <| w_done <| k_seq <| awp_seq <| awp_seq <| w_reg <| s_mov (.int .i64 n_3) rfl <| s_q (.bool (decide (n_3 ≤ 1))) rfl rfl rfl <| w_done <| k_seq <| ?_
 rcases oi hf with ⟨c4, hf⟩ | ⟨c4, hf⟩
 ·refine w_condt rfl c4 <| awp_seq <| w_reg <| s_mov (.int .i64 0) rfl <| w_done <| k_seq <| w_ret <| ?_; obtain rfl := os hf; exact r_flat ⟨trivial, trivial⟩ rfl (.refl _)
 ·refine w_condf rfl (bf c4) <| w_skip <| k_seq <| awp_seq <| awp_seq <| w_reg <| s_mov (.lst 1 (more_1.map enc_u8)) rfl <| s_dof (o_len (enc := enc_u8) rfl) fun hl5 => s_q (.bool ((more_1.length : Int) == 0)) rfl rfl rfl <| w_done <| k_seq <| ?_
  rcases oi hf with ⟨c6, hf⟩ | ⟨c6, hf⟩
  ·refine w_condt rfl c6 <| awp_seq <| w_reg <| ?_
   obtain ⟨g7, hf⟩ := og hf
   refine s_mov (.int .i64 i_2) rfl <| s_q (.int .i64 (w64 (i_2 * 7))) rfl rfl rfl <| s_mov (.int .i64 n_3) rfl <| s_q (.int .i64 ((w64 (i_2 * 7)).tmod n_3)) rfl ⟨rfl, g7⟩ rfl <| s_mov (.int .i64 ((w64 (i_2 * 7)).tmod n_3)) rfl <| w_done <| k_seq <| w_ret <| ?_; obtain rfl := os hf; exact r_flat ⟨trivial, trivial⟩ rfl (.refl _)
  ·refine w_condf rfl (bf c6) <| w_skip <| k_seq <| awp_seq <| w_reg <| s_mov (.lst 1 (more_1.map enc_u8)) rfl <| s_mov (.int .i64 i_2) rfl <| s_mov (.lst 1 (more_1.map enc_u8)) rfl <| s_dof (o_len (enc := enc_u8) rfl) fun hl8 => ?_
   obtain ⟨g9, hf⟩ := og hf
   refine s_q (.int .i64 (i_2.tmod (more_1.length : Int))) rfl ⟨rfl, g9⟩ rfl ?_
   obtain ⟨x_10, ex11, hf⟩ := ob hf
   refine s_do (o_iaddr (enc := enc_u8) rfl rfl (idx0 ex11) (idx1 ex11)) <| s_q (.int .u8 x_10) rfl ⟨rfl, rfl⟩ rfl <| s_q (.int .i64 (w64 x_10)) rfl trivial rfl <| s_q (.int .i64 (w64 ((w64 x_10) * 31))) rfl rfl rfl <| s_mov (.lst 1 (more_1.map enc_u8)) rfl <| s_mov (.int .i64 i_2) rfl <| s_q (.int .i64 (w64 (i_2 + 1))) rfl rfl rfl <| s_mov (.lst 1 (more_1.map enc_u8)) rfl <| s_dof (o_len (enc := enc_u8) rfl) fun hl12 => ?_
   obtain ⟨g13, hf⟩ := og hf
   refine s_q (.int .i64 ((w64 (i_2 + 1)).tmod (more_1.length : Int))) rfl ⟨rfl, g13⟩ rfl ?_
   obtain ⟨x_14, ex15, hf⟩ := ob hf
   refine s_do (o_iaddr (enc := enc_u8) rfl rfl (idx0 ex15) (idx1 ex15)) <| s_q (.int .u8 x_14) rfl ⟨rfl, rfl⟩ rfl <| s_q (.int .i64 (w64 x_14)) rfl trivial rfl <| s_q (.int .i64 (w64 ((w64 ((w64 x_10) * 31)) + (w64 x_14)))) rfl rfl rfl <| s_mov (.int .i64 i_2) rfl <| s_mov (.lst 1 (more_1.map enc_u8)) rfl <| s_dof (o_len (enc := enc_u8) rfl) fun hl16 => ?_
   obtain ⟨g17, hf⟩ := og hf
   refine s_q (.int .i64 (w64 (i_2.tdiv (more_1.length : Int)))) rfl ⟨rfl, g17⟩ rfl <| s_q (.int .i64 (w64 ((w64 ((w64 ((w64 x_10) * 31)) + (w64 x_14))) + (w64 (i_2.tdiv (more_1.length : Int)))))) rfl rfl rfl <| s_mov (.int .i64 n_3) rfl <| ?_
   obtain ⟨g18, hf⟩ := og hf
   refine s_q (.int .i64 ((w64 ((w64 ((w64 ((w64 x_10) * 31)) + (w64 x_14))) + (w64 (i_2.tdiv (more_1.length : Int))))).tmod n_3)) rfl ⟨rfl, g18⟩ rfl <| s_mov (.int .i64 ((w64 ((w64 ((w64 ((w64 x_10) * 31)) + (w64 x_14))) + (w64 (i_2.tdiv (more_1.length : Int))))).tmod n_3)) rfl <| w_done <| k_seq <| w_ret <| ?_; obtain rfl := os hf; exact r_flat ⟨trivial, trivial⟩ rfl (.refl _)

/- slices.Clone[[]int,int] -/
def c120 : ACode :=
 (.seq (.reg (tm 2 (.c .nil) .done))
 (.seq (.seq (.reg (tm 3 (.t 0) (tq 4 (.isnil false (.t 3)) .done)))
 (.cond (.t 4) (.seq (.reg (tm 2 (.c .nil) .done))
 .ret)
 .skip))
 (.seq (.reg (tq 5 (.bslice 1 []) (tm 6 (.t 0) (tq 7 (.append 1 8 (.t 5) (.t 6)) (tm 2 (.t 7) .done)))))
 .ret)))
theorem fc120 : fcomp Try.prog Try.f120 = some (c120.erase, [.mov (.t 2)], 8) := by kernel_rfl
def slices_Clone_int_int (s_1 : (List Int)) : Option (List Int) :=
    if ([] ++ s_1).length ≤ 2 ^ 30 then
    some ([] ++ s_1)
    else none
theorem w_slices_Clone_int_int (s_1 : (List Int)) (r : (List Int)) (hf : slices_Clone_int_int s_1 = some r) : CallOK Try.prog 120 .fresh [(.lst 1 (s_1.map encI))] (.lst 1 (r.map encI)) := by
 refine CallOK.of_awp mixed Try.func120 fc120 nle ?_; rw [argT_eq]; unfold slices_Clone_int_int at hf; unfold c120; refine (show awp Try.prog true 0 _ (ofL [(0, (.lst 1 (s_1.map encI)))]) [] _ from ?_); refine awp_seq <| w_reg <| s_mov .nil rfl <| w_done <| k_seq <| awp_seq <| awp_seq <| w_reg <| s_mov (.lst 1 (s_1.map encI)) rfl <| s_isn (l := s_1.map encI) rfl <| ?_
 intro b hb3
 rcases b with _ | _
 ·refine w_done <| k_seq <| w_condf rfl rfl <| w_skip <| k_seq <| awp_seq <| w_reg <| ?_
  obtain ⟨g2, hf⟩ := og hf
  refine s_do (o_bslice (j := 0) (as' := []) rfl (fun _ => by decide) trivial (.refl _) rfl rfl rfl) ?_; refine s_mov (.lst 1 (s_1.map encI)) rfl ?_
  refine s_do (o_appendd (j := 1) (L := (([] ++ s_1).map encI)) (len := ([] ++ s_1).length) rfl false rfl rfl (fun _ => flm (fun _ => rfl) _) (fun _ _ _ => flm (fun _ => rfl) _) (by decide) ((by simp)) (by simp <;> omega) g2 rfl rfl) ?_
  refine s_mov (.own 1 0 (([] ++ s_1).length)) rfl <| w_done <| k_seq <| w_ret <| ?_; obtain rfl := os hf; exact r_fresh ⟨trivial, trivial⟩ rfl (by decide) (.of_eq (congrArg (AV.lst _) (tk (enc := encI) ([] ++ s_1))))
 ·have he4 : s_1 = [] := mapnil (hb3 rfl)
  have hE : (if ([] ++ s_1).length ≤ 2 ^ 30 then some ([] ++ s_1) else none) = (some []) := by simp [he4]
  rw [hE] at hf; refine w_done <| k_seq <| w_condt rfl rfl <| awp_seq <| w_reg <| s_mov .nil rfl <| w_done <| k_seq <| w_ret <| ?_; obtain rfl := os hf; exact r_fresh ⟨trivial, trivial⟩ rfl (by decide) (.nil _)

/- impl.copyLocks -/
def c98 : ACode :=
 (.seq (.reg (tm 2 (.c .nil) .done))
 (.seq (.reg (tq 6 (.bslice 2 []) (tm 3 (.t 6) .done)))
 (.seq (.seq (.reg (tm 7 (.t 0) (tq 8 (.len (.t 7)) (tm 9 (.c (.int .i64 0)) .done))))
 (.block 0 (.loop (.seq (.reg (tq 10 (.bin .lss (.t 9) (.t 8)) .done))
 (.seq (.cond (.t 10) .skip
 (.exit 0))
 (.seq (.block 1 (.seq (.reg (tq 11 (.iaddr 2 (.t 7) (.t 9)) (tq 12 (.load 2 true (.t 11)) (tq 5 (.box 2 (.c (.agg [(.str []), .nil]))) (.q ⟨none, none, .store 2 (.t 5) (.t 12)⟩
 .done)))))
 (.reg (tm 13 (.t 3) (tq 14 (.faddr 0 (.t 5)) (tq 15 (.load 1 false (.t 14)) (tq 16 (.faddr 1 (.t 5)) (tq 17 (.load 1 false (.t 16)) (.l ⟨(some 18), none, .call 120 [(.t 17)]⟩ [⟨(some 15), none, .load 1 false (.t 14)⟩, ⟨(some 14), none, .faddr 0 (.t 5)⟩]
 (tq 19 (.build [(.str []), .nil] [(0, 1, (.t 15)), (1, 1, (.t 18))]) (.l ⟨(some 20), none, .bslice 2 [(.t 19)]⟩ []
 (.l ⟨(some 21), none, .append 2 40 (.t 13) (.t 20)⟩ []
 (.l ⟨(some 3), none, .mov (.t 21)⟩ []
 .done .non) .non) .non)) .non)))))))))
 (.reg (tq 22 (.bin .add (.t 9) (.c (.int .i64 1))) (tm 9 (.t 22) .done)))))))))
 (.cut (.seq (.reg (tm 23 (.t 3) (tm 2 (.t 23) .done)))
 .ret)))))
theorem fc98 : fcomp Try.prog Try.f98 = some (c98.erase, [.mov (.t 2)], 24) := by kernel_rfl
def impl_copyLocks_L1  : List GLock → (List GLock) → Option (List GLock)
  | [], out_18 =>
    some out_18
  | x_33 :: xs, out_18 =>
    (slices_Clone_int_int x_33.Queue).bind fun r_34 =>
    if (out_18 ++ [(⟨x_33.Name, r_34⟩ : GLock)]).length ≤ 2 ^ 30 then
    impl_copyLocks_L1 xs  (out_18 ++ [(⟨x_33.Name, r_34⟩ : GLock)])
    else none

def impl_copyLocks (list_1 : (List GLock)) : Option (List GLock) :=
    (impl_copyLocks_L1 list_1 []).bind fun out_25 =>
    some out_25
theorem w_impl_copyLocks (list_1 : (List GLock)) (r : (List GLock)) (hf : impl_copyLocks list_1 = some r) : CallOK Try.prog 98 .fresh [(.lst 2 (list_1.map encGLock))] (.lst 2 (r.map encGLock)) := by
 refine CallOK.of_awp mixed Try.func98 fc98 nle ?_; rw [argT_eq]; unfold impl_copyLocks at hf; unfold c98; refine (show awp Try.prog true 0 _ (ofL [(0, (.lst 2 (list_1.map encGLock)))]) [] _ from ?_); refine awp_seq <| w_reg <| s_mov .nil rfl <| w_done <| k_seq <| awp_seq <| w_reg <| ?_; refine s_do (o_bslice (j := 0) (as' := []) rfl (fun _ => by decide) trivial (.refl _) rfl rfl rfl) ?_; refine s_mov (.own 0 0 0) rfl <| w_done <| k_seq <| awp_seq <| awp_seq <| w_reg <| s_mov (.lst 2 (list_1.map encGLock)) rfl <| s_dof (o_len (enc := encGLock) rfl) fun hl2 => s_mov (.int .i64 0) rfl <| w_done <| k_seq <| ?_
 obtain ⟨out_25, hb1, hf⟩ := ob hf
 refine awp_cut ([(3, (.own 0 0 out_25.length))], [.row 2 (out_25.map encGLock)]) ?_ ?_
 ·refine awp_loop (X := {q : (Nat × (List GLock)) // impl_copyLocks_L1 (list_1.drop q.1) q.2 = some out_25}) (fun q => ([(3, (.own 0 0 q.1.2.length)), (7, (.lst 2 (list_1.map encGLock))), (8, (.int .i64 (list_1.length : Int))), (9, (.int .i64 (q.1.1 : Int)))], [.row 2 (q.1.2.map encGLock)])) (fun q => list_1.length - q.1.1) ⟨(0, []), hb1⟩ ⟨[], [0], _, _, rfl, rfl, ⟨.of_eq (congrArg (AV.own _ 0) (by simp)), ⟨.refl _, ⟨.refl _, ⟨.refl _, trivial⟩⟩⟩⟩, (.refl _)⟩ ?_
  rintro ⟨⟨s9_17, out_18⟩, hc1⟩
  have hc1 : impl_copyLocks_L1 (list_1.drop s9_17) out_18 = some out_25 := hc1
  refine (show awp Try.prog true 0 _ (ofL [(3, (.own 0 0 out_18.length)), (7, (.lst 2 (list_1.map encGLock))), (8, (.int .i64 (list_1.length : Int))), (9, (.int .i64 (s9_17 : Int)))]) [.row 2 (out_18.map encGLock)] _ from ?_)
  rcases dropc list_1 s9_17 with ⟨hie29, hd32⟩ | ⟨hlt27, x_33, hx28, hd32⟩
  ·rw [hd32, impl_copyLocks_L1.eq_1] at hc1
   have hq31 := dlf hie29
   refine awp_seq <| w_reg <| s_q (.bool (decide ((s9_17 : Int) < (list_1.length : Int)))) rfl rfl rfl <| w_done <| k_seq <| awp_seq <| w_condf rfl hq31 <| w_exit <| k_seqx <| k_loopx <| k_blkx <| ?_; obtain rfl := os hc1; exact ⟨[], [0], _, _, rfl, rfl, ⟨.refl _, trivial⟩, (.refl _)⟩
  ·rw [hd32, impl_copyLocks_L1.eq_2] at hc1
   have hq31 := dlt hlt27
   refine awp_seq <| w_reg <| s_q (.bool (decide ((s9_17 : Int) < (list_1.length : Int)))) rfl rfl rfl <| w_done <| k_seq <| awp_seq <| w_condt rfl hq31 <| w_skip <| k_seq <| awp_seq <| w_blk <| awp_seq <| w_reg <| s_do (o_iaddrn (enc := encGLock) rfl rfl hx28) <| s_q (encGLock x_33) rfl nle rfl <| s_do (o_box (j := 1) (c := (.agg [(.str []), .nil])) rfl trivial rfl rfl) <| s_do0 (o_storebox (v := (.agg [(.str x_33.Name), (.lst 1 (x_33.Queue.map encI))])) (y' := (.agg [(.str x_33.Name), (.lst 1 (x_33.Queue.map encI))])) rfl rfl rfl trivial ⟨rfl, nle⟩ ⟨⟨rfl, trivial⟩, ⟨⟨rfl, trivial⟩, trivial⟩⟩ rfl) <| w_done <| k_seq <| w_reg <| ?_
   obtain ⟨r_34, er35, hc1⟩ := ob hc1
   obtain ⟨g36, hc1⟩ := og hc1
   refine s_mov (.own 0 0 out_18.length) rfl <| s_q (.ptr 1 0 0) rfl trivial rfl <| s_q (.str x_33.Name) rfl nle rfl <| s_q (.ptr 1 0 1) rfl trivial rfl <| s_q (.lst 1 (x_33.Queue.map encI)) rfl nle rfl <| s_dol (o_callf (v := (.own 2 0 r_34.length)) (h' := [.row 1 (r_34.map encI)]) (w_slices_Clone_int_int _ _ er35) rfl (.refl _) (by simp only [openV, openVs, List.length_map, List.nil_append, List.append_nil, List.cons_append]; rfl)) (.inr ⟨⟨nle, rfl⟩, ⟨⟨trivial, rfl⟩, trivial⟩⟩) trivial <| s_q (.agg [(.str x_33.Name), (.own 2 0 r_34.length)]) rfl ⟨⟨rfl, nle, trivial⟩, ⟨⟨rfl, nle, trivial⟩, trivial⟩⟩ rfl <| ?_; refine s_dol (o_bslice (j := 3) (as' := [(encGLock (⟨x_33.Name, r_34⟩ : GLock))]) rfl (fun _ => by decide) ⟨rfl, trivial⟩ (.cons (.agg (.cons (.refl _) (.cons (.of_eq (congrArg (AV.lst _) (tk (enc := encI) r_34))) .nil))) .nil) rfl rfl rfl) trivial trivial ?_
   refine s_dol (o_appendd (j := 4) (L := ((out_18 ++ [(⟨x_33.Name, r_34⟩ : GLock)]).map encGLock)) (len := (out_18 ++ [(⟨x_33.Name, r_34⟩ : GLock)]).length) rfl true rfl rfl (fun h => Bool.noConfusion h) (fun _ _ h => (ownl (show AV.own _ _ _ = AV.lst _ _ from h)).elim) (by decide) (apoc (enc := encGLock) out_18 [(⟨x_33.Name, r_34⟩ : GLock)] _ (by rfl)) (by simp <;> omega) g36 rfl rfl) trivial trivial ?_
   refine s_dol (o_mov (.own 4 0 ((out_18 ++ [(⟨x_33.Name, r_34⟩ : GLock)]).length)) rfl) a_same trivial <| w_done <| k_blk <| k_seq <| w_reg <| s_q (.int .i64 (w64 ((s9_17 : Int) + 1))) rfl rfl rfl <| s_mov (.int .i64 (w64 ((s9_17 : Int) + 1))) rfl <| w_done <| ?_; exact k_loopn ⟨((s9_17 + 1), out_18 ++ [(⟨x_33.Name, r_34⟩ : GLock)]), hc1⟩ (mul hlt27) ⟨[], [4], _, _, rfl, rfl, ⟨.refl _, ⟨.refl _, ⟨.refl _, ⟨.of_eq (congrArg (AV.int _) (w64_incr hlt27 hl2)), trivial⟩⟩⟩⟩, (.refl _)⟩
 ·refine awp_seq <| w_reg <| s_mov (.own 0 0 out_25.length) rfl <| s_mov (.own 0 0 out_25.length) rfl <| w_done <| k_seq <| w_ret <| ?_; obtain rfl := os hf; exact r_fresh ⟨trivial, trivial⟩ rfl (by decide) (.of_eq (congrArg (AV.lst _) (tk (enc := encGLock) out_25)))

/- internal/bytealg.CompareString -/
def internal_bytealg_CompareString (a b : Str) : Option Int := some (Lib.compareBytes a b)
set_option maxRecDepth 100000 in
open Go.RowKit in
theorem cmps_run (a b : ByteArray) (w : World) : Calls Try.prog 251 #[.string a, .string b] w fun e w' => e = .returned (.int .i64 (Lib.compareBytes a.data.toList b.data.toList)) ∧ w' = w := by
  go_enter Try.func251, (show Try.f251.ntmps = _ from rfl)
  go_wp2
  rw [run_callFunc_extern Try.func272 (by kernel_rfl) (by kernel_rfl) (by kernel_rfl) (e := Extern.BytealgCompare.compare) (by kernel_rfl), Lib.run_compareString]
  simp only [Result.andThen]
  rw [Oper.upon_value]
  go_wp2
  go_ret
  exact ⟨rfl, rfl⟩
open Go.RowKit in
theorem w_internal_bytealg_CompareString (a b : Str) (r : Int) (hf : internal_bytealg_CompareString a b = some r) : CallOK Try.prog 251 .flat [(.str a), (.str b)] (.int .i64 r) := by
  intro w vals fps hr
  simp only [RepVs, Rep] at hr
  obtain ⟨v1, vs1, f1, f2, rfl, ⟨rfl, h1, rfl⟩, ⟨v2, vs2, f3, f4, rfl, ⟨rfl, h2, rfl⟩, ⟨rfl, rfl⟩, rfl⟩, rfl⟩ := hr
  unfold internal_bytealg_CompareString at hf
  obtain rfl := os hf
  refine (cmps_run ⟨a.toArray⟩ ⟨b.toArray⟩ w).mono ?_
  rintro e w' ⟨rfl, rfl⟩
  refine ⟨Below.refl _ _, ?_⟩
  exact ⟨[.int .i64 (Lib.compareBytes a b)], rfl, by simp [Rep]⟩

/- strings.Compare -/
def c184 : ACode :=
 (.seq (.reg (tm 4 (.c (.int .i64 0)) .done))
 (.seq (.reg (tm 5 (.t 0) (tm 6 (.t 1) (tq 7 (.call 251 [(.t 5), (.t 6)]) (tm 4 (.t 7) .done)))))
 .ret))
theorem fc184 : fcomp Try.prog Try.f184 = some (c184.erase, [.mov (.t 4)], 8) := by kernel_rfl
def strings_Compare (a_1 : Str) (b_2 : Str) : Option Int :=
    (internal_bytealg_CompareString a_1 b_2).bind fun r_3 =>
    some r_3
theorem w_strings_Compare (a_1 : Str) (b_2 : Str) (r : Int) (hf : strings_Compare a_1 b_2 = some r) : CallOK Try.prog 184 .flat [(.str a_1), (.str b_2)] (.int .i64 r) := by
  refine CallOK.of_awp mixed Try.func184 fc184 nle ?_
  rw [argT_eq]
  unfold strings_Compare at hf
  unfold c184
  refine (show awp Try.prog false 0 _ (ofL [(0, (.str a_1)), (1, (.str b_2))]) [] _ from ?_)
  refine awp_seq ?_
  refine w_reg ?_
  refine s_do (o_mov (.int .i64 0) rfl) ?_
  refine w_done ?_
  refine k_seq ?_
  refine awp_seq ?_
  refine w_reg ?_
  obtain ⟨r_3, er4, hf⟩ := ob hf
  refine s_do (o_mov (.str a_1) rfl) ?_
  refine s_do (o_mov (.str b_2) rfl) ?_
  refine s_do (o_call (w_internal_bytealg_CompareString _ _ _ er4) rfl (.refl _) rfl) ?_
  refine s_do (o_mov (.int .i64 r_3) rfl) ?_
  refine w_done ?_
  refine k_seq ?_
  refine w_ret ?_
  obtain rfl := os hf
  exact r_flat ⟨trivial, trivial⟩ rfl (.refl _)

/- impl.leave$1 -/
def c186 : ACode :=
 (.seq (.reg (tm 3 (.c (.bool false)) .done))
 (.seq (.reg (tm 4 (.t 0) (tq 5 (.load 1 false (.t 1)) (tq 6 (.bin .eql (.t 4) (.t 5)) (tm 3 (.t 6) .done)))))
 .ret))
theorem fc186 : fcomp Try.prog Try.f186 = some (c186.erase, [.mov (.t 3)], 7) := by kernel_rfl
def impl_leave_1 (own_1 : Int) (cap_2 : Int) : Option Bool :=
    some (own_1 == cap_2)
theorem w_impl_leave_1 (own_1 : Int) (cap_2 : Int) (r : Bool) (hf : impl_leave_1 own_1 cap_2 = some r) : CallOK Try.prog 186 .flat [(.int .i64 own_1), (.iptr (.int .i64 cap_2) 0)] (.bool r) := by
  refine CallOK.of_awp mixed Try.func186 fc186 nle ?_
  rw [argT_eq]
  unfold impl_leave_1 at hf
  unfold c186
  refine (show awp Try.prog false 0 _ (ofL [(0, (.int .i64 own_1)), (1, (.iptr (.int .i64 cap_2) 0))]) [] _ from ?_)
  refine awp_seq ?_
  refine w_reg ?_
  refine s_do (o_mov (.bool false) rfl) ?_
  refine w_done ?_
  refine k_seq ?_
  refine awp_seq ?_
  refine w_reg ?_
  refine s_do (o_mov (.int .i64 own_1) rfl) ?_
  refine s_do (o_q (.int .i64 cap_2) rfl ⟨rfl, rfl⟩ rfl) ?_
  refine s_do (o_q (.bool (own_1 == cap_2)) rfl rfl rfl) ?_
  refine s_do (o_mov (.bool (own_1 == cap_2)) rfl) ?_
  refine w_done ?_
  refine k_seq ?_
  refine w_ret ?_
  obtain rfl := os hf
  exact r_flat ⟨trivial, trivial⟩ rfl (.refl _)

/- impl.lockAt$1 -/
def c183_h0 : ACode :=
 (.seq (.reg (tq 2 (.box 2 (.t 0)) (tm 4 (.c (.int .i64 0)) .done)))
 (.seq (.reg (tq 5 (.faddr 0 (.t 2)) (tq 6 (.load 1 false (.t 5)) (tm 7 (.t 1) (tq 8 (.call 184 [(.t 6), (.t 7)]) (tm 4 (.t 8) .done))))))
 .ret))
theorem fc183_h0 : fcomp Try.prog Try.f183 = some (c183_h0.erase, [.mov (.t 4)], 9) := by kernel_rfl
def impl_lockAt_1_h0 (c_1 : Str) (c_2 : (List Int)) (name_3 : Str) : Option Int :=
    (strings_Compare c_1 name_3).bind fun r_4 =>
    some r_4
theorem w_impl_lockAt_1_h0 (c_1 : Str) (c_2 : (List Int)) (name_3 : Str) (r : Int) (hf : impl_lockAt_1_h0 c_1 c_2 name_3 = some r) : CallHeap Try.prog ⟨true, true⟩ 183 [(.agg [(.str c_1), (.own 0 0 c_2.length)]), (.str name_3)] [.row 1 (c_2.map encI)] (.int .i64 r) [.row 1 (c_2.map encI)] := by
  refine CallHeap.of_awp mixed Try.func183 fc183_h0 nle ?_
  rw [argT_eq]
  unfold impl_lockAt_1_h0 at hf
  unfold c183_h0
  refine (show awp Try.prog ⟨true, true⟩ 1 _ (ofL [(0, (.agg [(.str c_1), (.own 0 0 c_2.length)])), (1, (.str name_3))]) [.row 1 (c_2.map encI)] _ from ?_)
  refine awp_seq ?_
  refine w_reg ?_
  refine s_do (o_box (j := 1) (c := (.agg [(.str c_1), (.own 0 0 c_2.length)])) rfl trivial rfl rfl) ?_
  refine s_do (o_mov (.int .i64 0) rfl) ?_
  refine w_done ?_
  refine k_seq ?_
  refine awp_seq ?_
  refine w_reg ?_
  obtain ⟨r_4, er5, hf⟩ := ob hf
  refine s_do (o_q (.ptr 1 0 0) rfl (.of trivial trivial) rfl) ?_
  refine s_do (o_q (.str c_1) rfl (.of nle trivial) rfl) ?_
  refine s_do (o_mov (.str name_3) rfl) ?_
  refine s_do (o_call (w_strings_Compare _ _ _ er5) rfl (.refl _) rfl) ?_
  refine s_do (o_mov (.int .i64 r_4) rfl) ?_
  refine w_done ?_
  refine k_seq ?_
  refine w_ret ?_
  obtain rfl := os hf
  exact r_heap [] [0] rfl ⟨.of trivial trivial, trivial⟩ rfl (.refl _) (.refl _)

/- slices.BinarySearchFunc[[]impl.Lock,impl.Lock,string] -/
def c182_h0 : ACode :=
 (.seq (.reg (tm 6 (.c (.int .i64 0)) (tm 7 (.c (.bool false)) .done)))
 (.seq (.reg (tm 12 (.t 0) (tq 13 (.len (.t 12)) (tm 8 (.t 13) .done))))
 (.seq (.reg (tm 14 (.t 8) (tm 9 (.c (.int .i64 0)) (tm 10 (.t 14) .done))))
 (.seq (.block 0 (.loop (.seq (.seq (.reg (tm 15 (.t 9) (tm 16 (.t 10) (tq 17 (.bin .lss (.t 15) (.t 16)) .done))))
 (.cond (.t 17) .skip
 (.exit 0)))
 (.block 1 (.seq (.reg (tm 18 (.t 9) (tm 19 (.t 10) (tq 20 (.bin .add (.t 18) (.t 19)) (tq 21 (.convI .u64 (.t 20)) (tq 22 (.bin .shr (.t 21) (.c (.int .u64 1))) (tq 23 (.convI .i64 (.t 22)) (tm 11 (.t 23) .done))))))))
 (.seq (.rev (.reg (tm 24 (.t 2) (tm 25 (.t 0) (tm 26 (.t 11) (tq 27 (.iaddr 2 (.t 25) (.t 26)) (tq 28 (.load 2 true (.t 27)) (tm 29 (.t 1) (tq 30 (.calv (.t 24) [(.t 28), (.t 29)]) (tq 31 (.bin .lss (.t 30) (.c (.int .i64 0))) .done))))))))))
 (.cond (.t 31) (.reg (tm 32 (.t 11) (tq 33 (.bin .add (.t 32) (.c (.int .i64 1))) (tm 9 (.t 33) .done))))
 (.reg (tm 34 (.t 11) (tm 10 (.t 34) .done))))))))))
 (.cut (.seq (.rev (.reg (tm 35 (.t 9) (tm 36 (.t 9) (tm 37 (.t 8) (tq 38 (.bin .lss (.t 36) (.t 37)) (tm 39 (.t 38) (tg 40 39 true (.mov (.t 2)) (tg 41 39 true (.mov (.t 0)) (tg 42 39 true (.mov (.t 9)) (tg 43 39 true (.iaddr 2 (.t 41) (.t 42)) (tg 44 39 true (.load 2 true (.t 43)) (tg 45 39 true (.mov (.t 1)) (tg 46 39 true (.calv (.t 40) [(.t 44), (.t 45)]) (tg 47 39 true (.bin .eql (.t 46) (.c (.int .i64 0))) (tq 48 (.pick (.t 39) (.t 47) (.c (.bool false))) (tm 6 (.t 35) (tm 7 (.t 48) .done))))))))))))))))))
 (.rev .ret)))))))
theorem fc182_h0 : fcomp Try.prog Try.f182 = some (c182_h0.erase, [.mov (.t 6), .mov (.t 7)], 49) := by kernel_rfl
def slices_BinarySearchFunc_impl_Lock_impl_Lock_string_h0_L1 (x_1 : (List GLock)) (target_2 : Str) : Nat → Int → Int → Option Int
  | 0, _, _ => none
  | k + 1, i_50, j_51 =>
    if (decide (i_50 < j_51)) then
    ((x_1[(0 + (w64 (Int.fdiv (IntKind.u64.wrap (w64 (i_50 + j_51))) (2 ^ (min (Int.toNat 1) (IntKind.bits .u64))))).toNat)]?)).bind fun x_64 =>
    if (0 : Int) ≤ w64 (Int.fdiv (IntKind.u64.wrap (w64 (i_50 + j_51))) (2 ^ (min (Int.toNat 1) (IntKind.bits .u64)))) ∧ w64 (Int.fdiv (IntKind.u64.wrap (w64 (i_50 + j_51))) (2 ^ (min (Int.toNat 1) (IntKind.bits .u64)))) < (x_1.length : Int) then
    (impl_lockAt_1_h0 x_64.Name x_64.Queue target_2).bind fun r_67 =>
    if (decide (r_67 < 0)) then
    slices_BinarySearchFunc_impl_Lock_impl_Lock_string_h0_L1 x_1 target_2 k (w64 ((w64 (Int.fdiv (IntKind.u64.wrap (w64 (i_50 + j_51))) (2 ^ (min (Int.toNat 1) (IntKind.bits .u64))))) + 1)) j_51
    else
    slices_BinarySearchFunc_impl_Lock_impl_Lock_string_h0_L1 x_1 target_2 k i_50 (w64 (Int.fdiv (IntKind.u64.wrap (w64 (i_50 + j_51))) (2 ^ (min (Int.toNat 1) (IntKind.bits .u64)))))
    else none
    else
    some i_50

def slices_BinarySearchFunc_impl_Lock_impl_Lock_string_h0 (x_1 : (List GLock)) (target_2 : Str) : Option (Int × Bool) :=
    (slices_BinarySearchFunc_impl_Lock_impl_Lock_string_h0_L1 x_1 target_2 FUEL 0 (x_1.length : Int)).bind fun i_60 =>
    onIdx (x_1[(0 + i_60.toNat)]?) (fun x_72 =>
    if (decide (i_60 < (x_1.length : Int))) then
    if (0 : Int) ≤ i_60 ∧ i_60 < (x_1.length : Int) then
    (impl_lockAt_1_h0 x_72.Name x_72.Queue target_2).bind fun r_76 =>
    some (i_60, (r_76 == 0))
    else none
    else
    some (i_60, false)) (
    if (decide (i_60 < (x_1.length : Int))) then
    if (0 : Int) ≤ i_60 ∧ i_60 < (x_1.length : Int) then
    none
    else none
    else
    some (i_60, false))
theorem w_slices_BinarySearchFunc_impl_Lock_impl_Lock_string_h0 (x_1 : (List GLock)) (target_2 : Str) (r : (Int × Bool)) (hf : slices_BinarySearchFunc_impl_Lock_impl_Lock_string_h0 x_1 target_2 = some r) : CallHeap Try.prog ⟨true, true⟩ 182 [(.own 0 0 x_1.length), (.str target_2), (.fn 183 [])] [.row 2 (x_1.map encGLock)] (.tup [(.int .i64 r.1), (.bool r.2)]) [.row 2 (x_1.map encGLock)] := by
 refine CallHeap.of_awp mixed Try.func182 fc182_h0 nle ?_; rw [argT_eq]; unfold slices_BinarySearchFunc_impl_Lock_impl_Lock_string_h0 at hf; unfold c182_h0; refine (show awp Try.prog ⟨true, true⟩ 1 _ (ofL [(0, (.own 0 0 x_1.length)), (1, (.str target_2)), (2, (.fn 183 []))]) [.row 2 (x_1.map encGLock)] _ from ?_); refine awp_seq <| w_reg <| s_mov (.int .i64 0) rfl <| s_mov (.bool false) rfl <| w_done <| k_seq <| awp_seq <| w_reg <| s_mov (.own 0 0 x_1.length) rfl <| s_dof (o_lenown rfl rfl) fun hl3 => s_mov (.int .i64 (x_1.length : Int)) rfl <| w_done <| k_seq <| awp_seq <| w_reg <| s_mov (.int .i64 (x_1.length : Int)) rfl <| s_mov (.int .i64 0) rfl <| s_mov (.int .i64 (x_1.length : Int)) rfl <| w_done <| k_seq <| awp_seq <| ?_
 obtain ⟨i_60, hb1, hf⟩ := ob hf
 refine awp_cut ([(0, (.own 0 0 x_1.length)), (1, (.str target_2)), (2, (.fn 183 [])), (8, (.int .i64 (x_1.length : Int))), (9, (.int .i64 i_60))], [.row 2 (x_1.map encGLock)]) ?_ ?_
 ·refine awp_loop (X := {q : (Nat × Int × Int) // slices_BinarySearchFunc_impl_Lock_impl_Lock_string_h0_L1 x_1 target_2 q.1 q.2.1 q.2.2 = some i_60}) (fun q => ([(0, (.own 0 0 x_1.length)), (1, (.str target_2)), (2, (.fn 183 [])), (8, (.int .i64 (x_1.length : Int))), (9, (.int .i64 q.1.2.1)), (10, (.int .i64 q.1.2.2))], [.row 2 (x_1.map encGLock)])) (fun q => q.1.1) ⟨(FUEL, 0, (x_1.length : Int)), hb1⟩ ⟨[], [0], _, _, rfl, rfl, ⟨.refl _, ⟨.refl _, ⟨.refl _, ⟨.refl _, ⟨.refl _, ⟨.refl _, trivial⟩⟩⟩⟩⟩⟩, (.refl _)⟩ ?_
  rintro ⟨⟨k, i_50, j_51⟩, hc1⟩
  have hc1 : slices_BinarySearchFunc_impl_Lock_impl_Lock_string_h0_L1 x_1 target_2 k i_50 j_51 = some i_60 := hc1
  refine (show awp Try.prog ⟨true, true⟩ 1 _ (ofL [(0, (.own 0 0 x_1.length)), (1, (.str target_2)), (2, (.fn 183 [])), (8, (.int .i64 (x_1.length : Int))), (9, (.int .i64 i_50)), (10, (.int .i64 j_51))]) [.row 2 (x_1.map encGLock)] _ from ?_)
  rcases k with _ | k
  ·rw [slices_BinarySearchFunc_impl_Lock_impl_Lock_string_h0_L1.eq_1] at hc1
   cases hc1
  ·rw [slices_BinarySearchFunc_impl_Lock_impl_Lock_string_h0_L1.eq_2] at hc1; refine awp_seq <| awp_seq <| w_reg <| s_mov (.int .i64 i_50) rfl <| s_mov (.int .i64 j_51) rfl <| s_q (.bool (decide (i_50 < j_51))) rfl (.of rfl trivial) rfl <| w_done <| k_seq <| ?_
   rcases oi hc1 with ⟨c62, hc1⟩ | ⟨c62, hc1⟩
   ·refine w_condt rfl c62 <| w_skip <| k_seq <| w_blk <| awp_seq <| w_reg <| s_mov (.int .i64 i_50) rfl <| s_mov (.int .i64 j_51) rfl <| s_q (.int .i64 (w64 (i_50 + j_51))) rfl (.of rfl trivial) rfl <| s_q (.int .u64 (IntKind.u64.wrap (w64 (i_50 + j_51)))) rfl (.of trivial trivial) rfl <| ?_; refine s_do (o_q (.int .u64 (Int.fdiv (IntKind.u64.wrap (w64 (i_50 + j_51))) (2 ^ (min (Int.toNat 1) (IntKind.bits .u64))))) rfl (.of (show (0:Int) ≤ 1 by decide) trivial) rfl) ?_; refine s_q (.int .i64 (w64 (Int.fdiv (IntKind.u64.wrap (w64 (i_50 + j_51))) (2 ^ (min (Int.toNat 1) (IntKind.bits .u64)))))) rfl (.of trivial trivial) rfl <| s_mov (.int .i64 (w64 (Int.fdiv (IntKind.u64.wrap (w64 (i_50 + j_51))) (2 ^ (min (Int.toNat 1) (IntKind.bits .u64)))))) rfl <| ?_
    refine w_done <| k_seq <| awp_seq <| ?_
    obtain ⟨x_64, ex65, hc1⟩ := ob hc1
    refine w_opn (o := 0) (i := (0 + (w64 (Int.fdiv (IntKind.u64.wrap (w64 (i_50 + j_51))) (2 ^ (min (Int.toNat 1) (IntKind.bits .u64))))).toNat)) (el := (.agg [(.str x_64.Name), (.lst 1 (x_64.Queue.map encI))])) (el2 := (.agg [(.str x_64.Name), (.own 1 0 x_64.Queue.length)])) (xs := [.row 1 (x_64.Queue.map encI)]) rfl rfl rfl ex65 rfl (by simp only [AV.cells, openVs, openV, List.length_map, List.nil_append, List.append_nil, List.cons_append]; rfl) <| w_reg <| ?_
    obtain ⟨g66, hc1⟩ := og hc1
    obtain ⟨r_67, er68, hc1⟩ := ob hc1
    refine s_mov (.fn 183 []) rfl <| s_mov (.own 0 0 x_1.length) rfl <| s_mov (.int .i64 (w64 (Int.fdiv (IntKind.u64.wrap (w64 (i_50 + j_51))) (2 ^ (min (Int.toNat 1) (IntKind.bits .u64)))))) rfl <| s_do (o_iaddrx rfl rfl g66.1 g66.2 rfl rfl) <| s_do (o_loadx rfl rfl nle rfl) <| s_mov (.str target_2) rfl <| ?_; refine s_do (o_calvh (v := (.int .i64 r_67)) (h2 := [.rowx 2 (x_1.map encGLock) (0 + (w64 (Int.fdiv (IntKind.u64.wrap (w64 (i_50 + j_51))) (2 ^ (min (Int.toNat 1) (IntKind.bits .u64))))).toNat) (.agg [(.str x_64.Name), (.own 1 0 x_64.Queue.length)]), .row 1 (x_64.Queue.map encI)]) [] [1] (fun _ => rfl) rfl (by kernel_rfl) (w_impl_lockAt_1_h0 _ _ _ _ er68) rfl rfl (.refl _) (.refl _) rfl rfl) ?_; refine s_q (.bool (decide (r_67 < 0))) rfl (.of rfl trivial) rfl ?_
    refine w_done <| k_seq <| ?_
    rcases oi hc1 with ⟨c69, hc1⟩ | ⟨c69, hc1⟩
    ·refine w_condt rfl c69 <| w_reg <| s_mov (.int .i64 (w64 (Int.fdiv (IntKind.u64.wrap (w64 (i_50 + j_51))) (2 ^ (min (Int.toNat 1) (IntKind.bits .u64)))))) rfl <| s_q (.int .i64 (w64 ((w64 (Int.fdiv (IntKind.u64.wrap (w64 (i_50 + j_51))) (2 ^ (min (Int.toNat 1) (IntKind.bits .u64))))) + 1))) rfl (.of rfl trivial) rfl <| s_mov (.int .i64 (w64 ((w64 (Int.fdiv (IntKind.u64.wrap (w64 (i_50 + j_51))) (2 ^ (min (Int.toNat 1) (IntKind.bits .u64))))) + 1))) rfl <| w_done <| k_blk <| ?_; exact k_loopn ⟨(k, w64 ((w64 (Int.fdiv (IntKind.u64.wrap (w64 (i_50 + j_51))) (2 ^ (min (Int.toNat 1) (IntKind.bits .u64))))) + 1), j_51), hc1⟩ (Nat.lt_succ_self _) ⟨[.cls 0], [0], _, _, rfl, rfl, ⟨.refl _, ⟨.refl _, ⟨.refl _, ⟨.refl _, ⟨.refl _, ⟨.refl _, trivial⟩⟩⟩⟩⟩⟩, (.cons ((leo_cls0 ex65 (.agg (.cons (.refl _) (.cons (.of_eq (congrArg (AV.lst _) (tk (enc := encI) x_64.Queue))) .nil))))) .nil)⟩
    ·refine w_condf rfl (bf c69) <| w_reg <| s_mov (.int .i64 (w64 (Int.fdiv (IntKind.u64.wrap (w64 (i_50 + j_51))) (2 ^ (min (Int.toNat 1) (IntKind.bits .u64)))))) rfl <| s_mov (.int .i64 (w64 (Int.fdiv (IntKind.u64.wrap (w64 (i_50 + j_51))) (2 ^ (min (Int.toNat 1) (IntKind.bits .u64)))))) rfl <| w_done <| k_blk <| ?_; exact k_loopn ⟨(k, i_50, w64 (Int.fdiv (IntKind.u64.wrap (w64 (i_50 + j_51))) (2 ^ (min (Int.toNat 1) (IntKind.bits .u64))))), hc1⟩ (Nat.lt_succ_self _) ⟨[.cls 0], [0], _, _, rfl, rfl, ⟨.refl _, ⟨.refl _, ⟨.refl _, ⟨.refl _, ⟨.refl _, ⟨.refl _, trivial⟩⟩⟩⟩⟩⟩, (.cons ((leo_cls0 ex65 (.agg (.cons (.refl _) (.cons (.of_eq (congrArg (AV.lst _) (tk (enc := encI) x_64.Queue))) .nil))))) .nil)⟩
   ·refine w_condf rfl (bf c62) <| w_exit <| k_seqx <| k_loopx <| k_blkx <| ?_; obtain rfl := os hc1; exact ⟨[], [0], _, _, rfl, rfl, ⟨.refl _, ⟨.refl _, ⟨.refl _, ⟨.refl _, ⟨.refl _, trivial⟩⟩⟩⟩⟩, (.refl _)⟩
 ·refine awp_seq ?_
  rcases oo hf with ⟨x_72, ex73, hf⟩ | ⟨ex73, hf⟩
  ·refine w_opn (o := 0) (i := (0 + i_60.toNat)) (el := (.agg [(.str x_72.Name), (.lst 1 (x_72.Queue.map encI))])) (el2 := (.agg [(.str x_72.Name), (.own 1 0 x_72.Queue.length)])) (xs := [.row 1 (x_72.Queue.map encI)]) rfl rfl rfl ex73 rfl (by simp only [AV.cells, openVs, openV, List.length_map, List.nil_append, List.append_nil, List.cons_append]; rfl) <| w_reg <| s_mov (.int .i64 i_60) rfl <| s_mov (.int .i64 i_60) rfl <| s_mov (.int .i64 (x_1.length : Int)) rfl <| s_q (.bool (decide (i_60 < (x_1.length : Int)))) rfl (.of rfl trivial) rfl <| s_mov (.bool (decide (i_60 < (x_1.length : Int)))) rfl <| ?_
   rcases oi hf with ⟨c74, hf⟩ | ⟨c74, hf⟩
   ·refine s_lit (s := 39) (b := true) rfl c74 <| s_on rfl <| s_mov (.fn 183 []) rfl <| s_on rfl <| s_mov (.own 0 0 x_1.length) rfl <| s_on rfl <| s_mov (.int .i64 i_60) rfl <| s_on rfl <| ?_
    obtain ⟨g75, hf⟩ := og hf
    refine s_do (o_iaddrx rfl rfl g75.1 g75.2 rfl rfl) <| s_on rfl <| s_do (o_loadx rfl rfl nle rfl) <| s_on rfl <| s_mov (.str target_2) rfl <| s_on rfl <| ?_
    obtain ⟨r_76, er77, hf⟩ := ob hf
    refine s_do (o_calvh (v := (.int .i64 r_76)) (h2 := [.rowx 2 (x_1.map encGLock) (0 + i_60.toNat) (.agg [(.str x_72.Name), (.own 1 0 x_72.Queue.length)]), .row 1 (x_72.Queue.map encI)]) [] [1] (fun _ => rfl) rfl (by kernel_rfl) (w_impl_lockAt_1_h0 _ _ _ _ er77) rfl rfl (.refl _) (.refl _) rfl rfl) ?_; refine s_on rfl <| s_q (.bool (r_76 == 0)) rfl (.of rfl trivial) rfl <| s_q (.bool (r_76 == 0)) rfl (.of trivial trivial) rfl <| s_mov (.int .i64 i_60) rfl <| s_mov (.bool (r_76 == 0)) rfl <| w_done <| k_seq <| w_cls0 (o := 0) (h2 := [.rowx 2 (x_1.map encGLock) (0 + i_60.toNat) (.agg [(.str x_72.Name), (.own 1 0 x_72.Queue.length)]), .dead]) ex73 rfl rfl rfl (.agg (.cons (.refl _) (.cons (.of_eq (congrArg (AV.lst _) (tk (enc := encI) x_72.Queue))) .nil))) rfl <| ?_
    refine w_ret ?_; obtain rfl := os hf; exact r_heap [] [0] rfl ⟨.of trivial trivial, ⟨.of trivial trivial, trivial⟩⟩ rfl (.refl _) (.refl _)
   ·refine s_lit (s := 39) (b := false) rfl (bf c74) <| s_off rfl rfl <| s_off rfl rfl <| s_off rfl rfl <| s_off rfl rfl <| s_off rfl rfl <| s_off rfl rfl <| s_off rfl rfl <| s_off rfl rfl <| s_q (.bool false) rfl (.of trivial trivial) rfl <| s_mov (.int .i64 i_60) rfl <| s_mov (.bool false) rfl <| w_done <| k_seq <| w_cls0 (o := 0) (h2 := [.rowx 2 (x_1.map encGLock) (0 + i_60.toNat) (.agg [(.str x_72.Name), (.own 1 0 x_72.Queue.length)]), .dead]) ex73 rfl rfl rfl (.agg (.cons (.refl _) (.cons (.of_eq (congrArg (AV.lst _) (tk (enc := encI) x_72.Queue))) .nil))) rfl <| w_ret <| ?_; obtain rfl := os hf; exact r_heap [] [0] rfl ⟨.of trivial trivial, ⟨.of trivial trivial, trivial⟩⟩ rfl (.refl _) (.refl _)
  ·refine w_rev0 <| w_reg <| s_mov (.int .i64 i_60) rfl <| s_mov (.int .i64 i_60) rfl <| s_mov (.int .i64 (x_1.length : Int)) rfl <| s_q (.bool (decide (i_60 < (x_1.length : Int)))) rfl (.of rfl trivial) rfl <| s_mov (.bool (decide (i_60 < (x_1.length : Int)))) rfl <| ?_
   rcases oi hf with ⟨c78, hf⟩ | ⟨c78, hf⟩
   ·refine s_lit (s := 39) (b := true) rfl c78 <| s_on rfl <| s_mov (.fn 183 []) rfl <| s_on rfl <| s_mov (.own 0 0 x_1.length) rfl <| s_on rfl <| s_mov (.int .i64 i_60) rfl <| s_on rfl <| ?_
    obtain ⟨g79, hf⟩ := og hf
    refine s_do (o_iaddrown rfl rfl g79.1 g79.2 rfl rfl) ?_
    cases hf
   ·refine s_lit (s := 39) (b := false) rfl (bf c78) <| s_off rfl rfl <| s_off rfl rfl <| s_off rfl rfl <| s_off rfl rfl <| s_off rfl rfl <| s_off rfl rfl <| s_off rfl rfl <| s_off rfl rfl <| s_q (.bool false) rfl (.of trivial trivial) rfl <| s_mov (.int .i64 i_60) rfl <| s_mov (.bool false) rfl <| w_done <| k_seq <| w_rev0 <| w_ret <| ?_; obtain rfl := os hf; exact r_heap [] [0] rfl ⟨.of trivial trivial, ⟨.of trivial trivial, trivial⟩⟩ rfl (.refl _) (.refl _)

/- impl.lockAt -/
def c99_h0 : ACode :=
 (.seq (.reg (tm 4 (.c (.int .i64 0)) (tm 5 (.c (.bool false)) .done)))
 (.seq (.reg (tm 6 (.t 0) (tm 7 (.t 1) (tq 8 (.call 182 [(.t 6), (.t 7), (.c (.fn 183 []))]) (tq 9 (.extract 0 (.t 8)) (tq 10 (.extract 1 (.t 8)) (tm 4 (.t 9) (tm 5 (.t 10) .done))))))))
 .ret))
theorem fc99_h0 : fcomp Try.prog Try.f99 = some (c99_h0.erase, [.mov (.t 4), .mov (.t 5)], 11) := by kernel_rfl
def impl_lockAt_h0 (list_1 : (List GLock)) (name_2 : Str) : Option (Int × Bool) :=
    (slices_BinarySearchFunc_impl_Lock_impl_Lock_string_h0 list_1 name_2).bind fun r_3 =>
    some (r_3.1, r_3.2)
theorem w_impl_lockAt_h0 (list_1 : (List GLock)) (name_2 : Str) (r : (Int × Bool)) (hf : impl_lockAt_h0 list_1 name_2 = some r) : CallHeap Try.prog ⟨true, true⟩ 99 [(.own 0 0 list_1.length), (.str name_2)] [.row 2 (list_1.map encGLock)] (.tup [(.int .i64 r.1), (.bool r.2)]) [.row 2 (list_1.map encGLock)] := by
 refine CallHeap.of_awp mixed Try.func99 fc99_h0 nle ?_; rw [argT_eq]; unfold impl_lockAt_h0 at hf; unfold c99_h0; refine (show awp Try.prog ⟨true, true⟩ 1 _ (ofL [(0, (.own 0 0 list_1.length)), (1, (.str name_2))]) [.row 2 (list_1.map encGLock)] _ from ?_); refine awp_seq <| w_reg <| s_mov (.int .i64 0) rfl <| s_mov (.bool false) rfl <| w_done <| k_seq <| awp_seq <| w_reg <| ?_
 obtain ⟨r_3, er4, hf⟩ := ob hf
 refine s_mov (.own 0 0 list_1.length) rfl <| s_mov (.str name_2) rfl <| ?_; refine s_do (o_callh (v := (.tup [(.int .i64 r_3.1), (.bool r_3.2)])) (h2 := [.row 2 (list_1.map encGLock)]) [] [0] (fun _ => rfl) (w_slices_BinarySearchFunc_impl_Lock_impl_Lock_string_h0 _ _ _ er4) rfl (.refl _) (.refl _) rfl rfl) ?_; refine s_q (.int .i64 r_3.1) rfl (.of nle trivial) rfl <| s_q (.bool r_3.2) rfl (.of nle trivial) rfl <| s_mov (.int .i64 r_3.1) rfl <| s_mov (.bool r_3.2) rfl <| w_done <| k_seq <| w_ret <| ?_; obtain rfl := os hf; exact r_heap [] [0] rfl ⟨.of trivial trivial, ⟨.of trivial trivial, trivial⟩⟩ rfl (.refl _) (.refl _)

/- slices.IndexFunc[[]int,int] -/
def c202_h0 : ACode :=
 (.seq (.reg (tm 4 (.c (.int .i64 0)) .done))
 (.seq (.seq (.reg (tm 6 (.t 0) (tq 7 (.len (.t 6)) (tm 8 (.c (.int .i64 0)) .done))))
 (.block 0 (.loop (.seq (.reg (tq 9 (.bin .lss (.t 8) (.t 7)) .done))
 (.seq (.cond (.t 9) .skip
 (.exit 0))
 (.seq (.block 1 (.seq (.reg (tm 10 (.t 8) (tm 5 (.t 10) .done)))
 (.seq (.reg (tm 11 (.t 1) (tm 12 (.t 0) (tm 13 (.t 5) (tq 14 (.iaddr 1 (.t 12) (.t 13)) (tq 15 (.load 1 false (.t 14)) (tq 16 (.calv (.t 11) [(.t 15)]) .done)))))))
 (.cond (.t 16) (.seq (.reg (tm 17 (.t 5) (tm 4 (.t 17) .done)))
 .ret)
 .skip))))
 (.reg (tq 18 (.bin .add (.t 8) (.c (.int .i64 1))) (tm 8 (.t 18) .done)))))))))
 (.cut (.seq (.reg (tq 4 (.mov (.c (.int .i64 (-1)))) .done))
 .ret))))
theorem fc202_h0 : fcomp Try.prog Try.f202 = some (c202_h0.erase, [.mov (.t 4)], 19) := by kernel_rfl
def slices_IndexFunc_int_int_h0_L1 (s_1 : (List Int)) (c_2 : Int) : List Int → Nat → Option (Fl (Int × Int) Unit)
  | [], s8_19 =>
    some (.go ())
  | x_34 :: xs, s8_19 =>
    if s8_19 < s_1.length then
    (impl_leave_1 x_34 c_2).bind fun r_36 =>
    if r_36 then
    some (.ret ((s8_19 : Int), c_2))
    else
    slices_IndexFunc_int_int_h0_L1 s_1 c_2 xs (s8_19 + 1)
    else none

def slices_IndexFunc_int_int_h0 (s_1 : (List Int)) (c_2 : Int) : Option (Int × Int) :=
    (slices_IndexFunc_int_int_h0_L1 s_1 c_2 s_1 0).bind fun q => (match q with
    | .ret r => some r
    | .go _ =>
    some ((-1), c_2))
theorem w_slices_IndexFunc_int_int_h0 (s_1 : (List Int)) (c_2 : Int) (r : (Int × Int)) (hf : slices_IndexFunc_int_int_h0 s_1 c_2 = some r) : CallHeap Try.prog ⟨true, true⟩ 202 [(.own 0 0 s_1.length), (.fn 186 [(.ptr 1 0 0)])] [.row 1 (s_1.map encI), .box 1 (.int .i64 c_2)] (.int .i64 r.1) [.row 1 (s_1.map encI), .box 1 (.int .i64 r.2)] := by
 refine CallHeap.of_awp mixed Try.func202 fc202_h0 nle ?_; rw [argT_eq]; unfold slices_IndexFunc_int_int_h0 at hf; unfold c202_h0; refine (show awp Try.prog ⟨true, true⟩ 2 _ (ofL [(0, (.own 0 0 s_1.length)), (1, (.fn 186 [(.ptr 1 0 0)]))]) [.row 1 (s_1.map encI), .box 1 (.int .i64 c_2)] _ from ?_); refine awp_seq <| w_reg <| s_mov (.int .i64 0) rfl <| w_done <| k_seq <| awp_seq <| awp_seq <| w_reg <| s_mov (.own 0 0 s_1.length) rfl <| s_dof (o_lenown rfl rfl) fun hl3 => s_mov (.int .i64 0) rfl <| w_done <| k_seq <| ?_
 obtain ⟨p27, hb1, hf⟩ := ob hf
 refine awp_cutx (X := {q : Unit // p27 = .go q}) (fun q => ([], [.row 1 (s_1.map encI), .box 1 (.int .i64 c_2)])) ?_ ?_
 ·refine awp_loop (X := {q : Nat // slices_IndexFunc_int_int_h0_L1 s_1 c_2 (s_1.drop q) q = some p27}) (fun q => ([(0, (.own 0 0 s_1.length)), (1, (.fn 186 [(.ptr 1 0 0)])), (7, (.int .i64 (s_1.length : Int))), (8, (.int .i64 (q.1 : Int)))], [.row 1 (s_1.map encI), .box 1 (.int .i64 c_2)])) (fun q => s_1.length - q.1) ⟨0, hb1⟩ ⟨[], [0, 1], _, _, rfl, rfl, ⟨.refl _, ⟨.refl _, ⟨.refl _, ⟨.refl _, trivial⟩⟩⟩⟩, (.refl _)⟩ ?_
  rintro ⟨s8_19, hc1⟩
  have hc1 : slices_IndexFunc_int_int_h0_L1 s_1 c_2 (s_1.drop s8_19) s8_19 = some p27 := hc1
  refine (show awp Try.prog ⟨true, true⟩ 2 _ (ofL [(0, (.own 0 0 s_1.length)), (1, (.fn 186 [(.ptr 1 0 0)])), (7, (.int .i64 (s_1.length : Int))), (8, (.int .i64 (s8_19 : Int)))]) [.row 1 (s_1.map encI), .box 1 (.int .i64 c_2)] _ from ?_)
  rcases dropc s_1 s8_19 with ⟨hie30, hd33⟩ | ⟨hlt28, x_34, hx29, hd33⟩
  ·rw [hd33, slices_IndexFunc_int_int_h0_L1.eq_1] at hc1
   have hq32 := dlf hie30
   refine awp_seq <| w_reg <| s_q (.bool (decide ((s8_19 : Int) < (s_1.length : Int)))) rfl (.of rfl trivial) rfl <| w_done <| k_seq <| awp_seq <| w_condf rfl hq32 <| w_exit <| k_seqx <| k_loopx <| k_blkx <| ?_; obtain rfl := os hc1; exact k_cutn ⟨_, rfl⟩ ⟨[], [0, 1], _, _, rfl, rfl, trivial, (.refl _)⟩
  ·rw [hd33, slices_IndexFunc_int_int_h0_L1.eq_2] at hc1
   have hq32 := dlt hlt28
   refine awp_seq <| w_reg <| s_q (.bool (decide ((s8_19 : Int) < (s_1.length : Int)))) rfl (.of rfl trivial) rfl <| w_done <| k_seq <| awp_seq <| w_condt rfl hq32 <| w_skip <| k_seq <| awp_seq <| w_blk <| awp_seq <| w_reg <| s_mov (.int .i64 (s8_19 : Int)) rfl <| s_mov (.int .i64 (s8_19 : Int)) rfl <| w_done <| k_seq <| awp_seq <| w_reg <| ?_
   obtain ⟨g35, hc1⟩ := og hc1
   obtain ⟨r_36, er37, hc1⟩ := ob hc1
   refine s_mov (.fn 186 [(.ptr 1 0 0)]) rfl <| s_mov (.own 0 0 s_1.length) rfl <| s_mov (.int .i64 (s8_19 : Int)) rfl <| s_do (o_iaddrownn rfl rfl g35 rfl rfl) <| s_do (o_loadrowm (enc := encI) (v := (.int .i64 x_34)) rfl rfl hx29 ⟨rfl, rfl⟩ rfl rfl) <| s_do (o_calvk (v := (.bool r_36)) rfl (by kernel_rfl) (w_impl_leave_1 _ _ _ er37) rfl rfl (.refl _) rfl) <| w_done <| k_seq <| ?_
   rcases oi hc1 with ⟨c38, hc1⟩ | ⟨c38, hc1⟩
   ·refine w_condt rfl c38 <| awp_seq <| w_reg <| s_mov (.int .i64 (s8_19 : Int)) rfl <| s_mov (.int .i64 (s8_19 : Int)) rfl <| w_done <| k_seq <| w_ret <| ?_; obtain rfl := os hc1; obtain rfl := os hf; exact r_heap [] [0, 1] rfl ⟨.of trivial trivial, trivial⟩ rfl (.refl _) (.refl _)
   ·refine w_condf rfl (bf c38) <| w_skip <| k_blk <| k_seq <| w_reg <| s_q (.int .i64 (w64 ((s8_19 : Int) + 1))) rfl (.of rfl trivial) rfl <| s_mov (.int .i64 (w64 ((s8_19 : Int) + 1))) rfl <| w_done <| ?_; exact k_loopn ⟨(s8_19 + 1), hc1⟩ (mul hlt28) ⟨[], [0, 1], _, _, rfl, rfl, ⟨.refl _, ⟨.refl _, ⟨.refl _, ⟨.of_eq (congrArg (AV.int _) (w64_incr hlt28 hl3)), trivial⟩⟩⟩⟩, (.refl _)⟩
 ·rintro ⟨_, rfl⟩
  refine awp_seq <| w_reg <| s_mov (.int .i64 (-1)) rfl <| w_done <| k_seq <| w_ret <| ?_; obtain rfl := os hf; exact r_heap [] [0, 1] rfl ⟨.of trivial trivial, trivial⟩ rfl (.refl _) (.refl _)

/- slices.DeleteFunc[[]int,int] -/
def c119_h3 : ACode :=
 (.seq (.reg (tm 4 (.c .nil) .done))
 (.seq (.reg (tm 8 (.t 0) (tm 9 (.t 1) (tq 10 (.call 202 [(.t 8), (.t 9)]) (tm 5 (.t 10) .done)))))
 (.seq (.seq (.reg (tm 11 (.t 5) (tq 12 (.bin .eql (.t 11) (.c (.int .i64 (-1)))) .done)))
 (.cond (.t 12) (.seq (.reg (tm 13 (.t 0) (tm 4 (.t 13) .done)))
 .ret)
 .skip))
 (.seq (.seq (.reg (tm 14 (.t 5) (tq 15 (.bin .add (.t 14) (.c (.int .i64 1))) (tm 6 (.t 15) .done))))
 (.block 0 (.loop (.seq (.seq (.reg (tm 16 (.t 6) (tm 17 (.t 0) (tq 18 (.len (.t 17)) (tq 19 (.bin .lss (.t 16) (.t 18)) .done)))))
 (.cond (.t 19) .skip
 (.exit 0)))
 (.seq (.block 1 (.seq (.reg (tm 22 (.t 0) (tm 23 (.t 6) (tq 24 (.iaddr 1 (.t 22) (.t 23)) (tq 25 (.load 1 false (.t 24)) (tm 7 (.t 25) .done))))))
 (.seq (.reg (tm 26 (.t 1) (tm 27 (.t 7) (tq 28 (.calv (.t 26) [(.t 27)]) (tq 29 (.not (.t 28)) .done)))))
 (.cond (.t 29) (.seq (.reg (tm 30 (.t 0) (tm 31 (.t 5) (tm 32 (.t 7) (tq 33 (.iaddr 1 (.t 30) (.t 31)) (.q ⟨none, none, .store 1 (.t 33) (.t 32)⟩
 .done))))))
 (.reg (tm 34 (.t 5) (tq 35 (.bin .add (.t 34) (.c (.int .i64 1))) (tm 5 (.t 35) .done)))))
 .skip))))
 (.reg (tm 20 (.t 6) (tq 21 (.bin .add (.t 20) (.c (.int .i64 1))) (tm 6 (.t 21) .done)))))))))
 (.cut (.seq (.reg (tm 36 (.t 0) (tm 37 (.t 5) (tq 38 (.slice 1 (.t 36) (some (.t 37)) none) (.q ⟨none, none, .clr 1 (.int .i64 0) (.t 38)⟩
 .done)))))
 (.seq (.reg (tm 39 (.t 0) (tm 40 (.t 5) (tq 41 (.slice 1 (.t 39) none (some (.t 40))) (tm 4 (.t 41) .done)))))
 .ret)))))))
theorem fc119_h3 : fcomp Try.prog Try.f119 = some (c119_h3.erase, [.mov (.t 4)], 42) := by kernel_rfl
def slices_DeleteFunc_int_int_h3_L1 (r_3 : (Int × Int)) : Nat → Int → Int → (List Int) → Option (Int × (List Int))
  | 0, _, _, _ => none
  | k + 1, i_71, j_72, s_73 =>
    if (decide (j_72 < (s_73.length : Int))) then
    if (0 : Int) ≤ j_72 ∧ j_72 < (s_73.length : Int) then
    (s_73[(0 + j_72.toNat)]?).bind fun x_91 =>
    (impl_leave_1 x_91 r_3.2).bind fun r_93 =>
    if (!r_93) then
    if (0 : Int) ≤ i_71 ∧ i_71 < (s_73.length : Int) then
    (s_73[(0 + i_71.toNat)]?).bind fun x_97 =>
    slices_DeleteFunc_int_int_h3_L1 r_3 k (w64 (i_71 + 1)) (w64 (j_72 + 1)) (s_73.set (0 + i_71.toNat) x_91)
    else none
    else
    slices_DeleteFunc_int_int_h3_L1 r_3 k i_71 (w64 (j_72 + 1)) s_73
    else none
    else
    some (i_71, s_73)

def slices_DeleteFunc_int_int_h3 (s_1 : (List Int)) (c_2 : Int) : Option ((List Int) × Int) :=
    (slices_IndexFunc_int_int_h0 s_1 c_2).bind fun r_3 =>
    if (r_3.1 == (-1)) then
    some (s_1, r_3.2)
    else
    (slices_DeleteFunc_int_int_h3_L1 r_3 FUEL r_3.1 (w64 (r_3.1 + 1)) s_1).bind fun p87 =>
    (match p87 with
    | (i_85, s_86) =>
    if (0 : Int) ≤ i_85 ∧ i_85 ≤ (s_86.length : Int) then
    if (0 : Int) ≤ i_85 ∧ i_85 ≤ (s_86.length : Int) then
    some ((s_86.take i_85.toNat ++ List.replicate (s_86.length - i_85.toNat) 0 ++ s_86.drop (i_85.toNat + (s_86.length - i_85.toNat))).take i_85.toNat, r_3.2)
    else none
    else none)
theorem w_slices_DeleteFunc_int_int_h3 (s_1 : (List Int)) (c_2 : Int) (r : ((List Int) × Int)) (hf : slices_DeleteFunc_int_int_h3 s_1 c_2 = some r) : CallHeap Try.prog ⟨true, true⟩ 119 [(.own 0 0 s_1.length), (.fn 186 [(.ptr 1 0 0)])] [.row 1 (s_1.map encI), .box 1 (.int .i64 c_2)] (.own 2 0 r.1.length) [.dead, .box 1 (.int .i64 r.2), .row 1 (r.1.map encI)] := by
 refine CallHeap.of_awp mixed Try.func119 fc119_h3 nle ?_; rw [argT_eq]; unfold slices_DeleteFunc_int_int_h3 at hf; unfold c119_h3; refine (show awp Try.prog ⟨true, true⟩ 2 _ (ofL [(0, (.own 0 0 s_1.length)), (1, (.fn 186 [(.ptr 1 0 0)]))]) [.row 1 (s_1.map encI), .box 1 (.int .i64 c_2)] _ from ?_); refine awp_seq <| w_reg <| s_mov .nil rfl <| w_done <| k_seq <| awp_seq <| w_reg <| ?_
 obtain ⟨r_3, er4, hf⟩ := ob hf
 refine s_mov (.own 0 0 s_1.length) rfl <| s_mov (.fn 186 [(.ptr 1 0 0)]) rfl <| ?_; refine s_do (o_callh (v := (.int .i64 r_3.1)) (h2 := [.row 1 (s_1.map encI), .box 1 (.int .i64 r_3.2)]) [] [0, 1] (fun _ => rfl) (w_slices_IndexFunc_int_int_h0 _ _ _ er4) rfl (.refl _) (.refl _) rfl rfl) ?_; refine s_mov (.int .i64 r_3.1) rfl <| w_done <| k_seq <| awp_seq <| awp_seq <| w_reg <| s_mov (.int .i64 r_3.1) rfl <| s_q (.bool (r_3.1 == (-1))) rfl (.of rfl trivial) rfl <| w_done <| k_seq <| ?_
 rcases oi hf with ⟨c5, hf⟩ | ⟨c5, hf⟩
 ·refine w_condt rfl c5 <| awp_seq <| w_reg <| s_mov (.own 0 0 s_1.length) rfl <| s_mov (.own 0 0 s_1.length) rfl <| w_done <| k_seq <| w_ret <| ?_; obtain rfl := os hf; exact r_heap [.mv 0] [0, 1, 2] rfl ⟨.of trivial trivial, trivial⟩ rfl (.refl _) (.refl _)
 ·refine w_condf rfl (bf c5) <| w_skip <| k_seq <| awp_seq <| awp_seq <| w_reg <| s_mov (.int .i64 r_3.1) rfl <| s_q (.int .i64 (w64 (r_3.1 + 1))) rfl (.of rfl trivial) rfl <| s_mov (.int .i64 (w64 (r_3.1 + 1))) rfl <| w_done <| k_seq <| ?_
  obtain ⟨p87, hb1, hf⟩ := ob hf
  refine awp_cut ([(0, (.own 0 0 p87.2.length)), (5, (.int .i64 p87.1))], [.row 1 (p87.2.map encI), .box 1 (.int .i64 r_3.2)]) ?_ ?_
  ·refine awp_loop (X := {q : (Nat × Int × Int × (List Int)) // slices_DeleteFunc_int_int_h3_L1 r_3 q.1 q.2.1 q.2.2.1 q.2.2.2 = some p87}) (fun q => ([(0, (.own 0 0 q.1.2.2.2.length)), (1, (.fn 186 [(.ptr 1 0 0)])), (5, (.int .i64 q.1.2.1)), (6, (.int .i64 q.1.2.2.1))], [.row 1 (q.1.2.2.2.map encI), .box 1 (.int .i64 r_3.2)])) (fun q => q.1.1) ⟨(FUEL, r_3.1, w64 (r_3.1 + 1), s_1), hb1⟩ ⟨[], [0, 1], _, _, rfl, rfl, ⟨.refl _, ⟨.refl _, ⟨.refl _, ⟨.refl _, trivial⟩⟩⟩⟩, (.refl _)⟩ ?_
   rintro ⟨⟨k, i_71, j_72, s_73⟩, hc1⟩
   have hc1 : slices_DeleteFunc_int_int_h3_L1 r_3 k i_71 j_72 s_73 = some p87 := hc1
   refine (show awp Try.prog ⟨true, true⟩ 2 _ (ofL [(0, (.own 0 0 s_73.length)), (1, (.fn 186 [(.ptr 1 0 0)])), (5, (.int .i64 i_71)), (6, (.int .i64 j_72))]) [.row 1 (s_73.map encI), .box 1 (.int .i64 r_3.2)] _ from ?_)
   rcases k with _ | k
   ·rw [slices_DeleteFunc_int_int_h3_L1.eq_1] at hc1
    cases hc1
   ·rw [slices_DeleteFunc_int_int_h3_L1.eq_2] at hc1; refine awp_seq <| awp_seq <| w_reg <| s_mov (.int .i64 j_72) rfl <| s_mov (.own 0 0 s_73.length) rfl <| s_dof (o_lenown rfl rfl) fun hl88 => s_q (.bool (decide (j_72 < (s_73.length : Int)))) rfl (.of rfl trivial) rfl <| w_done <| k_seq <| ?_
    rcases oi hc1 with ⟨c89, hc1⟩ | ⟨c89, hc1⟩
    ·refine w_condt rfl c89 <| w_skip <| k_seq <| awp_seq <| w_blk <| awp_seq <| w_reg <| ?_
     obtain ⟨g90, hc1⟩ := og hc1
     obtain ⟨x_91, ex92, hc1⟩ := ob hc1
     refine s_mov (.own 0 0 s_73.length) rfl <| s_mov (.int .i64 j_72) rfl <| s_do (o_iaddrown rfl rfl g90.1 g90.2 rfl rfl) <| s_do (o_loadrowm (enc := encI) (v := (.int .i64 x_91)) rfl rfl ex92 ⟨rfl, rfl⟩ rfl rfl) <| s_mov (.int .i64 x_91) rfl <| w_done <| k_seq <| awp_seq <| w_reg <| ?_
     obtain ⟨r_93, er94, hc1⟩ := ob hc1
     refine s_mov (.fn 186 [(.ptr 1 0 0)]) rfl <| s_mov (.int .i64 x_91) rfl <| s_do (o_calvk (v := (.bool r_93)) rfl (by kernel_rfl) (w_impl_leave_1 _ _ _ er94) rfl rfl (.refl _) rfl) <| s_q (.bool (!r_93)) rfl (.of trivial trivial) rfl <| w_done <| k_seq <| ?_
     rcases oi hc1 with ⟨c95, hc1⟩ | ⟨c95, hc1⟩
     ·refine w_condt rfl c95 <| awp_seq <| w_reg <| ?_
      obtain ⟨g96, hc1⟩ := og hc1
      obtain ⟨x_97, ex98, hc1⟩ := ob hc1
      refine s_mov (.own 0 0 s_73.length) rfl <| s_mov (.int .i64 i_71) rfl <| s_mov (.int .i64 x_91) rfl <| s_do (o_iaddrown rfl rfl g96.1 g96.2 rfl rfl) <| ?_; refine s_do0 (o_storerow (v' := (.int .i64 x_91)) (e' := x_91) rfl rfl ex98 rfl rfl rfl (by decide) (fun _ => by decide) ⟨rfl, rfl, rfl⟩ (.refl _) rfl) ?_; refine w_done <| k_seq <| w_reg <| s_mov (.int .i64 i_71) rfl <| s_q (.int .i64 (w64 (i_71 + 1))) rfl (.of rfl trivial) rfl <| s_mov (.int .i64 (w64 (i_71 + 1))) rfl <| w_done <| k_blk <| k_seq <| w_reg <| s_mov (.int .i64 j_72) rfl <| s_q (.int .i64 (w64 (j_72 + 1))) rfl (.of rfl trivial) rfl <| s_mov (.int .i64 (w64 (j_72 + 1))) rfl <| w_done <| ?_; exact k_loopn ⟨(k, w64 (i_71 + 1), w64 (j_72 + 1), s_73.set (0 + i_71.toNat) x_91), hc1⟩ (Nat.lt_succ_self _) ⟨[], [0, 1], _, _, rfl, rfl, ⟨.of_eq (congrArg (AV.own _ 0) (by simp)), ⟨.refl _, ⟨.refl _, ⟨.refl _, trivial⟩⟩⟩⟩, (.refl _)⟩
     ·refine w_condf rfl (bf c95) <| w_skip <| k_blk <| k_seq <| w_reg <| s_mov (.int .i64 j_72) rfl <| s_q (.int .i64 (w64 (j_72 + 1))) rfl (.of rfl trivial) rfl <| s_mov (.int .i64 (w64 (j_72 + 1))) rfl <| w_done <| ?_; exact k_loopn ⟨(k, i_71, w64 (j_72 + 1), s_73), hc1⟩ (Nat.lt_succ_self _) ⟨[], [0, 1], _, _, rfl, rfl, ⟨.refl _, ⟨.refl _, ⟨.refl _, ⟨.refl _, trivial⟩⟩⟩⟩, (.refl _)⟩
    ·refine w_condf rfl (bf c89) <| w_exit <| k_seqx <| k_loopx <| k_blkx <| ?_; obtain rfl := os hc1; exact ⟨[], [0, 1], _, _, rfl, rfl, ⟨.refl _, ⟨.refl _, trivial⟩⟩, (.refl _)⟩
  ·obtain ⟨i_85, s_86⟩ := p87
   refine awp_seq <| w_reg <| ?_
   obtain ⟨g99, hf⟩ := og hf
   refine s_mov (.own 0 0 s_86.length) rfl <| s_mov (.int .i64 i_85) rfl <| s_do (o_sldo rfl rfl rfl g99.1 g99.2) <| s_do0 (o_clr (enc := encI) (y := 0) rfl rfl (.refl _) rfl) <| w_done <| k_seq <| awp_seq <| w_reg <| ?_
   obtain ⟨g100, hf⟩ := og hf
   refine s_mov (.own 0 0 s_86.length) rfl <| s_mov (.int .i64 i_85) rfl <| s_do (o_slto rfl rfl rfl g100.1 g100.2) <| s_mov (.own 0 0 i_85.toNat) rfl <| w_done <| k_seq <| w_ret <| ?_; obtain rfl := os hf; exact r_heap [.trim 4] [0, 1, 2] rfl ⟨.of trivial trivial, trivial⟩ rfl ((.cons (.refl _) (.cons (.refl _) (.cons ((LeO.tk (enc := encI) (s_86.take i_85.toNat ++ List.replicate (s_86.length - i_85.toNat) 0 ++ s_86.drop (i_85.toNat + (s_86.length - i_85.toNat))) _)) .nil)))) (.of_eq (congrArg (AV.own _ 0) (by simp)))

/- slices.Delete[[]impl.Lock,impl.Lock] -/
def slices_Delete_impl_Lock_impl_Lock_h1 (a0 : List GLock) (a1 a2 : Int) : Option (List GLock) :=
    if (0 ≤ a1 ∧ a1 < a2) ∧ a2 ≤ (a0.length : Int) then
    some (a0.take a1.toNat ++ a0.drop a2.toNat)
    else none
/- HAND -/
open Go.RowKit
set_option maxRecDepth 100000 in
theorem del_slices_Delete_impl_Lock_impl_Lock_h1 (w : World) (g n c i j : Nat) (A1 A2 : Array Value) (hij : i < j) (hj : j ≤ n) (hnc : n ≤ c) (hc : c ≤ maxLen)
    (hap : ∀ ty, (Builtin.append_ #[38, 38] ty #[.slice (some ⟨g, 0, none⟩) i c, .slice (if c = j then some ⟨g, 0, none⟩ else some ⟨g, j * 2, none⟩) (n - j) (c - j)]).run Try.prog w.drew = .ok (.slice (some ⟨g, 0, none⟩) (i + (n - j)) c) (w.drew.setRow g A1))
    (hcl : ∀ ty, (Builtin.clear_ #[38] ty #[.slice (some ⟨g, (i + (n - j)) * 2, none⟩) (n - (i + (n - j))) (c - (i + (n - j)))]).run Try.prog (w.drew.setRow g A1) = .ok (.tuple #[]) ((w.drew.setRow g A1).setRow g A2)) :
    Calls Try.prog 187 #[.slice (some ⟨g, 0, none⟩) n c, .int .i64 i, .int .i64 j] w fun e' w' =>
      e' = .returned (.slice (some ⟨g, 0, none⟩) (i + (n - j)) c) ∧ w' = (w.drew.setRow g A1).setRow g A2 := by
  have h1 : ¬ ((i : Int) = (j : Int)) := by omega
  have hic : i ≤ c := by omega
  have hci : ¬ (c = i) := by omega
  have hjc : j ≤ c := by omega
  have hcj : ¬ (c = i + (n - j)) := by omega
  have hle : i + (n - j) ≤ c := by omega
  have hle2 : ((i + (n - j) : Nat) : Int) ≤ (n : Int) := by omega
  have hle3 : (i + (n - j) : Nat) ≤ n := by omega
  have hc63 : c ≤ 9223372036854775807 := by unfold maxLen at hc; omega
  have mixed : Try.prog.follows .mixedOrders = true := by kernel_rfl
  go_enter Try.func187, (show Try.f187.ntmps = 33 from rfl)
  go_wp2_with fail
  go_region_law_o (refine step_append_runI rfl _ _ 38 38 rfl (.slice (some ⟨g, 0, none⟩) i c) (.slice (if c = j then some ⟨g, 0, none⟩ else some ⟨g, j * 2, none⟩) (n - j) (c - j)) (by simp [Act.eval, Act.put]) (by simp [Act.eval, Act.put]) (hap _) ?_)
  all_goals go_wp2_with (simp only [hcl])
  all_goals go_ret
  all_goals exact ⟨rfl, rfl⟩

theorem info_slices_Delete_impl_Lock_impl_Lock_h1 : ∃ i : TypeInfo, Try.prog.info? 125 = some i ∧ i.size = 2 ∧ i.bytes = 40 ∧ i.zero = some (.agg #[.string ⟨#[]⟩, .slice none 0 0]) := info_of (by kernel_rfl)
theorem undS_slices_Delete_impl_Lock_impl_Lock_h1 : Try.prog.underlying 38 = some (.slice 125) := by kernel_rfl
theorem delH_slices_Delete_impl_Lock_impl_Lock_h1 (dm : Md) (l : List AV) (i j : Nat) (hij : i < j) (hj : j ≤ l.length) : CallHeap Try.prog dm 187 [.own 0 0 l.length, .int .i64 i, .int .i64 j] [.row 2 l] (.own 1 0 (i + (l.length - j))) [.dead, .row 2 (l.take i ++ l.drop j)] := by
  intro C σ φ w vals _ _ hok hb hr hv
  simp only [RVs] at hv
  obtain ⟨v1, _, rfl, h1, v2, _, rfl, h2, v3, _, rfl, h3, rfl⟩ := hv
  have e2 : v2 = .int .i64 i := by simpa only [RV] using h2
  have e3 : v3 = .int .i64 j := by simpa only [RV] using h3
  subst e2 e3
  obtain ⟨ti, hti, hts, htb, htz⟩ := info_slices_Delete_impl_Lock_impl_Lock_h1
  have hr' := (Grows.drew w).heap hr
  rcases own_raw hr rfl h1 rfl with ⟨_, rfl, _⟩ | ⟨g, c, cur, e, hσ, rfl, hnc, hcm, hg, hcs, hrep⟩
  · simp at hj; omega
  have hrepD : RepS C.dm w.drew 2 l cur.toList (φ 0) := RepS.world (w := w) (w' := w.drew) _ _ _ (fun _ _ => rfl) hrep
  obtain ⟨fa, fb, hfab, ra, rb⟩ := hrepD.split i
  obtain ⟨fc, fd, hfcd, rd⟩ := rb.drop (j - i)
  rw [List.drop_drop, List.drop_drop, ← Nat.add_mul, show i + (j - i) = j by omega] at rd
  have hsub : List.Sublist (fa ++ fd) (φ 0) := by
    rw [hfab, hfcd]
    exact List.Sublist.append (List.Sublist.refl _) (List.sublist_append_right fc _)
  have hl0 : (l.take i).length = i := by rw [List.length_take]; omega
  have hl1 : (l.drop j).length = l.length - j := by rw [List.length_drop]
  have hlen := hrep.length
  have hcl : cur.toList.length = c * 2 := by rw [← hcs]; simp
  have hc0 : (cur.toList.take (i * 2)).length = i * 2 := by rw [List.length_take]; omega
  have hg' : w.drew.heap[g]? = some (.cells cur e (0, 0)) := hg
  obtain ⟨news, hsrc, hnews, hrep1⟩ := srcOk (P := Try.prog) hr' (t := 38) undS_slices_Delete_impl_Lock_impl_Lock_h1 (sz := 2) (m := l.length - j) (a := if c = j then some ⟨g, 0, none⟩ else some ⟨g, j * 2, none⟩) (c := c - j) (fp := fd) hl1 (by
    by_cases hm : l.length - j = 0
    · refine .inl ⟨hm, ?_⟩
      have : l.drop j = [] := List.eq_nil_of_length_eq_zero (by rw [hl1]; exact hm)
      rw [this] at rd
      simpa only [RepS] using rd
    · exact .inr ⟨g, j * 2, cur, e, (0, 0), if_neg (by omega), hg', rd⟩)
  have hap := fun ty => run_append_room_at (P := Try.prog) (w := w.drew) 38 38 ty 125 e ti undS_slices_Delete_impl_Lock_impl_Lock_h1 hti g i c cur hg' _ (l.length - j) news (by rw [hts]; exact hsrc) (by omega) (by rw [hts, hnews]; omega)
  obtain ⟨A1, hA1⟩ : ∃ A1, A1 = (cur.toList.take (i * ti.size) ++ news ++ cur.toList.drop (i * ti.size + news.length)).toArray := ⟨_, rfl⟩
  rw [← hA1] at hap
  have hs1 : A1.size = c * 2 := by
    rw [hA1, hts]
    simp only [List.size_toArray, List.length_append, List.length_drop, hc0, hnews, hcl]
    omega
  have hp1 : A1.toList.take ((i + (l.length - j)) * 2) = cur.toList.take (i * 2) ++ news := by
    rw [hA1, hts, Nat.add_mul]
    simp only [List.append_assoc]
    rw [take_add hc0, List.take_left' hnews]
  have hclr := fun ty => run_clear_rowz (P := Try.prog) (w.drew.setRow g A1) 38 ty 125 ti _ g ((i + (l.length - j)) * 2) (l.length - (i + (l.length - j))) (c - (i + (l.length - j))) A1 e undS_slices_Delete_impl_Lock_impl_Lock_h1 hti htz (by rw [hts]; rfl) (by decide) (setRow_heap w.drew g cur A1 e _ hg') (by omega) (by rw [hts, hs1]; omega)
  obtain ⟨A2, hA2⟩ : ∃ A2, A2 = (A1.toList.take ((i + (l.length - j)) * 2) ++ (Builtin.zeroCells (Value.agg #[.string ⟨#[]⟩, .slice none 0 0]).cells (l.length - (i + (l.length - j)))).toList ++ A1.toList.drop ((i + (l.length - j)) * 2 + (l.length - (i + (l.length - j))) * ti.size)).toArray := ⟨_, rfl⟩
  rw [← hA2] at hclr
  have hl3 : (A1.toList.take ((i + (l.length - j)) * 2)).length = (i + (l.length - j)) * 2 := by
    have : A1.toList.length = c * 2 := by simpa using hs1
    rw [List.length_take, this]; omega
  have hs2 : A2.size = c * 2 := by
    rw [hA2, hts]
    have h5 : A1.toList.length = c * 2 := by simpa using hs1
    have h6 : (Builtin.zeroCells (Value.agg #[.string ⟨#[]⟩, .slice none 0 0]).cells (l.length - (i + (l.length - j)))).toList.length = (l.length - (i + (l.length - j))) * 2 := by rw [Array.length_toList, size_zeroCells]; rfl
    simp only [List.size_toArray, List.length_append, List.length_drop, hl3, h5, h6]
    omega
  have hp2 : A2.toList.take ((i + (l.length - j)) * 2) = cur.toList.take (i * 2) ++ news := by
    rw [hA2]
    simp only [List.append_assoc]
    rw [List.take_left' hl3, hp1]
  refine (del_slices_Delete_impl_Lock_impl_Lock_h1 w g l.length c i j A1 A2 hij hj hnc hcm hap hclr).mono ?_
  rintro e' w' ⟨rfl, rfl⟩
  have hA := RepS.append (RepS.congr (cs' := cur.toList.take (i * 2)) (by rw [hl0, List.take_take, Nat.min_self]) ra) (by rw [hc0, hl0]) hrep1
  obtain ⟨σ', φ', k1, k2, k3⟩ := sub_fin (w' := (w.drew.setRow g A1).setRow g A2) hr (by simp) hσ hcm (fun b _ hbg => by rw [setRow_other _ _ _ _ hbg, setRow_other _ _ _ _ hbg]; rfl) (setRow_heap _ g A1 A2 e _ (setRow_heap w.drew g cur A1 e _ hg')) hs2 hsub (RepS.world (w := w.drew) (w' := w) _ _ _ (fun _ _ => rfl) hA) (by
    rw [List.length_append, hl0, hl1, hp2]
    exact (List.take_of_length_le (by rw [List.length_append, hc0, hnews]; omega)).symm)
  have hgb : C.mine g := hr.base 0 _ g c rfl rfl hσ
  refine ⟨σ', φ', k1, k2.x, ?_, ⟨rfl, rfl, rfl, by simp, fun k hk => by rw [setRow_other _ _ _ _ (by have := hgb.1; omega), setRow_other _ _ _ _ (by have := hgb.1; omega)]; rfl⟩⟩
  simp only [RV, List.getElem?_cons_succ, List.getElem?_cons_zero]
  exact ⟨_, c, rfl, by rw [List.length_append, hl0, hl1]; omega, by omega, hcm, by rw [k3]; simp⟩
theorem w_slices_Delete_impl_Lock_impl_Lock_h1 (a0 : List GLock) (a1 a2 : Int) (r : List GLock) (hf : slices_Delete_impl_Lock_impl_Lock_h1 a0 a1 a2 = some r) : CallHeap Try.prog ⟨true, true⟩ 187 [.own 0 0 a0.length, .int .i64 a1, .int .i64 a2] [.row 2 (a0.map encGLock)] (.own 1 0 r.length) [.dead, .row 2 (r.map encGLock)] := by
  unfold slices_Delete_impl_Lock_impl_Lock_h1 at hf
  split at hf
  · rename_i h
    obtain rfl := os hf
    obtain ⟨i, rfl⟩ : ∃ i : Nat, a1 = i := ⟨a1.toNat, by omega⟩
    obtain ⟨j, rfl⟩ : ∃ j : Nat, a2 = j := ⟨a2.toNat, by omega⟩
    have := delH_slices_Delete_impl_Lock_impl_Lock_h1 ⟨true, true⟩ (a0.map encGLock) i j (by omega) (by rw [List.length_map]; omega)
    rw [List.length_map] at this
    simp only [Int.toNat_natCast, List.map_append, List.map_take, List.map_drop, List.length_append, List.length_take, List.length_drop]
    rw [Nat.min_eq_left (by omega)]
    exact this
  · cases hf

/- impl.leave -/
def c101_h2 : ACode :=
 (.seq (.reg (tq 5 (.box 1 (.t 2)) (tm 6 (.c .nil) (tm 7 (.c .nil) .done))))
 (.seq (.reg (tm 11 (.t 0) (tm 12 (.t 1) (tq 13 (.iaddr 2 (.t 11) (.t 12)) (tq 14 (.bslice 3 []) (tm 8 (.t 13) (tm 9 (.t 14) .done)))))))
 (.seq (.rev (.reg (tm 15 (.t 8) (tq 16 (.nilck (.t 15)) (tq 17 (.faddr 1 (.t 16)) (tq 18 (.load 1 false (.t 17)) (tq 19 (.iaddr 1 (.t 18) (.c (.int .i64 0))) (tq 20 (.load 1 false (.t 19)) (tq 21 (.load 1 false (.t 5)) (tq 22 (.bin .eql (.t 20) (.t 21)) (tm 10 (.t 22) .done)))))))))))
 (.seq (.reg (tm 23 (.t 8) (tm 24 (.t 8) (tq 25 (.nilck (.t 24)) (tq 26 (.faddr 1 (.t 25)) (tq 27 (.load 1 false (.t 26)) (tq 28 (.mkfn 186 [(.t 5)]) (tq 29 (.call 119 [(.t 27), (.t 28)]) (tq 30 (.nilck (.t 23)) (tq 31 (.faddr 1 (.t 30)) (.q ⟨none, none, .store 1 (.t 31) (.t 29)⟩
 .done)))))))))))
 (.seq (.seq (.reg (tm 32 (.t 8) (tq 33 (.nilck (.t 32)) (tq 34 (.faddr 1 (.t 33)) (tq 35 (.load 1 false (.t 34)) (tq 36 (.len (.t 35)) (tq 37 (.bin .eql (.t 36) (.c (.int .i64 0))) .done)))))))
 (.cond (.t 37) (.seq (.rev (.reg (tm 38 (.t 0) (tm 39 (.t 1) (tm 40 (.t 1) (tq 41 (.bin .add (.t 40) (.c (.int .i64 1))) (tq 42 (.call 187 [(.t 38), (.t 39), (.t 41)]) (tm 43 (.t 9) (tm 6 (.t 42) (tm 7 (.t 43) .done))))))))))
 .ret)
 .skip))
 (.seq (.seq (.reg (tm 44 (.t 10) .done))
 (.cond (.t 44) (.reg (tm 45 (.t 9) (tm 46 (.t 8) (tq 47 (.nilck (.t 46)) (tq 48 (.faddr 1 (.t 47)) (tq 49 (.load 1 false (.t 48)) (tq 50 (.iaddr 1 (.t 49) (.c (.int .i64 0))) (tq 51 (.load 1 false (.t 50)) (tm 52 (.t 8) (tq 53 (.nilck (.t 52)) (tq 54 (.faddr 0 (.t 53)) (tq 55 (.load 1 false (.t 54)) (tq 56 (.build [(.int .i64 0), (.str []), (.str [])] [(0, 1, (.t 51)), (1, 1, (.c (.str [108, 111, 99, 107, 101, 100]))), (2, 1, (.t 55))]) (.l ⟨(some 57), none, .bslice 3 [(.t 56)]⟩ []
 (.l ⟨(some 58), none, .append 3 40 (.t 45) (.t 57)⟩ []
 (.l ⟨(some 9), none, .mov (.t 58)⟩ []
 .done .non) .non) .non))))))))))))))
 .skip))
 (.seq (.reg (tm 59 (.t 0) (tm 60 (.t 9) (tm 6 (.t 59) (tm 7 (.t 60) .done)))))
 (.rev .ret))))))))
theorem fc101_h2 : fcomp Try.prog Try.f101 = some (c101_h2.erase, [.mov (.t 6), .mov (.t 7)], 61) := by kernel_rfl
def impl_leave_h2 (list_1 : (List GLock)) (k_2 : Int) (session_3 : Int) : Option ((List GLock) × (List GTold)) :=
    if (0 : Int) ≤ k_2 ∧ k_2 < (list_1.length : Int) then
    ((list_1[(0 + k_2.toNat)]?)).bind fun x_5 =>
    if 0 < x_5.Queue.length then
    (x_5.Queue[0]?).bind fun x_8 =>
    (slices_DeleteFunc_int_int_h3 x_5.Queue session_3).bind fun r_10 =>
    if ((r_10.1.length : Int) == 0) then
    (slices_Delete_impl_Lock_impl_Lock_h1 (list_1.set (0 + k_2.toNat) (⟨x_5.Name, r_10.1⟩ : GLock)) k_2 (w64 (k_2 + 1))).bind fun r_14 =>
    some (r_14, [])
    else
    if (x_8 == session_3) then
    if 0 < r_10.1.length then
    (r_10.1[0]?).bind fun x_18 =>
    if ([] ++ [(⟨x_18, [108, 111, 99, 107, 101, 100], x_5.Name⟩ : GTold)]).length ≤ 2 ^ 30 then
    some (list_1.set (0 + k_2.toNat) (⟨x_5.Name, r_10.1⟩ : GLock), [] ++ [(⟨x_18, [108, 111, 99, 107, 101, 100], x_5.Name⟩ : GTold)])
    else none
    else none
    else
    some (list_1.set (0 + k_2.toNat) (⟨x_5.Name, r_10.1⟩ : GLock), [])
    else none
    else none
theorem w_impl_leave_h2 (list_1 : (List GLock)) (k_2 : Int) (session_3 : Int) (r : ((List GLock) × (List GTold))) (hf : impl_leave_h2 list_1 k_2 session_3 = some r) : CallHeap Try.prog ⟨true, true⟩ 101 [(.own 0 0 list_1.length), (.int .i64 k_2), (.int .i64 session_3)] [.row 2 (list_1.map encGLock)] (.tup [(.own 1 0 r.1.length), (.own 2 0 r.2.length)]) [.dead, .row 2 (r.1.map encGLock), .row 3 (r.2.map encGTold)] := by
 refine CallHeap.of_awp mixed Try.func101 fc101_h2 nle ?_; rw [argT_eq]; unfold impl_leave_h2 at hf; unfold c101_h2; refine (show awp Try.prog ⟨true, true⟩ 1 _ (ofL [(0, (.own 0 0 list_1.length)), (1, (.int .i64 k_2)), (2, (.int .i64 session_3))]) [.row 2 (list_1.map encGLock)] _ from ?_); refine awp_seq <| w_reg <| s_do (o_box (j := 1) (c := (.int .i64 session_3)) rfl trivial rfl rfl) <| s_mov .nil rfl <| s_mov .nil rfl <| w_done <| k_seq <| awp_seq <| w_reg <| ?_
 obtain ⟨g4, hf⟩ := og hf
 refine s_mov (.own 0 0 list_1.length) rfl <| s_mov (.int .i64 k_2) rfl <| s_do (o_iaddrown rfl rfl g4.1 g4.2 rfl rfl) <| ?_; refine s_do (o_bslice (j := 2) (as' := []) rfl (fun _ => by decide) trivial (.refl _) rfl rfl rfl) ?_; refine s_mov (.ptr 0 (0 + k_2.toNat) 0) rfl <| s_mov (.own 2 0 0) rfl <| w_done <| k_seq <| awp_seq <| ?_
 obtain ⟨x_5, ex6, hf⟩ := ob hf
 refine w_opn (o := 0) (i := (0 + k_2.toNat)) (el := (.agg [(.str x_5.Name), (.lst 1 (x_5.Queue.map encI))])) (el2 := (.agg [(.str x_5.Name), (.own 3 0 x_5.Queue.length)])) (xs := [.row 1 (x_5.Queue.map encI)]) rfl rfl rfl ex6 rfl (by simp only [AV.cells, openVs, openV, List.length_map, List.nil_append, List.append_nil, List.cons_append]; rfl) <| w_reg <| ?_
 obtain ⟨g7, hf⟩ := og hf
 obtain ⟨x_8, ex9, hf⟩ := ob hf
 refine s_mov (.ptr 0 (0 + k_2.toNat) 0) rfl <| s_q (.ptr 0 (0 + k_2.toNat) 0) rfl (.of trivial trivial) rfl <| s_do (o_faddrx rfl rfl) <| s_do (o_loadx rfl rfl nle rfl) <| s_do (o_iaddrownn rfl rfl g7 rfl rfl) <| s_do (o_loadrowm (enc := encI) (v := (.int .i64 x_8)) rfl rfl ex9 ⟨rfl, rfl⟩ rfl rfl) <| s_q (.int .i64 session_3) rfl (.of ⟨rfl, rfl⟩ trivial) rfl <| s_q (.bool (x_8 == session_3)) rfl (.of rfl trivial) rfl <| s_mov (.bool (x_8 == session_3)) rfl <| w_done <| k_seq <| awp_seq <| w_reg <| ?_
 obtain ⟨r_10, er11, hf⟩ := ob hf
 refine s_mov (.ptr 0 (0 + k_2.toNat) 0) rfl <| s_mov (.ptr 0 (0 + k_2.toNat) 0) rfl <| s_q (.ptr 0 (0 + k_2.toNat) 0) rfl (.of trivial trivial) rfl <| s_do (o_faddrx rfl rfl) <| s_do (o_loadx rfl rfl nle rfl) <| s_q (.fn 186 [(.ptr 1 0 0)]) rfl (.of trivial trivial) rfl <| ?_; refine s_do (o_callh (v := (.own 4 0 r_10.1.length)) (h2 := [.rowx 2 (list_1.map encGLock) (0 + k_2.toNat) (.agg [(.str x_5.Name), (.own 3 0 x_5.Queue.length)]), .box 1 (.int .i64 r_10.2), .row 3 ([].map encGTold), .dead, .row 1 (r_10.1.map encI)]) [] [3, 1] (fun _ => rfl) (w_slices_DeleteFunc_int_int_h3 _ _ _ er11) rfl (.refl _) (.refl _) rfl rfl) ?_; refine s_q (.ptr 0 (0 + k_2.toNat) 0) rfl (.of trivial trivial) rfl <| s_do (o_faddrx rfl rfl) <| ?_
 refine s_do0 (o_storex (v := (.own 4 0 r_10.1.length)) (y' := (.agg [(.str x_5.Name), (.own 4 0 r_10.1.length)])) rfl rfl rfl trivial ⟨rfl, nle⟩ ⟨⟨rfl, trivial⟩, trivial⟩ rfl) <| w_done <| k_seq <| awp_seq <| awp_seq <| w_reg <| s_mov (.ptr 0 (0 + k_2.toNat) 0) rfl <| s_q (.ptr 0 (0 + k_2.toNat) 0) rfl (.of trivial trivial) rfl <| s_do (o_faddrx rfl rfl) <| s_do (o_loadx rfl rfl nle rfl) <| s_dof (o_lenown rfl rfl) fun hl12 => s_q (.bool ((r_10.1.length : Int) == 0)) rfl (.of rfl trivial) rfl <| w_done <| k_seq <| ?_
 rcases oi hf with ⟨c13, hf⟩ | ⟨c13, hf⟩
 ·refine w_condt rfl c13 <| awp_seq <| w_cls (o := 0) (y := (⟨x_5.Name, r_10.1⟩ : GLock)) (h2 := [.rowx 2 (list_1.map encGLock) (0 + k_2.toNat) (.agg [(.str x_5.Name), (.own 4 0 r_10.1.length)]), .box 1 (.int .i64 r_10.2), .row 3 ([].map encGTold), .dead, .dead]) rfl rfl rfl (.agg (.cons (.refl _) (.cons (.of_eq (congrArg (AV.lst _) (tk (enc := encI) r_10.1))) .nil))) rfl <| w_reg <| ?_
  obtain ⟨r_14, er15, hf⟩ := ob hf
  refine s_mov (.own 0 0 list_1.length) rfl <| s_mov (.int .i64 k_2) rfl <| s_mov (.int .i64 k_2) rfl <| s_q (.int .i64 (w64 (k_2 + 1))) rfl (.of rfl trivial) rfl <| ?_; refine s_do (o_callh (v := (.own 5 0 r_14.length)) (h2 := [.dead, .box 1 (.int .i64 r_10.2), .row 3 ([].map encGTold), .dead, .dead, .row 2 (r_14.map encGLock)]) [] [0] (fun _ => rfl) (w_slices_Delete_impl_Lock_impl_Lock_h1 _ _ _ _ er15) rfl (.cons (.of_eq (congrArg (AV.own _ 0) (by simp))) (.cons (.refl _) (.cons (.refl _) .nil))) (.refl _) rfl rfl) ?_; refine s_mov (.own 2 0 0) rfl <| s_mov (.own 5 0 r_14.length) rfl <| s_mov (.own 2 0 0) rfl <| w_done <| k_seq <| w_ret <| ?_; obtain rfl := os hf; exact r_heap [] [0, 5, 2] rfl ⟨.of trivial trivial, ⟨.of trivial trivial, trivial⟩⟩ rfl (.refl _) (.refl _)
 ·refine w_condf rfl (bf c13) <| w_skip <| k_seq <| awp_seq <| awp_seq <| w_reg <| s_mov (.bool (x_8 == session_3)) rfl <| w_done <| k_seq <| ?_
  rcases oi hf with ⟨c16, hf⟩ | ⟨c16, hf⟩
  ·refine w_condt rfl c16 <| w_reg <| s_mov (.own 2 0 0) rfl <| s_mov (.ptr 0 (0 + k_2.toNat) 0) rfl <| s_q (.ptr 0 (0 + k_2.toNat) 0) rfl (.of trivial trivial) rfl <| s_do (o_faddrx rfl rfl) <| s_do (o_loadx rfl rfl nle rfl) <| ?_
   obtain ⟨g17, hf⟩ := og hf
   refine s_do (o_iaddrownn rfl rfl g17 rfl rfl) ?_
   obtain ⟨x_18, ex19, hf⟩ := ob hf
   refine s_do (o_loadrowm (enc := encI) (v := (.int .i64 x_18)) rfl rfl ex19 ⟨rfl, rfl⟩ rfl rfl) <| s_mov (.ptr 0 (0 + k_2.toNat) 0) rfl <| s_q (.ptr 0 (0 + k_2.toNat) 0) rfl (.of trivial trivial) rfl <| s_do (o_faddrx rfl rfl) <| s_do (o_loadx rfl rfl nle rfl) <| s_q (.agg [(.int .i64 x_18), (.str [108, 111, 99, 107, 101, 100]), (.str x_5.Name)]) rfl (.of ⟨⟨rfl, nle, trivial⟩, ⟨⟨rfl, nle, trivial⟩, ⟨⟨rfl, nle, trivial⟩, trivial⟩⟩⟩ trivial) rfl <| ?_; refine s_dol (o_bslice (j := 5) (as' := [(encGTold (⟨x_18, [108, 111, 99, 107, 101, 100], x_5.Name⟩ : GTold))]) rfl (fun _ => by decide) ⟨rfl, trivial⟩ (.refl _) rfl rfl rfl) trivial trivial ?_
   obtain ⟨g20, hf⟩ := og hf
   refine s_dol (o_appendd (j := 6) (L := (([] ++ [(⟨x_18, [108, 111, 99, 107, 101, 100], x_5.Name⟩ : GTold)]).map encGTold)) (len := ([] ++ [(⟨x_18, [108, 111, 99, 107, 101, 100], x_5.Name⟩ : GTold)]).length) rfl false rfl rfl (fun _ => flo (enc := encGTold) (fun _ => rfl) [(⟨x_18, [108, 111, 99, 107, 101, 100], x_5.Name⟩ : GTold)] _) (fun _ _ h => (ownl (show AV.own _ _ _ = AV.lst _ _ from h)).elim) (by decide) ((by simp [← List.map_take])) (by simp <;> omega) g20 rfl rfl) trivial trivial ?_
   refine s_dol (o_mov (.own 6 0 (([] ++ [(⟨x_18, [108, 111, 99, 107, 101, 100], x_5.Name⟩ : GTold)]).length)) rfl) a_same trivial <| w_done <| k_seq <| awp_seq <| w_reg <| s_mov (.own 0 0 list_1.length) rfl <| s_mov (.own 6 0 (([] ++ [(⟨x_18, [108, 111, 99, 107, 101, 100], x_5.Name⟩ : GTold)]).length)) rfl <| s_mov (.own 0 0 list_1.length) rfl <| s_mov (.own 6 0 (([] ++ [(⟨x_18, [108, 111, 99, 107, 101, 100], x_5.Name⟩ : GTold)]).length)) rfl <| w_done <| k_seq <| w_cls (o := 0) (y := (⟨x_5.Name, r_10.1⟩ : GLock)) (h2 := [.rowx 2 (list_1.map encGLock) (0 + k_2.toNat) (.agg [(.str x_5.Name), (.own 4 0 r_10.1.length)]), .box 1 (.int .i64 r_10.2), .dead, .dead, .dead, .row 3 ([(⟨x_18, [108, 111, 99, 107, 101, 100], x_5.Name⟩ : GTold)].map encGTold), .row 3 (([] ++ [(⟨x_18, [108, 111, 99, 107, 101, 100], x_5.Name⟩ : GTold)]).map encGTold)]) rfl rfl rfl (.agg (.cons (.refl _) (.cons (.of_eq (congrArg (AV.lst _) (tk (enc := encI) r_10.1))) .nil))) rfl <| ?_
   refine w_ret ?_; obtain rfl := os hf; exact r_heap [.mv 0] [0, 7, 6] rfl ⟨.of trivial trivial, ⟨.of trivial trivial, trivial⟩⟩ rfl (.refl _) (.tup (.cons (.of_eq (congrArg (AV.own _ 0) (by simp))) (.cons (.refl _) .nil)))
  ·refine w_condf rfl (bf c16) <| w_skip <| k_seq <| awp_seq <| w_reg <| s_mov (.own 0 0 list_1.length) rfl <| s_mov (.own 2 0 0) rfl <| s_mov (.own 0 0 list_1.length) rfl <| s_mov (.own 2 0 0) rfl <| w_done <| k_seq <| w_cls (o := 0) (y := (⟨x_5.Name, r_10.1⟩ : GLock)) (h2 := [.rowx 2 (list_1.map encGLock) (0 + k_2.toNat) (.agg [(.str x_5.Name), (.own 4 0 r_10.1.length)]), .box 1 (.int .i64 r_10.2), .row 3 ([].map encGTold), .dead, .dead]) rfl rfl rfl (.agg (.cons (.refl _) (.cons (.of_eq (congrArg (AV.lst _) (tk (enc := encI) r_10.1))) .nil))) rfl <| w_ret <| ?_; obtain rfl := os hf; exact r_heap [.mv 0] [0, 5, 2] rfl ⟨.of trivial trivial, ⟨.of trivial trivial, trivial⟩⟩ rfl (.refl _) (.tup (.cons (.of_eq (congrArg (AV.own _ 0) (by simp))) (.cons (.refl _) .nil)))

/- impl.LeaveAll -/
def c27 : ACode :=
 (.seq (.reg (tm 4 (.c .nil) (tm 5 (.c .nil) (tm 6 (.c (.int .i64 0)) .done))))
 (.seq (.seq (.reg (tm 16 (.t 0) (tm 17 (.t 1) (tq 18 (.call 97 [(.t 16), (.t 17)]) (tm 7 (.t 18) .done)))))
 (.seq (.reg (tm 19 (.t 7) (tq 20 (.bin .neq (.t 19) (.c (.int .i64 0))) .done)))
 (.cond (.t 20) (.seq (.reg (tm 21 (.t 7) (tm 4 (.c .nil) (tm 5 (.c .nil) (tm 6 (.t 21) .done)))))
 .ret)
 .skip)))
 (.seq (.reg (tm 22 (.t 0) (tq 23 (.call 98 [(.t 22)]) (tq 24 (.bslice 3 []) (tm 8 (.t 23) (tm 9 (.t 24) .done))))))
 (.seq (.seq (.reg (tm 25 (.t 0) (tq 26 (.len (.t 25)) (tm 27 (.c (.int .i64 0)) .done))))
 (.block 0 (.loop (.seq (.reg (tq 28 (.bin .lss (.t 27) (.t 26)) .done))
 (.seq (.cond (.t 28) .skip
 (.exit 0))
 (.seq (.block 1 (.seq (.reg (tq 29 (.iaddr 2 (.t 25) (.t 27)) (tq 30 (.load 2 true (.t 29)) (tq 11 (.box 2 (.c (.agg [(.str []), .nil]))) (.q ⟨none, none, .store 2 (.t 11) (.t 30)⟩
 .done)))))
 (.seq (.reg (tm 32 (.t 8) (tq 33 (.faddr 0 (.t 11)) (tq 34 (.load 1 false (.t 33)) (tq 35 (.call 99 [(.t 32), (.t 34)]) (tm 31 (.t 35) (tq 36 (.extract 0 (.t 31)) (tq 37 (.extract 1 (.t 31)) (tm 12 (.t 36) (tm 13 (.t 37) .done))))))))))
 (.seq (.reg (tq 38 (.faddr 1 (.t 11)) (tq 39 (.load 1 false (.t 38)) (tm 40 (.t 1) (tq 41 (.call 100 [(.t 39), (.t 40)]) .done)))))
 (.cond (.t 41) (.seq (.reg (tm 43 (.t 8) (tm 44 (.t 12) (tm 45 (.t 1) (tq 46 (.call 101 [(.t 43), (.t 44), (.t 45)]) (tm 42 (.t 46) (tq 47 (.extract 0 (.t 42)) (tq 48 (.extract 1 (.t 42)) (tm 14 (.t 47) (tm 15 (.t 48) .done))))))))))
 (.reg (tm 49 (.t 14) (tm 50 (.t 9) (tm 51 (.t 15) (tq 52 (.append 3 40 (.t 50) (.t 51)) (tm 8 (.t 49) (tm 9 (.t 52) .done))))))))
 .skip)))))
 (.reg (tq 53 (.bin .add (.t 27) (.c (.int .i64 1))) (tm 27 (.t 53) .done)))))))))
 (.cut (.seq (.reg (tm 54 (.t 8) (tm 55 (.t 9) (tm 4 (.t 54) (tm 5 (.t 55) (tm 6 (.c (.int .i64 0)) .done))))))
 .ret))))))
theorem fc27 : fcomp Try.prog Try.f27 = some (c27.erase, [.mov (.t 4), .mov (.t 5), .mov (.t 6)], 56) := by kernel_rfl
def impl_LeaveAll_L1 (session_2 : Int) : List GLock → (List GLock) → (List GTold) → Option ((List GLock) × (List GTold))
  | [], out_35, told_36 =>
    some (out_35, told_36)
  | x_57 :: xs, out_35, told_36 =>
    (impl_lockAt_h0 out_35 x_57.Name).bind fun r_58 =>
    (slices_Contains_int_int x_57.Queue session_2).bind fun r_60 =>
    if r_60 then
    (impl_leave_h2 out_35 r_58.1 session_2).bind fun r_63 =>
    if (told_36 ++ r_63.2).length ≤ 2 ^ 30 then
    impl_LeaveAll_L1 session_2 xs  r_63.1 (told_36 ++ r_63.2)
    else none
    else
    impl_LeaveAll_L1 session_2 xs  out_35 told_36

def impl_LeaveAll (list_1 : (List GLock)) (session_2 : Int) : Option ((List GLock) × (List GTold) × Int) :=
    (impl_sessionCode list_1 session_2).bind fun r_3 =>
    if (r_3 != 0) then
    some ([], [], r_3)
    else
    (impl_copyLocks list_1).bind fun r_6 =>
    (impl_LeaveAll_L1 session_2 list_1 r_6 []).bind fun p50 =>
    (match p50 with
    | (out_48, told_49) =>
    some (out_48, told_49, 0))
theorem w_impl_LeaveAll (list_1 : (List GLock)) (session_2 : Int) (r : ((List GLock) × (List GTold) × Int)) (hf : impl_LeaveAll list_1 session_2 = some r) : CallOK Try.prog 27 .fresh [(.lst 2 (list_1.map encGLock)), (.int .i64 session_2)] (.tup [(.lst 2 (r.1.map encGLock)), (.lst 3 (r.2.1.map encGTold)), (.int .i64 r.2.2)]) := by
 refine CallOK.of_awp' (md := ⟨true, true⟩) (fun _ => rfl) (fun _ => rfl) (fun h => by cases h) mixed Try.func27 fc27 nle ?_; rw [argT_eq]; unfold impl_LeaveAll at hf; unfold c27; refine (show awp Try.prog ⟨true, true⟩ 0 _ (ofL [(0, (.lst 2 (list_1.map encGLock))), (1, (.int .i64 session_2))]) [] _ from ?_); refine awp_seq <| w_reg <| s_mov .nil rfl <| s_mov .nil rfl <| s_mov (.int .i64 0) rfl <| w_done <| k_seq <| awp_seq <| awp_seq <| w_reg <| ?_
 obtain ⟨r_3, er4, hf⟩ := ob hf
 refine s_mov (.lst 2 (list_1.map encGLock)) rfl <| s_mov (.int .i64 session_2) rfl <| s_do (o_call (w_impl_sessionCode _ _ _ er4) rfl (.refl _) rfl) <| s_mov (.int .i64 r_3) rfl <| w_done <| k_seq <| awp_seq <| w_reg <| s_mov (.int .i64 r_3) rfl <| s_q (.bool (r_3 != 0)) rfl (.of rfl trivial) rfl <| w_done <| k_seq <| ?_
 rcases oi hf with ⟨c5, hf⟩ | ⟨c5, hf⟩
 ·refine w_condt rfl c5 <| awp_seq <| w_reg <| s_mov (.int .i64 r_3) rfl <| s_mov .nil rfl <| s_mov .nil rfl <| s_mov (.int .i64 r_3) rfl <| w_done <| k_seq <| w_ret <| ?_; obtain rfl := os hf; exact r_fresh ⟨.of trivial trivial, ⟨.of trivial trivial, ⟨.of trivial trivial, trivial⟩⟩⟩ rfl (by decide) (.tup (.cons (.nil _) (.cons (.nil _) (.cons (.refl _) .nil))))
 ·refine w_condf rfl (bf c5) <| w_skip <| k_seq <| awp_seq <| w_reg <| ?_
  obtain ⟨r_6, er7, hf⟩ := ob hf
  refine s_mov (.lst 2 (list_1.map encGLock)) rfl <| s_do (o_callf (v := (.own 0 0 r_6.length)) (h' := [.row 2 (r_6.map encGLock)]) (w_impl_copyLocks _ _ er7) rfl (.refl _) (by simp only [openV, openVs, List.length_map, List.nil_append, List.append_nil, List.cons_append]; rfl)) <| ?_; refine s_do (o_bslice (j := 1) (as' := []) rfl (fun _ => by decide) trivial (.refl _) rfl rfl rfl) ?_; refine s_mov (.own 0 0 r_6.length) rfl <| s_mov (.own 1 0 0) rfl <| w_done <| k_seq <| awp_seq <| awp_seq <| w_reg <| s_mov (.lst 2 (list_1.map encGLock)) rfl <| s_dof (o_len (enc := encGLock) rfl) fun hl8 => s_mov (.int .i64 0) rfl <| w_done <| k_seq <| ?_
  obtain ⟨p50, hb1, hf⟩ := ob hf
  refine awp_cut ([(8, (.own 0 0 p50.1.length)), (9, (.own 1 0 p50.2.length))], [.row 2 (p50.1.map encGLock), .row 3 (p50.2.map encGTold)]) ?_ ?_
  ·refine awp_loop (X := {q : (Nat × (List GLock) × (List GTold)) // impl_LeaveAll_L1 session_2 (list_1.drop q.1) q.2.1 q.2.2 = some p50}) (fun q => ([(1, (.int .i64 session_2)), (8, (.own 0 0 q.1.2.1.length)), (9, (.own 1 0 q.1.2.2.length)), (25, (.lst 2 (list_1.map encGLock))), (26, (.int .i64 (list_1.length : Int))), (27, (.int .i64 (q.1.1 : Int)))], [.row 2 (q.1.2.1.map encGLock), .row 3 (q.1.2.2.map encGTold)])) (fun q => list_1.length - q.1.1) ⟨(0, r_6, []), hb1⟩ ⟨[], [0, 1], _, _, rfl, rfl, ⟨.refl _, ⟨.refl _, ⟨.of_eq (congrArg (AV.own _ 0) (by simp)), ⟨.refl _, ⟨.refl _, ⟨.refl _, trivial⟩⟩⟩⟩⟩⟩, (.refl _)⟩ ?_
   rintro ⟨⟨s27_34, out_35, told_36⟩, hc1⟩
   have hc1 : impl_LeaveAll_L1 session_2 (list_1.drop s27_34) out_35 told_36 = some p50 := hc1
   refine (show awp Try.prog ⟨true, true⟩ 0 _ (ofL [(1, (.int .i64 session_2)), (8, (.own 0 0 out_35.length)), (9, (.own 1 0 told_36.length)), (25, (.lst 2 (list_1.map encGLock))), (26, (.int .i64 (list_1.length : Int))), (27, (.int .i64 (s27_34 : Int)))]) [.row 2 (out_35.map encGLock), .row 3 (told_36.map encGTold)] _ from ?_)
   rcases dropc list_1 s27_34 with ⟨hie53, hd56⟩ | ⟨hlt51, x_57, hx52, hd56⟩
   ·rw [hd56, impl_LeaveAll_L1.eq_1] at hc1
    have hq55 := dlf hie53
    refine awp_seq <| w_reg <| s_q (.bool (decide ((s27_34 : Int) < (list_1.length : Int)))) rfl (.of rfl trivial) rfl <| w_done <| k_seq <| awp_seq <| w_condf rfl hq55 <| w_exit <| k_seqx <| k_loopx <| k_blkx <| ?_; obtain rfl := os hc1; exact ⟨[], [0, 1], _, _, rfl, rfl, ⟨.refl _, ⟨.refl _, trivial⟩⟩, (.refl _)⟩
   ·rw [hd56, impl_LeaveAll_L1.eq_2] at hc1
    have hq55 := dlt hlt51
    refine awp_seq <| w_reg <| s_q (.bool (decide ((s27_34 : Int) < (list_1.length : Int)))) rfl (.of rfl trivial) rfl <| w_done <| k_seq <| awp_seq <| w_condt rfl hq55 <| w_skip <| k_seq <| awp_seq <| w_blk <| awp_seq <| w_reg <| s_do (o_iaddrn (enc := encGLock) rfl rfl hx52) <| s_q (encGLock x_57) rfl (.of nle trivial) rfl <| s_do (o_box (j := 2) (c := (.agg [(.str []), .nil])) rfl trivial rfl rfl) <| s_do0 (o_storebox (v := (.agg [(.str x_57.Name), (.lst 1 (x_57.Queue.map encI))])) (y' := (.agg [(.str x_57.Name), (.lst 1 (x_57.Queue.map encI))])) rfl rfl rfl trivial ⟨rfl, nle⟩ ⟨⟨rfl, trivial⟩, ⟨⟨rfl, trivial⟩, trivial⟩⟩ rfl) <| w_done <| k_seq <| awp_seq <| w_reg <| ?_
    obtain ⟨r_58, er59, hc1⟩ := ob hc1
    refine s_mov (.own 0 0 out_35.length) rfl <| s_q (.ptr 2 0 0) rfl (.of trivial trivial) rfl <| s_q (.str x_57.Name) rfl (.of nle trivial) rfl <| ?_; refine s_do (o_callh (v := (.tup [(.int .i64 r_58.1), (.bool r_58.2)])) (h2 := [.row 2 (out_35.map encGLock), .row 3 (told_36.map encGTold), .box 2 (.agg [(.str x_57.Name), (.lst 1 (x_57.Queue.map encI))])]) [] [0] (fun _ => rfl) (w_impl_lockAt_h0 _ _ _ er59) rfl (.refl _) (.refl _) rfl rfl) ?_; refine s_mov (.tup [(.int .i64 r_58.1), (.bool r_58.2)]) rfl <| s_q (.int .i64 r_58.1) rfl (.of nle trivial) rfl <| s_q (.bool r_58.2) rfl (.of nle trivial) rfl <| s_mov (.int .i64 r_58.1) rfl <| s_mov (.bool r_58.2) rfl <| w_done <| k_seq <| awp_seq <| w_reg <| ?_
    obtain ⟨r_60, er61, hc1⟩ := ob hc1
    refine s_q (.ptr 2 0 1) rfl (.of trivial trivial) rfl <| s_q (.lst 1 (x_57.Queue.map encI)) rfl (.of nle trivial) rfl <| s_mov (.int .i64 session_2) rfl <| s_do (o_call (w_slices_Contains_int_int _ _ _ er61) rfl (.refl _) rfl) <| w_done <| k_seq <| ?_
    rcases oi hc1 with ⟨c62, hc1⟩ | ⟨c62, hc1⟩
    ·refine w_condt rfl c62 <| awp_seq <| w_reg <| ?_
     obtain ⟨r_63, er64, hc1⟩ := ob hc1
     refine s_mov (.own 0 0 out_35.length) rfl <| s_mov (.int .i64 r_58.1) rfl <| s_mov (.int .i64 session_2) rfl <| ?_; refine s_do (o_callh (v := (.tup [(.own 3 0 r_63.1.length), (.own 4 0 r_63.2.length)])) (h2 := [.dead, .row 3 (told_36.map encGTold), .box 2 (.agg [(.str x_57.Name), (.lst 1 (x_57.Queue.map encI))]), .row 2 (r_63.1.map encGLock), .row 3 (r_63.2.map encGTold)]) [] [0] (fun _ => rfl) (w_impl_leave_h2 _ _ _ _ er64) rfl (.refl _) (.refl _) rfl rfl) ?_; refine s_mov (.tup [(.own 3 0 r_63.1.length), (.own 4 0 r_63.2.length)]) rfl <| s_q (.own 3 0 r_63.1.length) rfl (.of nle trivial) rfl <| s_q (.own 4 0 r_63.2.length) rfl (.of nle trivial) rfl <| s_mov (.own 3 0 r_63.1.length) rfl <| s_mov (.own 4 0 r_63.2.length) rfl <| ?_
     refine w_done <| k_seq <| w_reg <| ?_
     obtain ⟨g65, hc1⟩ := og hc1
     refine s_mov (.own 3 0 r_63.1.length) rfl <| s_mov (.own 1 0 told_36.length) rfl <| s_mov (.own 4 0 r_63.2.length) rfl <| ?_
     refine s_do (o_appendd (j := 5) (L := ((told_36 ++ r_63.2).map encGTold)) (len := (told_36 ++ r_63.2).length) rfl false rfl rfl (fun _ => flo (enc := encGTold) (fun _ => rfl) r_63.2 _) (fun _ _ h => (ownl (show AV.own _ _ _ = AV.lst _ _ from h)).elim) (by decide) (apo (enc := encGTold) told_36 r_63.2) (by simp <;> omega) g65 rfl rfl) ?_
     refine s_mov (.own 3 0 r_63.1.length) rfl <| s_mov (.own 5 0 ((told_36 ++ r_63.2).length)) rfl <| w_done <| k_blk <| k_seq <| w_reg <| s_q (.int .i64 (w64 ((s27_34 : Int) + 1))) rfl (.of rfl trivial) rfl <| s_mov (.int .i64 (w64 ((s27_34 : Int) + 1))) rfl <| w_done <| ?_; exact k_loopn ⟨((s27_34 + 1), r_63.1, told_36 ++ r_63.2), hc1⟩ (mul hlt51) ⟨[], [3, 5], _, _, rfl, rfl, ⟨.refl _, ⟨.refl _, ⟨.refl _, ⟨.refl _, ⟨.refl _, ⟨.of_eq (congrArg (AV.int _) (w64_incr hlt51 hl8)), trivial⟩⟩⟩⟩⟩⟩, (.refl _)⟩
    ·refine w_condf rfl (bf c62) <| w_skip <| k_blk <| k_seq <| w_reg <| s_q (.int .i64 (w64 ((s27_34 : Int) + 1))) rfl (.of rfl trivial) rfl <| s_mov (.int .i64 (w64 ((s27_34 : Int) + 1))) rfl <| w_done <| ?_; exact k_loopn ⟨((s27_34 + 1), out_35, told_36), hc1⟩ (mul hlt51) ⟨[], [0, 1], _, _, rfl, rfl, ⟨.refl _, ⟨.refl _, ⟨.refl _, ⟨.refl _, ⟨.refl _, ⟨.of_eq (congrArg (AV.int _) (w64_incr hlt51 hl8)), trivial⟩⟩⟩⟩⟩⟩, (.refl _)⟩
  ·obtain ⟨out_48, told_49⟩ := p50
   refine awp_seq <| w_reg <| s_mov (.own 0 0 out_48.length) rfl <| s_mov (.own 1 0 told_49.length) rfl <| s_mov (.own 0 0 out_48.length) rfl <| s_mov (.own 1 0 told_49.length) rfl <| s_mov (.int .i64 0) rfl <| w_done <| k_seq <| w_ret <| ?_; obtain rfl := os hf; exact r_fresh ⟨.of trivial trivial, ⟨.of trivial trivial, ⟨.of trivial trivial, trivial⟩⟩⟩ rfl (by decide) (.tup (.cons (.of_eq (congrArg (AV.lst _) (tk (enc := encGLock) out_48))) (.cons (.of_eq (congrArg (AV.lst _) (tk (enc := encGTold) told_49))) (.cons (.refl _) .nil))))

/- spec.l00Letter -/
def c273 : ACode :=
 (.seq (.reg (tm 2 (.c (.bool false)) .done))
 (.seq (.reg (tm 3 (.t 0) (tq 4 (.bin .geq (.t 3) (.c (.int .u8 97))) (tm 5 (.t 4) (tg 6 5 true (.mov (.t 0)) (tg 7 5 true (.bin .leq (.t 6) (.c (.int .u8 122))) (tq 8 (.pick (.t 5) (.t 7) (.c (.bool false))) (tm 9 (.t 8) (tg 10 9 false (.mov (.t 0)) (tg 11 9 false (.bin .geq (.t 10) (.c (.int .u8 65))) (tg 12 9 false (.mov (.t 11)) (tg 13 12 true (.mov (.t 0)) (tg 14 12 true (.bin .leq (.t 13) (.c (.int .u8 90))) (tg 15 9 false (.pick (.t 12) (.t 14) (.c (.bool false))) (tq 16 (.pick (.t 9) (.c (.bool true)) (.t 15)) (tm 17 (.t 16) (tg 18 17 false (.mov (.t 0)) (tg 19 17 false (.bin .eql (.t 18) (.c (.int .u8 95))) (tq 20 (.pick (.t 17) (.c (.bool true)) (.t 19)) (tm 2 (.t 20) .done))))))))))))))))))))
 .ret))
theorem fc273 : fcomp Try.prog Try.f273 = some (c273.erase, [.mov (.t 2)], 21) := by kernel_rfl
def spec_l00Letter (c_1 : Int) : Option Bool :=
    some (bif (bif (bif (decide (c_1 ≥ 97)) then (decide (c_1 ≤ 122)) else false) then true else (bif (decide (c_1 ≥ 65)) then (decide (c_1 ≤ 90)) else false)) then true else (c_1 == 95))
theorem w_spec_l00Letter (c_1 : Int) (r : Bool) (hf : spec_l00Letter c_1 = some r) : CallOK Try.prog 273 .flat [(.int .u8 c_1)] (.bool r) := by
 refine CallOK.of_awp mixed Try.func273 fc273 nle ?_; rw [argT_eq]; unfold spec_l00Letter at hf; unfold c273; refine (show awp Try.prog false 0 _ (ofL [(0, (.int .u8 c_1))]) [] _ from ?_); refine awp_seq <| w_reg <| s_mov (.bool false) rfl <| w_done <| k_seq <| awp_seq <| w_reg <| s_mov (.int .u8 c_1) rfl <| s_q (.bool (decide (c_1 ≥ 97))) rfl rfl rfl <| s_mov (.bool (decide (c_1 ≥ 97))) rfl <| ?_; refine s_g (v := (decide (c_1 ≥ 97))) (.int .u8 c_1) rfl (fun hv => by (try simp only [gs_on hv]); exact ⟨rfl, trivial, rfl⟩) ?_; refine s_g (v := (decide (c_1 ≥ 97))) (.bool (decide (c_1 ≤ 122))) rfl (fun hv => by (try simp only [gs_on hv]); exact ⟨rfl, rfl, rfl⟩) ?_; refine s_pick (x := (decide (c_1 ≤ 122))) (y := false) rfl (fun hv => by (try simp only [gs_on hv]); rfl) (fun hv => by (try simp only [gs_on hv]); rfl) ?_
 refine s_mov (.bool (bif (decide (c_1 ≥ 97)) then (decide (c_1 ≤ 122)) else false)) rfl ?_; refine s_g (v := (bif (decide (c_1 ≥ 97)) then (decide (c_1 ≤ 122)) else false)) (.int .u8 c_1) rfl (fun hv => by (try simp only [gs_on hv]); exact ⟨rfl, trivial, rfl⟩) ?_; refine s_g (v := (bif (decide (c_1 ≥ 97)) then (decide (c_1 ≤ 122)) else false)) (.bool (decide (c_1 ≥ 65))) rfl (fun hv => by (try simp only [gs_on hv]); exact ⟨rfl, rfl, rfl⟩) ?_; refine s_g (v := (bif (decide (c_1 ≥ 97)) then (decide (c_1 ≤ 122)) else false)) (.bool (decide (c_1 ≥ 65))) rfl (fun hv => by (try simp only [gs_on hv]); exact ⟨rfl, trivial, rfl⟩) ?_; refine s_gg (v1 := (bif (decide (c_1 ≥ 97)) then (decide (c_1 ≤ 122)) else false)) (b1 := false) (v2 := (decide (c_1 ≥ 65))) (.int .u8 c_1) rfl (fun hv hw => by (try simp only [gs_on hv, gs_on hw]); exact ⟨rfl, trivial, rfl⟩) ?_
 refine s_gg (v1 := (bif (decide (c_1 ≥ 97)) then (decide (c_1 ≤ 122)) else false)) (b1 := false) (v2 := (decide (c_1 ≥ 65))) (.bool (decide (c_1 ≤ 90))) rfl (fun hv hw => by (try simp only [gs_on hv, gs_on hw]); exact ⟨rfl, rfl, rfl⟩) ?_; refine s_gp (v1 := (bif (decide (c_1 ≥ 97)) then (decide (c_1 ≤ 122)) else false)) (b1 := false) (v2 := (decide (c_1 ≥ 65))) (x := (decide (c_1 ≤ 90))) (y := false) rfl (fun hv => by (try simp only [gs_on hv]); rfl) (fun hv hw => by (try simp only [gs_on hv, gs_on hw]); rfl) (fun hv hw => by (try simp only [gs_on hv, gs_on hw]); rfl) ?_; refine s_pick (x := true) (y := (bif (decide (c_1 ≥ 65)) then (decide (c_1 ≤ 90)) else false)) rfl (fun hv => by (try simp only [gs_on hv]); rfl) (fun hv => by (try simp only [gs_on hv]); rfl) ?_
 refine s_mov (.bool (bif (bif (decide (c_1 ≥ 97)) then (decide (c_1 ≤ 122)) else false) then true else (bif (decide (c_1 ≥ 65)) then (decide (c_1 ≤ 90)) else false))) rfl ?_; refine s_g (v := (bif (bif (decide (c_1 ≥ 97)) then (decide (c_1 ≤ 122)) else false) then true else (bif (decide (c_1 ≥ 65)) then (decide (c_1 ≤ 90)) else false))) (.int .u8 c_1) rfl (fun hv => by (try simp only [gs_on hv]); exact ⟨rfl, trivial, rfl⟩) ?_; refine s_g (v := (bif (bif (decide (c_1 ≥ 97)) then (decide (c_1 ≤ 122)) else false) then true else (bif (decide (c_1 ≥ 65)) then (decide (c_1 ≤ 90)) else false))) (.bool (c_1 == 95)) rfl (fun hv => by (try simp only [gs_on hv]); exact ⟨rfl, rfl, rfl⟩) ?_; refine s_pick (x := true) (y := (c_1 == 95)) rfl (fun hv => by (try simp only [gs_on hv]); rfl) (fun hv => by (try simp only [gs_on hv]); rfl) ?_
 refine s_mov (.bool (bif (bif (bif (decide (c_1 ≥ 97)) then (decide (c_1 ≤ 122)) else false) then true else (bif (decide (c_1 ≥ 65)) then (decide (c_1 ≤ 90)) else false)) then true else (c_1 == 95))) rfl <| w_done <| k_seq <| w_ret <| ?_; obtain rfl := os hf; exact r_flat ⟨trivial, trivial⟩ rfl (.refl _)

/- spec.l00Digit -/
def c274 : ACode :=
 (.seq (.reg (tm 2 (.c (.bool false)) .done))
 (.seq (.reg (tm 3 (.t 0) (tq 4 (.bin .geq (.t 3) (.c (.int .u8 48))) (tm 5 (.t 4) (tg 6 5 true (.mov (.t 0)) (tg 7 5 true (.bin .leq (.t 6) (.c (.int .u8 57))) (tq 8 (.pick (.t 5) (.t 7) (.c (.bool false))) (tm 2 (.t 8) .done))))))))
 .ret))
theorem fc274 : fcomp Try.prog Try.f274 = some (c274.erase, [.mov (.t 2)], 9) := by kernel_rfl
def spec_l00Digit (c_1 : Int) : Option Bool :=
    if (decide (c_1 ≥ 48)) then
    some (decide (c_1 ≤ 57))
    else
    some false
theorem w_spec_l00Digit (c_1 : Int) (r : Bool) (hf : spec_l00Digit c_1 = some r) : CallOK Try.prog 274 .flat [(.int .u8 c_1)] (.bool r) := by
 refine CallOK.of_awp mixed Try.func274 fc274 nle ?_; rw [argT_eq]; unfold spec_l00Digit at hf; unfold c274; refine (show awp Try.prog false 0 _ (ofL [(0, (.int .u8 c_1))]) [] _ from ?_); refine awp_seq <| w_reg <| s_mov (.bool false) rfl <| w_done <| k_seq <| awp_seq <| w_reg <| ?_
 rcases oi hf with ⟨c2, hf⟩ | ⟨c2, hf⟩
 ·refine s_mov (.int .u8 c_1) rfl <| s_q (.bool (decide (c_1 ≥ 48))) rfl rfl rfl <| s_mov (.bool (decide (c_1 ≥ 48))) rfl <| s_lit (s := 5) (b := true) rfl c2 <| s_on rfl <| s_mov (.int .u8 c_1) rfl <| s_on rfl <| s_q (.bool (decide (c_1 ≤ 57))) rfl rfl rfl <| s_q (.bool (decide (c_1 ≤ 57))) rfl trivial rfl <| s_mov (.bool (decide (c_1 ≤ 57))) rfl <| w_done <| k_seq <| w_ret <| ?_; obtain rfl := os hf; exact r_flat ⟨trivial, trivial⟩ rfl (.refl _)
 ·refine s_mov (.int .u8 c_1) rfl <| s_q (.bool (decide (c_1 ≥ 48))) rfl rfl rfl <| s_mov (.bool (decide (c_1 ≥ 48))) rfl <| s_lit (s := 5) (b := false) rfl (bf c2) <| s_off rfl rfl <| s_off rfl rfl <| s_q (.bool false) rfl trivial rfl <| s_mov (.bool false) rfl <| w_done <| k_seq <| w_ret <| ?_; obtain rfl := os hf; exact r_flat ⟨trivial, trivial⟩ rfl (.refl _)

/- spec.l00Word -/
def c252 : ACode :=
 (.seq (.reg (tm 2 (.c (.bool false)) .done))
 (.seq (.seq (.reg (tm 4 (.t 0) (tq 5 (.lenS (.t 4)) (tq 6 (.bin .lss (.t 5) (.c (.int .i64 1))) (tm 7 (.t 6) (tg 8 7 false (.mov (.t 0)) (tg 9 7 false (.lenS (.t 8)) (tg 10 7 false (.bin .gtr (.t 9) (.c (.int .i64 40))) (tq 11 (.pick (.t 7) (.c (.bool true)) (.t 10)) (tm 12 (.t 11) (tg 13 12 false (.mov (.t 0)) (tg 14 12 false (.idxs (.t 13) (.c (.int .i64 0))) (tg 15 12 false (.call 273 [(.t 14)]) (tg 16 12 false (.not (.t 15)) (tq 17 (.pick (.t 12) (.c (.bool true)) (.t 16)) .done)))))))))))))))
 (.cut (.cond (.t 17) (.seq (.reg (tm 2 (.c (.bool false)) .done))
 .ret)
 .skip)))
 (.seq (.seq (.reg (tm 3 (.c (.int .i64 1)) .done))
 (.block 0 (.loop (.seq (.seq (.reg (tm 18 (.t 3) (tm 19 (.t 0) (tq 20 (.lenS (.t 19)) (tq 21 (.bin .lss (.t 18) (.t 20)) .done)))))
 (.cond (.t 21) .skip
 (.exit 0)))
 (.seq (.block 1 (.seq (.reg (tm 24 (.t 0) (tm 25 (.t 3) (tq 26 (.idxs (.t 24) (.t 25)) (tq 27 (.call 273 [(.t 26)]) (tq 28 (.not (.t 27)) (tm 29 (.t 28) (tg 30 29 true (.mov (.t 0)) (tg 31 29 true (.mov (.t 3)) (tg 32 29 true (.idxs (.t 30) (.t 31)) (tg 33 29 true (.call 274 [(.t 32)]) (tg 34 29 true (.not (.t 33)) (tq 35 (.pick (.t 29) (.t 34) (.c (.bool false))) .done)))))))))))))
 (.cut (.cond (.t 35) (.seq (.reg (tm 2 (.c (.bool false)) .done))
 .ret)
 .skip))))
 (.reg (tm 22 (.t 3) (tq 23 (.bin .add (.t 22) (.c (.int .i64 1))) (tm 3 (.t 23) .done)))))))))
 (.cut (.seq (.reg (tm 2 (.c (.bool true)) .done))
 .ret)))))
theorem fc252 : fcomp Try.prog Try.f252 = some (c252.erase, [.mov (.t 2)], 36) := by kernel_rfl
def spec_l00Word_L1  : List UInt8 → Option (Fl Bool Unit)
  | [] =>
    some (.go ())
  | x_98 :: xs =>
    (((spec_l00Letter (x_98.toNat : Int)).bind fun r_108 =>
    if (!r_108) then
    (spec_l00Digit (x_98.toNat : Int)).bind fun r_111 =>
    some (!r_111)
    else
    some false : Option Bool)).bind fun s35_106 =>
    if s35_106 then
    some (.ret false)
    else
    spec_l00Word_L1 xs 

def spec_l00Word (t_1 : Str) : Option Bool :=
    ((if (bif (decide ((t_1.length : Int) < 1)) then true else (decide ((t_1.length : Int) > 40))) then
    some true
    else
    (idx t_1 0).bind fun b_14 =>
    (spec_l00Letter (b_14.toNat : Int)).bind fun r_16 =>
    some (!r_16) : Option Bool)).bind fun s17_9 =>
    if s17_9 then
    some false
    else
    (spec_l00Word_L1 (t_1.drop 1) ).bind fun q => (match q with
    | .ret r => some r
    | .go _ =>
    some true)
theorem w_spec_l00Word (t_1 : Str) (r : Bool) (hf : spec_l00Word t_1 = some r) : CallOK Try.prog 252 .flat [(.str t_1)] (.bool r) := by
 refine CallOK.of_awp mixed Try.func252 fc252 nle ?_; rw [argT_eq]; unfold spec_l00Word at hf; unfold c252; refine (show awp Try.prog false 0 _ (ofL [(0, (.str t_1))]) [] _ from ?_); refine awp_seq <| w_reg <| s_mov (.bool false) rfl <| w_done <| k_seq <| awp_seq <| awp_seq <| ?_
 obtain ⟨s17_9, hb1, hf⟩ := ob hf
 refine awp_cut ([(0, (.str t_1)), (17, (.bool s17_9))], []) ?_ ?_
 ·refine w_reg <| s_mov (.str t_1) rfl <| s_dof (o_lenS rfl) fun hl11 => s_q (.bool (decide ((t_1.length : Int) < 1))) rfl rfl rfl <| s_mov (.bool (decide ((t_1.length : Int) < 1))) rfl <| ?_; refine s_g (v := (decide ((t_1.length : Int) < 1))) (.str t_1) rfl (fun hv => by (try simp only [gs_on hv]); exact ⟨rfl, trivial, rfl⟩) ?_; refine s_g (v := (decide ((t_1.length : Int) < 1))) (.int .i64 (t_1.length : Int)) rfl (fun hv => by (try simp only [gs_on hv]); exact ⟨rfl, trivial, rfl⟩) ?_; refine s_g (v := (decide ((t_1.length : Int) < 1))) (.bool (decide ((t_1.length : Int) > 40))) rfl (fun hv => by (try simp only [gs_on hv]); exact ⟨rfl, rfl, rfl⟩) ?_; refine s_pick (x := true) (y := (decide ((t_1.length : Int) > 40))) rfl (fun hv => by (try simp only [gs_on hv]); rfl) (fun hv => by (try simp only [gs_on hv]); rfl) ?_
  refine s_mov (.bool (bif (decide ((t_1.length : Int) < 1)) then true else (decide ((t_1.length : Int) > 40)))) rfl ?_
  rcases oi hb1 with ⟨c13, hb1⟩ | ⟨c13, hb1⟩
  ·refine s_lit (s := 12) (b := true) rfl c13 <| s_off rfl rfl <| s_off rfl rfl <| s_off rfl rfl <| s_off rfl rfl <| s_q (.bool true) rfl trivial rfl <| w_done <| ?_; obtain rfl := os hb1; exact ⟨[], [], _, _, rfl, rfl, ⟨.refl _, ⟨.refl _, trivial⟩⟩, (.refl _)⟩
  ·refine s_lit (s := 12) (b := false) rfl (bf c13) <| s_on rfl <| s_mov (.str t_1) rfl <| s_on rfl <| ?_
   obtain ⟨b_14, eb15, hb1⟩ := ob hb1
   refine s_do (o_idxs rfl rfl (idx0 eb15) (idx1 eb15)) <| s_on rfl <| ?_
   obtain ⟨r_16, er17, hb1⟩ := ob hb1
   refine s_do (o_call (w_spec_l00Letter _ _ er17) rfl (.refl _) rfl) <| s_on rfl <| s_q (.bool (!r_16)) rfl trivial rfl <| s_q (.bool (!r_16)) rfl trivial rfl <| w_done <| ?_; obtain rfl := os hb1; exact ⟨[], [], _, _, rfl, rfl, ⟨.refl _, ⟨.refl _, trivial⟩⟩, (.refl _)⟩
 ·rcases oi hf with ⟨c18, hf⟩ | ⟨c18, hf⟩
  ·refine w_condt rfl c18 <| awp_seq <| w_reg <| s_mov (.bool false) rfl <| w_done <| k_seq <| w_ret <| ?_; obtain rfl := os hf; exact r_flat ⟨trivial, trivial⟩ rfl (.refl _)
  ·refine w_condf rfl (bf c18) <| w_skip <| k_seq <| awp_seq <| awp_seq <| w_reg <| s_mov (.int .i64 1) rfl <| w_done <| k_seq <| ?_
   obtain ⟨p91, hb1, hf⟩ := ob hf
   refine awp_cutx (X := {q : Unit // p91 = .go q}) (fun q => ([], [])) ?_ ?_
   ·refine awp_loop (X := {q : Nat // spec_l00Word_L1 (t_1.drop q)  = some p91}) (fun q => ([(0, (.str t_1)), (3, (.int .i64 (q.1 : Int)))], [])) (fun q => t_1.length - q.1) ⟨1, hb1⟩ ⟨[], [], _, _, rfl, rfl, ⟨.refl _, ⟨.refl _, trivial⟩⟩, (.refl _)⟩ ?_
    rintro ⟨i_66, hc1⟩
    have hc1 : spec_l00Word_L1 (t_1.drop i_66)  = some p91 := hc1
    refine (show awp Try.prog false 0 _ (ofL [(0, (.str t_1)), (3, (.int .i64 (i_66 : Int)))]) [] _ from ?_)
    rcases dropc t_1 i_66 with ⟨hie94, hd97⟩ | ⟨hlt92, x_98, hx93, hd97⟩
    ·rw [hd97, spec_l00Word_L1.eq_1] at hc1
     have hq96 := dlf hie94
     refine awp_seq <| awp_seq <| w_reg <| s_mov (.int .i64 (i_66 : Int)) rfl <| s_mov (.str t_1) rfl <| s_dof (o_lenS rfl) fun hl99 => s_q (.bool (decide ((i_66 : Int) < (t_1.length : Int)))) rfl rfl rfl <| w_done <| k_seq <| w_condf rfl hq96 <| w_exit <| k_seqx <| k_loopx <| k_blkx <| ?_; obtain rfl := os hc1; exact k_cutn ⟨_, rfl⟩ ⟨[], [], _, _, rfl, rfl, trivial, (.refl _)⟩
    ·rw [hd97, spec_l00Word_L1.eq_2] at hc1
     have hq96 := dlt hlt92
     refine awp_seq <| awp_seq <| w_reg <| s_mov (.int .i64 (i_66 : Int)) rfl <| s_mov (.str t_1) rfl <| s_dof (o_lenS rfl) fun hl100 => s_q (.bool (decide ((i_66 : Int) < (t_1.length : Int)))) rfl rfl rfl <| w_done <| k_seq <| w_condt rfl hq96 <| w_skip <| k_seq <| awp_seq <| w_blk <| awp_seq <| ?_
     obtain ⟨s35_106, hb2, hc1⟩ := ob hc1
     refine awp_cut ([(0, (.str t_1)), (3, (.int .i64 (i_66 : Int))), (35, (.bool s35_106))], []) ?_ ?_
     ·refine w_reg ?_
      obtain ⟨r_108, er109, hb2⟩ := ob hb2
      rcases oi hb2 with ⟨c110, hb2⟩ | ⟨c110, hb2⟩
      ·obtain ⟨r_111, er112, hb2⟩ := ob hb2
       refine s_mov (.str t_1) rfl <| s_mov (.int .i64 (i_66 : Int)) rfl <| s_do (o_idxsn rfl rfl hx93) <| s_do (o_call (w_spec_l00Letter _ _ er109) rfl (.refl _) rfl) <| s_q (.bool (!r_108)) rfl trivial rfl <| s_mov (.bool (!r_108)) rfl <| s_lit (s := 29) (b := true) rfl c110 <| s_on rfl <| s_mov (.str t_1) rfl <| s_on rfl <| s_mov (.int .i64 (i_66 : Int)) rfl <| s_on rfl <| s_do (o_idxsn rfl rfl hx93) <| s_on rfl <| s_do (o_call (w_spec_l00Digit _ _ er112) rfl (.refl _) rfl) <| s_on rfl <| s_q (.bool (!r_111)) rfl trivial rfl <| s_q (.bool (!r_111)) rfl trivial rfl <| w_done <| ?_; obtain rfl := os hb2; exact ⟨[], [], _, _, rfl, rfl, ⟨.refl _, ⟨.refl _, ⟨.refl _, trivial⟩⟩⟩, (.refl _)⟩
      ·refine s_mov (.str t_1) rfl <| s_mov (.int .i64 (i_66 : Int)) rfl <| s_do (o_idxsn rfl rfl hx93) <| s_do (o_call (w_spec_l00Letter _ _ er109) rfl (.refl _) rfl) <| s_q (.bool (!r_108)) rfl trivial rfl <| s_mov (.bool (!r_108)) rfl <| s_lit (s := 29) (b := false) rfl (bf c110) <| s_off rfl rfl <| s_off rfl rfl <| s_off rfl rfl <| s_off rfl rfl <| s_off rfl rfl <| s_q (.bool false) rfl trivial rfl <| w_done <| ?_; obtain rfl := os hb2; exact ⟨[], [], _, _, rfl, rfl, ⟨.refl _, ⟨.refl _, ⟨.refl _, trivial⟩⟩⟩, (.refl _)⟩
     ·rcases oi hc1 with ⟨c113, hc1⟩ | ⟨c113, hc1⟩
      ·refine w_condt rfl c113 <| awp_seq <| w_reg <| s_mov (.bool false) rfl <| w_done <| k_seq <| w_ret <| ?_; obtain rfl := os hc1; obtain rfl := os hf; exact r_flat ⟨trivial, trivial⟩ rfl (.refl _)
      ·refine w_condf rfl (bf c113) <| w_skip <| k_blk <| k_seq <| w_reg <| s_mov (.int .i64 (i_66 : Int)) rfl <| s_q (.int .i64 (w64 ((i_66 : Int) + 1))) rfl rfl rfl <| s_mov (.int .i64 (w64 ((i_66 : Int) + 1))) rfl <| w_done <| ?_; exact k_loopn ⟨(i_66 + 1), hc1⟩ (mul hlt92) ⟨[], [], _, _, rfl, rfl, ⟨.refl _, ⟨.of_eq (congrArg (AV.int _) (w64_incr hlt92 hl100)), trivial⟩⟩, (.refl _)⟩
   ·rintro ⟨_, rfl⟩
    refine awp_seq <| w_reg <| s_mov (.bool true) rfl <| w_done <| k_seq <| w_ret <| ?_; obtain rfl := os hf; exact r_flat ⟨trivial, trivial⟩ rfl (.refl _)

/- spec.NameOK -/
def c190 : ACode :=
 (.seq (.reg (tm 2 (.c (.bool false)) .done))
 (.seq (.reg (tm 3 (.t 0) (tq 4 (.call 252 [(.t 3)]) (tm 2 (.t 4) .done))))
 .ret))
theorem fc190 : fcomp Try.prog Try.f190 = some (c190.erase, [.mov (.t 2)], 5) := by kernel_rfl
def spec_NameOK (t_1 : Str) : Option Bool :=
    (spec_l00Word t_1).bind fun r_2 =>
    some r_2
theorem w_spec_NameOK (t_1 : Str) (r : Bool) (hf : spec_NameOK t_1 = some r) : CallOK Try.prog 190 .flat [(.str t_1)] (.bool r) := by
  refine CallOK.of_awp mixed Try.func190 fc190 nle ?_
  rw [argT_eq]
  unfold spec_NameOK at hf
  unfold c190
  refine (show awp Try.prog false 0 _ (ofL [(0, (.str t_1))]) [] _ from ?_)
  refine awp_seq ?_
  refine w_reg ?_
  refine s_do (o_mov (.bool false) rfl) ?_
  refine w_done ?_
  refine k_seq ?_
  refine awp_seq ?_
  refine w_reg ?_
  obtain ⟨r_2, er3, hf⟩ := ob hf
  refine s_do (o_mov (.str t_1) rfl) ?_
  refine s_do (o_call (w_spec_l00Word _ _ er3) rfl (.refl _) rfl) ?_
  refine s_do (o_mov (.bool r_2) rfl) ?_
  refine w_done ?_
  refine k_seq ?_
  refine w_ret ?_
  obtain rfl := os hf
  exact r_flat ⟨trivial, trivial⟩ rfl (.refl _)

/- spec.l01In -/
def c230 : ACode :=
 (.seq (.reg (tm 6 (.c (.bool false)) .done))
 (.seq (.reg (tm 7 (.t 1) (tm 8 (.t 0) (tq 9 (.bin .leq (.t 7) (.t 8)) (tm 10 (.t 9) (tg 11 10 true (.mov (.t 0)) (tg 12 10 true (.mov (.t 2)) (tg 13 10 true (.bin .leq (.t 11) (.t 12)) (tq 14 (.pick (.t 10) (.t 13) (.c (.bool false))) (tm 6 (.t 14) .done))))))))))
 .ret))
theorem fc230 : fcomp Try.prog Try.f230 = some (c230.erase, [.mov (.t 6)], 15) := by kernel_rfl
def spec_l01In (n_1 : Int) (low_2 : Int) (high_3 : Int) : Option Bool :=
    if (decide (low_2 ≤ n_1)) then
    some (decide (n_1 ≤ high_3))
    else
    some false
theorem w_spec_l01In (n_1 : Int) (low_2 : Int) (high_3 : Int) (r : Bool) (hf : spec_l01In n_1 low_2 high_3 = some r) : CallOK Try.prog 230 .flat [(.int .i64 n_1), (.int .i64 low_2), (.int .i64 high_3)] (.bool r) := by
 refine CallOK.of_awp mixed Try.func230 fc230 nle ?_; rw [argT_eq]; unfold spec_l01In at hf; unfold c230; refine (show awp Try.prog false 0 _ (ofL [(0, (.int .i64 n_1)), (1, (.int .i64 low_2)), (2, (.int .i64 high_3))]) [] _ from ?_); refine awp_seq <| w_reg <| s_mov (.bool false) rfl <| w_done <| k_seq <| awp_seq <| w_reg <| ?_
 rcases oi hf with ⟨c4, hf⟩ | ⟨c4, hf⟩
 ·refine s_mov (.int .i64 low_2) rfl <| s_mov (.int .i64 n_1) rfl <| s_q (.bool (decide (low_2 ≤ n_1))) rfl rfl rfl <| s_mov (.bool (decide (low_2 ≤ n_1))) rfl <| s_lit (s := 10) (b := true) rfl c4 <| s_on rfl <| s_mov (.int .i64 n_1) rfl <| s_on rfl <| s_mov (.int .i64 high_3) rfl <| s_on rfl <| s_q (.bool (decide (n_1 ≤ high_3))) rfl rfl rfl <| s_q (.bool (decide (n_1 ≤ high_3))) rfl trivial rfl <| s_mov (.bool (decide (n_1 ≤ high_3))) rfl <| w_done <| k_seq <| w_ret <| ?_; obtain rfl := os hf; exact r_flat ⟨trivial, trivial⟩ rfl (.refl _)
 ·refine s_mov (.int .i64 low_2) rfl <| s_mov (.int .i64 n_1) rfl <| s_q (.bool (decide (low_2 ≤ n_1))) rfl rfl rfl <| s_mov (.bool (decide (low_2 ≤ n_1))) rfl <| s_lit (s := 10) (b := false) rfl (bf c4) <| s_off rfl rfl <| s_off rfl rfl <| s_off rfl rfl <| s_q (.bool false) rfl trivial rfl <| s_mov (.bool false) rfl <| w_done <| k_seq <| w_ret <| ?_; obtain rfl := os hf; exact r_flat ⟨trivial, trivial⟩ rfl (.refl _)

/- spec.l12Session -/
def c189 : ACode :=
 (.seq (.reg (tm 2 (.c (.bool false)) .done))
 (.seq (.reg (tm 3 (.t 0) (tq 4 (.call 230 [(.t 3), (.c (.int .i64 0)), (.c (.int .i64 2))]) (tm 2 (.t 4) .done))))
 .ret))
theorem fc189 : fcomp Try.prog Try.f189 = some (c189.erase, [.mov (.t 2)], 5) := by kernel_rfl
def spec_l12Session (n_1 : Int) : Option Bool :=
    (spec_l01In n_1 0 2).bind fun r_2 =>
    some r_2
theorem w_spec_l12Session (n_1 : Int) (r : Bool) (hf : spec_l12Session n_1 = some r) : CallOK Try.prog 189 .flat [(.int .i64 n_1)] (.bool r) := by
  refine CallOK.of_awp mixed Try.func189 fc189 nle ?_
  rw [argT_eq]
  unfold spec_l12Session at hf
  unfold c189
  refine (show awp Try.prog false 0 _ (ofL [(0, (.int .i64 n_1))]) [] _ from ?_)
  refine awp_seq ?_
  refine w_reg ?_
  refine s_do (o_mov (.bool false) rfl) ?_
  refine w_done ?_
  refine k_seq ?_
  refine awp_seq ?_
  refine w_reg ?_
  obtain ⟨r_2, er3, hf⟩ := ob hf
  refine s_do (o_mov (.int .i64 n_1) rfl) ?_
  refine s_do (o_call (w_spec_l01In _ _ _ _ er3) rfl (.refl _) rfl) ?_
  refine s_do (o_mov (.bool r_2) rfl) ?_
  refine w_done ?_
  refine k_seq ?_
  refine w_ret ?_
  obtain rfl := os hf
  exact r_flat ⟨trivial, trivial⟩ rfl (.refl _)

/- spec.LocksOK -/
def c188 : ACode :=
 (.seq (.reg (tm 2 (.c (.bool false)) .done))
 (.seq (.seq (.reg (tm 5 (.t 0) (tq 6 (.len (.t 5)) (tq 7 (.bin .gtr (.t 6) (.c (.int .i64 4096))) .done))))
 (.cond (.t 7) (.seq (.reg (tm 2 (.c (.bool false)) .done))
 .ret)
 .skip))
 (.seq (.seq (.reg (tm 3 (.c (.int .i64 0)) .done))
 (.block 0 (.loop (.seq (.seq (.reg (tm 8 (.t 3) (tm 9 (.t 0) (tq 10 (.len (.t 9)) (tq 11 (.bin .lss (.t 8) (.t 10)) .done)))))
 (.cond (.t 11) .skip
 (.exit 0)))
 (.seq (.block 1 (.seq (.seq (.reg (tm 14 (.t 0) (tm 15 (.t 3) (tq 16 (.iaddr 2 (.t 14) (.t 15)) (tq 17 (.faddr 0 (.t 16)) (tq 18 (.load 1 false (.t 17)) (.l ⟨(some 19), none, .call 190 [(.t 18)]⟩ []
 (tq 20 (.not (.t 19)) (tm 21 (.t 20) (tg 22 21 false (.mov (.t 3)) (tg 23 21 false (.bin .gtr (.t 22) (.c (.int .i64 0))) (tg 24 21 false (.mov (.t 23)) (tg 25 24 true (.mov (.t 0)) (tg 26 24 true (.mov (.t 3)) (tg 27 24 true (.bin .sub (.t 26) (.c (.int .i64 1))) (tg 28 24 true (.iaddr 2 (.t 25) (.t 27)) (tg 29 24 true (.faddr 0 (.t 28)) (tg 30 24 true (.load 1 false (.t 29)) (tg 31 24 true (.mov (.t 0)) (tg 32 24 true (.mov (.t 3)) (tg 33 24 true (.iaddr 2 (.t 31) (.t 32)) (tg 34 24 true (.faddr 0 (.t 33)) (tg 35 24 true (.load 1 false (.t 34)) (tg 36 24 true (.bin .geq (.t 30) (.t 35)) (tg 37 21 false (.pick (.t 24) (.t 36) (.c (.bool false))) (tq 38 (.pick (.t 21) (.c (.bool true)) (.t 37)) (tm 39 (.t 38) (tg 40 39 false (.mov (.t 0)) (tg 41 39 false (.mov (.t 3)) (tg 42 39 false (.iaddr 2 (.t 40) (.t 41)) (tg 43 39 false (.faddr 1 (.t 42)) (tg 44 39 false (.load 1 false (.t 43)) (tg 45 39 false (.len (.t 44)) (.l ⟨(some 46), (some (39, false)), .call 230 [(.t 45), (.c (.int .i64 1)), (.c (.int .i64 3))]⟩ []
 (tg 47 39 false (.not (.t 46)) (tq 48 (.pick (.t 39) (.c (.bool true)) (.t 47)) .done)) .non))))))))))))))))))))))))))) .non)))))))
 (.cut (.cond (.t 48) (.seq (.reg (tm 2 (.c (.bool false)) .done))
 .ret)
 .skip)))
 (.seq (.reg (tm 4 (.c (.int .i64 0)) .done))
 (.block 2 (.loop (.seq (.seq (.reg (tm 49 (.t 4) (tm 50 (.t 0) (tm 51 (.t 3) (tq 52 (.iaddr 2 (.t 50) (.t 51)) (tq 53 (.faddr 1 (.t 52)) (tq 54 (.load 1 false (.t 53)) (tq 55 (.len (.t 54)) (tq 56 (.bin .lss (.t 49) (.t 55)) .done)))))))))
 (.cond (.t 56) .skip
 (.exit 2)))
 (.seq (.block 3 (.seq (.reg (tm 59 (.t 0) (tm 60 (.t 3) (tq 61 (.iaddr 2 (.t 59) (.t 60)) (tq 62 (.faddr 1 (.t 61)) (tq 63 (.load 1 false (.t 62)) (tm 64 (.t 4) (tq 65 (.iaddr 1 (.t 63) (.t 64)) (tq 66 (.load 1 false (.t 65)) (.l ⟨(some 67), none, .call 189 [(.t 66)]⟩ []
 (tq 68 (.not (.t 67)) (tm 69 (.t 68) (tg 70 69 false (.mov (.t 0)) (tg 71 69 false (.mov (.t 3)) (tg 72 69 false (.iaddr 2 (.t 70) (.t 71)) (tg 73 69 false (.faddr 1 (.t 72)) (tg 74 69 false (.load 1 false (.t 73)) (tg 75 69 false (.mov (.t 4)) (tg 76 69 false (.slice 1 (.t 74) none (some (.t 75))) (tg 77 69 false (.mov (.t 0)) (tg 78 69 false (.mov (.t 3)) (tg 79 69 false (.iaddr 2 (.t 77) (.t 78)) (tg 80 69 false (.faddr 1 (.t 79)) (tg 81 69 false (.load 1 false (.t 80)) (tg 82 69 false (.mov (.t 4)) (tg 83 69 false (.iaddr 1 (.t 81) (.t 82)) (tg 84 69 false (.load 1 false (.t 83)) (.l ⟨(some 85), (some (69, false)), .call 195 [(.t 76), (.t 84)]⟩ []
 (tq 86 (.pick (.t 69) (.c (.bool true)) (.t 85)) .done) .non)))))))))))))))))) .non))))))))))
 (.cut (.cond (.t 86) (.seq (.reg (tm 2 (.c (.bool false)) .done))
 .ret)
 .skip))))
 (.reg (tm 57 (.t 4) (tq 58 (.bin .add (.t 57) (.c (.int .i64 1))) (tm 4 (.t 58) .done)))))))))))
 (.cut (.reg (tm 12 (.t 3) (tq 13 (.bin .add (.t 12) (.c (.int .i64 1))) (tm 3 (.t 13) .done))))))))))
 (.cut (.seq (.reg (tm 87 (.t 0) (tq 88 (.len (.t 87)) (tq 89 (.bin .leq (.t 88) (.c (.int .i64 6))) (tm 2 (.t 89) .done)))))
 .ret)))))
theorem fc188 : fcomp Try.prog Try.f188 = some (c188.erase, [.mov (.t 2)], 90) := by kernel_rfl
def spec_LocksOK_L2 (x_998 : GLock) : List Int → Nat → Option (Fl Bool Unit)
  | [], k_1081 =>
    some (.go ())
  | x_1115 :: xs, k_1081 =>
    (((spec_l12Session x_1115).bind fun r_1126 =>
    if (!r_1126) then
    some true
    else
    if (0 : Int) ≤ (k_1081 : Int) ∧ (k_1081 : Int) ≤ (x_998.Queue.length : Int) then
    (spec_l12In (x_998.Queue.take k_1081) x_1115).bind fun r_1130 =>
    some r_1130
    else none : Option Bool)).bind fun s86_1124 =>
    if s86_1124 then
    some (.ret false)
    else
    spec_LocksOK_L2 x_998 xs (k_1081 + 1)

def spec_LocksOK_L1 (list_1 : (List GLock)) : List GLock → Nat → Option (Fl Bool Unit)
  | [], i_661 =>
    some (.go ())
  | x_998 :: xs, i_661 =>
    (((spec_NameOK x_998.Name).bind fun r_1016 =>
    if (!r_1016) then
    some true
    else
    if (decide ((i_661 : Int) > 0)) then
    (idx list_1 (w64 ((i_661 : Int) - 1))).bind fun x_1020 =>
    if (!Op.bytesLess x_1020.Name x_998.Name) then
    some true
    else
    (spec_l01In (x_998.Queue.length : Int) 1 3).bind fun r_1024 =>
    some (!r_1024)
    else
    (spec_l01In (x_998.Queue.length : Int) 1 3).bind fun r_1027 =>
    some (!r_1027) : Option Bool)).bind fun s48_1014 =>
    if s48_1014 then
    some (.ret false)
    else
    (spec_LocksOK_L2 x_998 x_998.Queue 0).bind fun q => (match q with
    | .ret r => some (.ret r)
    | .go _ =>
    spec_LocksOK_L1 list_1 xs (i_661 + 1))

def spec_LocksOK (list_1 : (List GLock)) : Option Bool :=
    if (decide ((list_1.length : Int) > 4096)) then
    some false
    else
    (spec_LocksOK_L1 list_1 list_1 0).bind fun q => (match q with
    | .ret r => some r
    | .go _ =>
    some (decide ((list_1.length : Int) ≤ 6)))
theorem w_spec_LocksOK (list_1 : (List GLock)) (r : Bool) (hf : spec_LocksOK list_1 = some r) : CallOK Try.prog 188 .flat [(.lst 2 (list_1.map encGLock))] (.bool r) := by
 refine CallOK.of_awp mixed Try.func188 fc188 nle ?_; rw [argT_eq]; unfold spec_LocksOK at hf; unfold c188; refine (show awp Try.prog false 0 _ (ofL [(0, (.lst 2 (list_1.map encGLock)))]) [] _ from ?_); refine awp_seq <| w_reg <| s_mov (.bool false) rfl <| w_done <| k_seq <| awp_seq <| awp_seq <| w_reg <| s_mov (.lst 2 (list_1.map encGLock)) rfl <| s_dof (o_len (enc := encGLock) rfl) fun hl2 => s_q (.bool (decide ((list_1.length : Int) > 4096))) rfl rfl rfl <| w_done <| k_seq <| ?_
 rcases oi hf with ⟨c3, hf⟩ | ⟨c3, hf⟩
 ·refine w_condt rfl c3 <| awp_seq <| w_reg <| s_mov (.bool false) rfl <| w_done <| k_seq <| w_ret <| ?_; obtain rfl := os hf; exact r_flat ⟨trivial, trivial⟩ rfl (.refl _)
 ·refine w_condf rfl (bf c3) <| w_skip <| k_seq <| awp_seq <| awp_seq <| w_reg <| s_mov (.int .i64 0) rfl <| w_done <| k_seq <| ?_
  obtain ⟨p991, hb1, hf⟩ := ob hf
  refine awp_cutx (X := {q : Unit // p991 = .go q}) (fun q => ([(0, (.lst 2 (list_1.map encGLock)))], [])) ?_ ?_
  ·refine awp_loop (X := {q : Nat // spec_LocksOK_L1 list_1 (list_1.drop q) q = some p991}) (fun q => ([(0, (.lst 2 (list_1.map encGLock))), (3, (.int .i64 (q.1 : Int)))], [])) (fun q => list_1.length - q.1) ⟨0, hb1⟩ ⟨[], [], _, _, rfl, rfl, ⟨.refl _, ⟨.refl _, trivial⟩⟩, (.refl _)⟩ ?_
   rintro ⟨i_661, hc1⟩
   have hc1 : spec_LocksOK_L1 list_1 (list_1.drop i_661) i_661 = some p991 := hc1
   refine (show awp Try.prog false 0 _ (ofL [(0, (.lst 2 (list_1.map encGLock))), (3, (.int .i64 (i_661 : Int)))]) [] _ from ?_)
   rcases dropc list_1 i_661 with ⟨hie994, hd997⟩ | ⟨hlt992, x_998, hx993, hd997⟩
   ·rw [hd997, spec_LocksOK_L1.eq_1] at hc1
    have hq996 := dlf hie994
    refine awp_seq <| awp_seq <| w_reg <| s_mov (.int .i64 (i_661 : Int)) rfl <| s_mov (.lst 2 (list_1.map encGLock)) rfl <| s_dof (o_len (enc := encGLock) rfl) fun hl999 => s_q (.bool (decide ((i_661 : Int) < (list_1.length : Int)))) rfl rfl rfl <| w_done <| k_seq <| w_condf rfl hq996 <| w_exit <| k_seqx <| k_loopx <| k_blkx <| ?_; obtain rfl := os hc1; exact k_cutn ⟨_, rfl⟩ ⟨[], [], _, _, rfl, rfl, ⟨.refl _, trivial⟩, (.refl _)⟩
   ·rw [hd997, spec_LocksOK_L1.eq_2] at hc1
    have hq996 := dlt hlt992
    refine awp_seq <| awp_seq <| w_reg <| s_mov (.int .i64 (i_661 : Int)) rfl <| s_mov (.lst 2 (list_1.map encGLock)) rfl <| s_dof (o_len (enc := encGLock) rfl) fun hl1000 => s_q (.bool (decide ((i_661 : Int) < (list_1.length : Int)))) rfl rfl rfl <| w_done <| k_seq <| w_condt rfl hq996 <| w_skip <| k_seq <| awp_seq <| w_blk <| awp_seq <| awp_seq <| ?_
    obtain ⟨s48_1014, hb2, hc1⟩ := ob hc1
    refine awp_cut ([(0, (.lst 2 (list_1.map encGLock))), (3, (.int .i64 (i_661 : Int))), (48, (.bool s48_1014))], []) ?_ ?_
    ·refine w_reg <| s_mov (.lst 2 (list_1.map encGLock)) rfl <| s_mov (.int .i64 (i_661 : Int)) rfl <| s_do (o_iaddrn (enc := encGLock) rfl rfl hx993) <| s_q (.iptr (encGLock x_998) 0) rfl trivial rfl <| s_q (.str x_998.Name) rfl nle rfl <| ?_
     obtain ⟨r_1016, er1017, hb2⟩ := ob hb2
     refine s_dol (o_call (w_spec_NameOK _ _ er1017) rfl (.refl _) rfl) a_same trivial <| s_q (.bool (!r_1016)) rfl trivial rfl <| s_mov (.bool (!r_1016)) rfl <| ?_
     rcases oi hb2 with ⟨c1018, hb2⟩ | ⟨c1018, hb2⟩
     ·refine s_lit (s := 21) (b := true) rfl c1018 <| s_off rfl rfl <| s_off rfl rfl <| s_off rfl rfl <| s_offs rfl <| s_offs rfl <| s_offs rfl <| s_offs rfl <| s_offs rfl <| s_offs rfl <| s_offs rfl <| s_offs rfl <| s_offs rfl <| s_offs rfl <| s_offs rfl <| s_offs rfl <| s_off rfl rfl <| s_q (.bool true) rfl trivial rfl <| s_mov (.bool true) rfl <| s_off rfl rfl <| s_off rfl rfl <| s_off rfl rfl <| s_off rfl rfl <| s_off rfl rfl <| s_off rfl rfl <| s_offl rfl rfl trivial <| s_off rfl rfl <| s_q (.bool true) rfl trivial rfl <| w_done <| ?_; obtain rfl := os hb2; exact ⟨[], [], _, _, rfl, rfl, ⟨.refl _, ⟨.refl _, ⟨.refl _, trivial⟩⟩⟩, (.refl _)⟩
     ·refine s_lit (s := 21) (b := false) rfl (bf c1018) <| s_on rfl <| s_mov (.int .i64 (i_661 : Int)) rfl <| s_on rfl <| s_q (.bool (decide ((i_661 : Int) > 0))) rfl rfl rfl <| s_on rfl <| s_mov (.bool (decide ((i_661 : Int) > 0))) rfl <| ?_
      rcases oi hb2 with ⟨c1019, hb2⟩ | ⟨c1019, hb2⟩
      ·refine s_lit (s := 24) (b := true) rfl c1019 <| s_on rfl <| s_mov (.lst 2 (list_1.map encGLock)) rfl <| s_on rfl <| s_mov (.int .i64 (i_661 : Int)) rfl <| s_on rfl <| s_q (.int .i64 (w64 ((i_661 : Int) - 1))) rfl rfl rfl <| s_on rfl <| ?_
       obtain ⟨x_1020, ex1021, hb2⟩ := ob hb2
       refine s_do (o_iaddr (enc := encGLock) rfl rfl (idx0 ex1021) (idx1 ex1021)) <| s_on rfl <| s_q (.iptr (encGLock x_1020) 0) rfl trivial rfl <| s_on rfl <| s_q (.str x_1020.Name) rfl nle rfl <| s_on rfl <| s_mov (.lst 2 (list_1.map encGLock)) rfl <| s_on rfl <| s_mov (.int .i64 (i_661 : Int)) rfl <| s_on rfl <| s_do (o_iaddrn (enc := encGLock) rfl rfl hx993) <| s_on rfl <| s_q (.iptr (encGLock x_998) 0) rfl trivial rfl <| s_on rfl <| s_q (.str x_998.Name) rfl nle rfl <| s_on rfl <| s_q (.bool (!Op.bytesLess x_1020.Name x_998.Name)) rfl trivial rfl <| s_on rfl <| s_q (.bool (!Op.bytesLess x_1020.Name x_998.Name)) rfl trivial rfl <| s_q (.bool (!Op.bytesLess x_1020.Name x_998.Name)) rfl trivial rfl <| s_mov (.bool (!Op.bytesLess x_1020.Name x_998.Name)) rfl <| ?_
       rcases oi hb2 with ⟨c1022, hb2⟩ | ⟨c1022, hb2⟩
       ·refine s_lit (s := 39) (b := true) rfl c1022 <| s_off rfl rfl <| s_off rfl rfl <| s_off rfl rfl <| s_off rfl rfl <| s_off rfl rfl <| s_off rfl rfl <| s_offl rfl rfl trivial <| s_off rfl rfl <| s_q (.bool true) rfl trivial rfl <| w_done <| ?_; obtain rfl := os hb2; exact ⟨[], [], _, _, rfl, rfl, ⟨.refl _, ⟨.refl _, ⟨.refl _, trivial⟩⟩⟩, (.refl _)⟩
       ·refine s_lit (s := 39) (b := false) rfl (bf c1022) <| s_on rfl <| s_mov (.lst 2 (list_1.map encGLock)) rfl <| s_on rfl <| s_mov (.int .i64 (i_661 : Int)) rfl <| s_on rfl <| s_do (o_iaddrn (enc := encGLock) rfl rfl hx993) <| s_on rfl <| s_q (.iptr (encGLock x_998) 1) rfl trivial rfl <| s_on rfl <| s_q (.lst 1 (x_998.Queue.map encI)) rfl nle rfl <| s_on rfl <| s_dof (o_len (enc := encI) rfl) fun hl1023 => s_onl rfl <| ?_
        obtain ⟨r_1024, er1025, hb2⟩ := ob hb2
        refine s_dol (o_call (w_spec_l01In _ _ _ _ er1025) rfl (.refl _) rfl) a_same trivial <| s_on rfl <| s_q (.bool (!r_1024)) rfl trivial rfl <| s_q (.bool (!r_1024)) rfl trivial rfl <| w_done <| ?_; obtain rfl := os hb2; exact ⟨[], [], _, _, rfl, rfl, ⟨.refl _, ⟨.refl _, ⟨.refl _, trivial⟩⟩⟩, (.refl _)⟩
      ·refine s_lit (s := 24) (b := false) rfl (bf c1019) <| s_off rfl rfl <| s_off rfl rfl <| s_off rfl rfl <| s_off rfl rfl <| s_off rfl rfl <| s_off rfl rfl <| s_off rfl rfl <| s_off rfl rfl <| s_off rfl rfl <| s_off rfl rfl <| s_off rfl rfl <| s_off rfl rfl <| s_on rfl <| s_q (.bool false) rfl trivial rfl <| s_q (.bool false) rfl trivial rfl <| s_mov (.bool false) rfl <| s_on rfl <| s_mov (.lst 2 (list_1.map encGLock)) rfl <| s_on rfl <| s_mov (.int .i64 (i_661 : Int)) rfl <| s_on rfl <| s_do (o_iaddrn (enc := encGLock) rfl rfl hx993) <| s_on rfl <| s_q (.iptr (encGLock x_998) 1) rfl trivial rfl <| s_on rfl <| s_q (.lst 1 (x_998.Queue.map encI)) rfl nle rfl <| s_on rfl <| s_dof (o_len (enc := encI) rfl) fun hl1026 => ?_
       refine s_onl rfl ?_
       obtain ⟨r_1027, er1028, hb2⟩ := ob hb2
       refine s_dol (o_call (w_spec_l01In _ _ _ _ er1028) rfl (.refl _) rfl) a_same trivial <| s_on rfl <| s_q (.bool (!r_1027)) rfl trivial rfl <| s_q (.bool (!r_1027)) rfl trivial rfl <| w_done <| ?_; obtain rfl := os hb2; exact ⟨[], [], _, _, rfl, rfl, ⟨.refl _, ⟨.refl _, ⟨.refl _, trivial⟩⟩⟩, (.refl _)⟩
    ·rcases oi hc1 with ⟨c1029, hc1⟩ | ⟨c1029, hc1⟩
     ·refine w_condt rfl c1029 <| awp_seq <| w_reg <| s_mov (.bool false) rfl <| w_done <| k_seq <| w_ret <| ?_; obtain rfl := os hc1; obtain rfl := os hf; exact r_flat ⟨trivial, trivial⟩ rfl (.refl _)
     ·refine w_condf rfl (bf c1029) <| w_skip <| k_seq <| awp_seq <| w_reg <| s_mov (.int .i64 0) rfl <| w_done <| k_seq <| ?_
      obtain ⟨p1108, hb2, hc1⟩ := ob hc1
      refine awp_cutxb (X := {q : Unit // p1108 = .go q}) (fun q => ([(0, (.lst 2 (list_1.map encGLock))), (3, (.int .i64 (i_661 : Int)))], [])) ?_ ?_
      ·refine awp_loop (X := {q : Nat // spec_LocksOK_L2 x_998 (x_998.Queue.drop q) q = some p1108}) (fun q => ([(0, (.lst 2 (list_1.map encGLock))), (3, (.int .i64 (i_661 : Int))), (4, (.int .i64 (q.1 : Int)))], [])) (fun q => x_998.Queue.length - q.1) ⟨0, hb2⟩ ⟨[], [], _, _, rfl, rfl, ⟨.refl _, ⟨.refl _, ⟨.refl _, trivial⟩⟩⟩, (.refl _)⟩ ?_
       rintro ⟨k_1081, hc2⟩
       have hc2 : spec_LocksOK_L2 x_998 (x_998.Queue.drop k_1081) k_1081 = some p1108 := hc2
       refine (show awp Try.prog false 0 _ (ofL [(0, (.lst 2 (list_1.map encGLock))), (3, (.int .i64 (i_661 : Int))), (4, (.int .i64 (k_1081 : Int)))]) [] _ from ?_)
       rcases dropc x_998.Queue k_1081 with ⟨hie1111, hd1114⟩ | ⟨hlt1109, x_1115, hx1110, hd1114⟩
       ·rw [hd1114, spec_LocksOK_L2.eq_1] at hc2
        have hq1113 := dlf hie1111
        refine awp_seq <| awp_seq <| w_reg <| s_mov (.int .i64 (k_1081 : Int)) rfl <| s_mov (.lst 2 (list_1.map encGLock)) rfl <| s_mov (.int .i64 (i_661 : Int)) rfl <| s_do (o_iaddrn (enc := encGLock) rfl rfl hx993) <| s_q (.iptr (encGLock x_998) 1) rfl trivial rfl <| s_q (.lst 1 (x_998.Queue.map encI)) rfl nle rfl <| s_dof (o_len (enc := encI) rfl) fun hl1116 => s_q (.bool (decide ((k_1081 : Int) < (x_998.Queue.length : Int)))) rfl rfl rfl <| w_done <| k_seq <| w_condf rfl hq1113 <| w_exit <| k_seqx <| k_loopx <| k_blkx <| ?_; refine k_blk ?_; obtain rfl := os hc2; exact k_cutn ⟨_, rfl⟩ ⟨[], [], _, _, rfl, rfl, ⟨.refl _, ⟨.refl _, trivial⟩⟩, (.refl _)⟩
       ·rw [hd1114, spec_LocksOK_L2.eq_2] at hc2
        have hq1113 := dlt hlt1109
        refine awp_seq <| awp_seq <| w_reg <| s_mov (.int .i64 (k_1081 : Int)) rfl <| s_mov (.lst 2 (list_1.map encGLock)) rfl <| s_mov (.int .i64 (i_661 : Int)) rfl <| s_do (o_iaddrn (enc := encGLock) rfl rfl hx993) <| s_q (.iptr (encGLock x_998) 1) rfl trivial rfl <| s_q (.lst 1 (x_998.Queue.map encI)) rfl nle rfl <| s_dof (o_len (enc := encI) rfl) fun hl1117 => s_q (.bool (decide ((k_1081 : Int) < (x_998.Queue.length : Int)))) rfl rfl rfl <| w_done <| k_seq <| w_condt rfl hq1113 <| w_skip <| k_seq <| awp_seq <| w_blk <| awp_seq <| ?_
        obtain ⟨s86_1124, hb3, hc2⟩ := ob hc2
        refine awp_cut ([(0, (.lst 2 (list_1.map encGLock))), (3, (.int .i64 (i_661 : Int))), (4, (.int .i64 (k_1081 : Int))), (86, (.bool s86_1124))], []) ?_ ?_
        ·refine w_reg <| s_mov (.lst 2 (list_1.map encGLock)) rfl <| s_mov (.int .i64 (i_661 : Int)) rfl <| s_do (o_iaddrn (enc := encGLock) rfl rfl hx993) <| s_q (.iptr (encGLock x_998) 1) rfl trivial rfl <| s_q (.lst 1 (x_998.Queue.map encI)) rfl nle rfl <| s_mov (.int .i64 (k_1081 : Int)) rfl <| s_do (o_iaddrn (enc := encI) rfl rfl hx1110) <| s_q (.int .i64 x_1115) rfl ⟨rfl, rfl⟩ rfl <| ?_
         obtain ⟨r_1126, er1127, hb3⟩ := ob hb3
         refine s_dol (o_call (w_spec_l12Session _ _ er1127) rfl (.refl _) rfl) a_same trivial <| s_q (.bool (!r_1126)) rfl trivial rfl <| s_mov (.bool (!r_1126)) rfl <| ?_
         rcases oi hb3 with ⟨c1128, hb3⟩ | ⟨c1128, hb3⟩
         ·refine s_lit (s := 69) (b := true) rfl c1128 <| s_off rfl rfl <| s_off rfl rfl <| s_off rfl rfl <| s_off rfl rfl <| s_off rfl rfl <| s_off rfl rfl <| s_off rfl rfl <| s_off rfl rfl <| s_off rfl rfl <| s_off rfl rfl <| s_off rfl rfl <| s_off rfl rfl <| s_off rfl rfl <| s_off rfl rfl <| s_off rfl rfl <| s_offl rfl rfl trivial <| s_q (.bool true) rfl trivial rfl <| w_done <| ?_; obtain rfl := os hb3; exact ⟨[], [], _, _, rfl, rfl, ⟨.refl _, ⟨.refl _, ⟨.refl _, ⟨.refl _, trivial⟩⟩⟩⟩, (.refl _)⟩
         ·refine s_lit (s := 69) (b := false) rfl (bf c1128) <| s_on rfl <| s_mov (.lst 2 (list_1.map encGLock)) rfl <| s_on rfl <| s_mov (.int .i64 (i_661 : Int)) rfl <| s_on rfl <| s_do (o_iaddrn (enc := encGLock) rfl rfl hx993) <| s_on rfl <| s_q (.iptr (encGLock x_998) 1) rfl trivial rfl <| s_on rfl <| s_q (.lst 1 (x_998.Queue.map encI)) rfl nle rfl <| s_on rfl <| s_mov (.int .i64 (k_1081 : Int)) rfl <| s_on rfl <| ?_
          obtain ⟨g1129, hb3⟩ := og hb3
          refine s_do (o_slt (enc := encI) rfl rfl g1129.1 g1129.2) <| s_on rfl <| s_mov (.lst 2 (list_1.map encGLock)) rfl <| s_on rfl <| s_mov (.int .i64 (i_661 : Int)) rfl <| s_on rfl <| s_do (o_iaddrn (enc := encGLock) rfl rfl hx993) <| s_on rfl <| s_q (.iptr (encGLock x_998) 1) rfl trivial rfl <| s_on rfl <| s_q (.lst 1 (x_998.Queue.map encI)) rfl nle rfl <| s_on rfl <| s_mov (.int .i64 (k_1081 : Int)) rfl <| s_on rfl <| s_do (o_iaddrn (enc := encI) rfl rfl hx1110) <| s_on rfl <| s_q (.int .i64 x_1115) rfl ⟨rfl, rfl⟩ rfl <| s_onl rfl <| ?_
          obtain ⟨r_1130, er1131, hb3⟩ := ob hb3
          refine s_dol (o_call (w_spec_l12In _ _ _ er1131) rfl (.refl _) rfl) a_same trivial <| s_q (.bool r_1130) rfl trivial rfl <| w_done <| ?_; obtain rfl := os hb3; exact ⟨[], [], _, _, rfl, rfl, ⟨.refl _, ⟨.refl _, ⟨.refl _, ⟨.refl _, trivial⟩⟩⟩⟩, (.refl _)⟩
        ·rcases oi hc2 with ⟨c1132, hc2⟩ | ⟨c1132, hc2⟩
         ·refine w_condt rfl c1132 <| awp_seq <| w_reg <| s_mov (.bool false) rfl <| w_done <| k_seq <| w_ret <| ?_; obtain rfl := os hc2; obtain rfl := os hc1; obtain rfl := os hf; exact r_flat ⟨trivial, trivial⟩ rfl (.refl _)
         ·refine w_condf rfl (bf c1132) <| w_skip <| k_blk <| k_seq <| w_reg <| s_mov (.int .i64 (k_1081 : Int)) rfl <| s_q (.int .i64 (w64 ((k_1081 : Int) + 1))) rfl rfl rfl <| s_mov (.int .i64 (w64 ((k_1081 : Int) + 1))) rfl <| w_done <| ?_; exact k_loopn ⟨(k_1081 + 1), hc2⟩ (mul hlt1109) ⟨[], [], _, _, rfl, rfl, ⟨.refl _, ⟨.refl _, ⟨.of_eq (congrArg (AV.int _) (w64_incr hlt1109 hl1117)), trivial⟩⟩⟩, (.refl _)⟩
      ·rintro ⟨_, rfl⟩
       refine w_reg <| s_mov (.int .i64 (i_661 : Int)) rfl <| s_q (.int .i64 (w64 ((i_661 : Int) + 1))) rfl rfl rfl <| s_mov (.int .i64 (w64 ((i_661 : Int) + 1))) rfl <| w_done <| ?_; exact k_loopn ⟨(i_661 + 1), hc1⟩ (mul hlt992) ⟨[], [], _, _, rfl, rfl, ⟨.refl _, ⟨.of_eq (congrArg (AV.int _) (w64_incr hlt992 hl1000)), trivial⟩⟩, (.refl _)⟩
  ·rintro ⟨_, rfl⟩
   refine awp_seq <| w_reg <| s_mov (.lst 2 (list_1.map encGLock)) rfl <| s_dof (o_len (enc := encGLock) rfl) fun hl1133 => s_q (.bool (decide ((list_1.length : Int) ≤ 6))) rfl rfl rfl <| s_mov (.bool (decide ((list_1.length : Int) ≤ 6))) rfl <| w_done <| k_seq <| w_ret <| ?_; obtain rfl := os hf; exact r_flat ⟨trivial, trivial⟩ rfl (.refl _)

/- spec.l12Ask -/
def c102 : ACode :=
 (.seq (.reg (tm 6 (.c (.int .i64 0)) .done))
 (.seq (.block 0 (.seq (.reg (tm 8 (.t 0) (tq 9 (.len (.t 8)) (tq 10 (.bin .gtr (.t 9) (.c (.int .i64 4096))) (tm 11 (.t 10) (tg 12 11 false (.mov (.t 2)) (tg 13 11 false (.lenS (.t 12)) (tg 14 11 false (.bin .gtr (.t 13) (.c (.int .i64 65536))) (tq 15 (.pick (.t 11) (.c (.bool true)) (.t 14)) (tm 7 (.t 15) .done))))))))))
 (.cut (.cond (.t 7) (.seq (.reg (tm 6 (.c (.int .i64 2)) .done))
 .ret)
 (.seq (.reg (tm 17 (.t 0) (tq 18 (.call 188 [(.t 17)]) (tq 19 (.not (.t 18)) (tm 16 (.t 19) .done)))))
 (.cond (.t 16) (.seq (.reg (tm 6 (.c (.int .i64 1)) .done))
 .ret)
 (.seq (.reg (tm 21 (.t 1) (tq 22 (.call 189 [(.t 21)]) (tq 23 (.not (.t 22)) (tm 24 (.t 23) (tg 25 24 false (.mov (.t 2)) (tg 26 24 false (.call 190 [(.t 25)]) (tg 27 24 false (.not (.t 26)) (tq 28 (.pick (.t 24) (.c (.bool true)) (.t 27)) (tm 20 (.t 28) .done))))))))))
 (.cut (.cond (.t 20) (.seq (.reg (tm 6 (.c (.int .i64 4)) .done))
 .ret)
 .skip)))))))))
 (.seq (.reg (tm 6 (.c (.int .i64 0)) .done))
 .ret)))
theorem fc102 : fcomp Try.prog Try.f102 = some (c102.erase, [.mov (.t 6)], 29) := by kernel_rfl
def spec_l12Ask (list_1 : (List GLock)) (session_2 : Int) (name_3 : Str) : Option Int :=
    ((if (decide ((list_1.length : Int) > 4096)) then
    some true
    else
    some (decide ((name_3.length : Int) > 65536)) : Option Bool)).bind fun s7_7 =>
    if s7_7 then
    some 2
    else
    (spec_LocksOK list_1).bind fun r_13 =>
    if (!r_13) then
    some 1
    else
    (((spec_l12Session session_2).bind fun r_23 =>
    if (!r_23) then
    some true
    else
    (spec_NameOK name_3).bind fun r_26 =>
    some (!r_26) : Option Bool)).bind fun s20_21 =>
    if s20_21 then
    some 4
    else
    some 0
theorem w_spec_l12Ask (list_1 : (List GLock)) (session_2 : Int) (name_3 : Str) (r : Int) (hf : spec_l12Ask list_1 session_2 name_3 = some r) : CallOK Try.prog 102 .flat [(.lst 2 (list_1.map encGLock)), (.int .i64 session_2), (.str name_3)] (.int .i64 r) := by
 refine CallOK.of_awp mixed Try.func102 fc102 nle ?_; rw [argT_eq]; unfold spec_l12Ask at hf; unfold c102; refine (show awp Try.prog false 0 _ (ofL [(0, (.lst 2 (list_1.map encGLock))), (1, (.int .i64 session_2)), (2, (.str name_3))]) [] _ from ?_); refine awp_seq <| w_reg <| s_mov (.int .i64 0) rfl <| w_done <| k_seq <| awp_seq <| w_blk <| awp_seq <| ?_
 obtain ⟨s7_7, hb1, hf⟩ := ob hf
 refine awp_cut ([(0, (.lst 2 (list_1.map encGLock))), (1, (.int .i64 session_2)), (2, (.str name_3)), (7, (.bool s7_7))], []) ?_ ?_
 ·refine w_reg ?_
  rcases oi hb1 with ⟨c10, hb1⟩ | ⟨c10, hb1⟩
  ·refine s_mov (.lst 2 (list_1.map encGLock)) rfl <| s_dof (o_len (enc := encGLock) rfl) fun hl9 => s_q (.bool (decide ((list_1.length : Int) > 4096))) rfl rfl rfl <| s_mov (.bool (decide ((list_1.length : Int) > 4096))) rfl <| s_lit (s := 11) (b := true) rfl c10 <| s_off rfl rfl <| s_off rfl rfl <| s_off rfl rfl <| s_q (.bool true) rfl trivial rfl <| s_mov (.bool true) rfl <| w_done <| ?_; obtain rfl := os hb1; exact ⟨[], [], _, _, rfl, rfl, ⟨.refl _, ⟨.refl _, ⟨.refl _, ⟨.refl _, trivial⟩⟩⟩⟩, (.refl _)⟩
  ·refine s_mov (.lst 2 (list_1.map encGLock)) rfl <| s_dof (o_len (enc := encGLock) rfl) fun hl9 => s_q (.bool (decide ((list_1.length : Int) > 4096))) rfl rfl rfl <| s_mov (.bool (decide ((list_1.length : Int) > 4096))) rfl <| s_lit (s := 11) (b := false) rfl (bf c10) <| s_on rfl <| s_mov (.str name_3) rfl <| s_on rfl <| s_dof (o_lenS rfl) fun hl11 => s_on rfl <| s_q (.bool (decide ((name_3.length : Int) > 65536))) rfl rfl rfl <| s_q (.bool (decide ((name_3.length : Int) > 65536))) rfl trivial rfl <| s_mov (.bool (decide ((name_3.length : Int) > 65536))) rfl <| w_done <| ?_; obtain rfl := os hb1; exact ⟨[], [], _, _, rfl, rfl, ⟨.refl _, ⟨.refl _, ⟨.refl _, ⟨.refl _, trivial⟩⟩⟩⟩, (.refl _)⟩
 ·rcases oi hf with ⟨c12, hf⟩ | ⟨c12, hf⟩
  ·refine w_condt rfl c12 <| awp_seq <| w_reg <| s_mov (.int .i64 2) rfl <| w_done <| k_seq <| w_ret <| ?_; obtain rfl := os hf; exact r_flat ⟨trivial, trivial⟩ rfl (.refl _)
  ·refine w_condf rfl (bf c12) <| awp_seq <| w_reg <| ?_
   obtain ⟨r_13, er14, hf⟩ := ob hf
   refine s_mov (.lst 2 (list_1.map encGLock)) rfl <| s_do (o_call (w_spec_LocksOK _ _ er14) rfl (.refl _) rfl) <| s_q (.bool (!r_13)) rfl trivial rfl <| s_mov (.bool (!r_13)) rfl <| w_done <| k_seq <| ?_
   rcases oi hf with ⟨c15, hf⟩ | ⟨c15, hf⟩
   ·refine w_condt rfl c15 <| awp_seq <| w_reg <| s_mov (.int .i64 1) rfl <| w_done <| k_seq <| w_ret <| ?_; obtain rfl := os hf; exact r_flat ⟨trivial, trivial⟩ rfl (.refl _)
   ·refine w_condf rfl (bf c15) <| awp_seq <| ?_
    obtain ⟨s20_21, hb1, hf⟩ := ob hf
    refine awp_cut ([(20, (.bool s20_21))], []) ?_ ?_
    ·refine w_reg ?_
     obtain ⟨r_23, er24, hb1⟩ := ob hb1
     rcases oi hb1 with ⟨c25, hb1⟩ | ⟨c25, hb1⟩
     ·refine s_mov (.int .i64 session_2) rfl <| s_do (o_call (w_spec_l12Session _ _ er24) rfl (.refl _) rfl) <| s_q (.bool (!r_23)) rfl trivial rfl <| s_mov (.bool (!r_23)) rfl <| s_lit (s := 24) (b := true) rfl c25 <| s_off rfl rfl <| s_off rfl rfl <| s_off rfl rfl <| s_q (.bool true) rfl trivial rfl <| s_mov (.bool true) rfl <| w_done <| ?_; obtain rfl := os hb1; exact ⟨[], [], _, _, rfl, rfl, ⟨.refl _, trivial⟩, (.refl _)⟩
     ·obtain ⟨r_26, er27, hb1⟩ := ob hb1
      refine s_mov (.int .i64 session_2) rfl <| s_do (o_call (w_spec_l12Session _ _ er24) rfl (.refl _) rfl) <| s_q (.bool (!r_23)) rfl trivial rfl <| s_mov (.bool (!r_23)) rfl <| s_lit (s := 24) (b := false) rfl (bf c25) <| s_on rfl <| s_mov (.str name_3) rfl <| s_on rfl <| s_do (o_call (w_spec_NameOK _ _ er27) rfl (.refl _) rfl) <| s_on rfl <| s_q (.bool (!r_26)) rfl trivial rfl <| s_q (.bool (!r_26)) rfl trivial rfl <| s_mov (.bool (!r_26)) rfl <| w_done <| ?_; obtain rfl := os hb1; exact ⟨[], [], _, _, rfl, rfl, ⟨.refl _, trivial⟩, (.refl _)⟩
    ·rcases oi hf with ⟨c28, hf⟩ | ⟨c28, hf⟩
     ·refine w_condt rfl c28 <| awp_seq <| w_reg <| s_mov (.int .i64 4) rfl <| w_done <| k_seq <| w_ret <| ?_; obtain rfl := os hf; exact r_flat ⟨trivial, trivial⟩ rfl (.refl _)
     ·refine w_condf rfl (bf c28) <| w_skip <| k_blk <| k_seq <| awp_seq <| w_reg <| s_mov (.int .i64 0) rfl <| w_done <| k_seq <| w_ret <| ?_; obtain rfl := os hf; exact r_flat ⟨trivial, trivial⟩ rfl (.refl _)

/- spec.l12All -/
def c103 : ACode :=
 (.seq (.reg (tm 4 (.c .nil) (tm 5 (.c .nil) .done)))
 (.seq (.reg (tq 12 (.bslice 3 []) (tm 6 (.t 12) .done)))
 (.seq (.reg (tm 13 (.t 0) (tq 14 (.call 191 [(.t 13)]) (tm 7 (.t 14) .done))))
 (.seq (.seq (.reg (tm 8 (.c (.int .i64 0)) .done))
 (.block 0 (.loop (.seq (.seq (.reg (tm 15 (.t 8) (tm 16 (.t 0) (tq 17 (.len (.t 16)) (tq 18 (.bin .lss (.t 15) (.t 17)) .done)))))
 (.cond (.t 18) .skip
 (.exit 0)))
 (.seq (.block 1 (.seq (.reg (tm 22 (.t 7) (tm 23 (.t 1) (tm 24 (.t 0) (tm 25 (.t 8) (tq 26 (.iaddr 2 (.t 24) (.t 25)) (tq 27 (.faddr 0 (.t 26)) (tq 28 (.load 1 false (.t 27)) (tq 29 (.call 109 [(.t 22), (.t 23), (.t 28)]) (tm 21 (.t 29) (tq 30 (.extract 0 (.t 21)) (tq 31 (.extract 1 (.t 21)) (tq 32 (.extract 2 (.t 21)) (tm 9 (.t 30) (tm 10 (.t 31) (tm 11 (.t 32) .done))))))))))))))))
 (.seq (.reg (tm 33 (.t 9) (tm 7 (.t 33) .done)))
 (.reg (tm 34 (.t 6) (tm 35 (.t 10) (tq 36 (.append 3 40 (.t 34) (.t 35)) (tm 6 (.t 36) .done))))))))
 (.reg (tm 19 (.t 8) (tq 20 (.bin .add (.t 19) (.c (.int .i64 1))) (tm 8 (.t 20) .done)))))))))
 (.cut (.seq (.reg (tm 37 (.t 7) (tm 38 (.t 6) (tm 4 (.t 37) (tm 5 (.t 38) .done)))))
 .ret))))))
theorem fc103 : fcomp Try.prog Try.f103 = some (c103.erase, [.mov (.t 4), .mov (.t 5)], 39) := by kernel_rfl
def spec_l12All_L1 (session_2 : Int) : List GLock → (List GTold) → (List GLock) → Option ((List GTold) × (List GLock))
  | [], told_23, out_24 =>
    some (told_23, out_24)
  | x_42 :: xs, told_23, out_24 =>
    (spec_l12Leave out_24 session_2 x_42.Name).bind fun r_45 =>
    if (told_23 ++ r_45.2.1).length ≤ 2 ^ 30 then
    spec_l12All_L1 session_2 xs  (told_23 ++ r_45.2.1) r_45.1
    else none

def spec_l12All (list_1 : (List GLock)) (session_2 : Int) : Option ((List GLock) × (List GTold)) :=
    (spec_l12Own list_1).bind fun r_3 =>
    (spec_l12All_L1 session_2 list_1 [] r_3).bind fun p35 =>
    (match p35 with
    | (told_33, out_34) =>
    some (out_34, told_33))
theorem w_spec_l12All (list_1 : (List GLock)) (session_2 : Int) (r : ((List GLock) × (List GTold))) (hf : spec_l12All list_1 session_2 = some r) : CallOK Try.prog 103 .fresh [(.lst 2 (list_1.map encGLock)), (.int .i64 session_2)] (.tup [(.lst 2 (r.1.map encGLock)), (.lst 3 (r.2.map encGTold))]) := by
 refine CallOK.of_awp mixed Try.func103 fc103 nle ?_; rw [argT_eq]; unfold spec_l12All at hf; unfold c103; refine (show awp Try.prog true 0 _ (ofL [(0, (.lst 2 (list_1.map encGLock))), (1, (.int .i64 session_2))]) [] _ from ?_); refine awp_seq <| w_reg <| s_mov .nil rfl <| s_mov .nil rfl <| w_done <| k_seq <| awp_seq <| w_reg <| ?_; refine s_do (o_bslice (j := 0) (as' := []) rfl (fun _ => by decide) trivial (.refl _) rfl rfl rfl) ?_; refine s_mov (.own 0 0 0) rfl <| w_done <| k_seq <| awp_seq <| w_reg <| ?_
 obtain ⟨r_3, er4, hf⟩ := ob hf
 refine s_mov (.lst 2 (list_1.map encGLock)) rfl <| s_do (o_callf (v := (.own 1 0 r_3.length)) (h' := [.row 2 (r_3.map encGLock)]) (w_spec_l12Own _ _ er4) rfl (.refl _) (by simp only [openV, openVs, List.length_map, List.nil_append, List.append_nil, List.cons_append]; rfl)) <| s_mov (.own 1 0 r_3.length) rfl <| w_done <| k_seq <| awp_seq <| awp_seq <| w_reg <| s_mov (.int .i64 0) rfl <| w_done <| k_seq <| ?_
 obtain ⟨p35, hb1, hf⟩ := ob hf
 refine awp_cut ([(6, (.own 0 0 p35.1.length)), (7, (.own 1 0 p35.2.length))], [.row 3 (p35.1.map encGTold), .row 2 (p35.2.map encGLock)]) ?_ ?_
 ·refine awp_loop (X := {q : (Nat × (List GTold) × (List GLock)) // spec_l12All_L1 session_2 (list_1.drop q.1) q.2.1 q.2.2 = some p35}) (fun q => ([(0, (.lst 2 (list_1.map encGLock))), (1, (.int .i64 session_2)), (6, (.own 0 0 q.1.2.1.length)), (7, (.own 1 0 q.1.2.2.length)), (8, (.int .i64 (q.1.1 : Int)))], [.row 3 (q.1.2.1.map encGTold), .row 2 (q.1.2.2.map encGLock)])) (fun q => list_1.length - q.1.1) ⟨(0, [], r_3), hb1⟩ ⟨[], [0, 1], _, _, rfl, rfl, ⟨.refl _, ⟨.refl _, ⟨.of_eq (congrArg (AV.own _ 0) (by simp)), ⟨.refl _, ⟨.refl _, trivial⟩⟩⟩⟩⟩, (.refl _)⟩ ?_
  rintro ⟨⟨i_22, told_23, out_24⟩, hc1⟩
  have hc1 : spec_l12All_L1 session_2 (list_1.drop i_22) told_23 out_24 = some p35 := hc1
  refine (show awp Try.prog true 0 _ (ofL [(0, (.lst 2 (list_1.map encGLock))), (1, (.int .i64 session_2)), (6, (.own 0 0 told_23.length)), (7, (.own 1 0 out_24.length)), (8, (.int .i64 (i_22 : Int)))]) [.row 3 (told_23.map encGTold), .row 2 (out_24.map encGLock)] _ from ?_)
  rcases dropc list_1 i_22 with ⟨hie38, hd41⟩ | ⟨hlt36, x_42, hx37, hd41⟩
  ·rw [hd41, spec_l12All_L1.eq_1] at hc1
   have hq40 := dlf hie38
   refine awp_seq <| awp_seq <| w_reg <| s_mov (.int .i64 (i_22 : Int)) rfl <| s_mov (.lst 2 (list_1.map encGLock)) rfl <| s_dof (o_len (enc := encGLock) rfl) fun hl43 => s_q (.bool (decide ((i_22 : Int) < (list_1.length : Int)))) rfl rfl rfl <| w_done <| k_seq <| w_condf rfl hq40 <| w_exit <| k_seqx <| k_loopx <| k_blkx <| ?_; obtain rfl := os hc1; exact ⟨[], [0, 1], _, _, rfl, rfl, ⟨.refl _, ⟨.refl _, trivial⟩⟩, (.refl _)⟩
  ·rw [hd41, spec_l12All_L1.eq_2] at hc1
   have hq40 := dlt hlt36
   refine awp_seq <| awp_seq <| w_reg <| s_mov (.int .i64 (i_22 : Int)) rfl <| s_mov (.lst 2 (list_1.map encGLock)) rfl <| s_dof (o_len (enc := encGLock) rfl) fun hl44 => s_q (.bool (decide ((i_22 : Int) < (list_1.length : Int)))) rfl rfl rfl <| w_done <| k_seq <| w_condt rfl hq40 <| w_skip <| k_seq <| awp_seq <| w_blk <| awp_seq <| w_reg <| s_mov (.own 1 0 out_24.length) rfl <| s_mov (.int .i64 session_2) rfl <| s_mov (.lst 2 (list_1.map encGLock)) rfl <| s_mov (.int .i64 (i_22 : Int)) rfl <| s_do (o_iaddrn (enc := encGLock) rfl rfl hx37) <| s_q (.iptr (encGLock x_42) 0) rfl trivial rfl <| s_q (.str x_42.Name) rfl nle rfl <| ?_
   obtain ⟨r_45, er46, hc1⟩ := ob hc1
   refine s_do (o_callf (v := (.tup [(.own 2 0 r_45.1.length), (.own 3 0 r_45.2.1.length), (.int .i64 r_45.2.2)])) (h' := [.row 2 (r_45.1.map encGLock), .row 3 (r_45.2.1.map encGTold)]) (w_spec_l12Leave _ _ _ _ er46) rfl (.cons (.of_eq (congrArg (AV.lst _) (tko out_24))) (.cons (.refl _) (.cons (.refl _) .nil))) (by simp only [openV, openVs, List.length_map, List.nil_append, List.append_nil, List.cons_append]; rfl)) <| s_mov (.tup [(.own 2 0 r_45.1.length), (.own 3 0 r_45.2.1.length), (.int .i64 r_45.2.2)]) rfl <| s_q (.own 2 0 r_45.1.length) rfl nle rfl <| s_q (.own 3 0 r_45.2.1.length) rfl nle rfl <| s_q (.int .i64 r_45.2.2) rfl nle rfl <| s_mov (.own 2 0 r_45.1.length) rfl <| s_mov (.own 3 0 r_45.2.1.length) rfl <| ?_
   refine s_mov (.int .i64 r_45.2.2) rfl <| w_done <| k_seq <| awp_seq <| w_reg <| s_mov (.own 2 0 r_45.1.length) rfl <| s_mov (.own 2 0 r_45.1.length) rfl <| w_done <| k_seq <| w_reg <| ?_
   obtain ⟨g47, hc1⟩ := og hc1
   refine s_mov (.own 0 0 told_23.length) rfl <| s_mov (.own 3 0 r_45.2.1.length) rfl <| ?_
   refine s_do (o_appendd (j := 4) (L := ((told_23 ++ r_45.2.1).map encGTold)) (len := (told_23 ++ r_45.2.1).length) rfl false rfl rfl (fun _ => flo (enc := encGTold) (fun _ => rfl) r_45.2.1 _) (fun _ _ h => (ownl (show AV.own _ _ _ = AV.lst _ _ from h)).elim) (by decide) (apo (enc := encGTold) told_23 r_45.2.1) (by simp <;> omega) g47 rfl rfl) ?_
   refine s_mov (.own 4 0 ((told_23 ++ r_45.2.1).length)) rfl <| w_done <| k_blk <| k_seq <| w_reg <| s_mov (.int .i64 (i_22 : Int)) rfl <| s_q (.int .i64 (w64 ((i_22 : Int) + 1))) rfl rfl rfl <| s_mov (.int .i64 (w64 ((i_22 : Int) + 1))) rfl <| w_done <| ?_; exact k_loopn ⟨((i_22 + 1), told_23 ++ r_45.2.1, r_45.1), hc1⟩ (mul hlt36) ⟨[], [4, 2], _, _, rfl, rfl, ⟨.refl _, ⟨.refl _, ⟨.refl _, ⟨.refl _, ⟨.of_eq (congrArg (AV.int _) (w64_incr hlt36 hl44)), trivial⟩⟩⟩⟩⟩, (.refl _)⟩
 ·obtain ⟨told_33, out_34⟩ := p35
  refine awp_seq <| w_reg <| s_mov (.own 1 0 out_34.length) rfl <| s_mov (.own 0 0 told_33.length) rfl <| s_mov (.own 1 0 out_34.length) rfl <| s_mov (.own 0 0 told_33.length) rfl <| w_done <| k_seq <| w_ret <| ?_; obtain rfl := os hf; exact r_fresh ⟨trivial, ⟨trivial, trivial⟩⟩ rfl (by decide) (.tup (.cons (.of_eq (congrArg (AV.lst _) (tk (enc := encGLock) out_34))) (.cons (.of_eq (congrArg (AV.lst _) (tk (enc := encGTold) told_33))) .nil)))

/- spec.LeaveAll -/
def c28 : ACode :=
 (.seq (.reg (tm 4 (.c .nil) (tm 5 (.c .nil) (tm 6 (.c (.int .i64 0)) .done))))
 (.seq (.seq (.reg (tm 10 (.t 0) (tq 11 (.len (.t 10)) (tq 12 (.bin .gtr (.t 11) (.c (.int .i64 4096))) .done))))
 (.cond (.t 12) (.seq (.reg (tq 13 (.bslice 2 []) (tq 14 (.bslice 3 []) (tm 4 (.t 13) (tm 5 (.t 14) (tm 6 (.c (.int .i64 2)) .done))))))
 .ret)
 .skip))
 (.seq (.seq (.reg (tm 15 (.t 0) (tm 16 (.t 1) (tq 17 (.call 102 [(.t 15), (.t 16), (.c (.str [120]))]) (tm 7 (.t 17) .done)))))
 (.seq (.reg (tm 18 (.t 7) (tq 19 (.bin .neq (.t 18) (.c (.int .i64 0))) .done)))
 (.cond (.t 19) (.seq (.reg (tq 20 (.bslice 2 []) (tq 21 (.bslice 3 []) (tm 22 (.t 7) (tm 4 (.t 20) (tm 5 (.t 21) (tm 6 (.t 22) .done)))))))
 .ret)
 .skip)))
 (.seq (.reg (tm 24 (.t 0) (tm 25 (.t 1) (tq 26 (.call 103 [(.t 24), (.t 25)]) (tm 23 (.t 26) (tq 27 (.extract 0 (.t 23)) (tq 28 (.extract 1 (.t 23)) (tm 8 (.t 27) (tm 9 (.t 28) .done)))))))))
 (.seq (.reg (tm 29 (.t 8) (tm 30 (.t 9) (tm 4 (.t 29) (tm 5 (.t 30) (tm 6 (.c (.int .i64 0)) .done))))))
 .ret)))))
theorem fc28 : fcomp Try.prog Try.f28 = some (c28.erase, [.mov (.t 4), .mov (.t 5), .mov (.t 6)], 31) := by kernel_rfl
def spec_LeaveAll (list_1 : (List GLock)) (session_2 : Int) : Option ((List GLock) × (List GTold) × Int) :=
    if (decide ((list_1.length : Int) > 4096)) then
    some ([], [], 2)
    else
    (spec_l12Ask list_1 session_2 [120]).bind fun r_5 =>
    if (r_5 != 0) then
    some ([], [], r_5)
    else
    (spec_l12All list_1 session_2).bind fun r_8 =>
    some (r_8.1, r_8.2, 0)
theorem w_spec_LeaveAll (list_1 : (List GLock)) (session_2 : Int) (r : ((List GLock) × (List GTold) × Int)) (hf : spec_LeaveAll list_1 session_2 = some r) : CallOK Try.prog 28 .fresh [(.lst 2 (list_1.map encGLock)), (.int .i64 session_2)] (.tup [(.lst 2 (r.1.map encGLock)), (.lst 3 (r.2.1.map encGTold)), (.int .i64 r.2.2)]) := by
 refine CallOK.of_awp mixed Try.func28 fc28 nle ?_; rw [argT_eq]; unfold spec_LeaveAll at hf; unfold c28; refine (show awp Try.prog true 0 _ (ofL [(0, (.lst 2 (list_1.map encGLock))), (1, (.int .i64 session_2))]) [] _ from ?_); refine awp_seq <| w_reg <| s_mov .nil rfl <| s_mov .nil rfl <| s_mov (.int .i64 0) rfl <| w_done <| k_seq <| awp_seq <| awp_seq <| w_reg <| s_mov (.lst 2 (list_1.map encGLock)) rfl <| s_dof (o_len (enc := encGLock) rfl) fun hl3 => s_q (.bool (decide ((list_1.length : Int) > 4096))) rfl rfl rfl <| w_done <| k_seq <| ?_
 rcases oi hf with ⟨c4, hf⟩ | ⟨c4, hf⟩
 ·refine w_condt rfl c4 <| awp_seq <| w_reg <| ?_; refine s_do (o_bslice (j := 0) (as' := []) rfl (fun _ => by decide) trivial (.refl _) rfl rfl rfl) ?_; refine s_do (o_bslice (j := 1) (as' := []) rfl (fun _ => by decide) trivial (.refl _) rfl rfl rfl) ?_; refine s_mov (.own 0 0 0) rfl <| s_mov (.own 1 0 0) rfl <| s_mov (.int .i64 2) rfl <| w_done <| k_seq <| w_ret <| ?_; obtain rfl := os hf; exact r_fresh ⟨trivial, ⟨trivial, ⟨trivial, trivial⟩⟩⟩ rfl (by decide) (.refl _)
 ·refine w_condf rfl (bf c4) <| w_skip <| k_seq <| awp_seq <| awp_seq <| w_reg <| ?_
  obtain ⟨r_5, er6, hf⟩ := ob hf
  refine s_mov (.lst 2 (list_1.map encGLock)) rfl <| s_mov (.int .i64 session_2) rfl <| s_do (o_call (w_spec_l12Ask _ _ _ _ er6) rfl (.refl _) rfl) <| s_mov (.int .i64 r_5) rfl <| w_done <| k_seq <| awp_seq <| w_reg <| s_mov (.int .i64 r_5) rfl <| s_q (.bool (r_5 != 0)) rfl rfl rfl <| w_done <| k_seq <| ?_
  rcases oi hf with ⟨c7, hf⟩ | ⟨c7, hf⟩
  ·refine w_condt rfl c7 <| awp_seq <| w_reg <| ?_; refine s_do (o_bslice (j := 0) (as' := []) rfl (fun _ => by decide) trivial (.refl _) rfl rfl rfl) ?_; refine s_do (o_bslice (j := 1) (as' := []) rfl (fun _ => by decide) trivial (.refl _) rfl rfl rfl) ?_; refine s_mov (.int .i64 r_5) rfl <| s_mov (.own 0 0 0) rfl <| s_mov (.own 1 0 0) rfl <| s_mov (.int .i64 r_5) rfl <| w_done <| k_seq <| w_ret <| ?_; obtain rfl := os hf; exact r_fresh ⟨trivial, ⟨trivial, ⟨trivial, trivial⟩⟩⟩ rfl (by decide) (.refl _)
  ·refine w_condf rfl (bf c7) <| w_skip <| k_seq <| awp_seq <| w_reg <| ?_
   obtain ⟨r_8, er9, hf⟩ := ob hf
   refine s_mov (.lst 2 (list_1.map encGLock)) rfl <| s_mov (.int .i64 session_2) rfl <| s_do (o_callf (v := (.tup [(.own 0 0 r_8.1.length), (.own 1 0 r_8.2.length)])) (h' := [.row 2 (r_8.1.map encGLock), .row 3 (r_8.2.map encGTold)]) (w_spec_l12All _ _ _ er9) rfl (.refl _) (by simp only [openV, openVs, List.length_map, List.nil_append, List.append_nil, List.cons_append]; rfl)) <| s_mov (.tup [(.own 0 0 r_8.1.length), (.own 1 0 r_8.2.length)]) rfl <| s_q (.own 0 0 r_8.1.length) rfl nle rfl <| s_q (.own 1 0 r_8.2.length) rfl nle rfl <| s_mov (.own 0 0 r_8.1.length) rfl <| s_mov (.own 1 0 r_8.2.length) rfl <| w_done <| k_seq <| awp_seq <| w_reg <| s_mov (.own 0 0 r_8.1.length) rfl <| s_mov (.own 1 0 r_8.2.length) rfl <| ?_
   refine s_mov (.own 0 0 r_8.1.length) rfl <| s_mov (.own 1 0 r_8.2.length) rfl <| s_mov (.int .i64 0) rfl <| w_done <| k_seq <| w_ret <| ?_; obtain rfl := os hf; exact r_fresh ⟨trivial, ⟨trivial, ⟨trivial, trivial⟩⟩⟩ rfl (by decide) (.tup (.cons (.of_eq (congrArg (AV.lst _) (tk (enc := encGLock) r_8.1))) (.cons (.of_eq (congrArg (AV.lst _) (tk (enc := encGTold) r_8.2))) (.cons (.refl _) .nil))))

/- laws.sameInts -/
def c104 : ACode :=
 (.seq (.reg (tm 4 (.c (.bool false)) .done))
 (.seq (.seq (.reg (tm 6 (.t 0) (tq 7 (.len (.t 6)) (tm 8 (.t 1) (tq 9 (.len (.t 8)) (tq 10 (.bin .neq (.t 7) (.t 9)) .done))))))
 (.cond (.t 10) (.seq (.reg (tm 4 (.c (.bool false)) .done))
 .ret)
 .skip))
 (.seq (.seq (.reg (tm 5 (.c (.int .i64 0)) .done))
 (.block 0 (.loop (.seq (.seq (.reg (tm 11 (.t 5) (tm 12 (.t 0) (tq 13 (.len (.t 12)) (tq 14 (.bin .lss (.t 11) (.t 13)) .done)))))
 (.cond (.t 14) .skip
 (.exit 0)))
 (.seq (.block 1 (.seq (.reg (tm 17 (.t 0) (tm 18 (.t 5) (tq 19 (.iaddr 1 (.t 17) (.t 18)) (tq 20 (.load 1 false (.t 19)) (tm 21 (.t 1) (tm 22 (.t 5) (tq 23 (.iaddr 1 (.t 21) (.t 22)) (tq 24 (.load 1 false (.t 23)) (tq 25 (.bin .neq (.t 20) (.t 24)) .done))))))))))
 (.cond (.t 25) (.seq (.reg (tm 4 (.c (.bool false)) .done))
 .ret)
 .skip)))
 (.reg (tm 15 (.t 5) (tq 16 (.bin .add (.t 15) (.c (.int .i64 1))) (tm 5 (.t 16) .done)))))))))
 (.cut (.seq (.reg (tm 4 (.c (.bool true)) .done))
 .ret)))))
theorem fc104 : fcomp Try.prog Try.f104 = some (c104.erase, [.mov (.t 4)], 26) := by kernel_rfl
def laws_sameInts_L1 (b_2 : (List Int)) : List Int → Nat → Option (Fl Bool Unit)
  | [], i_21 =>
    some (.go ())
  | x_37 :: xs, i_21 =>
    (idx b_2 (i_21 : Int)).bind fun x_40 =>
    if (x_37 != x_40) then
    some (.ret false)
    else
    laws_sameInts_L1 b_2 xs (i_21 + 1)

def laws_sameInts (a_1 : (List Int)) (b_2 : (List Int)) : Option Bool :=
    if ((a_1.length : Int) != (b_2.length : Int)) then
    some false
    else
    (laws_sameInts_L1 b_2 a_1 0).bind fun q => (match q with
    | .ret r => some r
    | .go _ =>
    some true)
theorem w_laws_sameInts (a_1 : (List Int)) (b_2 : (List Int)) (r : Bool) (hf : laws_sameInts a_1 b_2 = some r) : CallOK Try.prog 104 .flat [(.lst 1 (a_1.map encI)), (.lst 1 (b_2.map encI))] (.bool r) := by
 refine CallOK.of_awp mixed Try.func104 fc104 nle ?_; rw [argT_eq]; unfold laws_sameInts at hf; unfold c104; refine (show awp Try.prog false 0 _ (ofL [(0, (.lst 1 (a_1.map encI))), (1, (.lst 1 (b_2.map encI)))]) [] _ from ?_); refine awp_seq <| w_reg <| s_mov (.bool false) rfl <| w_done <| k_seq <| awp_seq <| awp_seq <| w_reg <| s_mov (.lst 1 (a_1.map encI)) rfl <| s_dof (o_len (enc := encI) rfl) fun hl3 => s_mov (.lst 1 (b_2.map encI)) rfl <| s_dof (o_len (enc := encI) rfl) fun hl4 => s_q (.bool ((a_1.length : Int) != (b_2.length : Int))) rfl rfl rfl <| w_done <| k_seq <| ?_
 rcases oi hf with ⟨c5, hf⟩ | ⟨c5, hf⟩
 ·refine w_condt rfl c5 <| awp_seq <| w_reg <| s_mov (.bool false) rfl <| w_done <| k_seq <| w_ret <| ?_; obtain rfl := os hf; exact r_flat ⟨trivial, trivial⟩ rfl (.refl _)
 ·refine w_condf rfl (bf c5) <| w_skip <| k_seq <| awp_seq <| awp_seq <| w_reg <| s_mov (.int .i64 0) rfl <| w_done <| k_seq <| ?_
  obtain ⟨p30, hb1, hf⟩ := ob hf
  refine awp_cutx (X := {q : Unit // p30 = .go q}) (fun q => ([], [])) ?_ ?_
  ·refine awp_loop (X := {q : Nat // laws_sameInts_L1 b_2 (a_1.drop q) q = some p30}) (fun q => ([(0, (.lst 1 (a_1.map encI))), (1, (.lst 1 (b_2.map encI))), (5, (.int .i64 (q.1 : Int)))], [])) (fun q => a_1.length - q.1) ⟨0, hb1⟩ ⟨[], [], _, _, rfl, rfl, ⟨.refl _, ⟨.refl _, ⟨.refl _, trivial⟩⟩⟩, (.refl _)⟩ ?_
   rintro ⟨i_21, hc1⟩
   have hc1 : laws_sameInts_L1 b_2 (a_1.drop i_21) i_21 = some p30 := hc1
   refine (show awp Try.prog false 0 _ (ofL [(0, (.lst 1 (a_1.map encI))), (1, (.lst 1 (b_2.map encI))), (5, (.int .i64 (i_21 : Int)))]) [] _ from ?_)
   rcases dropc a_1 i_21 with ⟨hie33, hd36⟩ | ⟨hlt31, x_37, hx32, hd36⟩
   ·rw [hd36, laws_sameInts_L1.eq_1] at hc1
    have hq35 := dlf hie33
    refine awp_seq <| awp_seq <| w_reg <| s_mov (.int .i64 (i_21 : Int)) rfl <| s_mov (.lst 1 (a_1.map encI)) rfl <| s_dof (o_len (enc := encI) rfl) fun hl38 => s_q (.bool (decide ((i_21 : Int) < (a_1.length : Int)))) rfl rfl rfl <| w_done <| k_seq <| w_condf rfl hq35 <| w_exit <| k_seqx <| k_loopx <| k_blkx <| ?_; obtain rfl := os hc1; exact k_cutn ⟨_, rfl⟩ ⟨[], [], _, _, rfl, rfl, trivial, (.refl _)⟩
   ·rw [hd36, laws_sameInts_L1.eq_2] at hc1
    have hq35 := dlt hlt31
    refine awp_seq <| awp_seq <| w_reg <| s_mov (.int .i64 (i_21 : Int)) rfl <| s_mov (.lst 1 (a_1.map encI)) rfl <| s_dof (o_len (enc := encI) rfl) fun hl39 => s_q (.bool (decide ((i_21 : Int) < (a_1.length : Int)))) rfl rfl rfl <| w_done <| k_seq <| w_condt rfl hq35 <| w_skip <| k_seq <| awp_seq <| w_blk <| awp_seq <| w_reg <| ?_
    obtain ⟨x_40, ex41, hc1⟩ := ob hc1
    refine s_mov (.lst 1 (a_1.map encI)) rfl <| s_mov (.int .i64 (i_21 : Int)) rfl <| s_do (o_iaddrn (enc := encI) rfl rfl hx32) <| s_q (.int .i64 x_37) rfl ⟨rfl, rfl⟩ rfl <| s_mov (.lst 1 (b_2.map encI)) rfl <| s_mov (.int .i64 (i_21 : Int)) rfl <| s_do (o_iaddr (enc := encI) rfl rfl (idx0 ex41) (idx1 ex41)) <| s_q (.int .i64 x_40) rfl ⟨rfl, rfl⟩ rfl <| s_q (.bool (x_37 != x_40)) rfl rfl rfl <| w_done <| k_seq <| ?_
    rcases oi hc1 with ⟨c42, hc1⟩ | ⟨c42, hc1⟩
    ·refine w_condt rfl c42 <| awp_seq <| w_reg <| s_mov (.bool false) rfl <| w_done <| k_seq <| w_ret <| ?_; obtain rfl := os hc1; obtain rfl := os hf; exact r_flat ⟨trivial, trivial⟩ rfl (.refl _)
    ·refine w_condf rfl (bf c42) <| w_skip <| k_blk <| k_seq <| w_reg <| s_mov (.int .i64 (i_21 : Int)) rfl <| s_q (.int .i64 (w64 ((i_21 : Int) + 1))) rfl rfl rfl <| s_mov (.int .i64 (w64 ((i_21 : Int) + 1))) rfl <| w_done <| ?_; exact k_loopn ⟨(i_21 + 1), hc1⟩ (mul hlt31) ⟨[], [], _, _, rfl, rfl, ⟨.refl _, ⟨.refl _, ⟨.of_eq (congrArg (AV.int _) (w64_incr hlt31 hl39)), trivial⟩⟩⟩, (.refl _)⟩
  ·rintro ⟨_, rfl⟩
   refine awp_seq <| w_reg <| s_mov (.bool true) rfl <| w_done <| k_seq <| w_ret <| ?_; obtain rfl := os hf; exact r_flat ⟨trivial, trivial⟩ rfl (.refl _)

/- laws.sameLocks -/
def c29 : ACode :=
 (.seq (.reg (tm 4 (.c (.bool false)) .done))
 (.seq (.seq (.reg (tm 6 (.t 0) (tq 7 (.len (.t 6)) (tm 8 (.t 1) (tq 9 (.len (.t 8)) (tq 10 (.bin .neq (.t 7) (.t 9)) .done))))))
 (.cond (.t 10) (.seq (.reg (tm 4 (.c (.bool false)) .done))
 .ret)
 .skip))
 (.seq (.seq (.reg (tm 5 (.c (.int .i64 0)) .done))
 (.block 0 (.loop (.seq (.seq (.reg (tm 11 (.t 5) (tm 12 (.t 0) (tq 13 (.len (.t 12)) (tq 14 (.bin .lss (.t 11) (.t 13)) .done)))))
 (.cond (.t 14) .skip
 (.exit 0)))
 (.seq (.block 1 (.seq (.reg (tm 17 (.t 0) (tm 18 (.t 5) (tq 19 (.iaddr 2 (.t 17) (.t 18)) (tq 20 (.faddr 0 (.t 19)) (tq 21 (.load 1 false (.t 20)) (tm 22 (.t 1) (tm 23 (.t 5) (tq 24 (.iaddr 2 (.t 22) (.t 23)) (tq 25 (.faddr 0 (.t 24)) (tq 26 (.load 1 false (.t 25)) (tq 27 (.bin .neq (.t 21) (.t 26)) (tm 28 (.t 27) (tg 29 28 false (.mov (.t 0)) (tg 30 28 false (.mov (.t 5)) (tg 31 28 false (.iaddr 2 (.t 29) (.t 30)) (tg 32 28 false (.faddr 1 (.t 31)) (tg 33 28 false (.load 1 false (.t 32)) (tg 34 28 false (.mov (.t 1)) (tg 35 28 false (.mov (.t 5)) (tg 36 28 false (.iaddr 2 (.t 34) (.t 35)) (tg 37 28 false (.faddr 1 (.t 36)) (tg 38 28 false (.load 1 false (.t 37)) (.l ⟨(some 39), (some (28, false)), .call 104 [(.t 33), (.t 38)]⟩ []
 (tg 40 28 false (.not (.t 39)) (tq 41 (.pick (.t 28) (.c (.bool true)) (.t 40)) .done)) .non))))))))))))))))))))))))
 (.cut (.cond (.t 41) (.seq (.reg (tm 4 (.c (.bool false)) .done))
 .ret)
 .skip))))
 (.reg (tm 15 (.t 5) (tq 16 (.bin .add (.t 15) (.c (.int .i64 1))) (tm 5 (.t 16) .done)))))))))
 (.cut (.seq (.reg (tm 4 (.c (.bool true)) .done))
 .ret)))))
theorem fc29 : fcomp Try.prog Try.f29 = some (c29.erase, [.mov (.t 4)], 42) := by kernel_rfl
def laws_sameLocks_L1 (b_2 : (List GLock)) : List GLock → Nat → Option (Fl Bool Unit)
  | [], i_61 =>
    some (.go ())
  | x_97 :: xs, i_61 =>
    (((idx b_2 (i_61 : Int)).bind fun x_109 =>
    if (!(x_97.Name == x_109.Name)) then
    some true
    else
    (idx b_2 (i_61 : Int)).bind fun x_112 =>
    (laws_sameInts x_97.Queue x_112.Queue).bind fun r_114 =>
    some (!r_114) : Option Bool)).bind fun s41_107 =>
    if s41_107 then
    some (.ret false)
    else
    laws_sameLocks_L1 b_2 xs (i_61 + 1)

def laws_sameLocks (a_1 : (List GLock)) (b_2 : (List GLock)) : Option Bool :=
    if ((a_1.length : Int) != (b_2.length : Int)) then
    some false
    else
    (laws_sameLocks_L1 b_2 a_1 0).bind fun q => (match q with
    | .ret r => some r
    | .go _ =>
    some true)
theorem w_laws_sameLocks (a_1 : (List GLock)) (b_2 : (List GLock)) (r : Bool) (hf : laws_sameLocks a_1 b_2 = some r) : CallOK Try.prog 29 .flat [(.lst 2 (a_1.map encGLock)), (.lst 2 (b_2.map encGLock))] (.bool r) := by
 refine CallOK.of_awp mixed Try.func29 fc29 nle ?_; rw [argT_eq]; unfold laws_sameLocks at hf; unfold c29; refine (show awp Try.prog false 0 _ (ofL [(0, (.lst 2 (a_1.map encGLock))), (1, (.lst 2 (b_2.map encGLock)))]) [] _ from ?_); refine awp_seq <| w_reg <| s_mov (.bool false) rfl <| w_done <| k_seq <| awp_seq <| awp_seq <| w_reg <| s_mov (.lst 2 (a_1.map encGLock)) rfl <| s_dof (o_len (enc := encGLock) rfl) fun hl3 => s_mov (.lst 2 (b_2.map encGLock)) rfl <| s_dof (o_len (enc := encGLock) rfl) fun hl4 => s_q (.bool ((a_1.length : Int) != (b_2.length : Int))) rfl rfl rfl <| w_done <| k_seq <| ?_
 rcases oi hf with ⟨c5, hf⟩ | ⟨c5, hf⟩
 ·refine w_condt rfl c5 <| awp_seq <| w_reg <| s_mov (.bool false) rfl <| w_done <| k_seq <| w_ret <| ?_; obtain rfl := os hf; exact r_flat ⟨trivial, trivial⟩ rfl (.refl _)
 ·refine w_condf rfl (bf c5) <| w_skip <| k_seq <| awp_seq <| awp_seq <| w_reg <| s_mov (.int .i64 0) rfl <| w_done <| k_seq <| ?_
  obtain ⟨p90, hb1, hf⟩ := ob hf
  refine awp_cutx (X := {q : Unit // p90 = .go q}) (fun q => ([], [])) ?_ ?_
  ·refine awp_loop (X := {q : Nat // laws_sameLocks_L1 b_2 (a_1.drop q) q = some p90}) (fun q => ([(0, (.lst 2 (a_1.map encGLock))), (1, (.lst 2 (b_2.map encGLock))), (5, (.int .i64 (q.1 : Int)))], [])) (fun q => a_1.length - q.1) ⟨0, hb1⟩ ⟨[], [], _, _, rfl, rfl, ⟨.refl _, ⟨.refl _, ⟨.refl _, trivial⟩⟩⟩, (.refl _)⟩ ?_
   rintro ⟨i_61, hc1⟩
   have hc1 : laws_sameLocks_L1 b_2 (a_1.drop i_61) i_61 = some p90 := hc1
   refine (show awp Try.prog false 0 _ (ofL [(0, (.lst 2 (a_1.map encGLock))), (1, (.lst 2 (b_2.map encGLock))), (5, (.int .i64 (i_61 : Int)))]) [] _ from ?_)
   rcases dropc a_1 i_61 with ⟨hie93, hd96⟩ | ⟨hlt91, x_97, hx92, hd96⟩
   ·rw [hd96, laws_sameLocks_L1.eq_1] at hc1
    have hq95 := dlf hie93
    refine awp_seq <| awp_seq <| w_reg <| s_mov (.int .i64 (i_61 : Int)) rfl <| s_mov (.lst 2 (a_1.map encGLock)) rfl <| s_dof (o_len (enc := encGLock) rfl) fun hl98 => s_q (.bool (decide ((i_61 : Int) < (a_1.length : Int)))) rfl rfl rfl <| w_done <| k_seq <| w_condf rfl hq95 <| w_exit <| k_seqx <| k_loopx <| k_blkx <| ?_; obtain rfl := os hc1; exact k_cutn ⟨_, rfl⟩ ⟨[], [], _, _, rfl, rfl, trivial, (.refl _)⟩
   ·rw [hd96, laws_sameLocks_L1.eq_2] at hc1
    have hq95 := dlt hlt91
    refine awp_seq <| awp_seq <| w_reg <| s_mov (.int .i64 (i_61 : Int)) rfl <| s_mov (.lst 2 (a_1.map encGLock)) rfl <| s_dof (o_len (enc := encGLock) rfl) fun hl99 => s_q (.bool (decide ((i_61 : Int) < (a_1.length : Int)))) rfl rfl rfl <| w_done <| k_seq <| w_condt rfl hq95 <| w_skip <| k_seq <| awp_seq <| w_blk <| awp_seq <| ?_
    obtain ⟨s41_107, hb2, hc1⟩ := ob hc1
    refine awp_cut ([(0, (.lst 2 (a_1.map encGLock))), (1, (.lst 2 (b_2.map encGLock))), (5, (.int .i64 (i_61 : Int))), (41, (.bool s41_107))], []) ?_ ?_
    ·refine w_reg <| s_mov (.lst 2 (a_1.map encGLock)) rfl <| s_mov (.int .i64 (i_61 : Int)) rfl <| s_do (o_iaddrn (enc := encGLock) rfl rfl hx92) <| s_q (.iptr (encGLock x_97) 0) rfl trivial rfl <| s_q (.str x_97.Name) rfl nle rfl <| s_mov (.lst 2 (b_2.map encGLock)) rfl <| s_mov (.int .i64 (i_61 : Int)) rfl <| ?_
     obtain ⟨x_109, ex110, hb2⟩ := ob hb2
     refine s_do (o_iaddr (enc := encGLock) rfl rfl (idx0 ex110) (idx1 ex110)) <| s_q (.iptr (encGLock x_109) 0) rfl trivial rfl <| s_q (.str x_109.Name) rfl nle rfl <| s_q (.bool (!(x_97.Name == x_109.Name))) rfl trivial rfl <| s_mov (.bool (!(x_97.Name == x_109.Name))) rfl <| ?_
     rcases oi hb2 with ⟨c111, hb2⟩ | ⟨c111, hb2⟩
     ·refine s_lit (s := 28) (b := true) rfl c111 <| s_off rfl rfl <| s_off rfl rfl <| s_off rfl rfl <| s_off rfl rfl <| s_off rfl rfl <| s_off rfl rfl <| s_off rfl rfl <| s_off rfl rfl <| s_off rfl rfl <| s_off rfl rfl <| s_offl rfl rfl trivial <| s_off rfl rfl <| s_q (.bool true) rfl trivial rfl <| w_done <| ?_; obtain rfl := os hb2; exact ⟨[], [], _, _, rfl, rfl, ⟨.refl _, ⟨.refl _, ⟨.refl _, ⟨.refl _, trivial⟩⟩⟩⟩, (.refl _)⟩
     ·refine s_lit (s := 28) (b := false) rfl (bf c111) <| s_on rfl <| s_mov (.lst 2 (a_1.map encGLock)) rfl <| s_on rfl <| s_mov (.int .i64 (i_61 : Int)) rfl <| s_on rfl <| s_do (o_iaddrn (enc := encGLock) rfl rfl hx92) <| s_on rfl <| s_q (.iptr (encGLock x_97) 1) rfl trivial rfl <| s_on rfl <| s_q (.lst 1 (x_97.Queue.map encI)) rfl nle rfl <| s_on rfl <| s_mov (.lst 2 (b_2.map encGLock)) rfl <| s_on rfl <| s_mov (.int .i64 (i_61 : Int)) rfl <| s_on rfl <| ?_
      obtain ⟨x_112, ex113, hb2⟩ := ob hb2
      refine s_do (o_iaddr (enc := encGLock) rfl rfl (idx0 ex113) (idx1 ex113)) <| s_on rfl <| s_q (.iptr (encGLock x_112) 1) rfl trivial rfl <| s_on rfl <| s_q (.lst 1 (x_112.Queue.map encI)) rfl nle rfl <| s_onl rfl <| ?_
      obtain ⟨r_114, er115, hb2⟩ := ob hb2
      refine s_dol (o_call (w_laws_sameInts _ _ _ er115) rfl (.refl _) rfl) a_same trivial <| s_on rfl <| s_q (.bool (!r_114)) rfl trivial rfl <| s_q (.bool (!r_114)) rfl trivial rfl <| w_done <| ?_; obtain rfl := os hb2; exact ⟨[], [], _, _, rfl, rfl, ⟨.refl _, ⟨.refl _, ⟨.refl _, ⟨.refl _, trivial⟩⟩⟩⟩, (.refl _)⟩
    ·rcases oi hc1 with ⟨c116, hc1⟩ | ⟨c116, hc1⟩
     ·refine w_condt rfl c116 <| awp_seq <| w_reg <| s_mov (.bool false) rfl <| w_done <| k_seq <| w_ret <| ?_; obtain rfl := os hc1; obtain rfl := os hf; exact r_flat ⟨trivial, trivial⟩ rfl (.refl _)
     ·refine w_condf rfl (bf c116) <| w_skip <| k_blk <| k_seq <| w_reg <| s_mov (.int .i64 (i_61 : Int)) rfl <| s_q (.int .i64 (w64 ((i_61 : Int) + 1))) rfl rfl rfl <| s_mov (.int .i64 (w64 ((i_61 : Int) + 1))) rfl <| w_done <| ?_; exact k_loopn ⟨(i_61 + 1), hc1⟩ (mul hlt91) ⟨[], [], _, _, rfl, rfl, ⟨.refl _, ⟨.refl _, ⟨.of_eq (congrArg (AV.int _) (w64_incr hlt91 hl99)), trivial⟩⟩⟩, (.refl _)⟩
  ·rintro ⟨_, rfl⟩
   refine awp_seq <| w_reg <| s_mov (.bool true) rfl <| w_done <| k_seq <| w_ret <| ?_; obtain rfl := os hf; exact r_flat ⟨trivial, trivial⟩ rfl (.refl _)

/- laws.sameTold -/
def c30 : ACode :=
 (.seq (.reg (tm 4 (.c (.bool false)) .done))
 (.seq (.seq (.reg (tm 6 (.t 0) (tq 7 (.len (.t 6)) (tm 8 (.t 1) (tq 9 (.len (.t 8)) (tq 10 (.bin .neq (.t 7) (.t 9)) .done))))))
 (.cond (.t 10) (.seq (.reg (tm 4 (.c (.bool false)) .done))
 .ret)
 .skip))
 (.seq (.seq (.reg (tm 5 (.c (.int .i64 0)) .done))
 (.block 0 (.loop (.seq (.seq (.reg (tm 11 (.t 5) (tm 12 (.t 0) (tq 13 (.len (.t 12)) (tq 14 (.bin .lss (.t 11) (.t 13)) .done)))))
 (.cond (.t 14) .skip
 (.exit 0)))
 (.seq (.block 1 (.seq (.reg (tm 17 (.t 0) (tm 18 (.t 5) (tq 19 (.iaddr 3 (.t 17) (.t 18)) (tq 20 (.load 3 true (.t 19)) (tm 21 (.t 1) (tm 22 (.t 5) (tq 23 (.iaddr 3 (.t 21) (.t 22)) (tq 24 (.load 3 true (.t 23)) (tq 25 (.eqs true [0, 2, 2] (.t 20) (.t 24)) .done))))))))))
 (.cond (.t 25) (.seq (.reg (tm 4 (.c (.bool false)) .done))
 .ret)
 .skip)))
 (.reg (tm 15 (.t 5) (tq 16 (.bin .add (.t 15) (.c (.int .i64 1))) (tm 5 (.t 16) .done)))))))))
 (.cut (.seq (.reg (tm 4 (.c (.bool true)) .done))
 .ret)))))
theorem fc30 : fcomp Try.prog Try.f30 = some (c30.erase, [.mov (.t 4)], 26) := by kernel_rfl
def laws_sameTold_L1 (b_2 : (List GTold)) : List GTold → Nat → Option (Fl Bool Unit)
  | [], i_21 =>
    some (.go ())
  | x_37 :: xs, i_21 =>
    (idx b_2 (i_21 : Int)).bind fun x_40 =>
    if (!(x_37.Session == x_40.Session && (x_37.Word == x_40.Word && (x_37.Name == x_40.Name && true)))) then
    some (.ret false)
    else
    laws_sameTold_L1 b_2 xs (i_21 + 1)

def laws_sameTold (a_1 : (List GTold)) (b_2 : (List GTold)) : Option Bool :=
    if ((a_1.length : Int) != (b_2.length : Int)) then
    some false
    else
    (laws_sameTold_L1 b_2 a_1 0).bind fun q => (match q with
    | .ret r => some r
    | .go _ =>
    some true)
theorem w_laws_sameTold (a_1 : (List GTold)) (b_2 : (List GTold)) (r : Bool) (hf : laws_sameTold a_1 b_2 = some r) : CallOK Try.prog 30 .flat [(.lst 3 (a_1.map encGTold)), (.lst 3 (b_2.map encGTold))] (.bool r) := by
 refine CallOK.of_awp mixed Try.func30 fc30 nle ?_; rw [argT_eq]; unfold laws_sameTold at hf; unfold c30; refine (show awp Try.prog false 0 _ (ofL [(0, (.lst 3 (a_1.map encGTold))), (1, (.lst 3 (b_2.map encGTold)))]) [] _ from ?_); refine awp_seq <| w_reg <| s_mov (.bool false) rfl <| w_done <| k_seq <| awp_seq <| awp_seq <| w_reg <| s_mov (.lst 3 (a_1.map encGTold)) rfl <| s_dof (o_len (enc := encGTold) rfl) fun hl3 => s_mov (.lst 3 (b_2.map encGTold)) rfl <| s_dof (o_len (enc := encGTold) rfl) fun hl4 => s_q (.bool ((a_1.length : Int) != (b_2.length : Int))) rfl rfl rfl <| w_done <| k_seq <| ?_
 rcases oi hf with ⟨c5, hf⟩ | ⟨c5, hf⟩
 ·refine w_condt rfl c5 <| awp_seq <| w_reg <| s_mov (.bool false) rfl <| w_done <| k_seq <| w_ret <| ?_; obtain rfl := os hf; exact r_flat ⟨trivial, trivial⟩ rfl (.refl _)
 ·refine w_condf rfl (bf c5) <| w_skip <| k_seq <| awp_seq <| awp_seq <| w_reg <| s_mov (.int .i64 0) rfl <| w_done <| k_seq <| ?_
  obtain ⟨p30, hb1, hf⟩ := ob hf
  refine awp_cutx (X := {q : Unit // p30 = .go q}) (fun q => ([], [])) ?_ ?_
  ·refine awp_loop (X := {q : Nat // laws_sameTold_L1 b_2 (a_1.drop q) q = some p30}) (fun q => ([(0, (.lst 3 (a_1.map encGTold))), (1, (.lst 3 (b_2.map encGTold))), (5, (.int .i64 (q.1 : Int)))], [])) (fun q => a_1.length - q.1) ⟨0, hb1⟩ ⟨[], [], _, _, rfl, rfl, ⟨.refl _, ⟨.refl _, ⟨.refl _, trivial⟩⟩⟩, (.refl _)⟩ ?_
   rintro ⟨i_21, hc1⟩
   have hc1 : laws_sameTold_L1 b_2 (a_1.drop i_21) i_21 = some p30 := hc1
   refine (show awp Try.prog false 0 _ (ofL [(0, (.lst 3 (a_1.map encGTold))), (1, (.lst 3 (b_2.map encGTold))), (5, (.int .i64 (i_21 : Int)))]) [] _ from ?_)
   rcases dropc a_1 i_21 with ⟨hie33, hd36⟩ | ⟨hlt31, x_37, hx32, hd36⟩
   ·rw [hd36, laws_sameTold_L1.eq_1] at hc1
    have hq35 := dlf hie33
    refine awp_seq <| awp_seq <| w_reg <| s_mov (.int .i64 (i_21 : Int)) rfl <| s_mov (.lst 3 (a_1.map encGTold)) rfl <| s_dof (o_len (enc := encGTold) rfl) fun hl38 => s_q (.bool (decide ((i_21 : Int) < (a_1.length : Int)))) rfl rfl rfl <| w_done <| k_seq <| w_condf rfl hq35 <| w_exit <| k_seqx <| k_loopx <| k_blkx <| ?_; obtain rfl := os hc1; exact k_cutn ⟨_, rfl⟩ ⟨[], [], _, _, rfl, rfl, trivial, (.refl _)⟩
   ·rw [hd36, laws_sameTold_L1.eq_2] at hc1
    have hq35 := dlt hlt31
    refine awp_seq <| awp_seq <| w_reg <| s_mov (.int .i64 (i_21 : Int)) rfl <| s_mov (.lst 3 (a_1.map encGTold)) rfl <| s_dof (o_len (enc := encGTold) rfl) fun hl39 => s_q (.bool (decide ((i_21 : Int) < (a_1.length : Int)))) rfl rfl rfl <| w_done <| k_seq <| w_condt rfl hq35 <| w_skip <| k_seq <| awp_seq <| w_blk <| awp_seq <| w_reg <| ?_
    obtain ⟨x_40, ex41, hc1⟩ := ob hc1
    refine s_mov (.lst 3 (a_1.map encGTold)) rfl <| s_mov (.int .i64 (i_21 : Int)) rfl <| s_do (o_iaddrn (enc := encGTold) rfl rfl hx32) <| s_q (encGTold x_37) rfl nle rfl <| s_mov (.lst 3 (b_2.map encGTold)) rfl <| s_mov (.int .i64 (i_21 : Int)) rfl <| s_do (o_iaddr (enc := encGTold) rfl rfl (idx0 ex41) (idx1 ex41)) <| s_q (encGTold x_40) rfl nle rfl <| s_q (.bool (!(x_37.Session == x_40.Session && (x_37.Word == x_40.Word && (x_37.Name == x_40.Name && true))))) rfl ⟨⟨rfl, rfl⟩, ⟨rfl, ⟨rfl, trivial⟩⟩⟩ rfl <| w_done <| k_seq <| ?_
    rcases oi hc1 with ⟨c42, hc1⟩ | ⟨c42, hc1⟩
    ·refine w_condt rfl c42 <| awp_seq <| w_reg <| s_mov (.bool false) rfl <| w_done <| k_seq <| w_ret <| ?_; obtain rfl := os hc1; obtain rfl := os hf; exact r_flat ⟨trivial, trivial⟩ rfl (.refl _)
    ·refine w_condf rfl (bf c42) <| w_skip <| k_blk <| k_seq <| w_reg <| s_mov (.int .i64 (i_21 : Int)) rfl <| s_q (.int .i64 (w64 ((i_21 : Int) + 1))) rfl rfl rfl <| s_mov (.int .i64 (w64 ((i_21 : Int) + 1))) rfl <| w_done <| ?_; exact k_loopn ⟨(i_21 + 1), hc1⟩ (mul hlt31) ⟨[], [], _, _, rfl, rfl, ⟨.refl _, ⟨.refl _, ⟨.of_eq (congrArg (AV.int _) (w64_incr hlt31 hl39)), trivial⟩⟩⟩, (.refl _)⟩
  ·rintro ⟨_, rfl⟩
   refine awp_seq <| w_reg <| s_mov (.bool true) rfl <| w_done <| k_seq <| w_ret <| ?_; obtain rfl := os hf; exact r_flat ⟨trivial, trivial⟩ rfl (.refl _)

/- laws.FnOneOwner -/
def c4 : ACode :=
 (.seq (.reg (tm 4 (.c (.bool false)) .done))
 (.seq (.seq (.reg (tm 19 (.t 0) (tq 20 (.len (.t 19)) (tq 21 (.bin .gtr (.t 20) (.c (.int .i64 1048576))) (tm 22 (.t 21) (tg 23 22 false (.mov (.t 1)) (tg 24 22 false (.len (.t 23)) (tg 25 22 false (.bin .gtr (.t 24) (.c (.int .i64 1048576))) (tq 26 (.pick (.t 22) (.c (.bool true)) (.t 25)) .done)))))))))
 (.cut (.cond (.t 26) (.seq (.reg (tm 4 (.c (.bool true)) .done))
 .ret)
 .skip)))
 (.seq (.reg (tm 27 (.t 0) (tq 28 (.call 24 [(.t 27)]) (tm 5 (.t 28) .done))))
 (.seq (.reg (tm 6 (.c (.int .i64 0)) .done))
 (.seq (.seq (.reg (tm 7 (.c (.int .i64 0)) .done))
 (.block 0 (.loop (.seq (.seq (.reg (tm 29 (.t 7) (tq 30 (.bin .lss (.t 29) (.c (.int .i64 3))) .done)))
 (.cond (.t 30) .skip
 (.exit 0)))
 (.seq (.block 1 (.seq (.reg (tm 34 (.t 5) (tm 35 (.t 7) (tq 36 (.call 25 [(.t 34), (.t 35)]) (tm 33 (.t 36) (tq 37 (.extract 0 (.t 33)) (tq 38 (.extract 1 (.t 33)) (tm 8 (.t 37) (tm 9 (.t 38) .done)))))))))
 (.seq (.seq (.reg (tm 39 (.t 9) (tq 40 (.bin .neq (.t 39) (.c (.int .i64 0))) .done)))
 (.cond (.t 40) (.seq (.reg (tm 4 (.c (.bool false)) .done))
 .ret)
 .skip))
 (.reg (tm 41 (.t 6) (tm 42 (.t 8) (tq 43 (.len (.t 42)) (tq 44 (.bin .add (.t 41) (.t 43)) (tm 6 (.t 44) .done)))))))))
 (.reg (tm 31 (.t 7) (tq 32 (.bin .add (.t 31) (.c (.int .i64 1))) (tm 7 (.t 32) .done)))))))))
 (.cut (.seq (.reg (tm 45 (.t 1) (tq 46 (.call 26 [(.t 45), (.c (.int .i64 0)), (.c (.int .i64 3))]) (tm 10 (.t 46) .done))))
 (.seq (.reg (tm 48 (.t 5) (tm 49 (.t 10) (tq 50 (.call 27 [(.t 48), (.t 49)]) (tm 47 (.t 50) (tq 51 (.extract 0 (.t 47)) (tq 52 (.extract 1 (.t 47)) (tq 53 (.extract 2 (.t 47)) (tm 11 (.t 51) (tm 12 (.t 52) (tm 13 (.t 53) .done)))))))))))
 (.seq (.reg (tm 55 (.t 5) (tm 56 (.t 10) (tq 57 (.call 28 [(.t 55), (.t 56)]) (tm 54 (.t 57) (tq 58 (.extract 0 (.t 54)) (tq 59 (.extract 1 (.t 54)) (tq 60 (.extract 2 (.t 54)) (tm 14 (.t 58) (tm 15 (.t 59) (tm 16 (.t 60) .done)))))))))))
 (.seq (.reg (tm 62 (.t 11) (tm 63 (.t 10) (tq 64 (.call 25 [(.t 62), (.t 63)]) (tm 61 (.t 64) (tq 65 (.extract 0 (.t 61)) (tq 66 (.extract 1 (.t 61)) (tm 17 (.t 65) (tm 18 (.t 66) .done)))))))))
 (.seq (.reg (tm 67 (.t 6) (tm 68 (.t 5) (tq 69 (.len (.t 68)) (tq 70 (.bin .eql (.t 67) (.t 69)) (tm 71 (.t 70) (tg 72 71 true (.mov (.t 13)) (tg 73 71 true (.bin .eql (.t 72) (.c (.int .i64 0))) (tq 74 (.pick (.t 71) (.t 73) (.c (.bool false))) (tm 75 (.t 74) (tg 76 75 true (.mov (.t 11)) (tg 77 75 true (.mov (.t 14)) (tg 78 75 true (.call 29 [(.t 76), (.t 77)]) (tq 79 (.pick (.t 75) (.t 78) (.c (.bool false))) (tm 80 (.t 79) (tg 81 80 true (.mov (.t 12)) (tg 82 80 true (.mov (.t 15)) (tg 83 80 true (.call 30 [(.t 81), (.t 82)]) (tq 84 (.pick (.t 80) (.t 83) (.c (.bool false))) (tm 85 (.t 84) (tg 86 85 true (.mov (.t 18)) (tg 87 85 true (.bin .eql (.t 86) (.c (.int .i64 0))) (tq 88 (.pick (.t 85) (.t 87) (.c (.bool false))) (tm 89 (.t 88) (tg 90 89 true (.mov (.t 17)) (tg 91 89 true (.len (.t 90)) (tg 92 89 true (.bin .eql (.t 91) (.c (.int .i64 0))) (tq 93 (.pick (.t 89) (.t 92) (.c (.bool false))) (tm 94 (.t 93) (tg 95 94 true (.mov (.t 11)) (tg 96 94 true (.call 31 [(.t 95)]) (tq 97 (.pick (.t 94) (.t 96) (.c (.bool false))) (tm 4 (.t 97) .done)))))))))))))))))))))))))))))))))
 .ret)))))))))))
theorem fc4 : fcomp Try.prog Try.f4 = some (c4.erase, [.mov (.t 4)], 98) := by kernel_rfl
def laws_FnOneOwner_L1 (r_12 : (List GLock)) : Nat → Int → Int → Option (Fl Bool Int)
  | 0, _, _ => none
  | k + 1, n_45, i_46 =>
    if (decide (i_46 < 3)) then
    (impl_OwnedBy r_12 i_46).bind fun r_55 =>
    if (r_55.2 != 0) then
    some (.ret false)
    else
    laws_FnOneOwner_L1 r_12 k (w64 (n_45 + (r_55.1.length : Int))) (w64 (i_46 + 1))
    else
    some (.go n_45)

def laws_FnOneOwner (code_1 : (List Int)) (more_2 : (List Int)) : Option Bool :=
    ((if (decide ((code_1.length : Int) > 1048576)) then
    some true
    else
    some (decide ((more_2.length : Int) > 1048576)) : Option Bool)).bind fun s26_6 =>
    if s26_6 then
    some true
    else
    (spec_LocksOf code_1).bind fun r_12 =>
    (laws_FnOneOwner_L1 r_12 FUEL 0 0).bind fun q => (match q with
    | .ret r => some r
    | .go n_52 =>
    (laws_at more_2 0 3).bind fun r_59 =>
    (impl_LeaveAll r_12 r_59).bind fun r_61 =>
    (spec_LeaveAll r_12 r_59).bind fun r_63 =>
    (impl_OwnedBy r_61.1 r_59).bind fun r_65 =>
    if (bif (n_52 == (r_12.length : Int)) then (r_61.2.2 == 0) else false) then
    (laws_sameLocks r_61.1 r_63.1).bind fun r_69 =>
    if r_69 then
    (laws_sameTold r_61.2.1 r_63.2.1).bind fun r_72 =>
    if (bif (bif r_72 then (r_65.2 == 0) else false) then ((r_65.1.length : Int) == 0) else false) then
    (impl_LocksOK r_61.1).bind fun r_76 =>
    some r_76
    else
    some false
    else
    some false
    else
    some false)
theorem w_laws_FnOneOwner (code_1 : (List Int)) (more_2 : (List Int)) (r : Bool) (hf : laws_FnOneOwner code_1 more_2 = some r) : CallOK Try.prog 4 .flat [(.lst 1 (code_1.map enc_u8)), (.lst 1 (more_2.map enc_u8))] (.bool r) := by
 refine CallOK.of_awp mixed Try.func4 fc4 nle ?_; rw [argT_eq]; unfold laws_FnOneOwner at hf; unfold c4; refine (show awp Try.prog false 0 _ (ofL [(0, (.lst 1 (code_1.map enc_u8))), (1, (.lst 1 (more_2.map enc_u8)))]) [] _ from ?_); refine awp_seq <| w_reg <| s_mov (.bool false) rfl <| w_done <| k_seq <| awp_seq <| awp_seq <| ?_
 obtain ⟨s26_6, hb1, hf⟩ := ob hf
 refine awp_cut ([(0, (.lst 1 (code_1.map enc_u8))), (1, (.lst 1 (more_2.map enc_u8))), (26, (.bool s26_6))], []) ?_ ?_
 ·refine w_reg ?_
  rcases oi hb1 with ⟨c9, hb1⟩ | ⟨c9, hb1⟩
  ·refine s_mov (.lst 1 (code_1.map enc_u8)) rfl <| s_dof (o_len (enc := enc_u8) rfl) fun hl8 => s_q (.bool (decide ((code_1.length : Int) > 1048576))) rfl rfl rfl <| s_mov (.bool (decide ((code_1.length : Int) > 1048576))) rfl <| s_lit (s := 22) (b := true) rfl c9 <| s_off rfl rfl <| s_off rfl rfl <| s_off rfl rfl <| s_q (.bool true) rfl trivial rfl <| w_done <| ?_; obtain rfl := os hb1; exact ⟨[], [], _, _, rfl, rfl, ⟨.refl _, ⟨.refl _, ⟨.refl _, trivial⟩⟩⟩, (.refl _)⟩
  ·refine s_mov (.lst 1 (code_1.map enc_u8)) rfl <| s_dof (o_len (enc := enc_u8) rfl) fun hl8 => s_q (.bool (decide ((code_1.length : Int) > 1048576))) rfl rfl rfl <| s_mov (.bool (decide ((code_1.length : Int) > 1048576))) rfl <| s_lit (s := 22) (b := false) rfl (bf c9) <| s_on rfl <| s_mov (.lst 1 (more_2.map enc_u8)) rfl <| s_on rfl <| s_dof (o_len (enc := enc_u8) rfl) fun hl10 => s_on rfl <| s_q (.bool (decide ((more_2.length : Int) > 1048576))) rfl rfl rfl <| s_q (.bool (decide ((more_2.length : Int) > 1048576))) rfl trivial rfl <| w_done <| ?_; obtain rfl := os hb1; exact ⟨[], [], _, _, rfl, rfl, ⟨.refl _, ⟨.refl _, ⟨.refl _, trivial⟩⟩⟩, (.refl _)⟩
 ·rcases oi hf with ⟨c11, hf⟩ | ⟨c11, hf⟩
  ·refine w_condt rfl c11 <| awp_seq <| w_reg <| s_mov (.bool true) rfl <| w_done <| k_seq <| w_ret <| ?_; obtain rfl := os hf; exact r_flat ⟨trivial, trivial⟩ rfl (.refl _)
  ·refine w_condf rfl (bf c11) <| w_skip <| k_seq <| awp_seq <| w_reg <| ?_
   obtain ⟨r_12, er13, hf⟩ := ob hf
   refine s_mov (.lst 1 (code_1.map enc_u8)) rfl <| s_do (o_callc rfl (w_spec_LocksOf _ _ er13) rfl (.refl _) rfl) <| s_mov (.lst 2 (r_12.map encGLock)) rfl <| w_done <| k_seq <| awp_seq <| w_reg <| s_mov (.int .i64 0) rfl <| w_done <| k_seq <| awp_seq <| awp_seq <| w_reg <| s_mov (.int .i64 0) rfl <| w_done <| k_seq <| ?_
   obtain ⟨p53, hb1, hf⟩ := ob hf
   refine awp_cutx (X := {q : Int // p53 = .go q}) (fun q => ([(1, (.lst 1 (more_2.map enc_u8))), (5, (.lst 2 (r_12.map encGLock))), (6, (.int .i64 q.1))], [])) ?_ ?_
   ·refine awp_loop (X := {q : (Nat × Int × Int) // laws_FnOneOwner_L1 r_12 q.1 q.2.1 q.2.2 = some p53}) (fun q => ([(1, (.lst 1 (more_2.map enc_u8))), (5, (.lst 2 (r_12.map encGLock))), (6, (.int .i64 q.1.2.1)), (7, (.int .i64 q.1.2.2))], [])) (fun q => q.1.1) ⟨(FUEL, 0, 0), hb1⟩ ⟨[], [], _, _, rfl, rfl, ⟨.refl _, ⟨.refl _, ⟨.refl _, ⟨.refl _, trivial⟩⟩⟩⟩, (.refl _)⟩ ?_
    rintro ⟨⟨k, n_45, i_46⟩, hc1⟩
    have hc1 : laws_FnOneOwner_L1 r_12 k n_45 i_46 = some p53 := hc1
    refine (show awp Try.prog false 0 _ (ofL [(1, (.lst 1 (more_2.map enc_u8))), (5, (.lst 2 (r_12.map encGLock))), (6, (.int .i64 n_45)), (7, (.int .i64 i_46))]) [] _ from ?_)
    rcases k with _ | k
    ·rw [laws_FnOneOwner_L1.eq_1] at hc1
     cases hc1
    ·rw [laws_FnOneOwner_L1.eq_2] at hc1; refine awp_seq <| awp_seq <| w_reg <| s_mov (.int .i64 i_46) rfl <| s_q (.bool (decide (i_46 < 3))) rfl rfl rfl <| w_done <| k_seq <| ?_
     rcases oi hc1 with ⟨c54, hc1⟩ | ⟨c54, hc1⟩
     ·refine w_condt rfl c54 <| w_skip <| k_seq <| awp_seq <| w_blk <| awp_seq <| w_reg <| ?_
      obtain ⟨r_55, er56, hc1⟩ := ob hc1
      refine s_mov (.lst 2 (r_12.map encGLock)) rfl <| s_mov (.int .i64 i_46) rfl <| s_do (o_callc rfl (w_impl_OwnedBy _ _ _ er56) rfl (.refl _) rfl) <| s_mov (.tup [(.lst 1 (r_55.1.map AV.str)), (.int .i64 r_55.2)]) rfl <| s_q (.lst 1 (r_55.1.map AV.str)) rfl nle rfl <| s_q (.int .i64 r_55.2) rfl nle rfl <| s_mov (.lst 1 (r_55.1.map AV.str)) rfl <| s_mov (.int .i64 r_55.2) rfl <| w_done <| k_seq <| awp_seq <| awp_seq <| w_reg <| s_mov (.int .i64 r_55.2) rfl <| s_q (.bool (r_55.2 != 0)) rfl rfl rfl <| w_done <| k_seq <| ?_
      rcases oi hc1 with ⟨c57, hc1⟩ | ⟨c57, hc1⟩
      ·refine w_condt rfl c57 <| awp_seq <| w_reg <| s_mov (.bool false) rfl <| w_done <| k_seq <| w_ret <| ?_; obtain rfl := os hc1; obtain rfl := os hf; exact r_flat ⟨trivial, trivial⟩ rfl (.refl _)
      ·refine w_condf rfl (bf c57) <| w_skip <| k_seq <| w_reg <| s_mov (.int .i64 n_45) rfl <| s_mov (.lst 1 (r_55.1.map AV.str)) rfl <| s_dof (o_len (enc := AV.str) rfl) fun hl58 => s_q (.int .i64 (w64 (n_45 + (r_55.1.length : Int)))) rfl rfl rfl <| s_mov (.int .i64 (w64 (n_45 + (r_55.1.length : Int)))) rfl <| w_done <| k_blk <| k_seq <| w_reg <| s_mov (.int .i64 i_46) rfl <| s_q (.int .i64 (w64 (i_46 + 1))) rfl rfl rfl <| s_mov (.int .i64 (w64 (i_46 + 1))) rfl <| w_done <| ?_; exact k_loopn ⟨(k, w64 (n_45 + (r_55.1.length : Int)), w64 (i_46 + 1)), hc1⟩ (Nat.lt_succ_self _) ⟨[], [], _, _, rfl, rfl, ⟨.refl _, ⟨.refl _, ⟨.refl _, ⟨.refl _, trivial⟩⟩⟩⟩, (.refl _)⟩
     ·refine w_condf rfl (bf c54) <| w_exit <| k_seqx <| k_loopx <| k_blkx <| ?_; obtain rfl := os hc1; exact k_cutn ⟨_, rfl⟩ ⟨[], [], _, _, rfl, rfl, ⟨.refl _, ⟨.refl _, ⟨.refl _, trivial⟩⟩⟩, (.refl _)⟩
   ·rintro ⟨n_52, rfl⟩
    refine awp_seq <| w_reg <| ?_
    obtain ⟨r_59, er60, hf⟩ := ob hf
    refine s_mov (.lst 1 (more_2.map enc_u8)) rfl <| s_do (o_call (w_laws_at _ _ _ _ er60) rfl (.refl _) rfl) <| s_mov (.int .i64 r_59) rfl <| w_done <| k_seq <| awp_seq <| w_reg <| ?_
    obtain ⟨r_61, er62, hf⟩ := ob hf
    refine s_mov (.lst 2 (r_12.map encGLock)) rfl <| s_mov (.int .i64 r_59) rfl <| s_do (o_callc rfl (w_impl_LeaveAll _ _ _ er62) rfl (.refl _) rfl) <| s_mov (.tup [(.lst 2 (r_61.1.map encGLock)), (.lst 3 (r_61.2.1.map encGTold)), (.int .i64 r_61.2.2)]) rfl <| s_q (.lst 2 (r_61.1.map encGLock)) rfl nle rfl <| s_q (.lst 3 (r_61.2.1.map encGTold)) rfl nle rfl <| s_q (.int .i64 r_61.2.2) rfl nle rfl <| s_mov (.lst 2 (r_61.1.map encGLock)) rfl <| s_mov (.lst 3 (r_61.2.1.map encGTold)) rfl <| s_mov (.int .i64 r_61.2.2) rfl <| w_done <| k_seq <| awp_seq <| w_reg <| ?_
    obtain ⟨r_63, er64, hf⟩ := ob hf
    refine s_mov (.lst 2 (r_12.map encGLock)) rfl <| s_mov (.int .i64 r_59) rfl <| s_do (o_callc rfl (w_spec_LeaveAll _ _ _ er64) rfl (.refl _) rfl) <| s_mov (.tup [(.lst 2 (r_63.1.map encGLock)), (.lst 3 (r_63.2.1.map encGTold)), (.int .i64 r_63.2.2)]) rfl <| s_q (.lst 2 (r_63.1.map encGLock)) rfl nle rfl <| s_q (.lst 3 (r_63.2.1.map encGTold)) rfl nle rfl <| s_q (.int .i64 r_63.2.2) rfl nle rfl <| s_mov (.lst 2 (r_63.1.map encGLock)) rfl <| s_mov (.lst 3 (r_63.2.1.map encGTold)) rfl <| s_mov (.int .i64 r_63.2.2) rfl <| w_done <| k_seq <| awp_seq <| w_reg <| ?_
    obtain ⟨r_65, er66, hf⟩ := ob hf
    refine s_mov (.lst 2 (r_61.1.map encGLock)) rfl <| s_mov (.int .i64 r_59) rfl <| s_do (o_callc rfl (w_impl_OwnedBy _ _ _ er66) rfl (.refl _) rfl) <| s_mov (.tup [(.lst 1 (r_65.1.map AV.str)), (.int .i64 r_65.2)]) rfl <| s_q (.lst 1 (r_65.1.map AV.str)) rfl nle rfl <| s_q (.int .i64 r_65.2) rfl nle rfl <| s_mov (.lst 1 (r_65.1.map AV.str)) rfl <| s_mov (.int .i64 r_65.2) rfl <| w_done <| k_seq <| awp_seq <| w_reg <| s_mov (.int .i64 n_52) rfl <| s_mov (.lst 2 (r_12.map encGLock)) rfl <| s_dof (o_len (enc := encGLock) rfl) fun hl67 => s_q (.bool (n_52 == (r_12.length : Int))) rfl rfl rfl <| s_mov (.bool (n_52 == (r_12.length : Int))) rfl <| ?_; refine s_g (v := (n_52 == (r_12.length : Int))) (.int .i64 r_61.2.2) rfl (fun hv => by (try simp only [gs_on hv]); exact ⟨rfl, trivial, rfl⟩) ?_
    refine s_g (v := (n_52 == (r_12.length : Int))) (.bool (r_61.2.2 == 0)) rfl (fun hv => by (try simp only [gs_on hv]); exact ⟨rfl, rfl, rfl⟩) ?_; refine s_pick (x := (r_61.2.2 == 0)) (y := false) rfl (fun hv => by (try simp only [gs_on hv]); rfl) (fun hv => by (try simp only [gs_on hv]); rfl) ?_; refine s_mov (.bool (bif (n_52 == (r_12.length : Int)) then (r_61.2.2 == 0) else false)) rfl ?_
    rcases oi hf with ⟨c68, hf⟩ | ⟨c68, hf⟩
    ·refine s_lit (s := 75) (b := true) rfl c68 <| s_on rfl <| s_mov (.lst 2 (r_61.1.map encGLock)) rfl <| s_on rfl <| s_mov (.lst 2 (r_63.1.map encGLock)) rfl <| s_on rfl <| ?_
     obtain ⟨r_69, er70, hf⟩ := ob hf
     refine s_do (o_call (w_laws_sameLocks _ _ _ er70) rfl (.refl _) rfl) <| s_q (.bool r_69) rfl trivial rfl <| s_mov (.bool r_69) rfl <| ?_
     rcases oi hf with ⟨c71, hf⟩ | ⟨c71, hf⟩
     ·refine s_lit (s := 80) (b := true) rfl c71 <| s_on rfl <| s_mov (.lst 3 (r_61.2.1.map encGTold)) rfl <| s_on rfl <| s_mov (.lst 3 (r_63.2.1.map encGTold)) rfl <| s_on rfl <| ?_
      obtain ⟨r_72, er73, hf⟩ := ob hf
      refine s_do (o_call (w_laws_sameTold _ _ _ er73) rfl (.refl _) rfl) <| s_q (.bool r_72) rfl trivial rfl <| s_mov (.bool r_72) rfl <| ?_; refine s_g (v := r_72) (.int .i64 r_65.2) rfl (fun hv => by (try simp only [gs_on hv]); exact ⟨rfl, trivial, rfl⟩) ?_; refine s_g (v := r_72) (.bool (r_65.2 == 0)) rfl (fun hv => by (try simp only [gs_on hv]); exact ⟨rfl, rfl, rfl⟩) ?_; refine s_pick (x := (r_65.2 == 0)) (y := false) rfl (fun hv => by (try simp only [gs_on hv]); rfl) (fun hv => by (try simp only [gs_on hv]); rfl) ?_; refine s_mov (.bool (bif r_72 then (r_65.2 == 0) else false)) rfl ?_; refine s_g (v := (bif r_72 then (r_65.2 == 0) else false)) (.lst 1 (r_65.1.map AV.str)) rfl (fun hv => by (try simp only [gs_on hv]); exact ⟨rfl, trivial, rfl⟩) ?_
      refine s_g (v := (bif r_72 then (r_65.2 == 0) else false)) (.int .i64 (r_65.1.length : Int)) rfl (fun hv => by (try simp only [gs_on hv]); exact ⟨rfl, trivial, lenV _ _⟩) ?_; refine s_g (v := (bif r_72 then (r_65.2 == 0) else false)) (.bool ((r_65.1.length : Int) == 0)) rfl (fun hv => by (try simp only [gs_on hv]); exact ⟨rfl, rfl, rfl⟩) ?_; refine s_pick (x := ((r_65.1.length : Int) == 0)) (y := false) rfl (fun hv => by (try simp only [gs_on hv]); rfl) (fun hv => by (try simp only [gs_on hv]); rfl) ?_; refine s_mov (.bool (bif (bif r_72 then (r_65.2 == 0) else false) then ((r_65.1.length : Int) == 0) else false)) rfl ?_
      rcases oi hf with ⟨c75, hf⟩ | ⟨c75, hf⟩
      ·refine s_lit (s := 94) (b := true) rfl c75 <| s_on rfl <| s_mov (.lst 2 (r_61.1.map encGLock)) rfl <| s_on rfl <| ?_
       obtain ⟨r_76, er77, hf⟩ := ob hf
       refine s_do (o_call (w_impl_LocksOK _ _ er77) rfl (.refl _) rfl) <| s_q (.bool r_76) rfl trivial rfl <| s_mov (.bool r_76) rfl <| w_done <| k_seq <| w_ret <| ?_; obtain rfl := os hf; exact r_flat ⟨trivial, trivial⟩ rfl (.refl _)
      ·refine s_lit (s := 94) (b := false) rfl (bf c75) <| s_off rfl rfl <| s_off rfl rfl <| s_q (.bool false) rfl trivial rfl <| s_mov (.bool false) rfl <| w_done <| k_seq <| w_ret <| ?_; obtain rfl := os hf; exact r_flat ⟨trivial, trivial⟩ rfl (.refl _)
     ·refine s_lit (s := 80) (b := false) rfl (bf c71) <| s_off rfl rfl <| s_off rfl rfl <| s_off rfl rfl <| s_q (.bool false) rfl trivial rfl <| s_mov (.bool false) rfl <| s_off rfl rfl <| s_off rfl rfl <| s_q (.bool false) rfl trivial rfl <| s_mov (.bool false) rfl <| s_off rfl rfl <| s_off rfl rfl <| s_off rfl rfl <| s_q (.bool false) rfl trivial rfl <| s_mov (.bool false) rfl <| s_off rfl rfl <| s_off rfl rfl <| s_q (.bool false) rfl trivial rfl <| s_mov (.bool false) rfl <| w_done <| k_seq <| w_ret <| ?_; obtain rfl := os hf; exact r_flat ⟨trivial, trivial⟩ rfl (.refl _)
    ·refine s_lit (s := 75) (b := false) rfl (bf c68) <| s_off rfl rfl <| s_off rfl rfl <| s_off rfl rfl <| s_q (.bool false) rfl trivial rfl <| s_mov (.bool false) rfl <| s_off rfl rfl <| s_off rfl rfl <| s_off rfl rfl <| s_q (.bool false) rfl trivial rfl <| s_mov (.bool false) rfl <| s_off rfl rfl <| s_off rfl rfl <| s_q (.bool false) rfl trivial rfl <| s_mov (.bool false) rfl <| s_off rfl rfl <| s_off rfl rfl <| s_off rfl rfl <| s_q (.bool false) rfl trivial rfl <| s_mov (.bool false) rfl <| s_off rfl rfl <| s_off rfl rfl <| s_q (.bool false) rfl trivial rfl <| s_mov (.bool false) rfl <| w_done <| k_seq <| w_ret <| ?_; obtain rfl := os hf; exact r_flat ⟨trivial, trivial⟩ rfl (.refl _)

end Go.R
