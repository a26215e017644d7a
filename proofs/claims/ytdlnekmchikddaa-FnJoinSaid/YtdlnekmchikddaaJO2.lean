/- Walks. -/
import Derived.Test.YtdlnekmchikddaaJO1
set_option linter.all false
namespace Go.R
open Go Go.Proofs
set_option linter.unusedVariables false
set_option linter.unusedSimpArgs false
set_option maxHeartbeats 8000000
/- slices.Compact[[]impl.Atom,impl.Atom] -/
def c103_h0:ACode :=
 (.seq (.reg (tm 2 (.c .nil) .done))
 (.seq (.seq (.reg (tm 6 (.t 0) (tq 7 (.len (.t 6)) (tq 8 (.bin .lss (.t 7) (.c (.int .i64 2))) .done))))
 (.cond (.t 8) (.seq (.reg (tm 9 (.t 0) (tm 2 (.t 9) .done)))
 .ret)
 .skip))
 (.seq (.seq (.reg (tm 3 (.c (.int .i64 1)) .done))
 (.block 0 (.loop (.seq (.seq (.reg (tm 10 (.t 3) (tm 11 (.t 0) (tq 12 (.len (.t 11)) (tq 13 (.bin .lss (.t 10) (.t 12)) .done)))))
 (.cond (.t 13) .skip
 (.exit 0)))
 (.seq (.block 1 (.seq (.reg (tm 16 (.t 0) (tm 17 (.t 3) (tq 18 (.iaddr 3 (.t 16) (.t 17)) (tq 19 (.load 3 true (.t 18)) (tm 20 (.t 0) (tm 21 (.t 3) (tq 22 (.bin .sub (.t 21) (.c (.int .i64 1))) (tq 23 (.iaddr 3 (.t 20) (.t 22)) (tq 24 (.load 3 true (.t 23)) (tq 25 (.eqs false [0,0,2] (.t 19) (.t 24)) .done)))))))))))
 (.cond (.t 25) (.seq (.reg (tm 26 (.t 0) (tm 27 (.t 3) (tq 28 (.slice 3 (.t 26) (some (.t 27)) none) (tm 4 (.t 28) .done)))))
 (.seq (.seq (.reg (tm 5 (.c (.int .i64 1)) .done))
 (.block 2 (.loop (.seq (.seq (.reg (tm 29 (.t 5) (tm 30 (.t 4) (tq 31 (.len (.t 30)) (tq 32 (.bin .lss (.t 29) (.t 31)) .done)))))
 (.cond (.t 32) .skip
 (.exit 2)))
 (.seq (.block 3 (.seq (.reg (tm 35 (.t 4) (tm 36 (.t 5) (tq 37 (.iaddr 3 (.t 35) (.t 36)) (tq 38 (.load 3 true (.t 37)) (tm 39 (.t 4) (tm 40 (.t 5) (tq 41 (.bin .sub (.t 40) (.c (.int .i64 1))) (tq 42 (.iaddr 3 (.t 39) (.t 41)) (tq 43 (.load 3 true (.t 42)) (tq 44 (.eqs true [0,0,2] (.t 38) (.t 43)) .done)))))))))))
 (.cond (.t 44) (.seq (.reg (tm 45 (.t 0) (tm 46 (.t 3) (tm 47 (.t 4) (tm 48 (.t 5) (tq 49 (.iaddr 3 (.t 47) (.t 48)) (tq 50 (.load 3 true (.t 49)) (tq 51 (.iaddr 3 (.t 45) (.t 46)) (.q ⟨none,none,.store 3 (.t 51) (.t 50)⟩
 .done)))))))))
 (.reg (tm 52 (.t 3) (tq 53 (.bin .add (.t 52) (.c (.int .i64 1))) (tm 3 (.t 53) .done)))))
 .skip)))
 (.reg (tm 33 (.t 5) (tq 34 (.bin .add (.t 33) (.c (.int .i64 1))) (tm 5 (.t 34) .done)))))))))
 (.cut (.seq (.reg (tm 54 (.t 0) (tm 55 (.t 3) (tq 56 (.slice 3 (.t 54) (some (.t 55)) none) (.q ⟨none,none,.clr 3 (.agg [(.int .i64 0),(.int .i64 0),(.str [])]) (.t 56)⟩
 .done)))))
 (.seq (.reg (tm 57 (.t 0) (tm 58 (.t 3) (tq 59 (.slice 3 (.t 57) none (some (.t 58))) (tm 2 (.t 59) .done)))))
 .ret)))))
 .skip)))
 (.reg (tm 14 (.t 3) (tq 15 (.bin .add (.t 14) (.c (.int .i64 1))) (tm 3 (.t 15) .done)))))))))
 (.cut (.seq (.reg (tm 60 (.t 0) (tm 2 (.t 60) .done)))
 .ret)))))
theorem fc103_h0:fcomp Try.prog Try.f103 = some (c103_h0.erase,[.mov (.t 2)],61):=by kernel_rfl
def slices_Compact_impl_Atom_impl_Atom_h0_L2 (s_1:(List GAtom)) (k_235:Nat):Nat → Int → Int → (List GAtom) → Option (Int × (List GAtom))
  | 0,_,_,_ => none
  | k + 1,k_439,k2_440,s_441 =>
    if (decide (k2_440 < (((s_1.length - k_235):Nat):Int))) then
    if (0:Int) ≤ k2_440 ∧ k2_440 < (((s_1.length - k_235):Nat):Int) then
    (s_441[(k_235 + k2_440.toNat)]?).bind fun x_461 =>
    if (0:Int) ≤ w64 (k2_440 - 1) ∧ w64 (k2_440 - 1) < (((s_1.length - k_235):Nat):Int) then
    (s_441[(k_235 + (w64 (k2_440 - 1)).toNat)]?).bind fun x_464 =>
    if (!(x_461.Kind == x_464.Kind && (x_461.N == x_464.N && (x_461.T == x_464.T && true)))) then
    if (0:Int) ≤ k2_440 ∧ k2_440 < (((s_1.length - k_235):Nat):Int) then
    if (0:Int) ≤ k_439 ∧ k_439 < (s_441.length:Int) then
    (s_441[(0 + k_439.toNat)]?).bind fun x_469 =>
    slices_Compact_impl_Atom_impl_Atom_h0_L2 s_1 k_235 k (w64 (k_439 + 1)) (w64 (k2_440 + 1)) (s_441.set (0 + k_439.toNat) x_461)
    else none
    else none
    else
    slices_Compact_impl_Atom_impl_Atom_h0_L2 s_1 k_235 k k_439 (w64 (k2_440 + 1)) s_441
    else none
    else none
    else
    some (k_439,s_441)

def slices_Compact_impl_Atom_impl_Atom_h0_L1 (s_1:(List GAtom)):List GAtom → Nat → Option (Fl (List GAtom) Unit)
  | [],k_235 =>
    some (.go ())
  | x_359 :: xs,k_235 =>
    if k_235 < s_1.length then
    if (0:Int) ≤ w64 ((k_235:Int) - 1) ∧ w64 ((k_235:Int) - 1) < (s_1.length:Int) then
    (s_1[(0 + (w64 ((k_235:Int) - 1)).toNat)]?).bind fun x_364 =>
    if (x_359.Kind == x_364.Kind && (x_359.N == x_364.N && (x_359.T == x_364.T && true))) then
    if (0:Int) ≤ (k_235:Int) ∧ (k_235:Int) ≤ (s_1.length:Int) then
    (slices_Compact_impl_Atom_impl_Atom_h0_L2 s_1 k_235 FUEL (k_235:Int) 1 s_1).bind fun p457 =>
    (match p457 with
    | (k_455,s_456) =>
    if (0:Int) ≤ k_455 ∧ k_455 ≤ (s_456.length:Int) then
    if (0:Int) ≤ k_455 ∧ k_455 ≤ (s_456.length:Int) then
    some (.ret ((s_456.take k_455.toNat ++ List.replicate (s_456.length - k_455.toNat) (⟨0,0,[]⟩:GAtom) ++ s_456.drop (k_455.toNat + (s_456.length - k_455.toNat))).take k_455.toNat))
    else none
    else none)
    else none
    else
    slices_Compact_impl_Atom_impl_Atom_h0_L1 s_1 xs (k_235 + 1)
    else none
    else none

def slices_Compact_impl_Atom_impl_Atom_h0 (s_1:(List GAtom)):Option (List GAtom) :=
    if (decide ((s_1.length:Int) < 2)) then
    some s_1
    else
    (slices_Compact_impl_Atom_impl_Atom_h0_L1 s_1 (s_1.drop 1) 1).bind fun q => (match q with
    | .ret r => some r
    | .go _ =>
    some s_1)
theorem w_slices_Compact_impl_Atom_impl_Atom_h0 (s_1:(List GAtom)) (r:(List GAtom)) (hf:slices_Compact_impl_Atom_impl_Atom_h0 s_1 = some r):CallHeap Try.prog true 103 [(.own 0 0 s_1.length)] [.row 3 (s_1.map encGAtom)] (.own 1 0 r.length) [.dead,.row 3 (r.map encGAtom)]:=by
 refine CallHeap.of_awp mixed Try.func103 fc103_h0 nle ?_;rw [argT_eq];unfold slices_Compact_impl_Atom_impl_Atom_h0 at hf;unfold c103_h0;refine (show awp Try.prog true 1 _ (ofL [(0,(.own 0 0 s_1.length))]) [.row 3 (s_1.map encGAtom)] _ from ?_);refine sr<|s_mov .nil rfl<|dk<|awp_seq<|sr<|s_mov (.own 0 0 s_1.length) rfl<|s_dof (o_lenown rfl rfl) fun hl2 => s_q (.bool (decide ((s_1.length:Int) < 2))) rfl rfl rfl<|dk<|?_
 rcases oi hf with ⟨c3,hf⟩ | ⟨c3,hf⟩
 ·refine w_condt rfl c3<|sr<|s_mov (.own 0 0 s_1.length) rfl<|s_mov (.own 0 0 s_1.length) rfl<|dk<|w_ret<|?_;obtain rfl:=os hf;exact r_heap [.mv 0] [0,1] rfl ⟨trivial,trivial⟩ rfl (.refl _) (.refl _)
 ·refine w_condf rfl (bf c3)<|w_skip<|k_seq<|awp_seq<|sr<|s_mov (.int .i64 1) rfl<|dk<|?_
  obtain ⟨p352,hb1,hf⟩:=ob hf
  refine awp_cutx (X:={q:Unit // p352 = .go q}) (fun q => ([(0,(.own 0 0 s_1.length))],[.row 3 (s_1.map encGAtom)])) ?_ ?_
  ·refine awp_loop (X:={q:Nat // slices_Compact_impl_Atom_impl_Atom_h0_L1 s_1 (s_1.drop q) q = some p352}) (fun q => ([(0,(.own 0 0 s_1.length)),(3,(.int .i64 (q.1:Int)))],[.row 3 (s_1.map encGAtom)])) (fun q => s_1.length - q.1) ⟨1,hb1⟩ ⟨[],[0],_,_,rfl,rfl,⟨.refl _,⟨.refl _,trivial⟩⟩,(.refl _)⟩ ?_
   rintro ⟨k_235,hc1⟩
   have hc1:slices_Compact_impl_Atom_impl_Atom_h0_L1 s_1 (s_1.drop k_235) k_235 = some p352:=hc1
   refine (show awp Try.prog true 1 _ (ofL [(0,(.own 0 0 s_1.length)),(3,(.int .i64 (k_235:Int)))]) [.row 3 (s_1.map encGAtom)] _ from ?_)
   rcases dropc s_1 k_235 with ⟨hie355,hd358⟩ | ⟨hlt353,x_359,hx354,hd358⟩
   ·rw [hd358,slices_Compact_impl_Atom_impl_Atom_h0_L1.eq_1] at hc1
    have hq357:=dlf hie355
    refine awp_seq<|sr<|s_mov (.int .i64 (k_235:Int)) rfl<|s_mov (.own 0 0 s_1.length) rfl<|s_dof (o_lenown rfl rfl) fun hl360 => s_q (.bool (decide ((k_235:Int) < (s_1.length:Int)))) rfl rfl rfl<|dk<|w_condf rfl hq357<|w_exit<|k_seqx<|k_loopx<|k_blkx<|?_;obtain rfl:=os hc1;exact k_cutn ⟨_,rfl⟩ ⟨[],[0],_,_,rfl,rfl,⟨.refl _,trivial⟩,(.refl _)⟩
   ·rw [hd358,slices_Compact_impl_Atom_impl_Atom_h0_L1.eq_2] at hc1
    have hq357:=dlt hlt353
    refine awp_seq<|sr<|s_mov (.int .i64 (k_235:Int)) rfl<|s_mov (.own 0 0 s_1.length) rfl<|s_dof (o_lenown rfl rfl) fun hl361 => s_q (.bool (decide ((k_235:Int) < (s_1.length:Int)))) rfl rfl rfl<|dk<|w_condt rfl hq357<|w_skip<|k_seq<|awp_seq<|w_blk<|sr<|?_
    obtain ⟨g362,hc1⟩:=og hc1
    obtain ⟨g363,hc1⟩:=og hc1
    obtain ⟨x_364,ex365,hc1⟩:=ob hc1
    refine s_mov (.own 0 0 s_1.length) rfl<|s_mov (.int .i64 (k_235:Int)) rfl<|s_do (o_iaddrownn rfl rfl g362 rfl rfl)<|s_do (o_loadrow (enc:=encGAtom) (v:=(encGAtom x_359)) rfl rfl hx354 nle rfl)<|s_mov (.own 0 0 s_1.length) rfl<|s_mov (.int .i64 (k_235:Int)) rfl<|s_q (.int .i64 (w64 ((k_235:Int) - 1))) rfl rfl rfl<|s_do (o_iaddrown rfl rfl g363.1 g363.2 rfl rfl)<|s_do (o_loadrow (enc:=encGAtom) (v:=(encGAtom x_364)) rfl rfl ex365 nle rfl)<|s_q (.bool (x_359.Kind == x_364.Kind && (x_359.N == x_364.N && (x_359.T == x_364.T && true)))) rfl ⟨⟨rfl,rfl⟩,⟨⟨rfl,rfl⟩,⟨rfl,trivial⟩⟩⟩ rfl<|dk<|?_
    rcases oi hc1 with ⟨c366,hc1⟩ | ⟨c366,hc1⟩
    ·refine w_condt rfl c366<|sr<|?_
     obtain ⟨g367,hc1⟩:=og hc1
     refine s_mov (.own 0 0 s_1.length) rfl<|s_mov (.int .i64 (k_235:Int)) rfl<|s_do (o_sldo rfl rfl rfl g367.1 g367.2)<|s_mov (.own 0 k_235 (s_1.length - k_235)) rfl<|dk<|awp_seq<|sr<|s_mov (.int .i64 1) rfl<|dk<|?_
     obtain ⟨p457,hb2,hc1⟩:=ob hc1
     refine awp_cut ([(0,(.own 0 0 p457.2.length)),(3,(.int .i64 p457.1))],[.row 3 (p457.2.map encGAtom)]) ?_ ?_
     ·refine awp_loop (X:={q:(Nat × Int × Int × (List GAtom)) // slices_Compact_impl_Atom_impl_Atom_h0_L2 s_1 k_235 q.1 q.2.1 q.2.2.1 q.2.2.2 = some p457}) (fun q => ([(0,(.own 0 0 q.1.2.2.2.length)),(3,(.int .i64 q.1.2.1)),(4,(.own 0 k_235 (s_1.length - k_235))),(5,(.int .i64 q.1.2.2.1))],[.row 3 (q.1.2.2.2.map encGAtom)])) (fun q => q.1.1) ⟨(FUEL,(k_235:Int),1,s_1),hb2⟩ ⟨[],[0],_,_,rfl,rfl,⟨.refl _,⟨.refl _,⟨.refl _,⟨.refl _,trivial⟩⟩⟩⟩,(.refl _)⟩ ?_
      rintro ⟨⟨k,k_439,k2_440,s_441⟩,hc2⟩
      have hc2:slices_Compact_impl_Atom_impl_Atom_h0_L2 s_1 k_235 k k_439 k2_440 s_441 = some p457:=hc2
      refine (show awp Try.prog true 1 _ (ofL [(0,(.own 0 0 s_441.length)),(3,(.int .i64 k_439)),(4,(.own 0 k_235 (s_1.length - k_235))),(5,(.int .i64 k2_440))]) [.row 3 (s_441.map encGAtom)] _ from ?_)
      rcases k with _ | k
      ·rw [slices_Compact_impl_Atom_impl_Atom_h0_L2.eq_1] at hc2
       cases hc2
      ·rw [slices_Compact_impl_Atom_impl_Atom_h0_L2.eq_2] at hc2;refine awp_seq<|sr<|s_mov (.int .i64 k2_440) rfl<|s_mov (.own 0 k_235 (s_1.length - k_235)) rfl<|s_dof (o_lenown rfl rfl) fun hl458 => s_q (.bool (decide (k2_440 < (((s_1.length - k_235):Nat):Int)))) rfl rfl rfl<|dk<|?_
       rcases oi hc2 with ⟨c459,hc2⟩ | ⟨c459,hc2⟩
       ·refine w_condt rfl c459<|w_skip<|k_seq<|awp_seq<|w_blk<|sr<|?_
        obtain ⟨g460,hc2⟩:=og hc2
        obtain ⟨x_461,ex462,hc2⟩:=ob hc2
        obtain ⟨g463,hc2⟩:=og hc2
        obtain ⟨x_464,ex465,hc2⟩:=ob hc2
        refine s_mov (.own 0 k_235 (s_1.length - k_235)) rfl<|s_mov (.int .i64 k2_440) rfl<|s_do (o_iaddrown rfl rfl g460.1 g460.2 rfl rfl)<|s_do (o_loadrow (enc:=encGAtom) (v:=(encGAtom x_461)) rfl rfl ex462 nle rfl)<|s_mov (.own 0 k_235 (s_1.length - k_235)) rfl<|s_mov (.int .i64 k2_440) rfl<|s_q (.int .i64 (w64 (k2_440 - 1))) rfl rfl rfl<|s_do (o_iaddrown rfl rfl g463.1 g463.2 rfl rfl)<|s_do (o_loadrow (enc:=encGAtom) (v:=(encGAtom x_464)) rfl rfl ex465 nle rfl)<|s_q (.bool (!(x_461.Kind == x_464.Kind && (x_461.N == x_464.N && (x_461.T == x_464.T && true))))) rfl ⟨⟨rfl,rfl⟩,⟨⟨rfl,rfl⟩,⟨rfl,trivial⟩⟩⟩ rfl<|dk<|?_
        rcases oi hc2 with ⟨c466,hc2⟩ | ⟨c466,hc2⟩
        ·refine w_condt rfl c466<|sr<|?_
         obtain ⟨g467,hc2⟩:=og hc2
         obtain ⟨g468,hc2⟩:=og hc2
         obtain ⟨x_469,ex470,hc2⟩:=ob hc2
         refine s_mov (.own 0 0 s_441.length) rfl<|s_mov (.int .i64 k_439) rfl<|s_mov (.own 0 k_235 (s_1.length - k_235)) rfl<|s_mov (.int .i64 k2_440) rfl<|s_do (o_iaddrown rfl rfl g467.1 g467.2 rfl rfl)<|s_do (o_loadrow (enc:=encGAtom) (v:=(encGAtom x_461)) rfl rfl ex462 nle rfl)<|s_do (o_iaddrown rfl rfl g468.1 g468.2 rfl rfl)<|?_;refine s_do0 (o_storerow (v':=(encGAtom x_461)) (e':=x_461) rfl rfl ex470 rfl rfl rfl (by decide) (fun _ => by decide) ⟨rfl,nle⟩ (.refl _) rfl) ?_;refine dk<|w_reg<|s_mov (.int .i64 k_439) rfl<|s_q (.int .i64 (w64 (k_439 + 1))) rfl rfl rfl<|s_mov (.int .i64 (w64 (k_439 + 1))) rfl<|w_done<|k_blk<|k_seq<|w_reg<|s_mov (.int .i64 k2_440) rfl<|s_q (.int .i64 (w64 (k2_440 + 1))) rfl rfl rfl<|?_
         refine s_mov (.int .i64 (w64 (k2_440 + 1))) rfl<|w_done<|?_;exact k_loopn ⟨(k,w64 (k_439 + 1),w64 (k2_440 + 1),s_441.set (0 + k_439.toNat) x_461),hc2⟩ (Nat.lt_succ_self _) ⟨[],[0],_,_,rfl,rfl,⟨.of_eq (congrArg (AV.own _ 0) (by simp)),⟨.refl _,⟨.refl _,⟨.refl _,trivial⟩⟩⟩⟩,(.refl _)⟩
        ·refine w_condf rfl (bf c466)<|w_skip<|k_blk<|k_seq<|w_reg<|s_mov (.int .i64 k2_440) rfl<|s_q (.int .i64 (w64 (k2_440 + 1))) rfl rfl rfl<|s_mov (.int .i64 (w64 (k2_440 + 1))) rfl<|w_done<|?_;exact k_loopn ⟨(k,k_439,w64 (k2_440 + 1),s_441),hc2⟩ (Nat.lt_succ_self _) ⟨[],[0],_,_,rfl,rfl,⟨.refl _,⟨.refl _,⟨.refl _,⟨.refl _,trivial⟩⟩⟩⟩,(.refl _)⟩
       ·refine w_condf rfl (bf c459)<|w_exit<|k_seqx<|k_loopx<|k_blkx<|?_;obtain rfl:=os hc2;exact ⟨[],[0],_,_,rfl,rfl,⟨.refl _,⟨.refl _,trivial⟩⟩,(.refl _)⟩
     ·obtain ⟨k_455,s_456⟩:=p457
      refine sr<|?_
      obtain ⟨g471,hc1⟩:=og hc1
      refine s_mov (.own 0 0 s_456.length) rfl<|s_mov (.int .i64 k_455) rfl<|s_do (o_sldo rfl rfl rfl g471.1 g471.2)<|s_do0 (o_clr (enc:=encGAtom) (y:=(⟨0,0,[]⟩:GAtom)) rfl rfl (.refl _) rfl)<|dk<|sr<|?_
      obtain ⟨g472,hc1⟩:=og hc1
      refine s_mov (.own 0 0 s_456.length) rfl<|s_mov (.int .i64 k_455) rfl<|s_do (o_slto rfl rfl rfl g472.1 g472.2)<|s_mov (.own 0 0 k_455.toNat) rfl<|dk<|w_ret<|?_;obtain rfl:=os hc1;obtain rfl:=os hf;exact r_heap [.trim 2] [0,1] rfl ⟨trivial,trivial⟩ rfl ((.cons (.refl _) (.cons ((LeO.tk (enc:=encGAtom) (s_456.take k_455.toNat ++ List.replicate (s_456.length - k_455.toNat) (⟨0,0,[]⟩:GAtom) ++ s_456.drop (k_455.toNat + (s_456.length - k_455.toNat))) _)) .nil))) (.of_eq (congrArg (AV.own _ 0) (by simp)))
    ·refine w_condf rfl (bf c366)<|w_skip<|k_blk<|k_seq<|w_reg<|s_mov (.int .i64 (k_235:Int)) rfl<|s_q (.int .i64 (w64 ((k_235:Int) + 1))) rfl rfl rfl<|s_mov (.int .i64 (w64 ((k_235:Int) + 1))) rfl<|w_done<|?_;exact k_loopn ⟨(k_235 + 1),hc1⟩ (mul hlt353) ⟨[],[0],_,_,rfl,rfl,⟨.refl _,⟨.of_eq (congrArg (AV.int _) (w64_incr hlt353 hl361)),trivial⟩⟩,(.refl _)⟩
  ·rintro ⟨_,rfl⟩
   refine sr<|s_mov (.own 0 0 s_1.length) rfl<|s_mov (.own 0 0 s_1.length) rfl<|dk<|w_ret<|?_;obtain rfl:=os hf;exact r_heap [.mv 0] [0,1] rfl ⟨trivial,trivial⟩ rfl (.refl _) (.refl _)

/- impl.setOf -/
def c66:ACode :=
 (.seq (.reg (tm 2 (.c .nil) .done))
 (.seq (.reg (tm 4 (.t 0) (tq 5 (.call 83 [(.t 4)]) (tm 3 (.t 5) .done))))
 (.seq (.reg (tm 6 (.t 3) (tq 7 (.call 102 [(.t 6),(.c (.fn 33 []))]) .done)))
 (.seq (.reg (tm 8 (.t 3) (tq 9 (.call 103 [(.t 8)]) (tm 2 (.t 9) .done))))
 .ret))))
theorem fc66:fcomp Try.prog Try.f66 = some (c66.erase,[.mov (.t 2)],10):=by kernel_rfl
def impl_setOf (list_1:(List GAtom)):Option (List GAtom) :=
    (slices_Clone_impl_Atom_impl_Atom list_1).bind fun r_2 =>
    (slices_SortFunc_impl_Atom_impl_Atom_h0 r_2).bind fun r_4 =>
    (slices_Compact_impl_Atom_impl_Atom_h0 r_4).bind fun r_7 =>
    some r_7
theorem w_impl_setOf (list_1:(List GAtom)) (r:(List GAtom)) (hf:impl_setOf list_1 = some r):CallOK Try.prog 66 .fresh [(.lst 3 (list_1.map encGAtom))] (.lst 3 (r.map encGAtom)):=by
 refine CallOK.of_awp mixed Try.func66 fc66 nle ?_;rw [argT_eq];unfold impl_setOf at hf;unfold c66;refine (show awp Try.prog true 0 _ (ofL [(0,(.lst 3 (list_1.map encGAtom)))]) [] _ from ?_);refine sr<|s_mov .nil rfl<|dk<|sr<|?_
 obtain ⟨r_2,er3,hf⟩:=ob hf
 refine s_mov (.lst 3 (list_1.map encGAtom)) rfl<|s_do (o_callf (v:=(.own 0 0 r_2.length)) (h':=[.row 3 (r_2.map encGAtom)]) (w_slices_Clone_impl_Atom_impl_Atom _ _ er3) rfl (.refl _) (by simp only [openV,openVs,List.length_map,List.nil_append,List.append_nil,List.cons_append];rfl))<|s_mov (.own 0 0 r_2.length) rfl<|dk<|sr<|?_
 obtain ⟨r_4,er5,hf⟩:=ob hf
 refine s_mov (.own 0 0 r_2.length) rfl ?_;refine s_dof (o_callhs (v:=(.tup [])) (h2:=[.row 3 (r_4.map encGAtom)]) [] [0] (fun _ => rfl) (w_slices_SortFunc_impl_Atom_impl_Atom_h0 _ _ er5) rfl (.refl _) (.refl _) rfl rfl) fun hl6 => ?_;refine dk<|sr<|?_
 obtain ⟨r_7,er8,hf⟩:=ob hf
 refine s_mov (.own 0 0 r_2.length) rfl ?_;refine s_do (o_callh (v:=(.own 1 0 r_7.length)) (h2:=[.dead,.row 3 (r_7.map encGAtom)]) [] [0] (fun _ => rfl) (w_slices_Compact_impl_Atom_impl_Atom_h0 _ _ er8) rfl (.cons (.of_eq (congrArg (AV.own _ 0) (by have h:=(hl6 0 _ _ _ _ rfl rfl);simpa using h.symm))) .nil) (.refl _) rfl rfl) ?_;refine s_mov (.own 1 0 r_7.length) rfl<|dk<|w_ret<|?_;obtain rfl:=os hf;exact r_fresh ⟨trivial,trivial⟩ rfl (by decide) (.of_eq (congrArg (AV.lst _) (tk (enc:=encGAtom) r_7)))

/- impl.datumOf -/
def c31:ACode :=
 (.seq (.reg (tm 2 (.c .nil) (tm 3 (.c (.int .i64 0)) .done)))
 (.seq (.seq (.reg (tm 7 (.t 0) (tq 8 (.len (.t 7)) (tm 9 (.c (.int .i64 0)) .done))))
 (.block 0 (.loop (.seq (.reg (tq 10 (.bin .lss (.t 9) (.t 8)) .done))
 (.seq (.cond (.t 10) .skip
 (.exit 0))
 (.seq (.block 1 (.seq (.reg (tq 11 (.iaddr 3 (.t 7) (.t 9)) (tq 12 (.load 3 true (.t 11)) (tq 5 (.box 3 (.c (.agg [(.int .i64 0),(.int .i64 0),(.str [])]))) (.q ⟨none,none,.store 3 (.t 5) (.t 12)⟩
 .done)))))
 (.block 2 (.seq (.reg (tq 14 (.load 3 true (.t 5)) (tq 15 (.call 32 [(.t 14)]) (tq 16 (.not (.t 15)) (tm 13 (.t 16) .done)))))
 (.cond (.t 13) (.seq (.reg (tm 2 (.c .nil) (tm 3 (.c (.int .i64 1)) .done)))
 .ret)
 (.seq (.reg (tq 18 (.faddr 0 (.t 5)) (tq 19 (.load 1 false (.t 18)) (tm 20 (.t 0) (tq 21 (.iaddr 3 (.t 20) (.c (.int .i64 0))) (tq 22 (.faddr 0 (.t 21)) (tq 23 (.load 1 false (.t 22)) (tq 24 (.bin .neq (.t 19) (.t 23)) (tm 17 (.t 24) .done)))))))))
 (.cond (.t 17) (.seq (.reg (tm 2 (.c .nil) (tm 3 (.c (.int .i64 9)) .done)))
 .ret)
 .skip)))))))
 (.reg (tq 25 (.bin .add (.t 9) (.c (.int .i64 1))) (tm 9 (.t 25) .done)))))))))
 (.cut (.seq (.reg (tm 26 (.t 0) (tq 27 (.call 66 [(.t 26)]) (tm 6 (.t 27) .done))))
 (.seq (.seq (.reg (tm 28 (.t 6) (tq 29 (.len (.t 28)) (tq 30 (.bin .gtr (.t 29) (.c (.int .i64 8))) .done))))
 (.cond (.t 30) (.seq (.reg (tm 2 (.c .nil) (tm 3 (.c (.int .i64 6)) .done)))
 .ret)
 .skip))
 (.seq (.reg (tm 31 (.t 6) (tm 2 (.t 31) (tm 3 (.c (.int .i64 0)) .done))))
 .ret))))))
theorem fc31:fcomp Try.prog Try.f31 = some (c31.erase,[.mov (.t 2),.mov (.t 3)],32):=by kernel_rfl
def impl_datumOf_L1 (list_1:(List GAtom)):List GAtom → Option (Fl ((List GAtom) × Int) Unit)
  | [] =>
    some (.go ())
  | x_39 :: xs =>
    (impl_AtomOK x_39).bind fun r_40 =>
    if (!r_40) then
    some (.ret ([],1))
    else
    (idx list_1 0).bind fun x_43 =>
    if (x_39.Kind != x_43.Kind) then
    some (.ret ([],9))
    else
    impl_datumOf_L1 list_1 xs 

def impl_datumOf (list_1:(List GAtom)):Option ((List GAtom) × Int) :=
    (impl_datumOf_L1 list_1 list_1 ).bind fun q => (match q with
    | .ret r => some r
    | .go _ =>
    (impl_setOf list_1).bind fun r_46 =>
    if (decide ((r_46.length:Int) > 8)) then
    some ([],6)
    else
    some (r_46,0))
theorem w_impl_datumOf (list_1:(List GAtom)) (r:((List GAtom) × Int)) (hf:impl_datumOf list_1 = some r):CallOK Try.prog 31 .fresh [(.lst 3 (list_1.map encGAtom))] (.tup [(.lst 3 (r.1.map encGAtom)),(.int .i64 r.2)]):=by
 refine CallOK.of_awp mixed Try.func31 fc31 nle ?_;rw [argT_eq];unfold impl_datumOf at hf;unfold c31;refine (show awp Try.prog true 0 _ (ofL [(0,(.lst 3 (list_1.map encGAtom)))]) [] _ from ?_);refine sr<|s_mov .nil rfl<|s_mov (.int .i64 0) rfl<|dk<|awp_seq<|sr<|s_mov (.lst 3 (list_1.map encGAtom)) rfl<|s_dof (o_len (enc:=encGAtom) rfl) fun hl2 => s_mov (.int .i64 0) rfl<|dk<|?_
 obtain ⟨p32,hb1,hf⟩:=ob hf
 refine awp_cutx (X:={q:Unit // p32 = .go q}) (fun q => ([(0,(.lst 3 (list_1.map encGAtom)))],[])) ?_ ?_
 ·refine awp_loop (X:={q:Nat // impl_datumOf_L1 list_1 (list_1.drop q)  = some p32}) (fun q => ([(0,(.lst 3 (list_1.map encGAtom))),(7,(.lst 3 (list_1.map encGAtom))),(8,(.int .i64 (list_1.length:Int))),(9,(.int .i64 (q.1:Int)))],[])) (fun q => list_1.length - q.1) ⟨0,hb1⟩ ⟨[],[],_,_,rfl,rfl,⟨.refl _,⟨.refl _,⟨.refl _,⟨.refl _,trivial⟩⟩⟩⟩,(.refl _)⟩ ?_
  rintro ⟨s9_22,hc1⟩
  have hc1:impl_datumOf_L1 list_1 (list_1.drop s9_22)  = some p32:=hc1
  refine (show awp Try.prog true 0 _ (ofL [(0,(.lst 3 (list_1.map encGAtom))),(7,(.lst 3 (list_1.map encGAtom))),(8,(.int .i64 (list_1.length:Int))),(9,(.int .i64 (s9_22:Int)))]) [] _ from ?_)
  rcases dropc list_1 s9_22 with ⟨hie35,hd38⟩ | ⟨hlt33,x_39,hx34,hd38⟩
  ·rw [hd38,impl_datumOf_L1.eq_1] at hc1
   have hq37:=dlf hie35
   refine sr<|s_q (.bool (decide ((s9_22:Int) < (list_1.length:Int)))) rfl rfl rfl<|dk<|awp_seq<|w_condf rfl hq37<|w_exit<|k_seqx<|k_loopx<|k_blkx<|?_;obtain rfl:=os hc1;exact k_cutn ⟨_,rfl⟩ ⟨[],[],_,_,rfl,rfl,⟨.refl _,trivial⟩,(.refl _)⟩
  ·rw [hd38,impl_datumOf_L1.eq_2] at hc1
   have hq37:=dlt hlt33
   refine sr<|s_q (.bool (decide ((s9_22:Int) < (list_1.length:Int)))) rfl rfl rfl<|dk<|awp_seq<|w_condt rfl hq37<|w_skip<|k_seq<|awp_seq<|w_blk<|sr<|s_do (o_iaddrn (enc:=encGAtom) rfl rfl hx34)<|s_q (encGAtom x_39) rfl nle rfl<|s_do (o_box (j:=0) (c:=(.agg [(.int .i64 0),(.int .i64 0),(.str [])])) rfl trivial rfl rfl)<|s_do0 (o_storebox (v:=(.agg [(.int .i64 x_39.Kind),(.int .i64 x_39.N),(.str x_39.T)])) (y':=(.agg [(.int .i64 x_39.Kind),(.int .i64 x_39.N),(.str x_39.T)])) rfl rfl rfl trivial ⟨rfl,nle⟩ ⟨⟨rfl,trivial⟩,⟨⟨rfl,trivial⟩,⟨⟨rfl,trivial⟩,trivial⟩⟩⟩ rfl)<|dk<|w_blk<|sr<|?_
   obtain ⟨r_40,er41,hc1⟩:=ob hc1
   refine s_q (.agg [(.int .i64 x_39.Kind),(.int .i64 x_39.N),(.str x_39.T)]) rfl nle rfl<|s_do (o_call (w_impl_AtomOK _ _ er41) rfl (.refl _) rfl)<|s_q (.bool (!r_40)) rfl trivial rfl<|s_mov (.bool (!r_40)) rfl<|dk<|?_
   rcases oi hc1 with ⟨c42,hc1⟩ | ⟨c42,hc1⟩
   ·refine w_condt rfl c42<|sr<|s_mov .nil rfl<|s_mov (.int .i64 1) rfl<|dk<|w_ret<|?_;obtain rfl:=os hc1;obtain rfl:=os hf;exact r_fresh ⟨trivial,⟨trivial,trivial⟩⟩ rfl (by decide) (.tup (.cons (.nil _) (.cons (.refl _) .nil)))
   ·refine w_condf rfl (bf c42)<|sr<|?_
    obtain ⟨x_43,ex44,hc1⟩:=ob hc1
    refine s_q (.ptr 0 0 0) rfl trivial rfl<|s_q (.int .i64 x_39.Kind) rfl nle rfl<|s_mov (.lst 3 (list_1.map encGAtom)) rfl<|s_do (o_iaddr (enc:=encGAtom) rfl rfl (idx0 ex44) (idx1 ex44))<|s_q (.iptr (encGAtom x_43) 0) rfl trivial rfl<|s_q (.int .i64 x_43.Kind) rfl nle rfl<|s_q (.bool (x_39.Kind != x_43.Kind)) rfl rfl rfl<|s_mov (.bool (x_39.Kind != x_43.Kind)) rfl<|dk<|?_
    rcases oi hc1 with ⟨c45,hc1⟩ | ⟨c45,hc1⟩
    ·refine w_condt rfl c45<|sr<|s_mov .nil rfl<|s_mov (.int .i64 9) rfl<|dk<|w_ret<|?_;obtain rfl:=os hc1;obtain rfl:=os hf;exact r_fresh ⟨trivial,⟨trivial,trivial⟩⟩ rfl (by decide) (.tup (.cons (.nil _) (.cons (.refl _) .nil)))
    ·refine w_condf rfl (bf c45)<|w_skip<|k_blk<|k_blk<|k_seq<|w_reg<|s_q (.int .i64 (w64 ((s9_22:Int) + 1))) rfl rfl rfl<|s_mov (.int .i64 (w64 ((s9_22:Int) + 1))) rfl<|w_done<|?_;exact k_loopn ⟨(s9_22 + 1),hc1⟩ (mul hlt33) ⟨[],[],_,_,rfl,rfl,⟨.refl _,⟨.refl _,⟨.refl _,⟨.of_eq (congrArg (AV.int _) (w64_incr hlt33 hl2)),trivial⟩⟩⟩⟩,(.refl _)⟩
 ·rintro ⟨_,rfl⟩
  refine sr<|?_
  obtain ⟨r_46,er47,hf⟩:=ob hf
  refine s_mov (.lst 3 (list_1.map encGAtom)) rfl<|s_do (o_callf (v:=(.own 0 0 r_46.length)) (h':=[.row 3 (r_46.map encGAtom)]) (w_impl_setOf _ _ er47) rfl (.refl _) (by simp only [openV,openVs,List.length_map,List.nil_append,List.append_nil,List.cons_append];rfl))<|s_mov (.own 0 0 r_46.length) rfl<|dk<|awp_seq<|sr<|s_mov (.own 0 0 r_46.length) rfl<|s_dof (o_lenown rfl rfl) fun hl48 => s_q (.bool (decide ((r_46.length:Int) > 8))) rfl rfl rfl<|dk<|?_
  rcases oi hf with ⟨c49,hf⟩ | ⟨c49,hf⟩
  ·refine w_condt rfl c49<|sr<|s_mov .nil rfl<|s_mov (.int .i64 6) rfl<|dk<|w_ret<|?_;obtain rfl:=os hf;exact r_fresh ⟨trivial,⟨trivial,trivial⟩⟩ rfl (by decide) (.tup (.cons (.nil _) (.cons (.refl _) .nil)))
  ·refine w_condf rfl (bf c49)<|w_skip<|k_seq<|sr<|s_mov (.own 0 0 r_46.length) rfl<|s_mov (.own 0 0 r_46.length) rfl<|s_mov (.int .i64 0) rfl<|dk<|w_ret<|?_;obtain rfl:=os hf;exact r_fresh ⟨trivial,⟨trivial,trivial⟩⟩ rfl (by decide) (.tup (.cons (.of_eq (congrArg (AV.lst _) (tk (enc:=encGAtom) r_46))) (.cons (.refl _) .nil)))

/- impl.DatumJoin -/
def c23:ACode :=
 (.seq (.reg (tm 4 (.c .nil) (tm 5 (.c (.int .i64 0)) .done)))
 (.seq (.seq (.reg (tm 7 (.t 0) (tm 8 (.t 1) (tq 9 (.call 54 [(.t 7),(.t 8)]) (tm 6 (.t 9) .done)))))
 (.seq (.reg (tm 10 (.t 6) (tq 11 (.bin .neq (.t 10) (.c (.int .i64 0))) .done)))
 (.cond (.t 11) (.seq (.reg (tm 12 (.t 6) (tm 4 (.c .nil) (tm 5 (.t 12) .done))))
 .ret)
 .skip)))
 (.seq (.reg (tm 13 (.t 0) (tm 14 (.t 1) (tq 15 (.bslice 1 [(.t 13),(.t 14)]) (tq 16 (.call 55 [(.t 15)]) (tq 17 (.call 31 [(.t 16)]) (tq 18 (.extract 0 (.t 17)) (tq 19 (.extract 1 (.t 17)) (tm 4 (.t 18) (tm 5 (.t 19) .done))))))))))
 .ret)))
theorem fc23:fcomp Try.prog Try.f23 = some (c23.erase,[.mov (.t 4),.mov (.t 5)],20):=by kernel_rfl
def impl_DatumJoin (a_1:(List GAtom)) (b_2:(List GAtom)):Option ((List GAtom) × Int) :=
    (impl_datumsCode a_1 b_2).bind fun r_3 =>
    if (r_3 != 0) then
    some ([],r_3)
    else
    (slices_Concat_impl_Atom_impl_Atom [a_1,b_2]).bind fun r_6 =>
    (impl_datumOf r_6).bind fun r_8 =>
    some (r_8.1,r_8.2)
theorem w_impl_DatumJoin (a_1:(List GAtom)) (b_2:(List GAtom)) (r:((List GAtom) × Int)) (hf:impl_DatumJoin a_1 b_2 = some r):CallOK Try.prog 23 .weak [(.lst 3 (a_1.map encGAtom)),(.lst 3 (b_2.map encGAtom))] (.tup [(.lst 3 (r.1.map encGAtom)),(.int .i64 r.2)]):=by
 refine CallOK.of_awp mixed Try.func23 fc23 nle ?_;rw [argT_eq];unfold impl_DatumJoin at hf;unfold c23;refine (show awp Try.prog false 0 _ (ofL [(0,(.lst 3 (a_1.map encGAtom))),(1,(.lst 3 (b_2.map encGAtom)))]) [] _ from ?_);refine sr<|s_mov .nil rfl<|s_mov (.int .i64 0) rfl<|dk<|awp_seq<|sr<|?_
 obtain ⟨r_3,er4,hf⟩:=ob hf
 refine s_mov (.lst 3 (a_1.map encGAtom)) rfl<|s_mov (.lst 3 (b_2.map encGAtom)) rfl<|s_do (o_call (w_impl_datumsCode _ _ _ er4) rfl (.refl _) rfl)<|s_mov (.int .i64 r_3) rfl<|dk<|sr<|s_mov (.int .i64 r_3) rfl<|s_q (.bool (r_3 != 0)) rfl rfl rfl<|dk<|?_
 rcases oi hf with ⟨c5,hf⟩ | ⟨c5,hf⟩
 ·refine w_condt rfl c5<|sr<|s_mov (.int .i64 r_3) rfl<|s_mov .nil rfl<|s_mov (.int .i64 r_3) rfl<|dk<|w_ret<|?_;obtain rfl:=os hf;exact r_weak ⟨trivial,⟨trivial,trivial⟩⟩ rfl (.tup (.cons (.nil _) (.cons (.refl _) .nil)))
 ·refine w_condf rfl (bf c5)<|w_skip<|k_seq<|sr<|?_
  obtain ⟨r_6,er7,hf⟩:=ob hf
  obtain ⟨r_8,er9,hf⟩:=ob hf
  refine s_mov (.lst 3 (a_1.map encGAtom)) rfl<|s_mov (.lst 3 (b_2.map encGAtom)) rfl<|?_;refine s_do (o_bslice (j:=0) (as':=[(.lst 3 (a_1.map encGAtom)),(.lst 3 (b_2.map encGAtom))]) rfl (fun _ => by decide) ⟨rfl,⟨rfl,trivial⟩⟩ (.refl _) rfl rfl rfl) ?_;refine s_do (o_callc rfl (w_slices_Concat_impl_Atom_impl_Atom _ _ er7) rfl (.cons (.of_eq (congrArg (AV.lst _) (by rfl))) .nil) rfl)<|s_do (o_callc rfl (w_impl_datumOf _ _ er9) rfl (.refl _) rfl)<|s_q (.lst 3 (r_8.1.map encGAtom)) rfl nle rfl<|s_q (.int .i64 r_8.2) rfl nle rfl<|s_mov (.lst 3 (r_8.1.map encGAtom)) rfl<|s_mov (.int .i64 r_8.2) rfl<|dk<|w_ret<|?_;obtain rfl:=os hf;exact r_weak ⟨trivial,⟨trivial,trivial⟩⟩ rfl (.refl _)

/- spec.l01In -/
def c112:ACode :=
 (.seq (.reg (tm 6 (.c (.bool false)) .done))
 (.seq (.reg (tm 7 (.t 1) (tm 8 (.t 0) (tq 9 (.bin .leq (.t 7) (.t 8)) (tm 10 (.t 9) (tg 11 10 true (.mov (.t 0)) (tg 12 10 true (.mov (.t 2)) (tg 13 10 true (.bin .leq (.t 11) (.t 12)) (tq 14 (.pick (.t 10) (.t 13) (.c (.bool false))) (tm 6 (.t 14) .done))))))))))
 .ret))
theorem fc112:fcomp Try.prog Try.f112 = some (c112.erase,[.mov (.t 6)],15):=by kernel_rfl
def spec_l01In (n_1:Int) (low_2:Int) (high_3:Int):Option Bool :=
    if (decide (low_2 ≤ n_1)) then
    some (decide (n_1 ≤ high_3))
    else
    some false
theorem w_spec_l01In (n_1:Int) (low_2:Int) (high_3:Int) (r:Bool) (hf:spec_l01In n_1 low_2 high_3 = some r):CallOK Try.prog 112 .flat [(.int .i64 n_1),(.int .i64 low_2),(.int .i64 high_3)] (.bool r):=by
 refine CallOK.of_awp mixed Try.func112 fc112 nle ?_;rw [argT_eq];unfold spec_l01In at hf;unfold c112;refine (show awp Try.prog false 0 _ (ofL [(0,(.int .i64 n_1)),(1,(.int .i64 low_2)),(2,(.int .i64 high_3))]) [] _ from ?_);refine sr<|s_mov (.bool false) rfl<|dk<|sr<|?_
 rcases oi hf with ⟨c4,hf⟩ | ⟨c4,hf⟩
 ·refine s_mov (.int .i64 low_2) rfl<|s_mov (.int .i64 n_1) rfl<|s_q (.bool (decide (low_2 ≤ n_1))) rfl rfl rfl<|s_mov (.bool (decide (low_2 ≤ n_1))) rfl<|s_lit (s:=10) (b:=true) rfl c4<|s_on rfl<|s_mov (.int .i64 n_1) rfl<|s_on rfl<|s_mov (.int .i64 high_3) rfl<|s_on rfl<|s_q (.bool (decide (n_1 ≤ high_3))) rfl rfl rfl<|s_q (.bool (decide (n_1 ≤ high_3))) rfl trivial rfl<|s_mov (.bool (decide (n_1 ≤ high_3))) rfl<|dk<|w_ret<|?_;obtain rfl:=os hf;exact r_flat ⟨trivial,trivial⟩ rfl (.refl _)
 ·refine s_mov (.int .i64 low_2) rfl<|s_mov (.int .i64 n_1) rfl<|s_q (.bool (decide (low_2 ≤ n_1))) rfl rfl rfl<|s_mov (.bool (decide (low_2 ≤ n_1))) rfl<|s_lit (s:=10) (b:=false) rfl (bf c4)<|s_off rfl rfl<|s_off rfl rfl<|s_off rfl rfl<|s_q (.bool false) rfl trivial rfl<|s_mov (.bool false) rfl<|dk<|w_ret<|?_;obtain rfl:=os hf;exact r_flat ⟨trivial,trivial⟩ rfl (.refl _)

/- spec.l01Text -/
def c124:ACode :=
 (.seq (.reg (tm 2 (.c (.bool false)) .done))
 (.seq (.seq (.reg (tm 3 (.c (.int .i64 0)) .done))
 (.block 0 (.loop (.seq (.seq (.reg (tm 4 (.t 3) (tm 5 (.t 0) (tq 6 (.lenS (.t 5)) (tq 7 (.bin .lss (.t 4) (.t 6)) .done)))))
 (.cond (.t 7) .skip
 (.exit 0)))
 (.seq (.block 1 (.seq (.reg (tm 10 (.t 0) (tm 11 (.t 3) (tq 12 (.idxs (.t 10) (.t 11)) (tq 13 (.bin .lss (.t 12) (.c (.int .u8 32))) (tm 14 (.t 13) (tg 15 14 false (.mov (.t 0)) (tg 16 14 false (.mov (.t 3)) (tg 17 14 false (.idxs (.t 15) (.t 16)) (tg 18 14 false (.bin .gtr (.t 17) (.c (.int .u8 126))) (tq 19 (.pick (.t 14) (.c (.bool true)) (.t 18)) .done)))))))))))
 (.cut (.cond (.t 19) (.seq (.reg (tm 2 (.c (.bool false)) .done))
 .ret)
 .skip))))
 (.reg (tm 8 (.t 3) (tq 9 (.bin .add (.t 8) (.c (.int .i64 1))) (tm 3 (.t 9) .done)))))))))
 (.cut (.seq (.reg (tm 20 (.t 0) (tq 21 (.lenS (.t 20)) (tq 22 (.bin .leq (.t 21) (.c (.int .i64 200))) (tm 2 (.t 22) .done)))))
 .ret))))
theorem fc124:fcomp Try.prog Try.f124 = some (c124.erase,[.mov (.t 2)],23):=by kernel_rfl
def spec_l01Text_L1 :List UInt8 → Option (Fl Bool Unit)
  | [] =>
    some (.go ())
  | x_57 :: xs =>
    ((if (decide ((x_57.toNat:Int) < 32)) then
    some true
    else
    some (decide ((x_57.toNat:Int) > 126)):Option Bool)).bind fun s19_61 =>
    if s19_61 then
    some (.ret false)
    else
    spec_l01Text_L1 xs 

def spec_l01Text (t_1:Str):Option Bool :=
    (spec_l01Text_L1 t_1 ).bind fun q => (match q with
    | .ret r => some r
    | .go _ =>
    some (decide ((t_1.length:Int) ≤ 200)))
theorem w_spec_l01Text (t_1:Str) (r:Bool) (hf:spec_l01Text t_1 = some r):CallOK Try.prog 124 .flat [(.str t_1)] (.bool r):=by
 refine CallOK.of_awp mixed Try.func124 fc124 nle ?_;rw [argT_eq];unfold spec_l01Text at hf;unfold c124;refine (show awp Try.prog false 0 _ (ofL [(0,(.str t_1))]) [] _ from ?_);refine sr<|s_mov (.bool false) rfl<|dk<|awp_seq<|sr<|s_mov (.int .i64 0) rfl<|dk<|?_
 obtain ⟨p50,hb1,hf⟩:=ob hf
 refine awp_cutx (X:={q:Unit // p50 = .go q}) (fun q => ([(0,(.str t_1))],[])) ?_ ?_
 ·refine awp_loop (X:={q:Nat // spec_l01Text_L1 (t_1.drop q)  = some p50}) (fun q => ([(0,(.str t_1)),(3,(.int .i64 (q.1:Int)))],[])) (fun q => t_1.length - q.1) ⟨0,hb1⟩ ⟨[],[],_,_,rfl,rfl,⟨.refl _,⟨.refl _,trivial⟩⟩,(.refl _)⟩ ?_
  rintro ⟨i_33,hc1⟩
  have hc1:spec_l01Text_L1 (t_1.drop i_33)  = some p50:=hc1
  refine (show awp Try.prog false 0 _ (ofL [(0,(.str t_1)),(3,(.int .i64 (i_33:Int)))]) [] _ from ?_)
  rcases dropc t_1 i_33 with ⟨hie53,hd56⟩ | ⟨hlt51,x_57,hx52,hd56⟩
  ·rw [hd56,spec_l01Text_L1.eq_1] at hc1
   have hq55:=dlf hie53
   refine awp_seq<|sr<|s_mov (.int .i64 (i_33:Int)) rfl<|s_mov (.str t_1) rfl<|s_dof (o_lenS rfl) fun hl58 => s_q (.bool (decide ((i_33:Int) < (t_1.length:Int)))) rfl rfl rfl<|dk<|w_condf rfl hq55<|w_exit<|k_seqx<|k_loopx<|k_blkx<|?_;obtain rfl:=os hc1;exact k_cutn ⟨_,rfl⟩ ⟨[],[],_,_,rfl,rfl,⟨.refl _,trivial⟩,(.refl _)⟩
  ·rw [hd56,spec_l01Text_L1.eq_2] at hc1
   have hq55:=dlt hlt51
   refine awp_seq<|sr<|s_mov (.int .i64 (i_33:Int)) rfl<|s_mov (.str t_1) rfl<|s_dof (o_lenS rfl) fun hl59 => s_q (.bool (decide ((i_33:Int) < (t_1.length:Int)))) rfl rfl rfl<|dk<|w_condt rfl hq55<|w_skip<|k_seq<|awp_seq<|w_blk<|awp_seq<|?_
   obtain ⟨s19_61,hb2,hc1⟩:=ob hc1
   refine awp_cut ([(0,(.str t_1)),(3,(.int .i64 (i_33:Int))),(19,(.bool s19_61))],[]) ?_ ?_
   ·refine w_reg ?_
    rcases oi hb2 with ⟨c63,hb2⟩ | ⟨c63,hb2⟩
    ·refine s_mov (.str t_1) rfl<|s_mov (.int .i64 (i_33:Int)) rfl<|s_do (o_idxsn rfl rfl hx52)<|s_q (.bool (decide ((x_57.toNat:Int) < 32))) rfl rfl rfl<|s_mov (.bool (decide ((x_57.toNat:Int) < 32))) rfl<|s_lit (s:=14) (b:=true) rfl c63<|s_off rfl rfl<|s_off rfl rfl<|s_off rfl rfl<|s_off rfl rfl<|s_q (.bool true) rfl trivial rfl<|w_done<|?_;obtain rfl:=os hb2;exact ⟨[],[],_,_,rfl,rfl,⟨.refl _,⟨.refl _,⟨.refl _,trivial⟩⟩⟩,(.refl _)⟩
    ·refine s_mov (.str t_1) rfl<|s_mov (.int .i64 (i_33:Int)) rfl<|s_do (o_idxsn rfl rfl hx52)<|s_q (.bool (decide ((x_57.toNat:Int) < 32))) rfl rfl rfl<|s_mov (.bool (decide ((x_57.toNat:Int) < 32))) rfl<|s_lit (s:=14) (b:=false) rfl (bf c63)<|s_on rfl<|s_mov (.str t_1) rfl<|s_on rfl<|s_mov (.int .i64 (i_33:Int)) rfl<|s_on rfl<|s_do (o_idxsn rfl rfl hx52)<|s_on rfl<|s_q (.bool (decide ((x_57.toNat:Int) > 126))) rfl rfl rfl<|s_q (.bool (decide ((x_57.toNat:Int) > 126))) rfl trivial rfl<|w_done<|?_;obtain rfl:=os hb2;exact ⟨[],[],_,_,rfl,rfl,⟨.refl _,⟨.refl _,⟨.refl _,trivial⟩⟩⟩,(.refl _)⟩
   ·rcases oi hc1 with ⟨c64,hc1⟩ | ⟨c64,hc1⟩
    ·refine w_condt rfl c64<|sr<|s_mov (.bool false) rfl<|dk<|w_ret<|?_;obtain rfl:=os hc1;obtain rfl:=os hf;exact r_flat ⟨trivial,trivial⟩ rfl (.refl _)
    ·refine w_condf rfl (bf c64)<|w_skip<|k_blk<|k_seq<|w_reg<|s_mov (.int .i64 (i_33:Int)) rfl<|s_q (.int .i64 (w64 ((i_33:Int) + 1))) rfl rfl rfl<|s_mov (.int .i64 (w64 ((i_33:Int) + 1))) rfl<|w_done<|?_;exact k_loopn ⟨(i_33 + 1),hc1⟩ (mul hlt51) ⟨[],[],_,_,rfl,rfl,⟨.refl _,⟨.of_eq (congrArg (AV.int _) (w64_incr hlt51 hl59)),trivial⟩⟩,(.refl _)⟩
 ·rintro ⟨_,rfl⟩
  refine sr<|s_mov (.str t_1) rfl<|s_dof (o_lenS rfl) fun hl65 => s_q (.bool (decide ((t_1.length:Int) ≤ 200))) rfl rfl rfl<|s_mov (.bool (decide ((t_1.length:Int) ≤ 200))) rfl<|dk<|w_ret<|?_;obtain rfl:=os hf;exact r_flat ⟨trivial,trivial⟩ rfl (.refl _)

/- spec.AtomOK -/
def c114:ACode :=
 (.seq (.reg (tq 1 (.box 3 (.t 0)) (tm 2 (.c (.bool false)) .done)))
 (.seq (.seq (.reg (tq 3 (.faddr 0 (.t 1)) (tq 4 (.load 1 false (.t 3)) .done)))
 (.block 0 (.seq (.reg (tq 6 (.bin .eql (.t 4) (.c (.int .i64 1))) (tm 5 (.t 6) .done)))
 (.cond (.t 5) (.seq (.reg (tq 7 (.faddr 1 (.t 1)) (tq 8 (.load 1 false (.t 7)) (tq 9 (.call 112 [(.t 8),(.c (.int .i64 (-1000000000))),(.c (.int .i64 1000000000))]) (tm 10 (.t 9) (tg 11 10 true (.faddr 2 (.t 1)) (tg 12 10 true (.load 1 false (.t 11)) (tg 13 10 true (.bin .eql (.t 12) (.c (.str []))) (tq 14 (.pick (.t 10) (.t 13) (.c (.bool false))) (tm 2 (.t 14) .done))))))))))
 .ret)
 (.seq (.reg (tq 16 (.bin .eql (.t 4) (.c (.int .i64 2))) (tm 15 (.t 16) .done)))
 (.cond (.t 15) (.seq (.reg (tq 17 (.faddr 1 (.t 1)) (tq 18 (.load 1 false (.t 17)) (tq 19 (.bin .eql (.t 18) (.c (.int .i64 0))) (tm 20 (.t 19) (tg 21 20 true (.faddr 2 (.t 1)) (tg 22 20 true (.load 1 false (.t 21)) (tg 23 20 true (.call 124 [(.t 22)]) (tq 24 (.pick (.t 20) (.t 23) (.c (.bool false))) (tm 2 (.t 24) .done))))))))))
 .ret)
 (.seq (.reg (tq 26 (.bin .eql (.t 4) (.c (.int .i64 3))) (tm 25 (.t 26) .done)))
 (.cond (.t 25) (.seq (.reg (tq 27 (.faddr 1 (.t 1)) (tq 28 (.load 1 false (.t 27)) (tq 29 (.call 112 [(.t 28),(.c (.int .i64 0)),(.c (.int .i64 1))]) (tm 30 (.t 29) (tg 31 30 true (.faddr 2 (.t 1)) (tg 32 30 true (.load 1 false (.t 31)) (tg 33 30 true (.bin .eql (.t 32) (.c (.str []))) (tq 34 (.pick (.t 30) (.t 33) (.c (.bool false))) (tm 2 (.t 34) .done))))))))))
 .ret)
 (.seq (.reg (tq 36 (.bin .eql (.t 4) (.c (.int .i64 4))) (tm 35 (.t 36) .done)))
 (.cond (.t 35) (.seq (.reg (tq 37 (.faddr 1 (.t 1)) (tq 38 (.load 1 false (.t 37)) (tq 39 (.call 112 [(.t 38),(.c (.int .i64 1)),(.c (.int .i64 1000000))]) (tm 40 (.t 39) (tg 41 40 true (.faddr 2 (.t 1)) (tg 42 40 true (.load 1 false (.t 41)) (tg 43 40 true (.bin .eql (.t 42) (.c (.str []))) (tq 44 (.pick (.t 40) (.t 43) (.c (.bool false))) (tm 2 (.t 44) .done))))))))))
 .ret)
 .skip))))))))))
 (.seq (.reg (tm 2 (.c (.bool false)) .done))
 .ret)))
theorem fc114:fcomp Try.prog Try.f114 = some (c114.erase,[.mov (.t 2)],45):=by kernel_rfl
def spec_AtomOK (a_1:GAtom):Option Bool :=
    if (a_1.Kind == 1) then
    (spec_l01In a_1.N (-1000000000) 1000000000).bind fun r_3 =>
    if r_3 then
    some (a_1.T == [])
    else
    some false
    else
    if (a_1.Kind == 2) then
    if (a_1.N == 0) then
    (spec_l01Text a_1.T).bind fun r_8 =>
    some r_8
    else
    some false
    else
    if (a_1.Kind == 3) then
    (spec_l01In a_1.N 0 1).bind fun r_11 =>
    if r_11 then
    some (a_1.T == [])
    else
    some false
    else
    if (a_1.Kind == 4) then
    (spec_l01In a_1.N 1 1000000).bind fun r_15 =>
    if r_15 then
    some (a_1.T == [])
    else
    some false
    else
    some false
theorem w_spec_AtomOK (a_1:GAtom) (r:Bool) (hf:spec_AtomOK a_1 = some r):CallOK Try.prog 114 .flat [(encGAtom a_1)] (.bool r):=by
 refine CallOK.of_awp mixed Try.func114 fc114 nle ?_;rw [argT_eq];unfold spec_AtomOK at hf;unfold c114;refine (show awp Try.prog false 0 _ (ofL [(0,(encGAtom a_1))]) [] _ from ?_);refine sr<|s_do (o_box (j:=0) (c:=(.agg [(.int .i64 a_1.Kind),(.int .i64 a_1.N),(.str a_1.T)])) rfl trivial rfl rfl)<|s_mov (.bool false) rfl<|dk<|awp_seq<|sr<|s_q (.ptr 0 0 0) rfl trivial rfl<|s_q (.int .i64 a_1.Kind) rfl nle rfl<|dk<|w_blk<|sr<|s_q (.bool (a_1.Kind == 1)) rfl rfl rfl<|s_mov (.bool (a_1.Kind == 1)) rfl<|dk<|?_
 rcases oi hf with ⟨c2,hf⟩ | ⟨c2,hf⟩
 ·refine w_condt rfl c2<|sr<|?_
  obtain ⟨r_3,er4,hf⟩:=ob hf
  rcases oi hf with ⟨c5,hf⟩ | ⟨c5,hf⟩
  ·refine s_q (.ptr 0 0 1) rfl trivial rfl<|s_q (.int .i64 a_1.N) rfl nle rfl<|s_do (o_call (w_spec_l01In _ _ _ _ er4) rfl (.refl _) rfl)<|s_mov (.bool r_3) rfl<|s_lit (s:=10) (b:=true) rfl c5<|s_on rfl<|s_q (.ptr 0 0 2) rfl trivial rfl<|s_on rfl<|s_q (.str a_1.T) rfl nle rfl<|s_on rfl<|s_q (.bool (a_1.T == [])) rfl trivial rfl<|s_q (.bool (a_1.T == [])) rfl trivial rfl<|s_mov (.bool (a_1.T == [])) rfl<|dk<|w_ret<|?_;obtain rfl:=os hf;exact r_flat ⟨trivial,trivial⟩ rfl (.refl _)
  ·refine s_q (.ptr 0 0 1) rfl trivial rfl<|s_q (.int .i64 a_1.N) rfl nle rfl<|s_do (o_call (w_spec_l01In _ _ _ _ er4) rfl (.refl _) rfl)<|s_mov (.bool r_3) rfl<|s_lit (s:=10) (b:=false) rfl (bf c5)<|s_off rfl rfl<|s_off rfl rfl<|s_off rfl rfl<|s_q (.bool false) rfl trivial rfl<|s_mov (.bool false) rfl<|dk<|w_ret<|?_;obtain rfl:=os hf;exact r_flat ⟨trivial,trivial⟩ rfl (.refl _)
 ·refine w_condf rfl (bf c2)<|sr<|s_q (.bool (a_1.Kind == 2)) rfl rfl rfl<|s_mov (.bool (a_1.Kind == 2)) rfl<|dk<|?_
  rcases oi hf with ⟨c6,hf⟩ | ⟨c6,hf⟩
  ·refine w_condt rfl c6<|sr<|?_
   rcases oi hf with ⟨c7,hf⟩ | ⟨c7,hf⟩
   ·obtain ⟨r_8,er9,hf⟩:=ob hf
    refine s_q (.ptr 0 0 1) rfl trivial rfl<|s_q (.int .i64 a_1.N) rfl nle rfl<|s_q (.bool (a_1.N == 0)) rfl rfl rfl<|s_mov (.bool (a_1.N == 0)) rfl<|s_lit (s:=20) (b:=true) rfl c7<|s_on rfl<|s_q (.ptr 0 0 2) rfl trivial rfl<|s_on rfl<|s_q (.str a_1.T) rfl nle rfl<|s_on rfl<|s_do (o_call (w_spec_l01Text _ _ er9) rfl (.refl _) rfl)<|s_q (.bool r_8) rfl trivial rfl<|s_mov (.bool r_8) rfl<|dk<|w_ret<|?_;obtain rfl:=os hf;exact r_flat ⟨trivial,trivial⟩ rfl (.refl _)
   ·refine s_q (.ptr 0 0 1) rfl trivial rfl<|s_q (.int .i64 a_1.N) rfl nle rfl<|s_q (.bool (a_1.N == 0)) rfl rfl rfl<|s_mov (.bool (a_1.N == 0)) rfl<|s_lit (s:=20) (b:=false) rfl (bf c7)<|s_off rfl rfl<|s_off rfl rfl<|s_off rfl rfl<|s_q (.bool false) rfl trivial rfl<|s_mov (.bool false) rfl<|dk<|w_ret<|?_;obtain rfl:=os hf;exact r_flat ⟨trivial,trivial⟩ rfl (.refl _)
  ·refine w_condf rfl (bf c6)<|sr<|s_q (.bool (a_1.Kind == 3)) rfl rfl rfl<|s_mov (.bool (a_1.Kind == 3)) rfl<|dk<|?_
   rcases oi hf with ⟨c10,hf⟩ | ⟨c10,hf⟩
   ·refine w_condt rfl c10<|sr<|?_
    obtain ⟨r_11,er12,hf⟩:=ob hf
    rcases oi hf with ⟨c13,hf⟩ | ⟨c13,hf⟩
    ·refine s_q (.ptr 0 0 1) rfl trivial rfl<|s_q (.int .i64 a_1.N) rfl nle rfl<|s_do (o_call (w_spec_l01In _ _ _ _ er12) rfl (.refl _) rfl)<|s_mov (.bool r_11) rfl<|s_lit (s:=30) (b:=true) rfl c13<|s_on rfl<|s_q (.ptr 0 0 2) rfl trivial rfl<|s_on rfl<|s_q (.str a_1.T) rfl nle rfl<|s_on rfl<|s_q (.bool (a_1.T == [])) rfl trivial rfl<|s_q (.bool (a_1.T == [])) rfl trivial rfl<|s_mov (.bool (a_1.T == [])) rfl<|dk<|w_ret<|?_;obtain rfl:=os hf;exact r_flat ⟨trivial,trivial⟩ rfl (.refl _)
    ·refine s_q (.ptr 0 0 1) rfl trivial rfl<|s_q (.int .i64 a_1.N) rfl nle rfl<|s_do (o_call (w_spec_l01In _ _ _ _ er12) rfl (.refl _) rfl)<|s_mov (.bool r_11) rfl<|s_lit (s:=30) (b:=false) rfl (bf c13)<|s_off rfl rfl<|s_off rfl rfl<|s_off rfl rfl<|s_q (.bool false) rfl trivial rfl<|s_mov (.bool false) rfl<|dk<|w_ret<|?_;obtain rfl:=os hf;exact r_flat ⟨trivial,trivial⟩ rfl (.refl _)
   ·refine w_condf rfl (bf c10)<|sr<|s_q (.bool (a_1.Kind == 4)) rfl rfl rfl<|s_mov (.bool (a_1.Kind == 4)) rfl<|dk<|?_
    rcases oi hf with ⟨c14,hf⟩ | ⟨c14,hf⟩
    ·refine w_condt rfl c14<|sr<|?_
     obtain ⟨r_15,er16,hf⟩:=ob hf
     rcases oi hf with ⟨c17,hf⟩ | ⟨c17,hf⟩
     ·refine s_q (.ptr 0 0 1) rfl trivial rfl<|s_q (.int .i64 a_1.N) rfl nle rfl<|s_do (o_call (w_spec_l01In _ _ _ _ er16) rfl (.refl _) rfl)<|s_mov (.bool r_15) rfl<|s_lit (s:=40) (b:=true) rfl c17<|s_on rfl<|s_q (.ptr 0 0 2) rfl trivial rfl<|s_on rfl<|s_q (.str a_1.T) rfl nle rfl<|s_on rfl<|s_q (.bool (a_1.T == [])) rfl trivial rfl<|s_q (.bool (a_1.T == [])) rfl trivial rfl<|s_mov (.bool (a_1.T == [])) rfl<|dk<|w_ret<|?_;obtain rfl:=os hf;exact r_flat ⟨trivial,trivial⟩ rfl (.refl _)
     ·refine s_q (.ptr 0 0 1) rfl trivial rfl<|s_q (.int .i64 a_1.N) rfl nle rfl<|s_do (o_call (w_spec_l01In _ _ _ _ er16) rfl (.refl _) rfl)<|s_mov (.bool r_15) rfl<|s_lit (s:=40) (b:=false) rfl (bf c17)<|s_off rfl rfl<|s_off rfl rfl<|s_off rfl rfl<|s_q (.bool false) rfl trivial rfl<|s_mov (.bool false) rfl<|dk<|w_ret<|?_;obtain rfl:=os hf;exact r_flat ⟨trivial,trivial⟩ rfl (.refl _)
    ·refine w_condf rfl (bf c14)<|w_skip<|k_blk<|k_seq<|sr<|s_mov (.bool false) rfl<|dk<|w_ret<|?_;obtain rfl:=os hf;exact r_flat ⟨trivial,trivial⟩ rfl (.refl _)

/- spec.DatumOK -/
def c86:ACode :=
 (.seq (.reg (tm 2 (.c (.bool false)) .done))
 (.seq (.seq (.reg (tm 4 (.t 0) (tq 5 (.len (.t 4)) (tq 6 (.bin .gtr (.t 5) (.c (.int .i64 4096))) .done))))
 (.cond (.t 6) (.seq (.reg (tm 2 (.c (.bool false)) .done))
 .ret)
 .skip))
 (.seq (.seq (.reg (tm 3 (.c (.int .i64 0)) .done))
 (.block 0 (.loop (.seq (.seq (.reg (tm 7 (.t 3) (tm 8 (.t 0) (tq 9 (.len (.t 8)) (tq 10 (.bin .lss (.t 7) (.t 9)) .done)))))
 (.cond (.t 10) .skip
 (.exit 0)))
 (.seq (.block 1 (.seq (.reg (tm 13 (.t 0) (tm 14 (.t 3) (tq 15 (.iaddr 3 (.t 13) (.t 14)) (tq 16 (.load 3 true (.t 15)) (.l ⟨(some 17),none,.call 114 [(.t 16)]⟩ []
 (tq 18 (.not (.t 17)) (tm 19 (.t 18) (tg 20 19 false (.mov (.t 0)) (tg 21 19 false (.mov (.t 3)) (tg 22 19 false (.iaddr 3 (.t 20) (.t 21)) (tg 23 19 false (.faddr 0 (.t 22)) (tg 24 19 false (.load 1 false (.t 23)) (tg 25 19 false (.mov (.t 0)) (tg 26 19 false (.iaddr 3 (.t 25) (.c (.int .i64 0))) (tg 27 19 false (.faddr 0 (.t 26)) (tg 28 19 false (.load 1 false (.t 27)) (tg 29 19 false (.bin .neq (.t 24) (.t 28)) (tq 30 (.pick (.t 19) (.c (.bool true)) (.t 29)) (tm 31 (.t 30) (tg 32 31 false (.mov (.t 3)) (tg 33 31 false (.bin .gtr (.t 32) (.c (.int .i64 0))) (tg 34 31 false (.mov (.t 33)) (tg 35 34 true (.mov (.t 0)) (tg 36 34 true (.mov (.t 3)) (tg 37 34 true (.bin .sub (.t 36) (.c (.int .i64 1))) (tg 38 34 true (.iaddr 3 (.t 35) (.t 37)) (tg 39 34 true (.load 3 true (.t 38)) (tg 40 34 true (.mov (.t 0)) (tg 41 34 true (.mov (.t 3)) (tg 42 34 true (.iaddr 3 (.t 40) (.t 41)) (tg 43 34 true (.load 3 true (.t 42)) (.l ⟨(some 44),(some (34,true)),.call 115 [(.t 39),(.t 43)]⟩ []
 (tg 45 34 true (.bin .geq (.t 44) (.c (.int .i64 0))) (tg 46 31 false (.pick (.t 34) (.t 45) (.c (.bool false))) (tq 47 (.pick (.t 31) (.c (.bool true)) (.t 46)) .done))) .non))))))))))))))))))))))))))) .non))))))
 (.cut (.cond (.t 47) (.seq (.reg (tm 2 (.c (.bool false)) .done))
 .ret)
 .skip))))
 (.reg (tm 11 (.t 3) (tq 12 (.bin .add (.t 11) (.c (.int .i64 1))) (tm 3 (.t 12) .done)))))))))
 (.cut (.seq (.reg (tm 48 (.t 0) (tq 49 (.len (.t 48)) (tq 50 (.bin .leq (.t 49) (.c (.int .i64 8))) (tm 2 (.t 50) .done)))))
 .ret)))))
theorem fc86:fcomp Try.prog Try.f86 = some (c86.erase,[.mov (.t 2)],51):=by kernel_rfl
def spec_DatumOK_L1 (d_1:(List GAtom)):List GAtom → Nat → Option (Fl Bool Unit)
  | [],i_83 =>
    some (.go ())
  | x_131 :: xs,i_83 =>
    (((spec_AtomOK x_131).bind fun r_147 =>
    if (!r_147) then
    some true
    else
    (idx d_1 0).bind fun x_150 =>
    if (x_131.Kind != x_150.Kind) then
    some true
    else
    if (decide ((i_83:Int) > 0)) then
    (idx d_1 (w64 ((i_83:Int) - 1))).bind fun x_154 =>
    (spec_l03Order x_154 x_131).bind fun r_156 =>
    some (decide (r_156 ≥ 0))
    else
    some false:Option Bool)).bind fun s47_145 =>
    if s47_145 then
    some (.ret false)
    else
    spec_DatumOK_L1 d_1 xs (i_83 + 1)

def spec_DatumOK (d_1:(List GAtom)):Option Bool :=
    if (decide ((d_1.length:Int) > 4096)) then
    some false
    else
    (spec_DatumOK_L1 d_1 d_1 0).bind fun q => (match q with
    | .ret r => some r
    | .go _ =>
    some (decide ((d_1.length:Int) ≤ 8)))
theorem w_spec_DatumOK (d_1:(List GAtom)) (r:Bool) (hf:spec_DatumOK d_1 = some r):CallOK Try.prog 86 .flat [(.lst 3 (d_1.map encGAtom))] (.bool r):=by
 refine CallOK.of_awp mixed Try.func86 fc86 nle ?_;rw [argT_eq];unfold spec_DatumOK at hf;unfold c86;refine (show awp Try.prog false 0 _ (ofL [(0,(.lst 3 (d_1.map encGAtom)))]) [] _ from ?_);refine sr<|s_mov (.bool false) rfl<|dk<|awp_seq<|sr<|s_mov (.lst 3 (d_1.map encGAtom)) rfl<|s_dof (o_len (enc:=encGAtom) rfl) fun hl2 => s_q (.bool (decide ((d_1.length:Int) > 4096))) rfl rfl rfl<|dk<|?_
 rcases oi hf with ⟨c3,hf⟩ | ⟨c3,hf⟩
 ·refine w_condt rfl c3<|sr<|s_mov (.bool false) rfl<|dk<|w_ret<|?_;obtain rfl:=os hf;exact r_flat ⟨trivial,trivial⟩ rfl (.refl _)
 ·refine w_condf rfl (bf c3)<|w_skip<|k_seq<|awp_seq<|sr<|s_mov (.int .i64 0) rfl<|dk<|?_
  obtain ⟨p124,hb1,hf⟩:=ob hf
  refine awp_cutx (X:={q:Unit // p124 = .go q}) (fun q => ([(0,(.lst 3 (d_1.map encGAtom)))],[])) ?_ ?_
  ·refine awp_loop (X:={q:Nat // spec_DatumOK_L1 d_1 (d_1.drop q) q = some p124}) (fun q => ([(0,(.lst 3 (d_1.map encGAtom))),(3,(.int .i64 (q.1:Int)))],[])) (fun q => d_1.length - q.1) ⟨0,hb1⟩ ⟨[],[],_,_,rfl,rfl,⟨.refl _,⟨.refl _,trivial⟩⟩,(.refl _)⟩ ?_
   rintro ⟨i_83,hc1⟩
   have hc1:spec_DatumOK_L1 d_1 (d_1.drop i_83) i_83 = some p124:=hc1
   refine (show awp Try.prog false 0 _ (ofL [(0,(.lst 3 (d_1.map encGAtom))),(3,(.int .i64 (i_83:Int)))]) [] _ from ?_)
   rcases dropc d_1 i_83 with ⟨hie127,hd130⟩ | ⟨hlt125,x_131,hx126,hd130⟩
   ·rw [hd130,spec_DatumOK_L1.eq_1] at hc1
    have hq129:=dlf hie127
    refine awp_seq<|sr<|s_mov (.int .i64 (i_83:Int)) rfl<|s_mov (.lst 3 (d_1.map encGAtom)) rfl<|s_dof (o_len (enc:=encGAtom) rfl) fun hl132 => s_q (.bool (decide ((i_83:Int) < (d_1.length:Int)))) rfl rfl rfl<|dk<|w_condf rfl hq129<|w_exit<|k_seqx<|k_loopx<|k_blkx<|?_;obtain rfl:=os hc1;exact k_cutn ⟨_,rfl⟩ ⟨[],[],_,_,rfl,rfl,⟨.refl _,trivial⟩,(.refl _)⟩
   ·rw [hd130,spec_DatumOK_L1.eq_2] at hc1
    have hq129:=dlt hlt125
    refine awp_seq<|sr<|s_mov (.int .i64 (i_83:Int)) rfl<|s_mov (.lst 3 (d_1.map encGAtom)) rfl<|s_dof (o_len (enc:=encGAtom) rfl) fun hl133 => s_q (.bool (decide ((i_83:Int) < (d_1.length:Int)))) rfl rfl rfl<|dk<|w_condt rfl hq129<|w_skip<|k_seq<|awp_seq<|w_blk<|awp_seq<|?_
    obtain ⟨s47_145,hb2,hc1⟩:=ob hc1
    refine awp_cut ([(0,(.lst 3 (d_1.map encGAtom))),(3,(.int .i64 (i_83:Int))),(47,(.bool s47_145))],[]) ?_ ?_
    ·refine w_reg<|s_mov (.lst 3 (d_1.map encGAtom)) rfl<|s_mov (.int .i64 (i_83:Int)) rfl<|s_do (o_iaddrn (enc:=encGAtom) rfl rfl hx126)<|s_q (encGAtom x_131) rfl nle rfl<|?_
     obtain ⟨r_147,er148,hb2⟩:=ob hb2
     refine s_dol (o_call (w_spec_AtomOK _ _ er148) rfl (.refl _) rfl) a_same trivial<|s_q (.bool (!r_147)) rfl trivial rfl<|s_mov (.bool (!r_147)) rfl<|?_
     rcases oi hb2 with ⟨c149,hb2⟩ | ⟨c149,hb2⟩
     ·refine s_lit (s:=19) (b:=true) rfl c149<|s_off rfl rfl<|s_off rfl rfl<|s_off rfl rfl<|s_off rfl rfl<|s_off rfl rfl<|s_off rfl rfl<|s_off rfl rfl<|s_off rfl rfl<|s_off rfl rfl<|s_off rfl rfl<|s_q (.bool true) rfl trivial rfl<|s_mov (.bool true) rfl<|s_off rfl rfl<|s_off rfl rfl<|s_off rfl rfl<|s_offs rfl<|s_offs rfl<|s_offs rfl<|s_offs rfl<|s_offs rfl<|s_offs rfl<|s_offs rfl<|s_offs rfl<|s_offs rfl<|s_offsl rfl trivial<|s_offs rfl<|s_off rfl rfl<|s_q (.bool true) rfl trivial rfl<|w_done<|?_;obtain rfl:=os hb2;exact ⟨[],[],_,_,rfl,rfl,⟨.refl _,⟨.refl _,⟨.refl _,trivial⟩⟩⟩,(.refl _)⟩
     ·refine s_lit (s:=19) (b:=false) rfl (bf c149)<|s_on rfl<|s_mov (.lst 3 (d_1.map encGAtom)) rfl<|s_on rfl<|s_mov (.int .i64 (i_83:Int)) rfl<|s_on rfl<|s_do (o_iaddrn (enc:=encGAtom) rfl rfl hx126)<|s_on rfl<|s_q (.iptr (encGAtom x_131) 0) rfl trivial rfl<|s_on rfl<|s_q (.int .i64 x_131.Kind) rfl nle rfl<|s_on rfl<|s_mov (.lst 3 (d_1.map encGAtom)) rfl<|s_on rfl<|?_
      obtain ⟨x_150,ex151,hb2⟩:=ob hb2
      refine s_do (o_iaddr (enc:=encGAtom) rfl rfl (idx0 ex151) (idx1 ex151))<|s_on rfl<|s_q (.iptr (encGAtom x_150) 0) rfl trivial rfl<|s_on rfl<|s_q (.int .i64 x_150.Kind) rfl nle rfl<|s_on rfl<|s_q (.bool (x_131.Kind != x_150.Kind)) rfl rfl rfl<|s_q (.bool (x_131.Kind != x_150.Kind)) rfl trivial rfl<|s_mov (.bool (x_131.Kind != x_150.Kind)) rfl<|?_
      rcases oi hb2 with ⟨c152,hb2⟩ | ⟨c152,hb2⟩
      ·refine s_lit (s:=31) (b:=true) rfl c152<|s_off rfl rfl<|s_off rfl rfl<|s_off rfl rfl<|s_offs rfl<|s_offs rfl<|s_offs rfl<|s_offs rfl<|s_offs rfl<|s_offs rfl<|s_offs rfl<|s_offs rfl<|s_offs rfl<|s_offsl rfl trivial<|s_offs rfl<|s_off rfl rfl<|s_q (.bool true) rfl trivial rfl<|w_done<|?_;obtain rfl:=os hb2;exact ⟨[],[],_,_,rfl,rfl,⟨.refl _,⟨.refl _,⟨.refl _,trivial⟩⟩⟩,(.refl _)⟩
      ·refine s_lit (s:=31) (b:=false) rfl (bf c152)<|s_on rfl<|s_mov (.int .i64 (i_83:Int)) rfl<|s_on rfl<|s_q (.bool (decide ((i_83:Int) > 0))) rfl rfl rfl<|s_on rfl<|s_mov (.bool (decide ((i_83:Int) > 0))) rfl<|?_
       rcases oi hb2 with ⟨c153,hb2⟩ | ⟨c153,hb2⟩
       ·refine s_lit (s:=34) (b:=true) rfl c153<|s_on rfl<|s_mov (.lst 3 (d_1.map encGAtom)) rfl<|s_on rfl<|s_mov (.int .i64 (i_83:Int)) rfl<|s_on rfl<|s_q (.int .i64 (w64 ((i_83:Int) - 1))) rfl rfl rfl<|s_on rfl<|?_
        obtain ⟨x_154,ex155,hb2⟩:=ob hb2
        refine s_do (o_iaddr (enc:=encGAtom) rfl rfl (idx0 ex155) (idx1 ex155))<|s_on rfl<|s_q (encGAtom x_154) rfl nle rfl<|s_on rfl<|s_mov (.lst 3 (d_1.map encGAtom)) rfl<|s_on rfl<|s_mov (.int .i64 (i_83:Int)) rfl<|s_on rfl<|s_do (o_iaddrn (enc:=encGAtom) rfl rfl hx126)<|s_on rfl<|s_q (encGAtom x_131) rfl nle rfl<|s_onl rfl<|?_
        obtain ⟨r_156,er157,hb2⟩:=ob hb2
        refine s_dol (o_call (w_spec_l03Order _ _ _ er157) rfl (.refl _) rfl) a_same trivial<|s_on rfl<|s_q (.bool (decide (r_156 ≥ 0))) rfl rfl rfl<|s_on rfl<|s_q (.bool (decide (r_156 ≥ 0))) rfl trivial rfl<|s_q (.bool (decide (r_156 ≥ 0))) rfl trivial rfl<|w_done<|?_;obtain rfl:=os hb2;exact ⟨[],[],_,_,rfl,rfl,⟨.refl _,⟨.refl _,⟨.refl _,trivial⟩⟩⟩,(.refl _)⟩
       ·refine s_lit (s:=34) (b:=false) rfl (bf c153)<|s_off rfl rfl<|s_off rfl rfl<|s_off rfl rfl<|s_off rfl rfl<|s_off rfl rfl<|s_off rfl rfl<|s_off rfl rfl<|s_off rfl rfl<|s_off rfl rfl<|s_offl rfl rfl trivial<|s_off rfl rfl<|s_on rfl<|s_q (.bool false) rfl trivial rfl<|s_q (.bool false) rfl trivial rfl<|w_done<|?_;obtain rfl:=os hb2;exact ⟨[],[],_,_,rfl,rfl,⟨.refl _,⟨.refl _,⟨.refl _,trivial⟩⟩⟩,(.refl _)⟩
    ·rcases oi hc1 with ⟨c158,hc1⟩ | ⟨c158,hc1⟩
     ·refine w_condt rfl c158<|sr<|s_mov (.bool false) rfl<|dk<|w_ret<|?_;obtain rfl:=os hc1;obtain rfl:=os hf;exact r_flat ⟨trivial,trivial⟩ rfl (.refl _)
     ·refine w_condf rfl (bf c158)<|w_skip<|k_blk<|k_seq<|w_reg<|s_mov (.int .i64 (i_83:Int)) rfl<|s_q (.int .i64 (w64 ((i_83:Int) + 1))) rfl rfl rfl<|s_mov (.int .i64 (w64 ((i_83:Int) + 1))) rfl<|w_done<|?_;exact k_loopn ⟨(i_83 + 1),hc1⟩ (mul hlt125) ⟨[],[],_,_,rfl,rfl,⟨.refl _,⟨.of_eq (congrArg (AV.int _) (w64_incr hlt125 hl133)),trivial⟩⟩,(.refl _)⟩
  ·rintro ⟨_,rfl⟩
   refine sr<|s_mov (.lst 3 (d_1.map encGAtom)) rfl<|s_dof (o_len (enc:=encGAtom) rfl) fun hl159 => s_q (.bool (decide ((d_1.length:Int) ≤ 8))) rfl rfl rfl<|s_mov (.bool (decide ((d_1.length:Int) ≤ 8))) rfl<|dk<|w_ret<|?_;obtain rfl:=os hf;exact r_flat ⟨trivial,trivial⟩ rfl (.refl _)

/- spec.l03Two -/
def c56:ACode :=
 (.seq (.reg (tm 4 (.c (.int .i64 0)) .done))
 (.seq (.block 0 (.seq (.reg (tm 6 (.t 0) (tq 7 (.len (.t 6)) (tq 8 (.bin .gtr (.t 7) (.c (.int .i64 4096))) (tm 9 (.t 8) (tg 10 9 false (.mov (.t 1)) (tg 11 9 false (.len (.t 10)) (tg 12 9 false (.bin .gtr (.t 11) (.c (.int .i64 4096))) (tq 13 (.pick (.t 9) (.c (.bool true)) (.t 12)) (tm 5 (.t 13) .done))))))))))
 (.cut (.cond (.t 5) (.seq (.reg (tm 4 (.c (.int .i64 2)) .done))
 .ret)
 (.seq (.reg (tm 15 (.t 0) (tq 16 (.call 86 [(.t 15)]) (tq 17 (.not (.t 16)) (tm 18 (.t 17) (tg 19 18 false (.mov (.t 1)) (tg 20 18 false (.call 86 [(.t 19)]) (tg 21 18 false (.not (.t 20)) (tq 22 (.pick (.t 18) (.c (.bool true)) (.t 21)) (tm 14 (.t 22) .done))))))))))
 (.cut (.cond (.t 14) (.seq (.reg (tm 4 (.c (.int .i64 1)) .done))
 .ret)
 (.seq (.reg (tm 24 (.t 0) (tq 25 (.len (.t 24)) (tq 26 (.bin .gtr (.t 25) (.c (.int .i64 0))) (tm 27 (.t 26) (tg 28 27 true (.mov (.t 1)) (tg 29 27 true (.len (.t 28)) (tg 30 27 true (.bin .gtr (.t 29) (.c (.int .i64 0))) (tq 31 (.pick (.t 27) (.t 30) (.c (.bool false))) (tm 32 (.t 31) (tg 33 32 true (.mov (.t 0)) (tg 34 32 true (.iaddr 3 (.t 33) (.c (.int .i64 0))) (tg 35 32 true (.faddr 0 (.t 34)) (tg 36 32 true (.load 1 false (.t 35)) (tg 37 32 true (.mov (.t 1)) (tg 38 32 true (.iaddr 3 (.t 37) (.c (.int .i64 0))) (tg 39 32 true (.faddr 0 (.t 38)) (tg 40 32 true (.load 1 false (.t 39)) (tg 41 32 true (.bin .neq (.t 36) (.t 40)) (tq 42 (.pick (.t 32) (.t 41) (.c (.bool false))) (tm 23 (.t 42) .done)))))))))))))))))))))
 (.cut (.cond (.t 23) (.seq (.reg (tm 4 (.c (.int .i64 9)) .done))
 .ret)
 .skip))))))))))
 (.seq (.reg (tm 4 (.c (.int .i64 0)) .done))
 .ret)))
theorem fc56:fcomp Try.prog Try.f56 = some (c56.erase,[.mov (.t 4)],43):=by kernel_rfl
def spec_l03Two (a_1:(List GAtom)) (b_2:(List GAtom)):Option Int :=
    ((if (decide ((a_1.length:Int) > 4096)) then
    some true
    else
    some (decide ((b_2.length:Int) > 4096)):Option Bool)).bind fun s5_6 =>
    if s5_6 then
    some 2
    else
    (((spec_DatumOK a_1).bind fun r_19 =>
    if (!r_19) then
    some true
    else
    (spec_DatumOK b_2).bind fun r_22 =>
    some (!r_22):Option Bool)).bind fun s14_17 =>
    if s14_17 then
    some 1
    else
    ((if (bif (decide ((a_1.length:Int) > 0)) then (decide ((b_2.length:Int) > 0)) else false) then
    (idx a_1 0).bind fun x_37 =>
    (idx b_2 0).bind fun x_39 =>
    some (x_37.Kind != x_39.Kind)
    else
    some false:Option Bool)).bind fun s23_32 =>
    if s23_32 then
    some 9
    else
    some 0
theorem w_spec_l03Two (a_1:(List GAtom)) (b_2:(List GAtom)) (r:Int) (hf:spec_l03Two a_1 b_2 = some r):CallOK Try.prog 56 .flat [(.lst 3 (a_1.map encGAtom)),(.lst 3 (b_2.map encGAtom))] (.int .i64 r):=by
 refine CallOK.of_awp mixed Try.func56 fc56 nle ?_;rw [argT_eq];unfold spec_l03Two at hf;unfold c56;refine (show awp Try.prog false 0 _ (ofL [(0,(.lst 3 (a_1.map encGAtom))),(1,(.lst 3 (b_2.map encGAtom)))]) [] _ from ?_);refine sr<|s_mov (.int .i64 0) rfl<|dk<|awp_seq<|w_blk<|awp_seq<|?_
 obtain ⟨s5_6,hb1,hf⟩:=ob hf
 refine awp_cut ([(0,(.lst 3 (a_1.map encGAtom))),(1,(.lst 3 (b_2.map encGAtom))),(5,(.bool s5_6))],[]) ?_ ?_
 ·refine w_reg ?_
  rcases oi hb1 with ⟨c9,hb1⟩ | ⟨c9,hb1⟩
  ·refine s_mov (.lst 3 (a_1.map encGAtom)) rfl<|s_dof (o_len (enc:=encGAtom) rfl) fun hl8 => s_q (.bool (decide ((a_1.length:Int) > 4096))) rfl rfl rfl<|s_mov (.bool (decide ((a_1.length:Int) > 4096))) rfl<|s_lit (s:=9) (b:=true) rfl c9<|s_off rfl rfl<|s_off rfl rfl<|s_off rfl rfl<|s_q (.bool true) rfl trivial rfl<|s_mov (.bool true) rfl<|w_done<|?_;obtain rfl:=os hb1;exact ⟨[],[],_,_,rfl,rfl,⟨.refl _,⟨.refl _,⟨.refl _,trivial⟩⟩⟩,(.refl _)⟩
  ·refine s_mov (.lst 3 (a_1.map encGAtom)) rfl<|s_dof (o_len (enc:=encGAtom) rfl) fun hl8 => s_q (.bool (decide ((a_1.length:Int) > 4096))) rfl rfl rfl<|s_mov (.bool (decide ((a_1.length:Int) > 4096))) rfl<|s_lit (s:=9) (b:=false) rfl (bf c9)<|s_on rfl<|s_mov (.lst 3 (b_2.map encGAtom)) rfl<|s_on rfl<|s_dof (o_len (enc:=encGAtom) rfl) fun hl10 => s_on rfl<|s_q (.bool (decide ((b_2.length:Int) > 4096))) rfl rfl rfl<|s_q (.bool (decide ((b_2.length:Int) > 4096))) rfl trivial rfl<|s_mov (.bool (decide ((b_2.length:Int) > 4096))) rfl<|w_done<|?_;obtain rfl:=os hb1;exact ⟨[],[],_,_,rfl,rfl,⟨.refl _,⟨.refl _,⟨.refl _,trivial⟩⟩⟩,(.refl _)⟩
 ·rcases oi hf with ⟨c11,hf⟩ | ⟨c11,hf⟩
  ·refine w_condt rfl c11<|sr<|s_mov (.int .i64 2) rfl<|dk<|w_ret<|?_;obtain rfl:=os hf;exact r_flat ⟨trivial,trivial⟩ rfl (.refl _)
  ·refine w_condf rfl (bf c11)<|awp_seq<|?_
   obtain ⟨s14_17,hb1,hf⟩:=ob hf
   refine awp_cut ([(0,(.lst 3 (a_1.map encGAtom))),(1,(.lst 3 (b_2.map encGAtom))),(14,(.bool s14_17))],[]) ?_ ?_
   ·refine w_reg ?_
    obtain ⟨r_19,er20,hb1⟩:=ob hb1
    rcases oi hb1 with ⟨c21,hb1⟩ | ⟨c21,hb1⟩
    ·refine s_mov (.lst 3 (a_1.map encGAtom)) rfl<|s_do (o_call (w_spec_DatumOK _ _ er20) rfl (.refl _) rfl)<|s_q (.bool (!r_19)) rfl trivial rfl<|s_mov (.bool (!r_19)) rfl<|s_lit (s:=18) (b:=true) rfl c21<|s_off rfl rfl<|s_off rfl rfl<|s_off rfl rfl<|s_q (.bool true) rfl trivial rfl<|s_mov (.bool true) rfl<|w_done<|?_;obtain rfl:=os hb1;exact ⟨[],[],_,_,rfl,rfl,⟨.refl _,⟨.refl _,⟨.refl _,trivial⟩⟩⟩,(.refl _)⟩
    ·obtain ⟨r_22,er23,hb1⟩:=ob hb1
     refine s_mov (.lst 3 (a_1.map encGAtom)) rfl<|s_do (o_call (w_spec_DatumOK _ _ er20) rfl (.refl _) rfl)<|s_q (.bool (!r_19)) rfl trivial rfl<|s_mov (.bool (!r_19)) rfl<|s_lit (s:=18) (b:=false) rfl (bf c21)<|s_on rfl<|s_mov (.lst 3 (b_2.map encGAtom)) rfl<|s_on rfl<|s_do (o_call (w_spec_DatumOK _ _ er23) rfl (.refl _) rfl)<|s_on rfl<|s_q (.bool (!r_22)) rfl trivial rfl<|s_q (.bool (!r_22)) rfl trivial rfl<|s_mov (.bool (!r_22)) rfl<|w_done<|?_;obtain rfl:=os hb1;exact ⟨[],[],_,_,rfl,rfl,⟨.refl _,⟨.refl _,⟨.refl _,trivial⟩⟩⟩,(.refl _)⟩
   ·rcases oi hf with ⟨c24,hf⟩ | ⟨c24,hf⟩
    ·refine w_condt rfl c24<|sr<|s_mov (.int .i64 1) rfl<|dk<|w_ret<|?_;obtain rfl:=os hf;exact r_flat ⟨trivial,trivial⟩ rfl (.refl _)
    ·refine w_condf rfl (bf c24)<|awp_seq<|?_
     obtain ⟨s23_32,hb1,hf⟩:=ob hf
     refine awp_cut ([(23,(.bool s23_32))],[]) ?_ ?_
     ·refine w_reg<|s_mov (.lst 3 (a_1.map encGAtom)) rfl<|s_dof (o_len (enc:=encGAtom) rfl) fun hl34 => s_q (.bool (decide ((a_1.length:Int) > 0))) rfl rfl rfl<|s_mov (.bool (decide ((a_1.length:Int) > 0))) rfl<|?_;refine s_g (v:=(decide ((a_1.length:Int) > 0))) (.lst 3 (b_2.map encGAtom)) rfl (fun hv => by (try simp only [gs_on hv]);exact ⟨rfl,trivial,rfl⟩) ?_;refine s_g (v:=(decide ((a_1.length:Int) > 0))) (.int .i64 (b_2.length:Int)) rfl (fun hv => by (try simp only [gs_on hv]);exact ⟨rfl,trivial,lenV _ _⟩) ?_;refine s_g (v:=(decide ((a_1.length:Int) > 0))) (.bool (decide ((b_2.length:Int) > 0))) rfl (fun hv => by (try simp only [gs_on hv]);exact ⟨rfl,rfl,rfl⟩) ?_;refine s_pick (x:=(decide ((b_2.length:Int) > 0))) (y:=false) rfl (fun hv => by (try simp only [gs_on hv]);rfl) (fun hv => by (try simp only [gs_on hv]);rfl) ?_
      refine s_mov (.bool (bif (decide ((a_1.length:Int) > 0)) then (decide ((b_2.length:Int) > 0)) else false)) rfl ?_
      rcases oi hb1 with ⟨c36,hb1⟩ | ⟨c36,hb1⟩
      ·refine s_lit (s:=32) (b:=true) rfl c36<|s_on rfl<|s_mov (.lst 3 (a_1.map encGAtom)) rfl<|s_on rfl<|?_
       obtain ⟨x_37,ex38,hb1⟩:=ob hb1
       refine s_do (o_iaddr (enc:=encGAtom) rfl rfl (idx0 ex38) (idx1 ex38))<|s_on rfl<|s_q (.iptr (encGAtom x_37) 0) rfl trivial rfl<|s_on rfl<|s_q (.int .i64 x_37.Kind) rfl nle rfl<|s_on rfl<|s_mov (.lst 3 (b_2.map encGAtom)) rfl<|s_on rfl<|?_
       obtain ⟨x_39,ex40,hb1⟩:=ob hb1
       refine s_do (o_iaddr (enc:=encGAtom) rfl rfl (idx0 ex40) (idx1 ex40))<|s_on rfl<|s_q (.iptr (encGAtom x_39) 0) rfl trivial rfl<|s_on rfl<|s_q (.int .i64 x_39.Kind) rfl nle rfl<|s_on rfl<|s_q (.bool (x_37.Kind != x_39.Kind)) rfl rfl rfl<|s_q (.bool (x_37.Kind != x_39.Kind)) rfl trivial rfl<|s_mov (.bool (x_37.Kind != x_39.Kind)) rfl<|w_done<|?_;obtain rfl:=os hb1;exact ⟨[],[],_,_,rfl,rfl,⟨.refl _,trivial⟩,(.refl _)⟩
      ·refine s_lit (s:=32) (b:=false) rfl (bf c36)<|s_off rfl rfl<|s_off rfl rfl<|s_off rfl rfl<|s_off rfl rfl<|s_off rfl rfl<|s_off rfl rfl<|s_off rfl rfl<|s_off rfl rfl<|s_off rfl rfl<|s_q (.bool false) rfl trivial rfl<|s_mov (.bool false) rfl<|w_done<|?_;obtain rfl:=os hb1;exact ⟨[],[],_,_,rfl,rfl,⟨.refl _,trivial⟩,(.refl _)⟩
     ·rcases oi hf with ⟨c41,hf⟩ | ⟨c41,hf⟩
      ·refine w_condt rfl c41<|sr<|s_mov (.int .i64 9) rfl<|dk<|w_ret<|?_;obtain rfl:=os hf;exact r_flat ⟨trivial,trivial⟩ rfl (.refl _)
      ·refine w_condf rfl (bf c41)<|w_skip<|k_blk<|k_seq<|sr<|s_mov (.int .i64 0) rfl<|dk<|w_ret<|?_;obtain rfl:=os hf;exact r_flat ⟨trivial,trivial⟩ rfl (.refl _)

/- spec.l03Join -/
def c57:ACode :=
 (.seq (.reg (tm 4 (.c .nil) .done))
 (.seq (.reg (tq 7 (.bslice 3 []) (tm 8 (.t 0) (tq 9 (.append 3 32 (.t 7) (.t 8)) (tm 5 (.t 9) .done)))))
 (.seq (.seq (.reg (tm 6 (.c (.int .i64 0)) .done))
 (.block 0 (.loop (.seq (.seq (.reg (tm 10 (.t 6) (tm 11 (.t 1) (tq 12 (.len (.t 11)) (tq 13 (.bin .lss (.t 10) (.t 12)) .done)))))
 (.cond (.t 13) .skip
 (.exit 0)))
 (.seq (.block 1 (.reg (tm 16 (.t 5) (tm 17 (.t 1) (tm 18 (.t 6) (tq 19 (.iaddr 3 (.t 17) (.t 18)) (tq 20 (.load 3 true (.t 19)) (tq 21 (.call 93 [(.t 16),(.t 20)]) (tm 5 (.t 21) .done)))))))))
 (.reg (tm 14 (.t 6) (tq 15 (.bin .add (.t 14) (.c (.int .i64 1))) (tm 6 (.t 15) .done)))))))))
 (.cut (.seq (.reg (tm 22 (.t 5) (tm 4 (.t 22) .done)))
 .ret)))))
theorem fc57:fcomp Try.prog Try.f57 = some (c57.erase,[.mov (.t 4)],23):=by kernel_rfl
def spec_l03Join_L1 :List GAtom → (List GAtom) → Option (List GAtom)
  | [],out_19 =>
    some out_19
  | x_35 :: xs,out_19 =>
    (spec_l03Put_h0 out_19 x_35).bind fun r_38 =>
    spec_l03Join_L1 xs  r_38

def spec_l03Join (a_1:(List GAtom)) (b_2:(List GAtom)):Option (List GAtom) :=
    if ([] ++ a_1).length ≤ 2 ^ 30 then
    (spec_l03Join_L1 b_2 ([] ++ a_1)).bind fun out_27 =>
    some out_27
    else none
theorem w_spec_l03Join (a_1:(List GAtom)) (b_2:(List GAtom)) (r:(List GAtom)) (hf:spec_l03Join a_1 b_2 = some r):CallOK Try.prog 57 .fresh [(.lst 3 (a_1.map encGAtom)),(.lst 3 (b_2.map encGAtom))] (.lst 3 (r.map encGAtom)):=by
 refine CallOK.of_awp mixed Try.func57 fc57 nle ?_;rw [argT_eq];unfold spec_l03Join at hf;unfold c57;refine (show awp Try.prog true 0 _ (ofL [(0,(.lst 3 (a_1.map encGAtom))),(1,(.lst 3 (b_2.map encGAtom)))]) [] _ from ?_);refine sr<|s_mov .nil rfl<|dk<|sr<|?_
 obtain ⟨g3,hf⟩:=og hf
 refine s_do (o_bslice (j:=0) (as':=[]) rfl (fun _ => by decide) trivial (.refl _) rfl rfl rfl) ?_;refine s_mov (.lst 3 (a_1.map encGAtom)) rfl ?_
 refine s_do (o_appendd (j:=1) (L:=(([] ++ a_1).map encGAtom)) (len:=([] ++ a_1).length) rfl false rfl rfl (fun _ => flm (fun _ => rfl) _) (fun _ _ _ => flm (fun _ => rfl) _) (by decide) ((by simp)) (by simp <;> omega) g3 rfl rfl) ?_
 refine s_mov (.own 1 0 (([] ++ a_1).length)) rfl<|dk<|awp_seq<|sr<|s_mov (.int .i64 0) rfl<|dk<|?_
 obtain ⟨out_27,hb1,hf⟩:=ob hf
 refine awp_cut ([(5,(.own 0 0 out_27.length))],[.row 3 (out_27.map encGAtom)]) ?_ ?_
 ·refine awp_loop (X:={q:(Nat × (List GAtom)) // spec_l03Join_L1 (b_2.drop q.1) q.2 = some out_27}) (fun q => ([(1,(.lst 3 (b_2.map encGAtom))),(5,(.own 0 0 q.1.2.length)),(6,(.int .i64 (q.1.1:Int)))],[.row 3 (q.1.2.map encGAtom)])) (fun q => b_2.length - q.1.1) ⟨(0,[] ++ a_1),hb1⟩ ⟨[],[1],_,_,rfl,rfl,⟨.refl _,⟨.refl _,⟨.refl _,trivial⟩⟩⟩,(.refl _)⟩ ?_
  rintro ⟨⟨i_18,out_19⟩,hc1⟩
  have hc1:spec_l03Join_L1 (b_2.drop i_18) out_19 = some out_27:=hc1
  refine (show awp Try.prog true 0 _ (ofL [(1,(.lst 3 (b_2.map encGAtom))),(5,(.own 0 0 out_19.length)),(6,(.int .i64 (i_18:Int)))]) [.row 3 (out_19.map encGAtom)] _ from ?_)
  rcases dropc b_2 i_18 with ⟨hie31,hd34⟩ | ⟨hlt29,x_35,hx30,hd34⟩
  ·rw [hd34,spec_l03Join_L1.eq_1] at hc1
   have hq33:=dlf hie31
   refine awp_seq<|sr<|s_mov (.int .i64 (i_18:Int)) rfl<|s_mov (.lst 3 (b_2.map encGAtom)) rfl<|s_dof (o_len (enc:=encGAtom) rfl) fun hl36 => s_q (.bool (decide ((i_18:Int) < (b_2.length:Int)))) rfl rfl rfl<|dk<|w_condf rfl hq33<|w_exit<|k_seqx<|k_loopx<|k_blkx<|?_;obtain rfl:=os hc1;exact ⟨[],[0],_,_,rfl,rfl,⟨.refl _,trivial⟩,(.refl _)⟩
  ·rw [hd34,spec_l03Join_L1.eq_2] at hc1
   have hq33:=dlt hlt29
   refine awp_seq<|sr<|s_mov (.int .i64 (i_18:Int)) rfl<|s_mov (.lst 3 (b_2.map encGAtom)) rfl<|s_dof (o_len (enc:=encGAtom) rfl) fun hl37 => s_q (.bool (decide ((i_18:Int) < (b_2.length:Int)))) rfl rfl rfl<|dk<|w_condt rfl hq33<|w_skip<|k_seq<|awp_seq<|w_blk<|w_reg<|?_
   obtain ⟨r_38,er39,hc1⟩:=ob hc1
   refine s_mov (.own 0 0 out_19.length) rfl<|s_mov (.lst 3 (b_2.map encGAtom)) rfl<|s_mov (.int .i64 (i_18:Int)) rfl<|s_do (o_iaddrn (enc:=encGAtom) rfl rfl hx30)<|s_q (encGAtom x_35) rfl nle rfl<|?_;refine s_do (o_callh (v:=(.own 1 0 r_38.length)) (h2:=[.dead,.row 3 (r_38.map encGAtom)]) [] [0] (fun _ => rfl) (w_spec_l03Put_h0 _ _ _ er39) rfl (.refl _) (.refl _) rfl rfl) ?_;refine s_mov (.own 1 0 r_38.length) rfl<|w_done<|k_blk<|k_seq<|w_reg<|s_mov (.int .i64 (i_18:Int)) rfl<|s_q (.int .i64 (w64 ((i_18:Int) + 1))) rfl rfl rfl<|s_mov (.int .i64 (w64 ((i_18:Int) + 1))) rfl<|w_done<|?_;exact k_loopn ⟨((i_18 + 1),r_38),hc1⟩ (mul hlt29) ⟨[],[1],_,_,rfl,rfl,⟨.refl _,⟨.refl _,⟨.of_eq (congrArg (AV.int _) (w64_incr hlt29 hl37)),trivial⟩⟩⟩,(.refl _)⟩
 ·refine sr<|s_mov (.own 0 0 out_27.length) rfl<|s_mov (.own 0 0 out_27.length) rfl<|dk<|w_ret<|?_;obtain rfl:=os hf;exact r_fresh ⟨trivial,trivial⟩ rfl (by decide) (.of_eq (congrArg (AV.lst _) (tk (enc:=encGAtom) out_27)))

/- spec.DatumJoin -/
def c24:ACode :=
 (.seq (.reg (tm 4 (.c .nil) (tm 5 (.c (.int .i64 0)) .done)))
 (.seq (.seq (.reg (tm 8 (.t 0) (tq 9 (.len (.t 8)) (tq 10 (.bin .gtr (.t 9) (.c (.int .i64 4096))) (tm 11 (.t 10) (tg 12 11 false (.mov (.t 1)) (tg 13 11 false (.len (.t 12)) (tg 14 11 false (.bin .gtr (.t 13) (.c (.int .i64 4096))) (tq 15 (.pick (.t 11) (.c (.bool true)) (.t 14)) .done)))))))))
 (.cut (.cond (.t 15) (.seq (.reg (tq 16 (.bslice 3 []) (tm 4 (.t 16) (tm 5 (.c (.int .i64 2)) .done))))
 .ret)
 .skip)))
 (.seq (.seq (.reg (tm 17 (.t 0) (tm 18 (.t 1) (tq 19 (.call 56 [(.t 17),(.t 18)]) (tm 6 (.t 19) .done)))))
 (.seq (.reg (tm 20 (.t 6) (tq 21 (.bin .neq (.t 20) (.c (.int .i64 0))) .done)))
 (.cond (.t 21) (.seq (.reg (tq 22 (.bslice 3 []) (tm 23 (.t 6) (tm 4 (.t 22) (tm 5 (.t 23) .done)))))
 .ret)
 .skip)))
 (.seq (.reg (tm 24 (.t 0) (tm 25 (.t 1) (tq 26 (.call 57 [(.t 24),(.t 25)]) (tm 7 (.t 26) .done)))))
 (.seq (.seq (.reg (tm 27 (.t 7) (tq 28 (.len (.t 27)) (tq 29 (.bin .gtr (.t 28) (.c (.int .i64 8))) .done))))
 (.cond (.t 29) (.seq (.reg (tq 30 (.bslice 3 []) (tm 4 (.t 30) (tm 5 (.c (.int .i64 6)) .done))))
 .ret)
 .skip))
 (.seq (.reg (tm 31 (.t 7) (tm 4 (.t 31) (tm 5 (.c (.int .i64 0)) .done))))
 .ret))))))
theorem fc24:fcomp Try.prog Try.f24 = some (c24.erase,[.mov (.t 4),.mov (.t 5)],32):=by kernel_rfl
def spec_DatumJoin (a_1:(List GAtom)) (b_2:(List GAtom)):Option ((List GAtom) × Int) :=
    ((if (decide ((a_1.length:Int) > 4096)) then
    some true
    else
    some (decide ((b_2.length:Int) > 4096)):Option Bool)).bind fun s15_6 =>
    if s15_6 then
    some ([],2)
    else
    (spec_l03Two a_1 b_2).bind fun r_12 =>
    if (r_12 != 0) then
    some ([],r_12)
    else
    (spec_l03Join a_1 b_2).bind fun r_15 =>
    if (decide ((r_15.length:Int) > 8)) then
    some ([],6)
    else
    some (r_15,0)
theorem w_spec_DatumJoin (a_1:(List GAtom)) (b_2:(List GAtom)) (r:((List GAtom) × Int)) (hf:spec_DatumJoin a_1 b_2 = some r):CallOK Try.prog 24 .fresh [(.lst 3 (a_1.map encGAtom)),(.lst 3 (b_2.map encGAtom))] (.tup [(.lst 3 (r.1.map encGAtom)),(.int .i64 r.2)]):=by
 refine CallOK.of_awp mixed Try.func24 fc24 nle ?_;rw [argT_eq];unfold spec_DatumJoin at hf;unfold c24;refine (show awp Try.prog true 0 _ (ofL [(0,(.lst 3 (a_1.map encGAtom))),(1,(.lst 3 (b_2.map encGAtom)))]) [] _ from ?_);refine sr<|s_mov .nil rfl<|s_mov (.int .i64 0) rfl<|dk<|awp_seq<|awp_seq<|?_
 obtain ⟨s15_6,hb1,hf⟩:=ob hf
 refine awp_cut ([(0,(.lst 3 (a_1.map encGAtom))),(1,(.lst 3 (b_2.map encGAtom))),(15,(.bool s15_6))],[]) ?_ ?_
 ·refine w_reg ?_
  rcases oi hb1 with ⟨c9,hb1⟩ | ⟨c9,hb1⟩
  ·refine s_mov (.lst 3 (a_1.map encGAtom)) rfl<|s_dof (o_len (enc:=encGAtom) rfl) fun hl8 => s_q (.bool (decide ((a_1.length:Int) > 4096))) rfl rfl rfl<|s_mov (.bool (decide ((a_1.length:Int) > 4096))) rfl<|s_lit (s:=11) (b:=true) rfl c9<|s_off rfl rfl<|s_off rfl rfl<|s_off rfl rfl<|s_q (.bool true) rfl trivial rfl<|w_done<|?_;obtain rfl:=os hb1;exact ⟨[],[],_,_,rfl,rfl,⟨.refl _,⟨.refl _,⟨.refl _,trivial⟩⟩⟩,(.refl _)⟩
  ·refine s_mov (.lst 3 (a_1.map encGAtom)) rfl<|s_dof (o_len (enc:=encGAtom) rfl) fun hl8 => s_q (.bool (decide ((a_1.length:Int) > 4096))) rfl rfl rfl<|s_mov (.bool (decide ((a_1.length:Int) > 4096))) rfl<|s_lit (s:=11) (b:=false) rfl (bf c9)<|s_on rfl<|s_mov (.lst 3 (b_2.map encGAtom)) rfl<|s_on rfl<|s_dof (o_len (enc:=encGAtom) rfl) fun hl10 => s_on rfl<|s_q (.bool (decide ((b_2.length:Int) > 4096))) rfl rfl rfl<|s_q (.bool (decide ((b_2.length:Int) > 4096))) rfl trivial rfl<|w_done<|?_;obtain rfl:=os hb1;exact ⟨[],[],_,_,rfl,rfl,⟨.refl _,⟨.refl _,⟨.refl _,trivial⟩⟩⟩,(.refl _)⟩
 ·rcases oi hf with ⟨c11,hf⟩ | ⟨c11,hf⟩
  ·refine w_condt rfl c11<|sr<|?_;refine s_do (o_bslice (j:=0) (as':=[]) rfl (fun _ => by decide) trivial (.refl _) rfl rfl rfl) ?_;refine s_mov (.own 0 0 0) rfl<|s_mov (.int .i64 2) rfl<|dk<|w_ret<|?_;obtain rfl:=os hf;exact r_fresh ⟨trivial,⟨trivial,trivial⟩⟩ rfl (by decide) (.refl _)
  ·refine w_condf rfl (bf c11)<|w_skip<|k_seq<|awp_seq<|sr<|?_
   obtain ⟨r_12,er13,hf⟩:=ob hf
   refine s_mov (.lst 3 (a_1.map encGAtom)) rfl<|s_mov (.lst 3 (b_2.map encGAtom)) rfl<|s_do (o_call (w_spec_l03Two _ _ _ er13) rfl (.refl _) rfl)<|s_mov (.int .i64 r_12) rfl<|dk<|sr<|s_mov (.int .i64 r_12) rfl<|s_q (.bool (r_12 != 0)) rfl rfl rfl<|dk<|?_
   rcases oi hf with ⟨c14,hf⟩ | ⟨c14,hf⟩
   ·refine w_condt rfl c14<|sr<|?_;refine s_do (o_bslice (j:=0) (as':=[]) rfl (fun _ => by decide) trivial (.refl _) rfl rfl rfl) ?_;refine s_mov (.int .i64 r_12) rfl<|s_mov (.own 0 0 0) rfl<|s_mov (.int .i64 r_12) rfl<|dk<|w_ret<|?_;obtain rfl:=os hf;exact r_fresh ⟨trivial,⟨trivial,trivial⟩⟩ rfl (by decide) (.refl _)
   ·refine w_condf rfl (bf c14)<|w_skip<|k_seq<|sr<|?_
    obtain ⟨r_15,er16,hf⟩:=ob hf
    refine s_mov (.lst 3 (a_1.map encGAtom)) rfl<|s_mov (.lst 3 (b_2.map encGAtom)) rfl<|s_do (o_callf (v:=(.own 0 0 r_15.length)) (h':=[.row 3 (r_15.map encGAtom)]) (w_spec_l03Join _ _ _ er16) rfl (.refl _) (by simp only [openV,openVs,List.length_map,List.nil_append,List.append_nil,List.cons_append];rfl))<|s_mov (.own 0 0 r_15.length) rfl<|dk<|awp_seq<|sr<|s_mov (.own 0 0 r_15.length) rfl<|s_dof (o_lenown rfl rfl) fun hl17 => s_q (.bool (decide ((r_15.length:Int) > 8))) rfl rfl rfl<|dk<|?_
    rcases oi hf with ⟨c18,hf⟩ | ⟨c18,hf⟩
    ·refine w_condt rfl c18<|sr<|?_;refine s_do (o_bslice (j:=1) (as':=[]) rfl (fun _ => by decide) trivial (.refl _) rfl rfl rfl) ?_;refine s_mov (.own 1 0 0) rfl<|s_mov (.int .i64 6) rfl<|dk<|w_ret<|?_;obtain rfl:=os hf;exact r_fresh ⟨trivial,⟨trivial,trivial⟩⟩ rfl (by decide) (.refl _)
    ·refine w_condf rfl (bf c18)<|w_skip<|k_seq<|sr<|s_mov (.own 0 0 r_15.length) rfl<|s_mov (.own 0 0 r_15.length) rfl<|s_mov (.int .i64 0) rfl<|dk<|w_ret<|?_;obtain rfl:=os hf;exact r_fresh ⟨trivial,⟨trivial,trivial⟩⟩ rfl (by decide) (.tup (.cons (.of_eq (congrArg (AV.lst _) (tk (enc:=encGAtom) r_15))) (.cons (.refl _) .nil)))

/- slices.IndexFunc[[]impl.Atom,impl.Atom] -/
def c117:ACode :=
 (.seq (.reg (tm 4 (.c (.int .i64 0)) .done))
 (.seq (.seq (.reg (tm 6 (.t 0) (tq 7 (.len (.t 6)) (tm 8 (.c (.int .i64 0)) .done))))
 (.block 0 (.loop (.seq (.reg (tq 9 (.bin .lss (.t 8) (.t 7)) .done))
 (.seq (.cond (.t 9) .skip
 (.exit 0))
 (.seq (.block 1 (.seq (.reg (tm 10 (.t 8) (tm 5 (.t 10) .done)))
 (.seq (.reg (tm 11 (.t 1) (tm 12 (.t 0) (tm 13 (.t 5) (tq 14 (.iaddr 3 (.t 12) (.t 13)) (tq 15 (.load 3 true (.t 14)) (tq 16 (.calv (.t 11) [(.t 15)]) .done)))))))
 (.cond (.t 16) (.seq (.reg (tm 17 (.t 5) (tm 4 (.t 17) .done)))
 .ret)
 .skip))))
 (.reg (tq 18 (.bin .add (.t 8) (.c (.int .i64 1))) (tm 8 (.t 18) .done)))))))))
 (.cut (.seq (.reg (tq 4 (.mov (.c (.int .i64 (-1)))) .done))
 .ret))))
theorem fc117:fcomp Try.prog Try.f117 = some (c117.erase,[.mov (.t 4)],19):=by kernel_rfl
def slices_IndexFunc_impl_Atom_impl_Atom_L1 (f_2:(GAtom → Option Bool)):List GAtom → Nat → Option (Fl Int Unit)
  | [],s8_17 =>
    some (.go ())
  | x_31 :: xs,s8_17 =>
    (f_2 x_31).bind fun r_32 =>
    if r_32 then
    some (.ret (s8_17:Int))
    else
    slices_IndexFunc_impl_Atom_impl_Atom_L1 f_2 xs (s8_17 + 1)

def slices_IndexFunc_impl_Atom_impl_Atom (s_1:(List GAtom)) (f_2:(GAtom → Option Bool)):Option Int :=
    (slices_IndexFunc_impl_Atom_impl_Atom_L1 f_2 s_1 0).bind fun q => (match q with
    | .ret r => some r
    | .go _ =>
    some (-1))
theorem w_slices_IndexFunc_impl_Atom_impl_Atom (s_1:(List GAtom)) (f_2:(GAtom → Option Bool)) (r:Int) (hf:slices_IndexFunc_impl_Atom_impl_Atom s_1 f_2 = some r) (kf_f_2:Nat) (cf_f_2:List AV) (okf_f_2:okFn Try.prog kf_f_2 = true) (hcf_f_2:∀ h p,closeWs h p cf_f_2 = some cf_f_2) (hrf_f_2:∀ f,rens f cf_f_2 = cf_f_2) (hpf_f_2:∀ a0 r,f_2 a0 = some r → CallOK Try.prog kf_f_2 .flat ([(encGAtom a0)] ++ cf_f_2) (.bool r)):CallOK Try.prog 117 .flat [(.lst 3 (s_1.map encGAtom)),(.fn kf_f_2 cf_f_2)] (.int .i64 r):=by
 refine CallOK.of_awp mixed Try.func117 fc117 nle ?_;rw [argT_eq];unfold slices_IndexFunc_impl_Atom_impl_Atom at hf;unfold c117;refine (show awp Try.prog false 0 _ (ofL [(0,(.lst 3 (s_1.map encGAtom))),(1,(.fn kf_f_2 cf_f_2))]) [] _ from ?_);refine sr<|s_mov (.int .i64 0) rfl<|dk<|awp_seq<|sr<|s_mov (.lst 3 (s_1.map encGAtom)) rfl<|s_dof (o_len (enc:=encGAtom) rfl) fun hl3 => s_mov (.int .i64 0) rfl<|dk<|?_
 obtain ⟨p24,hb1,hf⟩:=ob hf
 refine awp_cutx (X:={q:Unit // p24 = .go q}) (fun q => ([],[])) ?_ ?_
 ·refine awp_loop (X:={q:Nat // slices_IndexFunc_impl_Atom_impl_Atom_L1 f_2 (s_1.drop q) q = some p24}) (fun q => ([(0,(.lst 3 (s_1.map encGAtom))),(1,(.fn kf_f_2 cf_f_2)),(7,(.int .i64 (s_1.length:Int))),(8,(.int .i64 (q.1:Int)))],[])) (fun q => s_1.length - q.1) ⟨0,hb1⟩ ⟨[],[],_,_,rfl,rfl,⟨.refl _,⟨.of_eq (congrArg (AV.fn _) (hrf_f_2 _)),⟨.refl _,⟨.refl _,trivial⟩⟩⟩⟩,(.refl _)⟩ ?_
  rintro ⟨s8_17,hc1⟩
  have hc1:slices_IndexFunc_impl_Atom_impl_Atom_L1 f_2 (s_1.drop s8_17) s8_17 = some p24:=hc1
  refine (show awp Try.prog false 0 _ (ofL [(0,(.lst 3 (s_1.map encGAtom))),(1,(.fn kf_f_2 cf_f_2)),(7,(.int .i64 (s_1.length:Int))),(8,(.int .i64 (s8_17:Int)))]) [] _ from ?_)
  rcases dropc s_1 s8_17 with ⟨hie27,hd30⟩ | ⟨hlt25,x_31,hx26,hd30⟩
  ·rw [hd30,slices_IndexFunc_impl_Atom_impl_Atom_L1.eq_1] at hc1
   have hq29:=dlf hie27
   refine sr<|s_q (.bool (decide ((s8_17:Int) < (s_1.length:Int)))) rfl rfl rfl<|dk<|awp_seq<|w_condf rfl hq29<|w_exit<|k_seqx<|k_loopx<|k_blkx<|?_;obtain rfl:=os hc1;exact k_cutn ⟨_,rfl⟩ ⟨[],[],_,_,rfl,rfl,trivial,(.refl _)⟩
  ·rw [hd30,slices_IndexFunc_impl_Atom_impl_Atom_L1.eq_2] at hc1
   have hq29:=dlt hlt25
   refine sr<|s_q (.bool (decide ((s8_17:Int) < (s_1.length:Int)))) rfl rfl rfl<|dk<|awp_seq<|w_condt rfl hq29<|w_skip<|k_seq<|awp_seq<|w_blk<|sr<|s_mov (.int .i64 (s8_17:Int)) rfl<|s_mov (.int .i64 (s8_17:Int)) rfl<|dk<|sr<|?_
   obtain ⟨r_32,er33,hc1⟩:=ob hc1
   refine s_mov (.fn kf_f_2 cf_f_2) rfl<|s_mov (.lst 3 (s_1.map encGAtom)) rfl<|s_mov (.int .i64 (s8_17:Int)) rfl<|s_do (o_iaddrn (enc:=encGAtom) rfl rfl hx26)<|s_q (encGAtom x_31) rfl nle rfl<|s_do (o_calvp (v:=(.bool r_32)) rfl okf_f_2 hcf_f_2 (hpf_f_2 _ _ er33) rfl (.refl _) rfl)<|dk<|?_
   rcases oi hc1 with ⟨c34,hc1⟩ | ⟨c34,hc1⟩
   ·refine w_condt rfl c34<|sr<|s_mov (.int .i64 (s8_17:Int)) rfl<|s_mov (.int .i64 (s8_17:Int)) rfl<|dk<|w_ret<|?_;obtain rfl:=os hc1;obtain rfl:=os hf;exact r_flat ⟨trivial,trivial⟩ rfl (.refl _)
   ·refine w_condf rfl (bf c34)<|w_skip<|k_blk<|k_seq<|w_reg<|s_q (.int .i64 (w64 ((s8_17:Int) + 1))) rfl rfl rfl<|s_mov (.int .i64 (w64 ((s8_17:Int) + 1))) rfl<|w_done<|?_;exact k_loopn ⟨(s8_17 + 1),hc1⟩ (mul hlt25) ⟨[],[],_,_,rfl,rfl,⟨.refl _,⟨.of_eq (congrArg (AV.fn _) (hrf_f_2 _)),⟨.refl _,⟨.of_eq (congrArg (AV.int _) (w64_incr hlt25 hl3)),trivial⟩⟩⟩⟩,(.refl _)⟩
 ·rintro ⟨_,rfl⟩
  refine sr<|s_mov (.int .i64 (-1)) rfl<|dk<|w_ret<|?_;obtain rfl:=os hf;exact r_flat ⟨trivial,trivial⟩ rfl (.refl _)

/- slices.Index[[]impl.Atom,impl.Atom] -/
def c73:ACode :=
 (.seq (.reg (tq 3 (.box 3 (.t 1)) (tm 4 (.c (.int .i64 0)) .done)))
 (.seq (.seq (.reg (tm 6 (.t 0) (tq 7 (.len (.t 6)) (tm 8 (.c (.int .i64 0)) .done))))
 (.block 0 (.loop (.seq (.reg (tq 9 (.bin .lss (.t 8) (.t 7)) .done))
 (.seq (.cond (.t 9) .skip
 (.exit 0))
 (.seq (.block 1 (.seq (.reg (tm 10 (.t 8) (tm 5 (.t 10) .done)))
 (.seq (.reg (tq 11 (.load 3 true (.t 3)) (tm 12 (.t 0) (tm 13 (.t 5) (tq 14 (.iaddr 3 (.t 12) (.t 13)) (tq 15 (.load 3 true (.t 14)) (tq 16 (.eqs false [0,0,2] (.t 11) (.t 15)) .done)))))))
 (.cond (.t 16) (.seq (.reg (tm 17 (.t 5) (tm 4 (.t 17) .done)))
 .ret)
 .skip))))
 (.reg (tq 18 (.bin .add (.t 8) (.c (.int .i64 1))) (tm 8 (.t 18) .done)))))))))
 (.cut (.seq (.reg (tq 4 (.mov (.c (.int .i64 (-1)))) .done))
 .ret))))
theorem fc73:fcomp Try.prog Try.f73 = some (c73.erase,[.mov (.t 4)],19):=by kernel_rfl
def slices_Index_impl_Atom_impl_Atom_L1 (v_2:GAtom):List GAtom → Nat → Option (Fl Int Unit)
  | [],s8_13 =>
    some (.go ())
  | x_25 :: xs,s8_13 =>
    if (v_2.Kind == x_25.Kind && (v_2.N == x_25.N && (v_2.T == x_25.T && true))) then
    some (.ret (s8_13:Int))
    else
    slices_Index_impl_Atom_impl_Atom_L1 v_2 xs (s8_13 + 1)

def slices_Index_impl_Atom_impl_Atom (s_1:(List GAtom)) (v_2:GAtom):Option Int :=
    (slices_Index_impl_Atom_impl_Atom_L1 v_2 s_1 0).bind fun q => (match q with
    | .ret r => some r
    | .go _ =>
    some (-1))
theorem w_slices_Index_impl_Atom_impl_Atom (s_1:(List GAtom)) (v_2:GAtom) (r:Int) (hf:slices_Index_impl_Atom_impl_Atom s_1 v_2 = some r):CallOK Try.prog 73 .flat [(.lst 3 (s_1.map encGAtom)),(encGAtom v_2)] (.int .i64 r):=by
 refine CallOK.of_awp mixed Try.func73 fc73 nle ?_;rw [argT_eq];unfold slices_Index_impl_Atom_impl_Atom at hf;unfold c73;refine (show awp Try.prog false 0 _ (ofL [(0,(.lst 3 (s_1.map encGAtom))),(1,(encGAtom v_2))]) [] _ from ?_);refine sr<|s_do (o_box (j:=0) (c:=(.agg [(.int .i64 v_2.Kind),(.int .i64 v_2.N),(.str v_2.T)])) rfl trivial rfl rfl)<|s_mov (.int .i64 0) rfl<|dk<|awp_seq<|sr<|s_mov (.lst 3 (s_1.map encGAtom)) rfl<|s_dof (o_len (enc:=encGAtom) rfl) fun hl3 => s_mov (.int .i64 0) rfl<|dk<|?_
 obtain ⟨p18,hb1,hf⟩:=ob hf
 refine awp_cutx (X:={q:Unit // p18 = .go q}) (fun q => ([],[])) ?_ ?_
 ·refine awp_loop (X:={q:Nat // slices_Index_impl_Atom_impl_Atom_L1 v_2 (s_1.drop q) q = some p18}) (fun q => ([(0,(.lst 3 (s_1.map encGAtom))),(3,(.ptr 0 0 0)),(7,(.int .i64 (s_1.length:Int))),(8,(.int .i64 (q.1:Int)))],[.box 3 (.agg [(.int .i64 v_2.Kind),(.int .i64 v_2.N),(.str v_2.T)])])) (fun q => s_1.length - q.1) ⟨0,hb1⟩ ⟨[],[0],_,_,rfl,rfl,⟨.refl _,⟨.refl _,⟨.refl _,⟨.refl _,trivial⟩⟩⟩⟩,(.refl _)⟩ ?_
  rintro ⟨s8_13,hc1⟩
  have hc1:slices_Index_impl_Atom_impl_Atom_L1 v_2 (s_1.drop s8_13) s8_13 = some p18:=hc1
  refine (show awp Try.prog false 0 _ (ofL [(0,(.lst 3 (s_1.map encGAtom))),(3,(.ptr 0 0 0)),(7,(.int .i64 (s_1.length:Int))),(8,(.int .i64 (s8_13:Int)))]) [.box 3 (.agg [(.int .i64 v_2.Kind),(.int .i64 v_2.N),(.str v_2.T)])] _ from ?_)
  rcases dropc s_1 s8_13 with ⟨hie21,hd24⟩ | ⟨hlt19,x_25,hx20,hd24⟩
  ·rw [hd24,slices_Index_impl_Atom_impl_Atom_L1.eq_1] at hc1
   have hq23:=dlf hie21
   refine sr<|s_q (.bool (decide ((s8_13:Int) < (s_1.length:Int)))) rfl rfl rfl<|dk<|awp_seq<|w_condf rfl hq23<|w_exit<|k_seqx<|k_loopx<|k_blkx<|?_;obtain rfl:=os hc1;exact k_cutn ⟨_,rfl⟩ ⟨[],[],_,_,rfl,rfl,trivial,(.refl _)⟩
  ·rw [hd24,slices_Index_impl_Atom_impl_Atom_L1.eq_2] at hc1
   have hq23:=dlt hlt19
   refine sr<|s_q (.bool (decide ((s8_13:Int) < (s_1.length:Int)))) rfl rfl rfl<|dk<|awp_seq<|w_condt rfl hq23<|w_skip<|k_seq<|awp_seq<|w_blk<|sr<|s_mov (.int .i64 (s8_13:Int)) rfl<|s_mov (.int .i64 (s8_13:Int)) rfl<|dk<|sr<|s_q (.agg [(.int .i64 v_2.Kind),(.int .i64 v_2.N),(.str v_2.T)]) rfl nle rfl<|s_mov (.lst 3 (s_1.map encGAtom)) rfl<|s_mov (.int .i64 (s8_13:Int)) rfl<|s_do (o_iaddrn (enc:=encGAtom) rfl rfl hx20)<|s_q (encGAtom x_25) rfl nle rfl<|s_q (.bool (v_2.Kind == x_25.Kind && (v_2.N == x_25.N && (v_2.T == x_25.T && true)))) rfl ⟨⟨rfl,rfl⟩,⟨⟨rfl,rfl⟩,⟨rfl,trivial⟩⟩⟩ rfl<|?_
   refine dk<|?_
   rcases oi hc1 with ⟨c26,hc1⟩ | ⟨c26,hc1⟩
   ·refine w_condt rfl c26<|sr<|s_mov (.int .i64 (s8_13:Int)) rfl<|s_mov (.int .i64 (s8_13:Int)) rfl<|dk<|w_ret<|?_;obtain rfl:=os hc1;obtain rfl:=os hf;exact r_flat ⟨trivial,trivial⟩ rfl (.refl _)
   ·refine w_condf rfl (bf c26)<|w_skip<|k_blk<|k_seq<|w_reg<|s_q (.int .i64 (w64 ((s8_13:Int) + 1))) rfl rfl rfl<|s_mov (.int .i64 (w64 ((s8_13:Int) + 1))) rfl<|w_done<|?_;exact k_loopn ⟨(s8_13 + 1),hc1⟩ (mul hlt19) ⟨[],[0],_,_,rfl,rfl,⟨.refl _,⟨.refl _,⟨.refl _,⟨.of_eq (congrArg (AV.int _) (w64_incr hlt19 hl3)),trivial⟩⟩⟩⟩,(.refl _)⟩
 ·rintro ⟨_,rfl⟩
  refine sr<|s_mov (.int .i64 (-1)) rfl<|dk<|w_ret<|?_;obtain rfl:=os hf;exact r_flat ⟨trivial,trivial⟩ rfl (.refl _)

/- slices.Contains[[]impl.Atom,impl.Atom] -/
def c34:ACode :=
 (.seq (.reg (tq 3 (.box 3 (.t 1)) (tm 4 (.c (.bool false)) .done)))
 (.seq (.reg (tm 5 (.t 0) (tq 6 (.load 3 true (.t 3)) (tq 7 (.call 73 [(.t 5),(.t 6)]) (tq 8 (.bin .geq (.t 7) (.c (.int .i64 0))) (tm 4 (.t 8) .done))))))
 .ret))
theorem fc34:fcomp Try.prog Try.f34 = some (c34.erase,[.mov (.t 4)],9):=by kernel_rfl
def slices_Contains_impl_Atom_impl_Atom (s_1:(List GAtom)) (v_2:GAtom):Option Bool :=
    (slices_Index_impl_Atom_impl_Atom s_1 v_2).bind fun r_3 =>
    some (decide (r_3 ≥ 0))
theorem w_slices_Contains_impl_Atom_impl_Atom (s_1:(List GAtom)) (v_2:GAtom) (r:Bool) (hf:slices_Contains_impl_Atom_impl_Atom s_1 v_2 = some r):CallOK Try.prog 34 .flat [(.lst 3 (s_1.map encGAtom)),(encGAtom v_2)] (.bool r):=by
  refine CallOK.of_awp mixed Try.func34 fc34 nle ?_
  rw [argT_eq]
  unfold slices_Contains_impl_Atom_impl_Atom at hf
  unfold c34
  refine (show awp Try.prog false 0 _ (ofL [(0,(.lst 3 (s_1.map encGAtom))),(1,(encGAtom v_2))]) [] _ from ?_)
  refine awp_seq ?_
  refine w_reg ?_
  refine s_do (o_box (j:=0) (c:=(.agg [(.int .i64 v_2.Kind),(.int .i64 v_2.N),(.str v_2.T)])) rfl trivial rfl rfl) ?_
  refine s_do (o_mov (.bool false) rfl) ?_
  refine w_done ?_
  refine k_seq ?_
  refine awp_seq ?_
  refine w_reg ?_
  obtain ⟨r_3,er4,hf⟩:=ob hf
  refine s_do (o_mov (.lst 3 (s_1.map encGAtom)) rfl) ?_
  refine s_do (o_q (.agg [(.int .i64 v_2.Kind),(.int .i64 v_2.N),(.str v_2.T)]) rfl nle rfl) ?_
  refine s_do (o_call (w_slices_Index_impl_Atom_impl_Atom _ _ _ er4) rfl (.refl _) rfl) ?_
  refine s_do (o_q (.bool (decide (r_3 ≥ 0))) rfl rfl rfl) ?_
  refine s_do (o_mov (.bool (decide (r_3 ≥ 0))) rfl) ?_
  refine w_done ?_
  refine k_seq ?_
  refine w_ret ?_
  obtain rfl:=os hf
  exact r_flat ⟨trivial,trivial⟩ rfl (.refl _)

/- impl.less$1 -/
def c97:ACode :=
 (.seq (.reg (tq 2 (.box 3 (.t 0)) (tm 3 (.c (.bool false)) .done)))
 (.seq (.reg (tq 4 (.load 1 false (.t 1)) (tq 5 (.load 3 true (.t 2)) (tq 6 (.call 34 [(.t 4),(.t 5)]) (tm 3 (.t 6) .done)))))
 .ret))
theorem fc97:fcomp Try.prog Try.f97 = some (c97.erase,[.mov (.t 3)],7):=by kernel_rfl
def impl_less_1 (own_1:GAtom) (cap_2:(List GAtom)):Option Bool :=
    (slices_Contains_impl_Atom_impl_Atom cap_2 own_1).bind fun r_3 =>
    some r_3
theorem w_impl_less_1 (own_1:GAtom) (cap_2:(List GAtom)) (r:Bool) (hf:impl_less_1 own_1 cap_2 = some r):CallOK Try.prog 97 .flat [(encGAtom own_1),(.iptr (.lst 3 (cap_2.map encGAtom)) 0)] (.bool r):=by
  refine CallOK.of_awp mixed Try.func97 fc97 nle ?_
  rw [argT_eq]
  unfold impl_less_1 at hf
  unfold c97
  refine (show awp Try.prog false 0 _ (ofL [(0,(encGAtom own_1)),(1,(.iptr (.lst 3 (cap_2.map encGAtom)) 0))]) [] _ from ?_)
  refine awp_seq ?_
  refine w_reg ?_
  refine s_do (o_box (j:=0) (c:=(.agg [(.int .i64 own_1.Kind),(.int .i64 own_1.N),(.str own_1.T)])) rfl trivial rfl rfl) ?_
  refine s_do (o_mov (.bool false) rfl) ?_
  refine w_done ?_
  refine k_seq ?_
  refine awp_seq ?_
  refine w_reg ?_
  obtain ⟨r_3,er4,hf⟩:=ob hf
  refine s_do (o_q (.lst 3 (cap_2.map encGAtom)) rfl ⟨rfl,rfl⟩ rfl) ?_
  refine s_do (o_q (.agg [(.int .i64 own_1.Kind),(.int .i64 own_1.N),(.str own_1.T)]) rfl nle rfl) ?_
  refine s_do (o_call (w_slices_Contains_impl_Atom_impl_Atom _ _ _ er4) rfl (.refl _) rfl) ?_
  refine s_do (o_mov (.bool r_3) rfl) ?_
  refine w_done ?_
  refine k_seq ?_
  refine w_ret ?_
  obtain rfl:=os hf
  exact r_flat ⟨trivial,trivial⟩ rfl (.refl _)

/- slices.DeleteFunc[[]impl.Atom,impl.Atom] -/
def c96_h0:ACode :=
 (.seq (.reg (tm 4 (.c .nil) .done))
 (.seq (.reg (tm 8 (.t 0) (tm 9 (.t 1) (tq 10 (.call 117 [(.t 8),(.t 9)]) (tm 5 (.t 10) .done)))))
 (.seq (.seq (.reg (tm 11 (.t 5) (tq 12 (.bin .eql (.t 11) (.c (.int .i64 (-1)))) .done)))
 (.cond (.t 12) (.seq (.reg (tm 13 (.t 0) (tm 4 (.t 13) .done)))
 .ret)
 .skip))
 (.seq (.seq (.reg (tm 14 (.t 5) (tq 15 (.bin .add (.t 14) (.c (.int .i64 1))) (tm 6 (.t 15) .done))))
 (.block 0 (.loop (.seq (.seq (.reg (tm 16 (.t 6) (tm 17 (.t 0) (tq 18 (.len (.t 17)) (tq 19 (.bin .lss (.t 16) (.t 18)) .done)))))
 (.cond (.t 19) .skip
 (.exit 0)))
 (.seq (.block 1 (.seq (.reg (tm 22 (.t 0) (tm 23 (.t 6) (tq 24 (.iaddr 3 (.t 22) (.t 23)) (tq 25 (.load 3 true (.t 24)) (tq 7 (.box 3 (.c (.agg [(.int .i64 0),(.int .i64 0),(.str [])]))) (.q ⟨none,none,.store 3 (.t 7) (.t 25)⟩
 .done)))))))
 (.seq (.reg (tm 26 (.t 1) (tq 27 (.load 3 true (.t 7)) (tq 28 (.calv (.t 26) [(.t 27)]) (tq 29 (.not (.t 28)) .done)))))
 (.cond (.t 29) (.seq (.reg (tm 30 (.t 0) (tm 31 (.t 5) (tq 32 (.load 3 true (.t 7)) (tq 33 (.iaddr 3 (.t 30) (.t 31)) (.q ⟨none,none,.store 3 (.t 33) (.t 32)⟩
 .done))))))
 (.reg (tm 34 (.t 5) (tq 35 (.bin .add (.t 34) (.c (.int .i64 1))) (tm 5 (.t 35) .done)))))
 .skip))))
 (.reg (tm 20 (.t 6) (tq 21 (.bin .add (.t 20) (.c (.int .i64 1))) (tm 6 (.t 21) .done)))))))))
 (.cut (.seq (.reg (tm 36 (.t 0) (tm 37 (.t 5) (tq 38 (.slice 3 (.t 36) (some (.t 37)) none) (.q ⟨none,none,.clr 3 (.agg [(.int .i64 0),(.int .i64 0),(.str [])]) (.t 38)⟩
 .done)))))
 (.seq (.reg (tm 39 (.t 0) (tm 40 (.t 5) (tq 41 (.slice 3 (.t 39) none (some (.t 40))) (tm 4 (.t 41) .done)))))
 .ret)))))))
theorem fc96_h0:fcomp Try.prog Try.f96 = some (c96_h0.erase,[.mov (.t 4)],42):=by kernel_rfl
def slices_DeleteFunc_impl_Atom_impl_Atom_h0_L1 (c_2:(List GAtom)):Nat → Int → Int → (List GAtom) → Option (Int × (List GAtom))
  | 0,_,_,_ => none
  | k + 1,i_71,j_72,s_73 =>
    if (decide (j_72 < (s_73.length:Int))) then
    if (0:Int) ≤ j_72 ∧ j_72 < (s_73.length:Int) then
    (s_73[(0 + j_72.toNat)]?).bind fun x_91 =>
    (impl_less_1 x_91 c_2).bind fun r_93 =>
    if (!r_93) then
    if (0:Int) ≤ i_71 ∧ i_71 < (s_73.length:Int) then
    (s_73[(0 + i_71.toNat)]?).bind fun x_97 =>
    slices_DeleteFunc_impl_Atom_impl_Atom_h0_L1 c_2 k (w64 (i_71 + 1)) (w64 (j_72 + 1)) (s_73.set (0 + i_71.toNat) x_91)
    else none
    else
    slices_DeleteFunc_impl_Atom_impl_Atom_h0_L1 c_2 k i_71 (w64 (j_72 + 1)) s_73
    else none
    else
    some (i_71,s_73)

def slices_DeleteFunc_impl_Atom_impl_Atom_h0 (s_1:(List GAtom)) (c_2:(List GAtom)):Option ((List GAtom) × (List GAtom)) :=
    (slices_IndexFunc_impl_Atom_impl_Atom s_1 (fun a0 => impl_less_1 a0 c_2)).bind fun r_3 =>
    if (r_3 == (-1)) then
    some (s_1,c_2)
    else
    (slices_DeleteFunc_impl_Atom_impl_Atom_h0_L1 c_2 FUEL r_3 (w64 (r_3 + 1)) s_1).bind fun p87 =>
    (match p87 with
    | (i_85,s_86) =>
    if (0:Int) ≤ i_85 ∧ i_85 ≤ (s_86.length:Int) then
    if (0:Int) ≤ i_85 ∧ i_85 ≤ (s_86.length:Int) then
    some ((s_86.take i_85.toNat ++ List.replicate (s_86.length - i_85.toNat) (⟨0,0,[]⟩:GAtom) ++ s_86.drop (i_85.toNat + (s_86.length - i_85.toNat))).take i_85.toNat,c_2)
    else none
    else none)
theorem w_slices_DeleteFunc_impl_Atom_impl_Atom_h0 (s_1:(List GAtom)) (c_2:(List GAtom)) (r:((List GAtom) × (List GAtom))) (hf:slices_DeleteFunc_impl_Atom_impl_Atom_h0 s_1 c_2 = some r):CallHeap Try.prog true 96 [(.own 0 0 s_1.length),(.fn 97 [(.ptr 1 0 0)])] [.row 3 (s_1.map encGAtom),.box 1 (.lst 3 (c_2.map encGAtom))] (.own 2 0 r.1.length) [.dead,.box 1 (.lst 3 (r.2.map encGAtom)),.row 3 (r.1.map encGAtom)]:=by
 refine CallHeap.of_awp mixed Try.func96 fc96_h0 nle ?_;rw [argT_eq];unfold slices_DeleteFunc_impl_Atom_impl_Atom_h0 at hf;unfold c96_h0;refine (show awp Try.prog true 2 _ (ofL [(0,(.own 0 0 s_1.length)),(1,(.fn 97 [(.ptr 1 0 0)]))]) [.row 3 (s_1.map encGAtom),.box 1 (.lst 3 (c_2.map encGAtom))] _ from ?_);refine sr<|s_mov .nil rfl<|dk<|sr<|?_
 obtain ⟨r_3,er4,hf⟩:=ob hf
 refine s_mov (.own 0 0 s_1.length) rfl<|s_mov (.fn 97 [(.ptr 1 0 0)]) rfl<|?_;refine s_do (o_call (w_slices_IndexFunc_impl_Atom_impl_Atom _ _ _ er4 97 [(.iptr (.lst 3 (c_2.map encGAtom)) 0)] (by kernel_rfl) (fun _ _ => rfl) (fun _ => rfl) (fun a0 r h => w_impl_less_1 a0 c_2 r h)) rfl (.cons (.of_eq (congrArg (AV.lst _) (tko s_1))) (.cons (.refl _) .nil)) rfl) ?_;refine s_mov (.int .i64 r_3) rfl<|dk<|awp_seq<|sr<|s_mov (.int .i64 r_3) rfl<|s_q (.bool (r_3 == (-1))) rfl rfl rfl<|dk<|?_
 rcases oi hf with ⟨c5,hf⟩ | ⟨c5,hf⟩
 ·refine w_condt rfl c5<|sr<|s_mov (.own 0 0 s_1.length) rfl<|s_mov (.own 0 0 s_1.length) rfl<|dk<|w_ret<|?_;obtain rfl:=os hf;exact r_heap [.mv 0] [0,1,2] rfl ⟨trivial,trivial⟩ rfl (.refl _) (.refl _)
 ·refine w_condf rfl (bf c5)<|w_skip<|k_seq<|awp_seq<|sr<|s_mov (.int .i64 r_3) rfl<|s_q (.int .i64 (w64 (r_3 + 1))) rfl rfl rfl<|s_mov (.int .i64 (w64 (r_3 + 1))) rfl<|dk<|?_
  obtain ⟨p87,hb1,hf⟩:=ob hf
  refine awp_cut ([(0,(.own 0 0 p87.2.length)),(5,(.int .i64 p87.1))],[.row 3 (p87.2.map encGAtom),.box 1 (.lst 3 (c_2.map encGAtom))]) ?_ ?_
  ·refine awp_loop (X:={q:(Nat × Int × Int × (List GAtom)) // slices_DeleteFunc_impl_Atom_impl_Atom_h0_L1 c_2 q.1 q.2.1 q.2.2.1 q.2.2.2 = some p87}) (fun q => ([(0,(.own 0 0 q.1.2.2.2.length)),(1,(.fn 97 [(.ptr 1 0 0)])),(5,(.int .i64 q.1.2.1)),(6,(.int .i64 q.1.2.2.1))],[.row 3 (q.1.2.2.2.map encGAtom),.box 1 (.lst 3 (c_2.map encGAtom))])) (fun q => q.1.1) ⟨(FUEL,r_3,w64 (r_3 + 1),s_1),hb1⟩ ⟨[],[0,1],_,_,rfl,rfl,⟨.refl _,⟨.refl _,⟨.refl _,⟨.refl _,trivial⟩⟩⟩⟩,(.refl _)⟩ ?_
   rintro ⟨⟨k,i_71,j_72,s_73⟩,hc1⟩
   have hc1:slices_DeleteFunc_impl_Atom_impl_Atom_h0_L1 c_2 k i_71 j_72 s_73 = some p87:=hc1
   refine (show awp Try.prog true 2 _ (ofL [(0,(.own 0 0 s_73.length)),(1,(.fn 97 [(.ptr 1 0 0)])),(5,(.int .i64 i_71)),(6,(.int .i64 j_72))]) [.row 3 (s_73.map encGAtom),.box 1 (.lst 3 (c_2.map encGAtom))] _ from ?_)
   rcases k with _ | k
   ·rw [slices_DeleteFunc_impl_Atom_impl_Atom_h0_L1.eq_1] at hc1
    cases hc1
   ·rw [slices_DeleteFunc_impl_Atom_impl_Atom_h0_L1.eq_2] at hc1;refine awp_seq<|sr<|s_mov (.int .i64 j_72) rfl<|s_mov (.own 0 0 s_73.length) rfl<|s_dof (o_lenown rfl rfl) fun hl88 => s_q (.bool (decide (j_72 < (s_73.length:Int)))) rfl rfl rfl<|dk<|?_
    rcases oi hc1 with ⟨c89,hc1⟩ | ⟨c89,hc1⟩
    ·refine w_condt rfl c89<|w_skip<|k_seq<|awp_seq<|w_blk<|sr<|?_
     obtain ⟨g90,hc1⟩:=og hc1
     obtain ⟨x_91,ex92,hc1⟩:=ob hc1
     refine s_mov (.own 0 0 s_73.length) rfl<|s_mov (.int .i64 j_72) rfl<|s_do (o_iaddrown rfl rfl g90.1 g90.2 rfl rfl)<|s_do (o_loadrow (enc:=encGAtom) (v:=(encGAtom x_91)) rfl rfl ex92 nle rfl)<|s_do (o_box (j:=2) (c:=(.agg [(.int .i64 0),(.int .i64 0),(.str [])])) rfl trivial rfl rfl)<|s_do0 (o_storebox (v:=(.agg [(.int .i64 x_91.Kind),(.int .i64 x_91.N),(.str x_91.T)])) (y':=(.agg [(.int .i64 x_91.Kind),(.int .i64 x_91.N),(.str x_91.T)])) rfl rfl rfl trivial ⟨rfl,nle⟩ ⟨⟨rfl,trivial⟩,⟨⟨rfl,trivial⟩,⟨⟨rfl,trivial⟩,trivial⟩⟩⟩ rfl)<|dk<|sr<|?_
     obtain ⟨r_93,er94,hc1⟩:=ob hc1
     refine s_mov (.fn 97 [(.ptr 1 0 0)]) rfl<|s_q (.agg [(.int .i64 x_91.Kind),(.int .i64 x_91.N),(.str x_91.T)]) rfl nle rfl<|s_do (o_calvk (v:=(.bool r_93)) rfl (by kernel_rfl) (w_impl_less_1 _ _ _ er94) rfl rfl (.refl _) rfl)<|s_q (.bool (!r_93)) rfl trivial rfl<|dk<|?_
     rcases oi hc1 with ⟨c95,hc1⟩ | ⟨c95,hc1⟩
     ·refine w_condt rfl c95<|sr<|?_
      obtain ⟨g96,hc1⟩:=og hc1
      obtain ⟨x_97,ex98,hc1⟩:=ob hc1
      refine s_mov (.own 0 0 s_73.length) rfl<|s_mov (.int .i64 i_71) rfl<|s_q (.agg [(.int .i64 x_91.Kind),(.int .i64 x_91.N),(.str x_91.T)]) rfl nle rfl<|s_do (o_iaddrown rfl rfl g96.1 g96.2 rfl rfl)<|?_;refine s_do0 (o_storerow (v':=(.agg [(.int .i64 x_91.Kind),(.int .i64 x_91.N),(.str x_91.T)])) (e':=x_91) rfl rfl ex98 rfl rfl rfl (by decide) (fun _ => by decide) ⟨rfl,nle⟩ (.refl _) rfl) ?_;refine dk<|w_reg<|s_mov (.int .i64 i_71) rfl<|s_q (.int .i64 (w64 (i_71 + 1))) rfl rfl rfl<|s_mov (.int .i64 (w64 (i_71 + 1))) rfl<|w_done<|k_blk<|k_seq<|w_reg<|s_mov (.int .i64 j_72) rfl<|s_q (.int .i64 (w64 (j_72 + 1))) rfl rfl rfl<|s_mov (.int .i64 (w64 (j_72 + 1))) rfl<|w_done<|?_
      exact k_loopn ⟨(k,w64 (i_71 + 1),w64 (j_72 + 1),s_73.set (0 + i_71.toNat) x_91),hc1⟩ (Nat.lt_succ_self _) ⟨[],[0,1],_,_,rfl,rfl,⟨.of_eq (congrArg (AV.own _ 0) (by simp)),⟨.refl _,⟨.refl _,⟨.refl _,trivial⟩⟩⟩⟩,(.refl _)⟩
     ·refine w_condf rfl (bf c95)<|w_skip<|k_blk<|k_seq<|w_reg<|s_mov (.int .i64 j_72) rfl<|s_q (.int .i64 (w64 (j_72 + 1))) rfl rfl rfl<|s_mov (.int .i64 (w64 (j_72 + 1))) rfl<|w_done<|?_;exact k_loopn ⟨(k,i_71,w64 (j_72 + 1),s_73),hc1⟩ (Nat.lt_succ_self _) ⟨[],[0,1],_,_,rfl,rfl,⟨.refl _,⟨.refl _,⟨.refl _,⟨.refl _,trivial⟩⟩⟩⟩,(.refl _)⟩
    ·refine w_condf rfl (bf c89)<|w_exit<|k_seqx<|k_loopx<|k_blkx<|?_;obtain rfl:=os hc1;exact ⟨[],[0,1],_,_,rfl,rfl,⟨.refl _,⟨.refl _,trivial⟩⟩,(.refl _)⟩
  ·obtain ⟨i_85,s_86⟩:=p87
   refine sr<|?_
   obtain ⟨g99,hf⟩:=og hf
   refine s_mov (.own 0 0 s_86.length) rfl<|s_mov (.int .i64 i_85) rfl<|s_do (o_sldo rfl rfl rfl g99.1 g99.2)<|s_do0 (o_clr (enc:=encGAtom) (y:=(⟨0,0,[]⟩:GAtom)) rfl rfl (.refl _) rfl)<|dk<|sr<|?_
   obtain ⟨g100,hf⟩:=og hf
   refine s_mov (.own 0 0 s_86.length) rfl<|s_mov (.int .i64 i_85) rfl<|s_do (o_slto rfl rfl rfl g100.1 g100.2)<|s_mov (.own 0 0 i_85.toNat) rfl<|dk<|w_ret<|?_;obtain rfl:=os hf;exact r_heap [.trim 4] [0,1,2] rfl ⟨trivial,trivial⟩ rfl ((.cons (.refl _) (.cons (.refl _) (.cons ((LeO.tk (enc:=encGAtom) (s_86.take i_85.toNat ++ List.replicate (s_86.length - i_85.toNat) (⟨0,0,[]⟩:GAtom) ++ s_86.drop (i_85.toNat + (s_86.length - i_85.toNat))) _)) .nil)))) (.of_eq (congrArg (AV.own _ 0) (by simp)))

/- impl.less -/
def c58:ACode :=
 (.seq (.reg (tq 3 (.box 1 (.t 1)) (tm 4 (.c .nil) .done)))
 (.seq (.reg (tm 5 (.t 0) (tq 6 (.call 83 [(.t 5)]) (tq 7 (.mkfn 97 [(.t 3)]) (tq 8 (.call 96 [(.t 6),(.t 7)]) (tm 4 (.t 8) .done))))))
 .ret))
theorem fc58:fcomp Try.prog Try.f58 = some (c58.erase,[.mov (.t 4)],9):=by kernel_rfl
def impl_less (a_1:(List GAtom)) (b_2:(List GAtom)):Option (List GAtom) :=
    (slices_Clone_impl_Atom_impl_Atom a_1).bind fun r_3 =>
    (slices_DeleteFunc_impl_Atom_impl_Atom_h0 r_3 b_2).bind fun r_5 =>
    some r_5.1
theorem w_impl_less (a_1:(List GAtom)) (b_2:(List GAtom)) (r:(List GAtom)) (hf:impl_less a_1 b_2 = some r):CallOK Try.prog 58 .fresh [(.lst 3 (a_1.map encGAtom)),(.lst 3 (b_2.map encGAtom))] (.lst 3 (r.map encGAtom)):=by
 refine CallOK.of_awp mixed Try.func58 fc58 nle ?_;rw [argT_eq];unfold impl_less at hf;unfold c58;refine (show awp Try.prog true 0 _ (ofL [(0,(.lst 3 (a_1.map encGAtom))),(1,(.lst 3 (b_2.map encGAtom)))]) [] _ from ?_);refine sr<|s_do (o_box (j:=0) (c:=(.lst 3 (b_2.map encGAtom))) rfl trivial rfl rfl)<|s_mov .nil rfl<|dk<|sr<|?_
 obtain ⟨r_3,er4,hf⟩:=ob hf
 obtain ⟨r_5,er6,hf⟩:=ob hf
 refine s_mov (.lst 3 (a_1.map encGAtom)) rfl<|s_do (o_callf (v:=(.own 1 0 r_3.length)) (h':=[.row 3 (r_3.map encGAtom)]) (w_slices_Clone_impl_Atom_impl_Atom _ _ er4) rfl (.refl _) (by simp only [openV,openVs,List.length_map,List.nil_append,List.append_nil,List.cons_append];rfl))<|s_q (.fn 97 [(.ptr 0 0 0)]) rfl trivial rfl<|?_;refine s_do (o_callh (v:=(.own 2 0 r_5.1.length)) (h2:=[.box 1 (.lst 3 (r_5.2.map encGAtom)),.dead,.row 3 (r_5.1.map encGAtom)]) [] [1,0] (fun _ => rfl) (w_slices_DeleteFunc_impl_Atom_impl_Atom_h0 _ _ _ er6) rfl (.refl _) (.refl _) rfl rfl) ?_;refine s_mov (.own 2 0 r_5.1.length) rfl<|dk<|w_ret<|?_;obtain rfl:=os hf;exact r_fresh ⟨trivial,trivial⟩ rfl (by decide) (.of_eq (congrArg (AV.lst _) (tk (enc:=encGAtom) r_5.1)))

/- impl.DatumLess -/
def c25:ACode :=
 (.seq (.reg (tm 4 (.c .nil) (tm 5 (.c (.int .i64 0)) .done)))
 (.seq (.seq (.reg (tm 7 (.t 0) (tm 8 (.t 1) (tq 9 (.call 54 [(.t 7),(.t 8)]) (tm 6 (.t 9) .done)))))
 (.seq (.reg (tm 10 (.t 6) (tq 11 (.bin .neq (.t 10) (.c (.int .i64 0))) .done)))
 (.cond (.t 11) (.seq (.reg (tm 12 (.t 6) (tm 4 (.c .nil) (tm 5 (.t 12) .done))))
 .ret)
 .skip)))
 (.seq (.reg (tm 13 (.t 0) (tm 14 (.t 1) (tq 15 (.call 58 [(.t 13),(.t 14)]) (tm 4 (.t 15) (tm 5 (.c (.int .i64 0)) .done))))))
 .ret)))
theorem fc25:fcomp Try.prog Try.f25 = some (c25.erase,[.mov (.t 4),.mov (.t 5)],16):=by kernel_rfl
def impl_DatumLess (a_1:(List GAtom)) (b_2:(List GAtom)):Option ((List GAtom) × Int) :=
    (impl_datumsCode a_1 b_2).bind fun r_3 =>
    if (r_3 != 0) then
    some ([],r_3)
    else
    (impl_less a_1 b_2).bind fun r_6 =>
    some (r_6,0)
theorem w_impl_DatumLess (a_1:(List GAtom)) (b_2:(List GAtom)) (r:((List GAtom) × Int)) (hf:impl_DatumLess a_1 b_2 = some r):CallOK Try.prog 25 .fresh [(.lst 3 (a_1.map encGAtom)),(.lst 3 (b_2.map encGAtom))] (.tup [(.lst 3 (r.1.map encGAtom)),(.int .i64 r.2)]):=by
 refine CallOK.of_awp mixed Try.func25 fc25 nle ?_;rw [argT_eq];unfold impl_DatumLess at hf;unfold c25;refine (show awp Try.prog true 0 _ (ofL [(0,(.lst 3 (a_1.map encGAtom))),(1,(.lst 3 (b_2.map encGAtom)))]) [] _ from ?_);refine sr<|s_mov .nil rfl<|s_mov (.int .i64 0) rfl<|dk<|awp_seq<|sr<|?_
 obtain ⟨r_3,er4,hf⟩:=ob hf
 refine s_mov (.lst 3 (a_1.map encGAtom)) rfl<|s_mov (.lst 3 (b_2.map encGAtom)) rfl<|s_do (o_call (w_impl_datumsCode _ _ _ er4) rfl (.refl _) rfl)<|s_mov (.int .i64 r_3) rfl<|dk<|sr<|s_mov (.int .i64 r_3) rfl<|s_q (.bool (r_3 != 0)) rfl rfl rfl<|dk<|?_
 rcases oi hf with ⟨c5,hf⟩ | ⟨c5,hf⟩
 ·refine w_condt rfl c5<|sr<|s_mov (.int .i64 r_3) rfl<|s_mov .nil rfl<|s_mov (.int .i64 r_3) rfl<|dk<|w_ret<|?_;obtain rfl:=os hf;exact r_fresh ⟨trivial,⟨trivial,trivial⟩⟩ rfl (by decide) (.tup (.cons (.nil _) (.cons (.refl _) .nil)))
 ·refine w_condf rfl (bf c5)<|w_skip<|k_seq<|sr<|?_
  obtain ⟨r_6,er7,hf⟩:=ob hf
  refine s_mov (.lst 3 (a_1.map encGAtom)) rfl<|s_mov (.lst 3 (b_2.map encGAtom)) rfl<|s_do (o_callf (v:=(.own 0 0 r_6.length)) (h':=[.row 3 (r_6.map encGAtom)]) (w_impl_less _ _ _ er7) rfl (.refl _) (by simp only [openV,openVs,List.length_map,List.nil_append,List.append_nil,List.cons_append];rfl))<|s_mov (.own 0 0 r_6.length) rfl<|s_mov (.int .i64 0) rfl<|dk<|w_ret<|?_;obtain rfl:=os hf;exact r_fresh ⟨trivial,⟨trivial,trivial⟩⟩ rfl (by decide) (.tup (.cons (.of_eq (congrArg (AV.lst _) (tk (enc:=encGAtom) r_6))) (.cons (.refl _) .nil)))

/- laws.sameDatum -/
def c10:ACode :=
 (.seq (.reg (tm 4 (.c (.bool false)) .done))
 (.seq (.seq (.reg (tm 6 (.t 0) (tq 7 (.len (.t 6)) (tm 8 (.t 1) (tq 9 (.len (.t 8)) (tq 10 (.bin .neq (.t 7) (.t 9)) .done))))))
 (.cond (.t 10) (.seq (.reg (tm 4 (.c (.bool false)) .done))
 .ret)
 .skip))
 (.seq (.seq (.reg (tm 5 (.c (.int .i64 0)) .done))
 (.block 0 (.loop (.seq (.seq (.reg (tm 11 (.t 5) (tm 12 (.t 0) (tq 13 (.len (.t 12)) (tq 14 (.bin .lss (.t 11) (.t 13)) .done)))))
 (.cond (.t 14) .skip
 (.exit 0)))
 (.seq (.block 1 (.seq (.reg (tm 17 (.t 0) (tm 18 (.t 5) (tq 19 (.iaddr 3 (.t 17) (.t 18)) (tq 20 (.load 3 true (.t 19)) (tm 21 (.t 1) (tm 22 (.t 5) (tq 23 (.iaddr 3 (.t 21) (.t 22)) (tq 24 (.load 3 true (.t 23)) (tq 25 (.eqs true [0,0,2] (.t 20) (.t 24)) .done))))))))))
 (.cond (.t 25) (.seq (.reg (tm 4 (.c (.bool false)) .done))
 .ret)
 .skip)))
 (.reg (tm 15 (.t 5) (tq 16 (.bin .add (.t 15) (.c (.int .i64 1))) (tm 5 (.t 16) .done)))))))))
 (.cut (.seq (.reg (tm 4 (.c (.bool true)) .done))
 .ret)))))
theorem fc10:fcomp Try.prog Try.f10 = some (c10.erase,[.mov (.t 4)],26):=by kernel_rfl
def laws_sameDatum_L1 (b_2:(List GAtom)):List GAtom → Nat → Option (Fl Bool Unit)
  | [],i_21 =>
    some (.go ())
  | x_37 :: xs,i_21 =>
    (idx b_2 (i_21:Int)).bind fun x_40 =>
    if (!(x_37.Kind == x_40.Kind && (x_37.N == x_40.N && (x_37.T == x_40.T && true)))) then
    some (.ret false)
    else
    laws_sameDatum_L1 b_2 xs (i_21 + 1)

def laws_sameDatum (a_1:(List GAtom)) (b_2:(List GAtom)):Option Bool :=
    if ((a_1.length:Int) != (b_2.length:Int)) then
    some false
    else
    (laws_sameDatum_L1 b_2 a_1 0).bind fun q => (match q with
    | .ret r => some r
    | .go _ =>
    some true)
theorem w_laws_sameDatum (a_1:(List GAtom)) (b_2:(List GAtom)) (r:Bool) (hf:laws_sameDatum a_1 b_2 = some r):CallOK Try.prog 10 .flat [(.lst 3 (a_1.map encGAtom)),(.lst 3 (b_2.map encGAtom))] (.bool r):=by
 refine CallOK.of_awp mixed Try.func10 fc10 nle ?_;rw [argT_eq];unfold laws_sameDatum at hf;unfold c10;refine (show awp Try.prog false 0 _ (ofL [(0,(.lst 3 (a_1.map encGAtom))),(1,(.lst 3 (b_2.map encGAtom)))]) [] _ from ?_);refine sr<|s_mov (.bool false) rfl<|dk<|awp_seq<|sr<|s_mov (.lst 3 (a_1.map encGAtom)) rfl<|s_dof (o_len (enc:=encGAtom) rfl) fun hl3 => s_mov (.lst 3 (b_2.map encGAtom)) rfl<|s_dof (o_len (enc:=encGAtom) rfl) fun hl4 => s_q (.bool ((a_1.length:Int) != (b_2.length:Int))) rfl rfl rfl<|dk<|?_
 rcases oi hf with ⟨c5,hf⟩ | ⟨c5,hf⟩
 ·refine w_condt rfl c5<|sr<|s_mov (.bool false) rfl<|dk<|w_ret<|?_;obtain rfl:=os hf;exact r_flat ⟨trivial,trivial⟩ rfl (.refl _)
 ·refine w_condf rfl (bf c5)<|w_skip<|k_seq<|awp_seq<|sr<|s_mov (.int .i64 0) rfl<|dk<|?_
  obtain ⟨p30,hb1,hf⟩:=ob hf
  refine awp_cutx (X:={q:Unit // p30 = .go q}) (fun q => ([],[])) ?_ ?_
  ·refine awp_loop (X:={q:Nat // laws_sameDatum_L1 b_2 (a_1.drop q) q = some p30}) (fun q => ([(0,(.lst 3 (a_1.map encGAtom))),(1,(.lst 3 (b_2.map encGAtom))),(5,(.int .i64 (q.1:Int)))],[])) (fun q => a_1.length - q.1) ⟨0,hb1⟩ ⟨[],[],_,_,rfl,rfl,⟨.refl _,⟨.refl _,⟨.refl _,trivial⟩⟩⟩,(.refl _)⟩ ?_
   rintro ⟨i_21,hc1⟩
   have hc1:laws_sameDatum_L1 b_2 (a_1.drop i_21) i_21 = some p30:=hc1
   refine (show awp Try.prog false 0 _ (ofL [(0,(.lst 3 (a_1.map encGAtom))),(1,(.lst 3 (b_2.map encGAtom))),(5,(.int .i64 (i_21:Int)))]) [] _ from ?_)
   rcases dropc a_1 i_21 with ⟨hie33,hd36⟩ | ⟨hlt31,x_37,hx32,hd36⟩
   ·rw [hd36,laws_sameDatum_L1.eq_1] at hc1
    have hq35:=dlf hie33
    refine awp_seq<|sr<|s_mov (.int .i64 (i_21:Int)) rfl<|s_mov (.lst 3 (a_1.map encGAtom)) rfl<|s_dof (o_len (enc:=encGAtom) rfl) fun hl38 => s_q (.bool (decide ((i_21:Int) < (a_1.length:Int)))) rfl rfl rfl<|dk<|w_condf rfl hq35<|w_exit<|k_seqx<|k_loopx<|k_blkx<|?_;obtain rfl:=os hc1;exact k_cutn ⟨_,rfl⟩ ⟨[],[],_,_,rfl,rfl,trivial,(.refl _)⟩
   ·rw [hd36,laws_sameDatum_L1.eq_2] at hc1
    have hq35:=dlt hlt31
    refine awp_seq<|sr<|s_mov (.int .i64 (i_21:Int)) rfl<|s_mov (.lst 3 (a_1.map encGAtom)) rfl<|s_dof (o_len (enc:=encGAtom) rfl) fun hl39 => s_q (.bool (decide ((i_21:Int) < (a_1.length:Int)))) rfl rfl rfl<|dk<|w_condt rfl hq35<|w_skip<|k_seq<|awp_seq<|w_blk<|sr<|?_
    obtain ⟨x_40,ex41,hc1⟩:=ob hc1
    refine s_mov (.lst 3 (a_1.map encGAtom)) rfl<|s_mov (.int .i64 (i_21:Int)) rfl<|s_do (o_iaddrn (enc:=encGAtom) rfl rfl hx32)<|s_q (encGAtom x_37) rfl nle rfl<|s_mov (.lst 3 (b_2.map encGAtom)) rfl<|s_mov (.int .i64 (i_21:Int)) rfl<|s_do (o_iaddr (enc:=encGAtom) rfl rfl (idx0 ex41) (idx1 ex41))<|s_q (encGAtom x_40) rfl nle rfl<|s_q (.bool (!(x_37.Kind == x_40.Kind && (x_37.N == x_40.N && (x_37.T == x_40.T && true))))) rfl ⟨⟨rfl,rfl⟩,⟨⟨rfl,rfl⟩,⟨rfl,trivial⟩⟩⟩ rfl<|dk<|?_
    rcases oi hc1 with ⟨c42,hc1⟩ | ⟨c42,hc1⟩
    ·refine w_condt rfl c42<|sr<|s_mov (.bool false) rfl<|dk<|w_ret<|?_;obtain rfl:=os hc1;obtain rfl:=os hf;exact r_flat ⟨trivial,trivial⟩ rfl (.refl _)
    ·refine w_condf rfl (bf c42)<|w_skip<|k_blk<|k_seq<|w_reg<|s_mov (.int .i64 (i_21:Int)) rfl<|s_q (.int .i64 (w64 ((i_21:Int) + 1))) rfl rfl rfl<|s_mov (.int .i64 (w64 ((i_21:Int) + 1))) rfl<|w_done<|?_;exact k_loopn ⟨(i_21 + 1),hc1⟩ (mul hlt31) ⟨[],[],_,_,rfl,rfl,⟨.refl _,⟨.refl _,⟨.of_eq (congrArg (AV.int _) (w64_incr hlt31 hl39)),trivial⟩⟩⟩,(.refl _)⟩
  ·rintro ⟨_,rfl⟩
   refine sr<|s_mov (.bool true) rfl<|dk<|w_ret<|?_;obtain rfl:=os hf;exact r_flat ⟨trivial,trivial⟩ rfl (.refl _)

/- laws.FnJoin -/
def c5:ACode :=
 (.seq (.reg (tm 4 (.c (.bool false)) .done))
 (.seq (.seq (.reg (tm 18 (.t 0) (tq 19 (.len (.t 18)) (tq 20 (.bin .gtr (.t 19) (.c (.int .i64 1048576))) (tm 21 (.t 20) (tg 22 21 false (.mov (.t 1)) (tg 23 21 false (.len (.t 22)) (tg 24 21 false (.bin .gtr (.t 23) (.c (.int .i64 1048576))) (tq 25 (.pick (.t 21) (.c (.bool true)) (.t 24)) .done)))))))))
 (.cut (.cond (.t 25) (.seq (.reg (tm 4 (.c (.bool true)) .done))
 .ret)
 .skip)))
 (.seq (.reg (tm 26 (.t 1) (tq 27 (.call 8 [(.t 26),(.c (.int .i64 0)),(.c (.int .i64 4))]) (tq 28 (.bin .add (.c (.int .i64 1)) (.t 27)) (tm 5 (.t 28) .done)))))
 (.seq (.reg (tm 29 (.t 0) (tm 30 (.t 5) (tq 31 (.call 22 [(.t 29),(.t 30)]) (tm 6 (.t 31) .done)))))
 (.seq (.reg (tm 32 (.t 1) (tm 33 (.t 5) (tq 34 (.call 22 [(.t 32),(.t 33)]) (tm 7 (.t 34) .done)))))
 (.seq (.reg (tm 36 (.t 6) (tm 37 (.t 7) (tq 38 (.call 23 [(.t 36),(.t 37)]) (tm 35 (.t 38) (tq 39 (.extract 0 (.t 35)) (tq 40 (.extract 1 (.t 35)) (tm 8 (.t 39) (tm 9 (.t 40) .done)))))))))
 (.seq (.reg (tm 42 (.t 6) (tm 43 (.t 7) (tq 44 (.call 24 [(.t 42),(.t 43)]) (tm 41 (.t 44) (tq 45 (.extract 0 (.t 41)) (tq 46 (.extract 1 (.t 41)) (tm 10 (.t 45) (tm 11 (.t 46) .done)))))))))
 (.seq (.reg (tm 48 (.t 8) (tm 49 (.t 7) (tq 50 (.call 25 [(.t 48),(.t 49)]) (tm 47 (.t 50) (tq 51 (.extract 0 (.t 47)) (tq 52 (.extract 1 (.t 47)) (tm 12 (.t 51) (tm 13 (.t 52) .done)))))))))
 (.seq (.reg (tm 54 (.t 6) (tm 55 (.t 7) (tq 56 (.call 25 [(.t 54),(.t 55)]) (tm 53 (.t 56) (tq 57 (.extract 0 (.t 53)) (tq 58 (.extract 1 (.t 53)) (tm 14 (.t 57) (tm 15 (.t 58) .done)))))))))
 (.seq (.reg (tm 60 (.t 14) (tm 61 (.t 7) (tq 62 (.call 23 [(.t 60),(.t 61)]) (tm 59 (.t 62) (tq 63 (.extract 0 (.t 59)) (tq 64 (.extract 1 (.t 59)) (tm 16 (.t 63) (tm 17 (.t 64) .done)))))))))
 (.seq (.reg (tm 65 (.t 9) (tq 66 (.bin .eql (.t 65) (.c (.int .i64 0))) (tm 67 (.t 66) (tg 68 67 true (.mov (.t 8)) (tg 69 67 true (.mov (.t 10)) (tg 70 67 true (.call 10 [(.t 68),(.t 69)]) (tq 71 (.pick (.t 67) (.t 70) (.c (.bool false))) (tm 72 (.t 71) (tg 73 72 true (.mov (.t 13)) (tg 74 72 true (.bin .eql (.t 73) (.c (.int .i64 0))) (tq 75 (.pick (.t 72) (.t 74) (.c (.bool false))) (tm 76 (.t 75) (tg 77 76 true (.mov (.t 15)) (tg 78 76 true (.bin .eql (.t 77) (.c (.int .i64 0))) (tq 79 (.pick (.t 76) (.t 78) (.c (.bool false))) (tm 80 (.t 79) (tg 81 80 true (.mov (.t 12)) (tg 82 80 true (.mov (.t 14)) (tg 83 80 true (.call 10 [(.t 81),(.t 82)]) (tq 84 (.pick (.t 80) (.t 83) (.c (.bool false))) (tm 85 (.t 84) (tg 86 85 true (.mov (.t 17)) (tg 87 85 true (.bin .eql (.t 86) (.c (.int .i64 0))) (tq 88 (.pick (.t 85) (.t 87) (.c (.bool false))) (tm 89 (.t 88) (tg 90 89 true (.mov (.t 16)) (tg 91 89 true (.mov (.t 8)) (tg 92 89 true (.call 10 [(.t 90),(.t 91)]) (tq 93 (.pick (.t 89) (.t 92) (.c (.bool false))) (tm 4 (.t 93) .done)))))))))))))))))))))))))))))))
 .ret)))))))))))
theorem fc5:fcomp Try.prog Try.f5 = some (c5.erase,[.mov (.t 4)],94):=by kernel_rfl
def laws_FnJoin (code_1:(List Int)) (more_2:(List Int)):Option Bool :=
    ((if (decide ((code_1.length:Int) > 1048576)) then
    some true
    else
    some (decide ((more_2.length:Int) > 1048576)):Option Bool)).bind fun s25_6 =>
    if s25_6 then
    some true
    else
    (laws_at more_2 0 4).bind fun r_12 =>
    (spec_DatumDrawn code_1 (w64 (1 + r_12))).bind fun r_14 =>
    (spec_DatumDrawn more_2 (w64 (1 + r_12))).bind fun r_16 =>
    (impl_DatumJoin r_14 r_16).bind fun r_18 =>
    (spec_DatumJoin r_14 r_16).bind fun r_20 =>
    (impl_DatumLess r_18.1 r_16).bind fun r_22 =>
    (impl_DatumLess r_14 r_16).bind fun r_24 =>
    (impl_DatumJoin r_24.1 r_16).bind fun r_26 =>
    if (r_18.2 == 0) then
    (laws_sameDatum r_18.1 r_20.1).bind fun r_29 =>
    if (bif (bif r_29 then (r_22.2 == 0) else false) then (r_24.2 == 0) else false) then
    (laws_sameDatum r_22.1 r_24.1).bind fun r_32 =>
    if (bif r_32 then (r_26.2 == 0) else false) then
    (laws_sameDatum r_26.1 r_18.1).bind fun r_35 =>
    some r_35
    else
    some false
    else
    some false
    else
    some false
theorem w_laws_FnJoin (code_1:(List Int)) (more_2:(List Int)) (r:Bool) (hf:laws_FnJoin code_1 more_2 = some r):CallOK Try.prog 5 .flat [(.lst 1 (code_1.map enc_u8)),(.lst 1 (more_2.map enc_u8))] (.bool r):=by
 refine CallOK.of_awp mixed Try.func5 fc5 nle ?_;rw [argT_eq];unfold laws_FnJoin at hf;unfold c5;refine (show awp Try.prog false 0 _ (ofL [(0,(.lst 1 (code_1.map enc_u8))),(1,(.lst 1 (more_2.map enc_u8)))]) [] _ from ?_);refine sr<|s_mov (.bool false) rfl<|dk<|awp_seq<|awp_seq<|?_
 obtain ⟨s25_6,hb1,hf⟩:=ob hf
 refine awp_cut ([(0,(.lst 1 (code_1.map enc_u8))),(1,(.lst 1 (more_2.map enc_u8))),(25,(.bool s25_6))],[]) ?_ ?_
 ·refine w_reg ?_
  rcases oi hb1 with ⟨c9,hb1⟩ | ⟨c9,hb1⟩
  ·refine s_mov (.lst 1 (code_1.map enc_u8)) rfl<|s_dof (o_len (enc:=enc_u8) rfl) fun hl8 => s_q (.bool (decide ((code_1.length:Int) > 1048576))) rfl rfl rfl<|s_mov (.bool (decide ((code_1.length:Int) > 1048576))) rfl<|s_lit (s:=21) (b:=true) rfl c9<|s_off rfl rfl<|s_off rfl rfl<|s_off rfl rfl<|s_q (.bool true) rfl trivial rfl<|w_done<|?_;obtain rfl:=os hb1;exact ⟨[],[],_,_,rfl,rfl,⟨.refl _,⟨.refl _,⟨.refl _,trivial⟩⟩⟩,(.refl _)⟩
  ·refine s_mov (.lst 1 (code_1.map enc_u8)) rfl<|s_dof (o_len (enc:=enc_u8) rfl) fun hl8 => s_q (.bool (decide ((code_1.length:Int) > 1048576))) rfl rfl rfl<|s_mov (.bool (decide ((code_1.length:Int) > 1048576))) rfl<|s_lit (s:=21) (b:=false) rfl (bf c9)<|s_on rfl<|s_mov (.lst 1 (more_2.map enc_u8)) rfl<|s_on rfl<|s_dof (o_len (enc:=enc_u8) rfl) fun hl10 => s_on rfl<|s_q (.bool (decide ((more_2.length:Int) > 1048576))) rfl rfl rfl<|s_q (.bool (decide ((more_2.length:Int) > 1048576))) rfl trivial rfl<|w_done<|?_;obtain rfl:=os hb1;exact ⟨[],[],_,_,rfl,rfl,⟨.refl _,⟨.refl _,⟨.refl _,trivial⟩⟩⟩,(.refl _)⟩
 ·rcases oi hf with ⟨c11,hf⟩ | ⟨c11,hf⟩
  ·refine w_condt rfl c11<|sr<|s_mov (.bool true) rfl<|dk<|w_ret<|?_;obtain rfl:=os hf;exact r_flat ⟨trivial,trivial⟩ rfl (.refl _)
  ·refine w_condf rfl (bf c11)<|w_skip<|k_seq<|sr<|?_
   obtain ⟨r_12,er13,hf⟩:=ob hf
   refine s_mov (.lst 1 (more_2.map enc_u8)) rfl<|s_do (o_call (w_laws_at _ _ _ _ er13) rfl (.refl _) rfl)<|s_q (.int .i64 (w64 (1 + r_12))) rfl rfl rfl<|s_mov (.int .i64 (w64 (1 + r_12))) rfl<|dk<|sr<|?_
   obtain ⟨r_14,er15,hf⟩:=ob hf
   refine s_mov (.lst 1 (code_1.map enc_u8)) rfl<|s_mov (.int .i64 (w64 (1 + r_12))) rfl<|s_do (o_callc rfl (w_spec_DatumDrawn _ _ _ er15) rfl (.refl _) rfl)<|s_mov (.lst 3 (r_14.map encGAtom)) rfl<|dk<|sr<|?_
   obtain ⟨r_16,er17,hf⟩:=ob hf
   refine s_mov (.lst 1 (more_2.map enc_u8)) rfl<|s_mov (.int .i64 (w64 (1 + r_12))) rfl<|s_do (o_callc rfl (w_spec_DatumDrawn _ _ _ er17) rfl (.refl _) rfl)<|s_mov (.lst 3 (r_16.map encGAtom)) rfl<|dk<|sr<|?_
   obtain ⟨r_18,er19,hf⟩:=ob hf
   refine s_mov (.lst 3 (r_14.map encGAtom)) rfl<|s_mov (.lst 3 (r_16.map encGAtom)) rfl<|s_do (o_callw rfl (w_impl_DatumJoin _ _ _ er19) rfl (.refl _) rfl rfl)<|s_mov (.tup [(.lst 3 (r_18.1.map encGAtom)),(.int .i64 r_18.2)]) rfl<|s_q (.lst 3 (r_18.1.map encGAtom)) rfl nle rfl<|s_q (.int .i64 r_18.2) rfl nle rfl<|s_mov (.lst 3 (r_18.1.map encGAtom)) rfl<|s_mov (.int .i64 r_18.2) rfl<|dk<|sr<|?_
   obtain ⟨r_20,er21,hf⟩:=ob hf
   refine s_mov (.lst 3 (r_14.map encGAtom)) rfl<|s_mov (.lst 3 (r_16.map encGAtom)) rfl<|s_do (o_callc rfl (w_spec_DatumJoin _ _ _ er21) rfl (.refl _) rfl)<|s_mov (.tup [(.lst 3 (r_20.1.map encGAtom)),(.int .i64 r_20.2)]) rfl<|s_q (.lst 3 (r_20.1.map encGAtom)) rfl nle rfl<|s_q (.int .i64 r_20.2) rfl nle rfl<|s_mov (.lst 3 (r_20.1.map encGAtom)) rfl<|s_mov (.int .i64 r_20.2) rfl<|dk<|sr<|?_
   obtain ⟨r_22,er23,hf⟩:=ob hf
   refine s_mov (.lst 3 (r_18.1.map encGAtom)) rfl<|s_mov (.lst 3 (r_16.map encGAtom)) rfl<|s_do (o_callc rfl (w_impl_DatumLess _ _ _ er23) rfl (.refl _) rfl)<|s_mov (.tup [(.lst 3 (r_22.1.map encGAtom)),(.int .i64 r_22.2)]) rfl<|s_q (.lst 3 (r_22.1.map encGAtom)) rfl nle rfl<|s_q (.int .i64 r_22.2) rfl nle rfl<|s_mov (.lst 3 (r_22.1.map encGAtom)) rfl<|s_mov (.int .i64 r_22.2) rfl<|dk<|sr<|?_
   obtain ⟨r_24,er25,hf⟩:=ob hf
   refine s_mov (.lst 3 (r_14.map encGAtom)) rfl<|s_mov (.lst 3 (r_16.map encGAtom)) rfl<|s_do (o_callc rfl (w_impl_DatumLess _ _ _ er25) rfl (.refl _) rfl)<|s_mov (.tup [(.lst 3 (r_24.1.map encGAtom)),(.int .i64 r_24.2)]) rfl<|s_q (.lst 3 (r_24.1.map encGAtom)) rfl nle rfl<|s_q (.int .i64 r_24.2) rfl nle rfl<|s_mov (.lst 3 (r_24.1.map encGAtom)) rfl<|s_mov (.int .i64 r_24.2) rfl<|dk<|sr<|?_
   obtain ⟨r_26,er27,hf⟩:=ob hf
   refine s_mov (.lst 3 (r_24.1.map encGAtom)) rfl<|s_mov (.lst 3 (r_16.map encGAtom)) rfl<|s_do (o_callw rfl (w_impl_DatumJoin _ _ _ er27) rfl (.refl _) rfl rfl)<|s_mov (.tup [(.lst 3 (r_26.1.map encGAtom)),(.int .i64 r_26.2)]) rfl<|s_q (.lst 3 (r_26.1.map encGAtom)) rfl nle rfl<|s_q (.int .i64 r_26.2) rfl nle rfl<|s_mov (.lst 3 (r_26.1.map encGAtom)) rfl<|s_mov (.int .i64 r_26.2) rfl<|dk<|sr<|s_mov (.int .i64 r_18.2) rfl<|s_q (.bool (r_18.2 == 0)) rfl rfl rfl<|s_mov (.bool (r_18.2 == 0)) rfl<|?_
   rcases oi hf with ⟨c28,hf⟩ | ⟨c28,hf⟩
   ·refine s_lit (s:=67) (b:=true) rfl c28<|s_on rfl<|s_mov (.lst 3 (r_18.1.map encGAtom)) rfl<|s_on rfl<|s_mov (.lst 3 (r_20.1.map encGAtom)) rfl<|s_on rfl<|?_
    obtain ⟨r_29,er30,hf⟩:=ob hf
    refine s_do (o_call (w_laws_sameDatum _ _ _ er30) rfl (.refl _) rfl)<|s_q (.bool r_29) rfl trivial rfl<|s_mov (.bool r_29) rfl<|?_;refine s_g (v:=r_29) (.int .i64 r_22.2) rfl (fun hv => by (try simp only [gs_on hv]);exact ⟨rfl,trivial,rfl⟩) ?_;refine s_g (v:=r_29) (.bool (r_22.2 == 0)) rfl (fun hv => by (try simp only [gs_on hv]);exact ⟨rfl,rfl,rfl⟩) ?_;refine s_pick (x:=(r_22.2 == 0)) (y:=false) rfl (fun hv => by (try simp only [gs_on hv]);rfl) (fun hv => by (try simp only [gs_on hv]);rfl) ?_;refine s_mov (.bool (bif r_29 then (r_22.2 == 0) else false)) rfl ?_;refine s_g (v:=(bif r_29 then (r_22.2 == 0) else false)) (.int .i64 r_24.2) rfl (fun hv => by (try simp only [gs_on hv]);exact ⟨rfl,trivial,rfl⟩) ?_
    refine s_g (v:=(bif r_29 then (r_22.2 == 0) else false)) (.bool (r_24.2 == 0)) rfl (fun hv => by (try simp only [gs_on hv]);exact ⟨rfl,rfl,rfl⟩) ?_;refine s_pick (x:=(r_24.2 == 0)) (y:=false) rfl (fun hv => by (try simp only [gs_on hv]);rfl) (fun hv => by (try simp only [gs_on hv]);rfl) ?_;refine s_mov (.bool (bif (bif r_29 then (r_22.2 == 0) else false) then (r_24.2 == 0) else false)) rfl ?_
    rcases oi hf with ⟨c31,hf⟩ | ⟨c31,hf⟩
    ·refine s_lit (s:=80) (b:=true) rfl c31<|s_on rfl<|s_mov (.lst 3 (r_22.1.map encGAtom)) rfl<|s_on rfl<|s_mov (.lst 3 (r_24.1.map encGAtom)) rfl<|s_on rfl<|?_
     obtain ⟨r_32,er33,hf⟩:=ob hf
     refine s_do (o_call (w_laws_sameDatum _ _ _ er33) rfl (.refl _) rfl)<|s_q (.bool r_32) rfl trivial rfl<|s_mov (.bool r_32) rfl<|?_;refine s_g (v:=r_32) (.int .i64 r_26.2) rfl (fun hv => by (try simp only [gs_on hv]);exact ⟨rfl,trivial,rfl⟩) ?_;refine s_g (v:=r_32) (.bool (r_26.2 == 0)) rfl (fun hv => by (try simp only [gs_on hv]);exact ⟨rfl,rfl,rfl⟩) ?_;refine s_pick (x:=(r_26.2 == 0)) (y:=false) rfl (fun hv => by (try simp only [gs_on hv]);rfl) (fun hv => by (try simp only [gs_on hv]);rfl) ?_;refine s_mov (.bool (bif r_32 then (r_26.2 == 0) else false)) rfl ?_
     rcases oi hf with ⟨c34,hf⟩ | ⟨c34,hf⟩
     ·refine s_lit (s:=89) (b:=true) rfl c34<|s_on rfl<|s_mov (.lst 3 (r_26.1.map encGAtom)) rfl<|s_on rfl<|s_mov (.lst 3 (r_18.1.map encGAtom)) rfl<|s_on rfl<|?_
      obtain ⟨r_35,er36,hf⟩:=ob hf
      refine s_do (o_call (w_laws_sameDatum _ _ _ er36) rfl (.refl _) rfl)<|s_q (.bool r_35) rfl trivial rfl<|s_mov (.bool r_35) rfl<|dk<|w_ret<|?_;obtain rfl:=os hf;exact r_flat ⟨trivial,trivial⟩ rfl (.refl _)
     ·refine s_lit (s:=89) (b:=false) rfl (bf c34)<|s_off rfl rfl<|s_off rfl rfl<|s_off rfl rfl<|s_q (.bool false) rfl trivial rfl<|s_mov (.bool false) rfl<|dk<|w_ret<|?_;obtain rfl:=os hf;exact r_flat ⟨trivial,trivial⟩ rfl (.refl _)
    ·refine s_lit (s:=80) (b:=false) rfl (bf c31)<|s_off rfl rfl<|s_off rfl rfl<|s_off rfl rfl<|s_q (.bool false) rfl trivial rfl<|s_mov (.bool false) rfl<|s_off rfl rfl<|s_off rfl rfl<|s_q (.bool false) rfl trivial rfl<|s_mov (.bool false) rfl<|s_off rfl rfl<|s_off rfl rfl<|s_off rfl rfl<|s_q (.bool false) rfl trivial rfl<|s_mov (.bool false) rfl<|dk<|w_ret<|?_;obtain rfl:=os hf;exact r_flat ⟨trivial,trivial⟩ rfl (.refl _)
   ·refine s_lit (s:=67) (b:=false) rfl (bf c28)<|s_off rfl rfl<|s_off rfl rfl<|s_off rfl rfl<|s_q (.bool false) rfl trivial rfl<|s_mov (.bool false) rfl<|s_off rfl rfl<|s_off rfl rfl<|s_q (.bool false) rfl trivial rfl<|s_mov (.bool false) rfl<|s_off rfl rfl<|s_off rfl rfl<|s_q (.bool false) rfl trivial rfl<|s_mov (.bool false) rfl<|s_off rfl rfl<|s_off rfl rfl<|s_off rfl rfl<|s_q (.bool false) rfl trivial rfl<|s_mov (.bool false) rfl<|s_off rfl rfl<|s_off rfl rfl<|s_q (.bool false) rfl trivial rfl<|s_mov (.bool false) rfl<|s_off rfl rfl<|s_off rfl rfl<|s_off rfl rfl<|s_q (.bool false) rfl trivial rfl<|s_mov (.bool false) rfl<|dk<|w_ret<|?_
    obtain rfl:=os hf;exact r_flat ⟨trivial,trivial⟩ rfl (.refl _)

end Go.R
