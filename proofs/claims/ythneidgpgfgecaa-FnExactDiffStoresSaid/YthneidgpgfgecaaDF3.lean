/- Walks. -/
import Derived.Test.YthneidgpgfgecaaDF2
set_option linter.all false
namespace Go.R
open Go Go.Proofs
set_option linter.unusedVariables false
set_option linter.unusedSimpArgs false
set_option maxHeartbeats 8000000
/- laws.markChangeS -/
def d3i:a0r :=
 (.seq (.reg (tm 4 (.c (.int .i64 0)) .done))
 (.seq (.seq (.reg (tm 5 (.c (.int .i64 0)) .done))
 (.block 0 (.loop (.seq (.seq (.reg (tm 6 (.t 5) (tm 7 (.t 0) (tq 8 (.len (.t 7)) (tq 9 (.bin .lss (.t 6) (.t 8)) .done)))))
 (.cond (.t 9) .skip
 (.exit 0)))
 (.seq (.block 1 (.seq (.reg (tm 12 (.t 0) (tm 13 (.t 5) (tm 14 (.t 1) (tq 15 (.iaddr 6 (.t 12) (.t 13)) (tq 16 (.faddr 0 (.t 15)) (.q ⟨none,none,.store 1 (.t 16) (.t 14)⟩
 .done)))))))
 (.seq (.reg (tm 17 (.t 1) (tq 18 (.bin .add (.t 17) (.c (.int .i64 1))) (tm 1 (.t 18) .done))))
 (.seq (.reg (tm 19 (.t 0) (tm 20 (.t 5) (tm 21 (.t 1) (tq 22 (.iaddr 6 (.t 19) (.t 20)) (tq 23 (.faddr 1 (.t 22)) (.q ⟨none,none,.store 1 (.t 23) (.t 21)⟩
 .done)))))))
 (.seq (.reg (tm 24 (.t 1) (tq 25 (.bin .add (.t 24) (.c (.int .i64 1))) (tm 1 (.t 25) .done))))
 (.seq (.reg (tm 26 (.t 0) (tm 27 (.t 5) (tm 28 (.t 1) (tq 29 (.iaddr 6 (.t 26) (.t 27)) (tq 30 (.faddr 2 (.t 29)) (tq 31 (.faddr 0 (.t 30)) (.q ⟨none,none,.store 1 (.t 31) (.t 28)⟩
 .done))))))))
 (.seq (.reg (tm 32 (.t 1) (tq 33 (.bin .add (.t 32) (.c (.int .i64 1))) (tm 1 (.t 33) .done))))
 (.seq (.rev (.reg (tm 34 (.t 0) (tm 35 (.t 5) (tq 36 (.iaddr 6 (.t 34) (.t 35)) (tq 37 (.faddr 2 (.t 36)) (tq 38 (.faddr 1 (.t 37)) (tq 39 (.load 1 false (.t 38)) (tm 40 (.t 1) (tq 41 (.call 53 [(.t 39),(.t 40)]) (tm 1 (.t 41) .done)))))))))))
 (.seq (.reg (tm 42 (.t 0) (tm 43 (.t 5) (tm 44 (.t 1) (tq 45 (.iaddr 6 (.t 42) (.t 43)) (tq 46 (.faddr 4 (.t 45)) (tq 47 (.faddr 0 (.t 46)) (.q ⟨none,none,.store 1 (.t 47) (.t 44)⟩
 .done))))))))
 (.seq (.reg (tm 48 (.t 1) (tq 49 (.bin .add (.t 48) (.c (.int .i64 1))) (tm 1 (.t 49) .done))))
 (.rev (.reg (tm 50 (.t 0) (tm 51 (.t 5) (tq 52 (.iaddr 6 (.t 50) (.t 51)) (tq 53 (.faddr 4 (.t 52)) (tq 54 (.faddr 1 (.t 53)) (tq 55 (.load 1 false (.t 54)) (tm 56 (.t 1) (tq 57 (.call 53 [(.t 55),(.t 56)]) (tm 1 (.t 57) .done)))))))))))))))))))))
 (.reg (tm 10 (.t 5) (tq 11 (.bin .add (.t 10) (.c (.int .i64 1))) (tm 5 (.t 11) .done)))))))))
 (.cut (.seq (.reg (tm 58 (.t 1) (tm 4 (.t 58) .done)))
 .ret))))
theorem d5k:a1p Try.prog Try.f27 = some (d3i.erase,[.mov (.t 4)],59):=by kernel_rfl
def a2i :Nat → Int → Int → (List a0c) → Option (Int × (List a0c))
  | 0,_,_,_ => none
  | k + 1,k_103,i_104,a_105 =>
    if (decide (i_104 < (a_105.length:Int))) then
    if (0:Int) ≤ i_104 ∧ i_104 < (a_105.length:Int) then
    (a_105[(0 + i_104.toNat)]?).bind fun x_130 =>
    if (0:Int) ≤ i_104 ∧ i_104 < (a_105.length:Int) then
    if (0:Int) ≤ i_104 ∧ i_104 < (a_105.length:Int) then
    if (0:Int) ≤ i_104 ∧ i_104 < (a_105.length:Int) then
    (a5l x_130.Old.Cells (w64 ((w64 ((w64 (k_103 + 1)) + 1)) + 1))).bind fun r_137 =>
    if (0:Int) ≤ i_104 ∧ i_104 < (a_105.length:Int) then
    if (0:Int) ≤ i_104 ∧ i_104 < (a_105.length:Int) then
    (a5l x_130.New.Cells (w64 (r_137.1 + 1))).bind fun r_143 =>
    a2i k r_143.1 (w64 (i_104 + 1)) ((((((a_105.set (0 + i_104.toNat) (⟨k_103,x_130.Id,x_130.Old,x_130.New⟩:a0c)).set (0 + i_104.toNat) (⟨k_103,w64 (k_103 + 1),x_130.Old,x_130.New⟩:a0c)).set (0 + i_104.toNat) (⟨k_103,w64 (k_103 + 1),(⟨w64 ((w64 (k_103 + 1)) + 1),x_130.Old.Cells⟩:x9),x_130.New⟩:a0c)).set (0 + i_104.toNat) (⟨k_103,w64 (k_103 + 1),(⟨w64 ((w64 (k_103 + 1)) + 1),r_137.2⟩:x9),x_130.New⟩:a0c)).set (0 + i_104.toNat) (⟨k_103,w64 (k_103 + 1),(⟨w64 ((w64 (k_103 + 1)) + 1),r_137.2⟩:x9),(⟨r_137.1,x_130.New.Cells⟩:x9)⟩:a0c)).set (0 + i_104.toNat) (⟨k_103,w64 (k_103 + 1),(⟨w64 ((w64 (k_103 + 1)) + 1),r_137.2⟩:x9),(⟨r_137.1,r_143.2⟩:x9)⟩:a0c))
    else none
    else none
    else none
    else none
    else none
    else none
    else
    some (k_103,a_105)

def a6s (a_1:(List a0c)) (k_2:Int):Option (Int × (List a0c)) :=
    (a2i FUEL k_2 0 a_1).bind fun p126 =>
    (match p126 with
    | (k_124,l_125) =>
    some (k_124,l_125))
theorem b5y (a_1:(List a0c)) (k_2:Int) (r:(Int × (List a0c))) (hf:a6s a_1 k_2 = some r):a1l Try.prog ⟨true,true,false⟩ 27 [(.own 0 0 a_1.length),(.int .i64 k_2)] [.row 6 (a_1.map o7)] (.int .i64 r.1) [.row 6 (r.2.map o7)]:=by
 refine a1l.of_awp mixed Try.func27 d5k nle ?_;rw [a0t];unfold a6s at hf;unfold d3i;refine (show awp Try.prog ⟨true,true,false⟩ 1 _ (ofL [(0,(.own 0 0 a_1.length)),(1,(.int .i64 k_2))]) [.row 6 (a_1.map o7)] _ from ?_);refine sr<|l7 (.int .i64 0) rfl<|dk<|o6<|sr<|l7 (.int .i64 0) rfl<|dk<|?_
 obtain ⟨p126,hb1,hf⟩:=ob hf
 refine a2e ([(1,(.int .i64 p126.1))],[.row 6 (p126.2.map o7)]) ?_ ?_
 ·refine a0z (X:={q:(Nat × Int × Int × (List a0c)) // a2i q.1 q.2.1 q.2.2.1 q.2.2.2 = some p126}) (fun q => ([(0,(.own 0 0 q.1.2.2.2.length)),(1,(.int .i64 q.1.2.1)),(5,(.int .i64 q.1.2.2.1))],[.row 6 (q.1.2.2.2.map o7)])) (fun q => q.1.1) ⟨(FUEL,k_2,0,a_1),hb1⟩ ⟨[],[0],_,_,rfl,rfl,⟨.refl _,⟨.refl _,⟨.refl _,trivial⟩⟩⟩,(.refl _)⟩ ?_
  rintro ⟨⟨k,k_103,i_104,a_105⟩,hc1⟩
  have hc1:a2i k k_103 i_104 a_105 = some p126:=hc1
  refine (show awp Try.prog ⟨true,true,false⟩ 1 _ (ofL [(0,(.own 0 0 a_105.length)),(1,(.int .i64 k_103)),(5,(.int .i64 i_104))]) [.row 6 (a_105.map o7)] _ from ?_)
  rcases k with _ | k
  ·rw [a2i.eq_1] at hc1
   cases hc1
  ·rw [a2i.eq_2] at hc1;refine o6<|sr<|l7 (.int .i64 i_104) rfl<|l7 (.own 0 0 a_105.length) rfl<|a0o (a5f rfl rfl) fun hl127 => y8 (.bool (decide (i_104 < (a_105.length:Int)))) rfl (.of rfl trivial) rfl<|dk<|?_
   rcases oi hc1 with ⟨c128,hc1⟩ | ⟨c128,hc1⟩
   ·refine y5 rfl c128<|a0e<|a0g<|o6<|a3j<|sr<|?_
    obtain ⟨g129,hc1⟩:=og hc1
    obtain ⟨x_130,ex131,hc1⟩:=ob hc1
    refine l7 (.own 0 0 a_105.length) rfl<|l7 (.int .i64 i_104) rfl<|l7 (.int .i64 k_103) rfl<|a0b (a2d rfl rfl g129.1 g129.2 rfl rfl)<|y8 (.ptr 0 (0 + i_104.toNat) 0) rfl (.of trivial trivial) rfl<|?_;refine a4o (a5a (v':=(.int .i64 k_103)) (e':=(⟨k_103,x_130.Id,x_130.Old,x_130.New⟩:a0c)) rfl rfl ex131 rfl rfl rfl (by decide) (fun _ => by decide) ⟨rfl,nle⟩ (.refl _) rfl) ?_;refine dk<|sr<|l7 (.int .i64 k_103) rfl<|y8 (.int .i64 (w64 (k_103 + 1))) rfl (.of rfl trivial) rfl<|l7 (.int .i64 (w64 (k_103 + 1))) rfl<|dk<|sr<|?_
    obtain ⟨g132,hc1⟩:=og hc1
    refine l7 (.own 0 0 a_105.length) rfl<|l7 (.int .i64 i_104) rfl<|l7 (.int .i64 (w64 (k_103 + 1))) rfl<|a0b (a2d rfl rfl g132.1 g132.2 rfl rfl)<|y8 (.ptr 0 (0 + i_104.toNat) 1) rfl (.of trivial trivial) rfl<|?_;refine a4o (a5a (v':=(.int .i64 (w64 (k_103 + 1)))) (e':=(⟨k_103,w64 (k_103 + 1),x_130.Old,x_130.New⟩:a0c)) rfl rfl (a2u ex131) rfl rfl rfl (by decide) (fun _ => by decide) ⟨rfl,nle⟩ (.refl _) rfl) ?_;refine dk<|sr<|l7 (.int .i64 (w64 (k_103 + 1))) rfl<|y8 (.int .i64 (w64 ((w64 (k_103 + 1)) + 1))) rfl (.of rfl trivial) rfl<|l7 (.int .i64 (w64 ((w64 (k_103 + 1)) + 1))) rfl<|dk<|sr<|?_
    obtain ⟨g133,hc1⟩:=og hc1
    refine l7 (.own 0 0 a_105.length) rfl<|l7 (.int .i64 i_104) rfl<|l7 (.int .i64 (w64 ((w64 (k_103 + 1)) + 1))) rfl<|a0b (a2d rfl rfl g133.1 g133.2 rfl rfl)<|y8 (.ptr 0 (0 + i_104.toNat) 2) rfl (.of trivial trivial) rfl<|y8 (.ptr 0 (0 + i_104.toNat) 2) rfl (.of trivial trivial) rfl<|?_;refine a4o (a5a (v':=(.int .i64 (w64 ((w64 (k_103 + 1)) + 1)))) (e':=(⟨k_103,w64 (k_103 + 1),(⟨w64 ((w64 (k_103 + 1)) + 1),x_130.Old.Cells⟩:x9),x_130.New⟩:a0c)) rfl rfl (a2u (a2u ex131)) rfl rfl rfl (by decide) (fun _ => by decide) ⟨rfl,nle⟩ (.refl _) rfl) ?_;refine dk<|sr<|l7 (.int .i64 (w64 ((w64 (k_103 + 1)) + 1))) rfl<|y8 (.int .i64 (w64 ((w64 ((w64 (k_103 + 1)) + 1)) + 1))) rfl (.of rfl trivial) rfl<|?_
    refine l7 (.int .i64 (w64 ((w64 ((w64 (k_103 + 1)) + 1)) + 1))) rfl<|dk<|o6<|?_;refine c7c (o:=0) (f:=3) (l':=x_130.Old.Cells) (enc':=(o8 3 o5)) (el:=(.agg [(.int .i64 k_103),(.int .i64 (w64 (k_103 + 1))),(.int .i64 (w64 ((w64 (k_103 + 1)) + 1))),(.lst 1 (x_130.Old.Cells.map (o8 3 o5))),(.int .i64 x_130.New.Id),(.lst 1 (x_130.New.Cells.map (o8 3 o5)))])) rfl (a2u (a2u (a2u ex131))) rfl rfl fun v_135 => ?_;refine a0y ?_
    obtain ⟨g136,hc1⟩:=og hc1
    obtain ⟨r_137,er138,hc1⟩:=ob hc1
    refine l7 (.own 0 0 a_105.length) rfl<|l7 (.int .i64 i_104) rfl<|a0b (a2d rfl rfl g136.1 g136.2 rfl rfl)<|y8 (.ptr 0 (0 + i_104.toNat) 2) rfl (.of trivial trivial) rfl<|y8 (.ptr 0 (0 + i_104.toNat) 3) rfl (.of trivial trivial) rfl<|a0b (b2c rfl rfl (b7v (a2u (a2u (a2u ex131)))) nle rfl)<|l7 (.int .i64 (w64 ((w64 ((w64 (k_103 + 1)) + 1)) + 1))) rfl<|a0b (b6s (o:=0) (l:=(((a_105.set (0 + i_104.toNat) (⟨k_103,x_130.Id,x_130.Old,x_130.New⟩:a0c)).set (0 + i_104.toNat) (⟨k_103,w64 (k_103 + 1),x_130.Old,x_130.New⟩:a0c)).set (0 + i_104.toNat) (⟨k_103,w64 (k_103 + 1),(⟨w64 ((w64 (k_103 + 1)) + 1),x_130.Old.Cells⟩:x9),x_130.New⟩:a0c))) (enc:=o7) (enc':=(o8 3 o5)) (l'':=r_137.2) (y:=(⟨k_103,w64 (k_103 + 1),(⟨w64 ((w64 (k_103 + 1)) + 1),r_137.2⟩:x9),x_130.New⟩:a0c)) (j:=3) (el:=(.agg [(.int .i64 k_103),(.int .i64 (w64 (k_103 + 1))),(.int .i64 (w64 ((w64 (k_103 + 1)) + 1))),(.hdr v_135 1 (x_130.Old.Cells.map (o8 3 o5))),(.int .i64 x_130.New.Id),(.lst 1 (x_130.New.Cells.map (o8 3 o5)))])) rfl rfl (a9o _ _ _ er138) rfl rfl (a2u (a2u (a2u ex131))) rfl (by decide) rfl)<|?_
    refine l7 (.int .i64 r_137.1) rfl<|dk<|sr<|?_
    obtain ⟨g139,hc1⟩:=og hc1
    refine l7 (.own 0 0 a_105.length) rfl<|l7 (.int .i64 i_104) rfl<|l7 (.int .i64 r_137.1) rfl<|a0b (a2d rfl rfl g139.1 g139.2 rfl rfl)<|y8 (.ptr 0 (0 + i_104.toNat) 4) rfl (.of trivial trivial) rfl<|y8 (.ptr 0 (0 + i_104.toNat) 4) rfl (.of trivial trivial) rfl<|?_;refine a4o (a5a (v':=(.int .i64 r_137.1)) (e':=(⟨k_103,w64 (k_103 + 1),(⟨w64 ((w64 (k_103 + 1)) + 1),r_137.2⟩:x9),(⟨r_137.1,x_130.New.Cells⟩:x9)⟩:a0c)) rfl rfl (a2u (a2u (a2u (a2u ex131)))) rfl rfl rfl (by decide) (fun _ => by decide) ⟨rfl,nle⟩ (.refl _) rfl) ?_;refine dk<|sr<|l7 (.int .i64 r_137.1) rfl<|y8 (.int .i64 (w64 (r_137.1 + 1))) rfl (.of rfl trivial) rfl<|?_
    refine l7 (.int .i64 (w64 (r_137.1 + 1))) rfl<|dk<|?_;refine c7c (o:=0) (f:=5) (l':=x_130.New.Cells) (enc':=(o8 3 o5)) (el:=(.agg [(.int .i64 k_103),(.int .i64 (w64 (k_103 + 1))),(.int .i64 (w64 ((w64 (k_103 + 1)) + 1))),(.lst 1 (r_137.2.map (o8 3 o5))),(.int .i64 r_137.1),(.lst 1 (x_130.New.Cells.map (o8 3 o5)))])) rfl (a2u (a2u (a2u (a2u (a2u ex131))))) rfl rfl fun v_141 => ?_;refine a0y ?_
    obtain ⟨g142,hc1⟩:=og hc1
    obtain ⟨r_143,er144,hc1⟩:=ob hc1
    refine l7 (.own 0 0 a_105.length) rfl<|l7 (.int .i64 i_104) rfl<|a0b (a2d rfl rfl g142.1 g142.2 rfl rfl)<|y8 (.ptr 0 (0 + i_104.toNat) 4) rfl (.of trivial trivial) rfl<|y8 (.ptr 0 (0 + i_104.toNat) 5) rfl (.of trivial trivial) rfl<|a0b (b2c rfl rfl (b7v (a2u (a2u (a2u (a2u (a2u ex131)))))) nle rfl)<|l7 (.int .i64 (w64 (r_137.1 + 1))) rfl<|a0b (b6s (o:=0) (l:=(((((a_105.set (0 + i_104.toNat) (⟨k_103,x_130.Id,x_130.Old,x_130.New⟩:a0c)).set (0 + i_104.toNat) (⟨k_103,w64 (k_103 + 1),x_130.Old,x_130.New⟩:a0c)).set (0 + i_104.toNat) (⟨k_103,w64 (k_103 + 1),(⟨w64 ((w64 (k_103 + 1)) + 1),x_130.Old.Cells⟩:x9),x_130.New⟩:a0c)).set (0 + i_104.toNat) (⟨k_103,w64 (k_103 + 1),(⟨w64 ((w64 (k_103 + 1)) + 1),r_137.2⟩:x9),x_130.New⟩:a0c)).set (0 + i_104.toNat) (⟨k_103,w64 (k_103 + 1),(⟨w64 ((w64 (k_103 + 1)) + 1),r_137.2⟩:x9),(⟨r_137.1,x_130.New.Cells⟩:x9)⟩:a0c))) (enc:=o7) (enc':=(o8 3 o5)) (l'':=r_143.2) (y:=(⟨k_103,w64 (k_103 + 1),(⟨w64 ((w64 (k_103 + 1)) + 1),r_137.2⟩:x9),(⟨r_137.1,r_143.2⟩:x9)⟩:a0c)) (j:=5) (el:=(.agg [(.int .i64 k_103),(.int .i64 (w64 (k_103 + 1))),(.int .i64 (w64 ((w64 (k_103 + 1)) + 1))),(.lst 1 (r_137.2.map (o8 3 o5))),(.int .i64 r_137.1),(.hdr v_141 1 (x_130.New.Cells.map (o8 3 o5)))])) rfl rfl (a9o _ _ _ er144) rfl rfl (a2u (a2u (a2u (a2u (a2u ex131))))) rfl (by decide) rfl)<|?_
    refine l7 (.int .i64 r_143.1) rfl<|a0m<|a2s<|a0g<|a0y<|l7 (.int .i64 i_104) rfl<|y8 (.int .i64 (w64 (i_104 + 1))) rfl (.of rfl trivial) rfl<|l7 (.int .i64 (w64 (i_104 + 1))) rfl<|a0m<|?_;exact a1e ⟨(k,r_143.1,w64 (i_104 + 1),(((((a_105.set (0 + i_104.toNat) (⟨k_103,x_130.Id,x_130.Old,x_130.New⟩:a0c)).set (0 + i_104.toNat) (⟨k_103,w64 (k_103 + 1),x_130.Old,x_130.New⟩:a0c)).set (0 + i_104.toNat) (⟨k_103,w64 (k_103 + 1),(⟨w64 ((w64 (k_103 + 1)) + 1),x_130.Old.Cells⟩:x9),x_130.New⟩:a0c)).set (0 + i_104.toNat) (⟨k_103,w64 (k_103 + 1),(⟨w64 ((w64 (k_103 + 1)) + 1),r_137.2⟩:x9),x_130.New⟩:a0c)).set (0 + i_104.toNat) (⟨k_103,w64 (k_103 + 1),(⟨w64 ((w64 (k_103 + 1)) + 1),r_137.2⟩:x9),(⟨r_137.1,x_130.New.Cells⟩:x9)⟩:a0c)).set (0 + i_104.toNat) (⟨k_103,w64 (k_103 + 1),(⟨w64 ((w64 (k_103 + 1)) + 1),r_137.2⟩:x9),(⟨r_137.1,r_143.2⟩:x9)⟩:a0c)),hc1⟩ (Nat.lt_succ_self _) ⟨[],[0],_,_,rfl,rfl,⟨.of_eq (congrArg (AV.own _ 0) (by simp)),⟨.refl _,⟨.refl _,trivial⟩⟩⟩,(.refl _)⟩
   ·refine y7 rfl (bf c128)<|a1y<|a1x<|a1i<|a1w<|?_;obtain rfl:=os hc1;exact ⟨[],[0],_,_,rfl,rfl,⟨.refl _,trivial⟩,(.refl _)⟩
 ·obtain ⟨k_124,l_125⟩:=p126
  refine sr<|l7 (.int .i64 k_124) rfl<|l7 (.int .i64 k_124) rfl<|dk<|a0k<|?_;obtain rfl:=os hf;exact a8n [] [0] rfl ⟨.of trivial trivial,trivial⟩ rfl (.refl _) (.refl _)

/- laws.heldAtomS -/
def c84:a0r :=
 (.seq (.reg (tm 4 (.c (.int .i64 0)) .done))
 (.seq (.seq (.reg (tm 5 (.c (.int .i64 0)) .done))
 (.block 0 (.loop (.seq (.seq (.reg (tm 6 (.t 5) (tm 7 (.t 0) (tq 8 (.len (.t 7)) (tq 9 (.bin .lss (.t 6) (.t 8)) .done)))))
 (.cond (.t 9) .skip
 (.exit 0)))
 (.seq (.block 1 (.seq (.seq (.reg (tm 12 (.t 0) (tm 13 (.t 5) (tq 14 (.iaddr 3 (.t 12) (.t 13)) (tq 15 (.faddr 0 (.t 14)) (tq 16 (.load 1 false (.t 15)) (tm 17 (.t 1) (tq 18 (.bin .neq (.t 16) (.t 17)) .done))))))))
 (.cond (.t 18) (.seq (.reg (tq 4 (.mov (.c (.int .i64 (-1)))) .done))
 .ret)
 .skip))
 (.seq (.reg (tm 19 (.t 1) (tq 20 (.bin .add (.t 19) (.c (.int .i64 1))) (tm 1 (.t 20) .done))))
 (.seq (.seq (.reg (tm 21 (.t 0) (tm 22 (.t 5) (tq 23 (.iaddr 3 (.t 21) (.t 22)) (tq 24 (.faddr 1 (.t 23)) (tq 25 (.load 1 false (.t 24)) (tm 26 (.t 1) (tq 27 (.bin .neq (.t 25) (.t 26)) .done))))))))
 (.cond (.t 27) (.seq (.reg (tq 4 (.mov (.c (.int .i64 (-1)))) .done))
 .ret)
 .skip))
 (.seq (.reg (tm 28 (.t 1) (tq 29 (.bin .add (.t 28) (.c (.int .i64 1))) (tm 1 (.t 29) .done))))
 (.seq (.seq (.reg (tm 30 (.t 0) (tm 31 (.t 5) (tq 32 (.iaddr 3 (.t 30) (.t 31)) (tq 33 (.faddr 2 (.t 32)) (tq 34 (.load 1 false (.t 33)) (tm 35 (.t 1) (.l ⟨(some 36),none,.call 105 [(.t 35)]⟩ [⟨(some 34),none,.load 1 false (.t 33)⟩,⟨(some 33),none,.faddr 2 (.t 32)⟩,⟨(some 32),none,.iaddr 3 (.t 30) (.t 31)⟩]
 (tq 37 (.bin .neq (.t 34) (.t 36)) .done) .non))))))))
 (.cond (.t 37) (.seq (.reg (tq 4 (.mov (.c (.int .i64 (-1)))) .done))
 .ret)
 .skip))
 (.reg (tm 38 (.t 1) (tq 39 (.bin .add (.t 38) (.c (.int .i64 1))) (tm 1 (.t 39) .done))))))))))
 (.reg (tm 10 (.t 5) (tq 11 (.bin .add (.t 10) (.c (.int .i64 1))) (tm 5 (.t 11) .done)))))))))
 (.cut (.seq (.reg (tm 40 (.t 1) (tm 4 (.t 40) .done)))
 .ret))))
theorem e0q:a1p Try.prog Try.f84 = some (c84.erase,[.mov (.t 4)],41):=by kernel_rfl
def a3d :List y9 → Int → Option (Fl Int Int)
  | [],k_31 =>
    some (.go k_31)
  | x_55 :: xs,k_31 =>
    if (x_55.Kind != k_31) then
    some (.ret (-1))
    else
    if (x_55.N != w64 (k_31 + 1)) then
    some (.ret (-1))
    else
    (a5r (w64 ((w64 (k_31 + 1)) + 1))).bind fun r_60 =>
    if (!(x_55.T == r_60)) then
    some (.ret (-1))
    else
    a3d xs (w64 ((w64 ((w64 (k_31 + 1)) + 1)) + 1)) 

def a7q (a_1:(List y9)) (k_2:Int):Option Int :=
    (a3d a_1 k_2).bind fun q => (match q with
    | .ret r => some r
    | .go k_47 =>
    some k_47)
theorem b8a (a_1:(List y9)) (k_2:Int) (r:Int) (hf:a7q a_1 k_2 = some r):a0d Try.prog 84 .flat [(.lst 3 (a_1.map o5)),(.int .i64 k_2)] (.int .i64 r):=by
 refine a0d.of_awp mixed Try.func84 e0q nle ?_;rw [a0t];unfold a7q at hf;unfold c84;refine (show awp Try.prog false 0 _ (ofL [(0,(.lst 3 (a_1.map o5))),(1,(.int .i64 k_2))]) [] _ from ?_);refine sr<|l7 (.int .i64 0) rfl<|dk<|o6<|sr<|l7 (.int .i64 0) rfl<|dk<|?_
 obtain ⟨p48,hb1,hf⟩:=ob hf
 refine a4a (X:={q:Int // p48 = .go q}) (fun q => ([(1,(.int .i64 q.1))],[])) ?_ ?_
 ·refine a0z (X:={q:(Int × Nat) // a3d (a_1.drop q.2) q.1 = some p48}) (fun q => ([(0,(.lst 3 (a_1.map o5))),(1,(.int .i64 q.1.1)),(5,(.int .i64 (q.1.2:Int)))],[])) (fun q => a_1.length - q.1.2) ⟨(k_2,0),hb1⟩ ⟨[],[],_,_,rfl,rfl,⟨.refl _,⟨.refl _,⟨.refl _,trivial⟩⟩⟩,(.refl _)⟩ ?_
  rintro ⟨⟨k_31,i_32⟩,hc1⟩
  have hc1:a3d (a_1.drop i_32) k_31 = some p48:=hc1
  refine (show awp Try.prog false 0 _ (ofL [(0,(.lst 3 (a_1.map o5))),(1,(.int .i64 k_31)),(5,(.int .i64 (i_32:Int)))]) [] _ from ?_)
  rcases a5c a_1 i_32 with ⟨hie51,hd54⟩ | ⟨hlt49,x_55,hx50,hd54⟩
  ·rw [hd54,a3d.eq_1] at hc1
   have hq53:=dlf hie51
   refine o6<|sr<|l7 (.int .i64 (i_32:Int)) rfl<|l7 (.lst 3 (a_1.map o5)) rfl<|a0o (a1c (enc:=o5) rfl) fun hl56 => y8 (.bool (decide ((i_32:Int) < (a_1.length:Int)))) rfl rfl rfl<|dk<|y7 rfl hq53<|a1y<|a1x<|a1i<|a1w<|?_;obtain rfl:=os hc1;exact a5z ⟨_,rfl⟩ ⟨[],[],_,_,rfl,rfl,⟨.refl _,trivial⟩,(.refl _)⟩
  ·rw [hd54,a3d.eq_2] at hc1
   have hq53:=dlt hlt49
   refine o6<|sr<|l7 (.int .i64 (i_32:Int)) rfl<|l7 (.lst 3 (a_1.map o5)) rfl<|a0o (a1c (enc:=o5) rfl) fun hl57 => y8 (.bool (decide ((i_32:Int) < (a_1.length:Int)))) rfl rfl rfl<|dk<|y5 rfl hq53<|a0e<|a0g<|o6<|a3j<|o6<|sr<|l7 (.lst 3 (a_1.map o5)) rfl<|l7 (.int .i64 (i_32:Int)) rfl<|a0b (a1a (enc:=o5) rfl rfl hx50)<|y8 (.iptr (o5 x_55) 0) rfl trivial rfl<|y8 (.int .i64 x_55.Kind) rfl nle rfl<|l7 (.int .i64 k_31) rfl<|y8 (.bool (x_55.Kind != k_31)) rfl rfl rfl<|dk<|?_
   rcases oi hc1 with ⟨c58,hc1⟩ | ⟨c58,hc1⟩
   ·refine y5 rfl c58<|sr<|l7 (.int .i64 (-1)) rfl<|dk<|a0k<|?_;obtain rfl:=os hc1;obtain rfl:=os hf;exact a0l ⟨trivial,trivial⟩ rfl (.refl _)
   ·refine y7 rfl (bf c58)<|a0e<|a0g<|sr<|l7 (.int .i64 k_31) rfl<|y8 (.int .i64 (w64 (k_31 + 1))) rfl rfl rfl<|l7 (.int .i64 (w64 (k_31 + 1))) rfl<|dk<|o6<|sr<|l7 (.lst 3 (a_1.map o5)) rfl<|l7 (.int .i64 (i_32:Int)) rfl<|a0b (a1a (enc:=o5) rfl rfl hx50)<|y8 (.iptr (o5 x_55) 1) rfl trivial rfl<|y8 (.int .i64 x_55.N) rfl nle rfl<|l7 (.int .i64 (w64 (k_31 + 1))) rfl<|y8 (.bool (x_55.N != w64 (k_31 + 1))) rfl rfl rfl<|dk<|?_
    rcases oi hc1 with ⟨c59,hc1⟩ | ⟨c59,hc1⟩
    ·refine y5 rfl c59<|sr<|l7 (.int .i64 (-1)) rfl<|dk<|a0k<|?_;obtain rfl:=os hc1;obtain rfl:=os hf;exact a0l ⟨trivial,trivial⟩ rfl (.refl _)
    ·refine y7 rfl (bf c59)<|a0e<|a0g<|sr<|l7 (.int .i64 (w64 (k_31 + 1))) rfl<|y8 (.int .i64 (w64 ((w64 (k_31 + 1)) + 1))) rfl rfl rfl<|l7 (.int .i64 (w64 ((w64 (k_31 + 1)) + 1))) rfl<|dk<|o6<|sr<|?_
     obtain ⟨r_60,er61,hc1⟩:=ob hc1
     refine l7 (.lst 3 (a_1.map o5)) rfl<|l7 (.int .i64 (i_32:Int)) rfl<|a0b (a1a (enc:=o5) rfl rfl hx50)<|y8 (.iptr (o5 x_55) 2) rfl trivial rfl<|y8 (.str x_55.T) rfl nle rfl<|l7 (.int .i64 (w64 ((w64 (k_31 + 1)) + 1))) rfl<|a3i (a1t (b3a _ _ er61) rfl (.refl _) rfl) b1w trivial<|y8 (.bool (!(x_55.T == r_60))) rfl trivial rfl<|dk<|?_
     rcases oi hc1 with ⟨c62,hc1⟩ | ⟨c62,hc1⟩
     ·refine y5 rfl c62<|sr<|l7 (.int .i64 (-1)) rfl<|dk<|a0k<|?_;obtain rfl:=os hc1;obtain rfl:=os hf;exact a0l ⟨trivial,trivial⟩ rfl (.refl _)
     ·refine y7 rfl (bf c62)<|a0e<|a0g<|a0y<|l7 (.int .i64 (w64 ((w64 (k_31 + 1)) + 1))) rfl<|y8 (.int .i64 (w64 ((w64 ((w64 (k_31 + 1)) + 1)) + 1))) rfl rfl rfl<|l7 (.int .i64 (w64 ((w64 ((w64 (k_31 + 1)) + 1)) + 1))) rfl<|a0m<|a2s<|a0g<|a0y<|l7 (.int .i64 (i_32:Int)) rfl<|y8 (.int .i64 (w64 ((i_32:Int) + 1))) rfl rfl rfl<|l7 (.int .i64 (w64 ((i_32:Int) + 1))) rfl<|a0m<|?_;exact a1e ⟨(w64 ((w64 ((w64 (k_31 + 1)) + 1)) + 1),(i_32 + 1)),hc1⟩ (mul hlt49) ⟨[],[],_,_,rfl,rfl,⟨.refl _,⟨.refl _,⟨.of_eq (congrArg (AV.int _) (a1j hlt49 hl57)),trivial⟩⟩⟩,(.refl _)⟩
 ·rintro ⟨k_47,rfl⟩
  refine sr<|l7 (.int .i64 k_47) rfl<|l7 (.int .i64 k_47) rfl<|dk<|a0k<|?_;obtain rfl:=os hf;exact a0l ⟨trivial,trivial⟩ rfl (.refl _)

/- laws.heldAtomSS -/
def c54:a0r :=
 (.seq (.reg (tm 4 (.c (.int .i64 0)) .done))
 (.seq (.seq (.reg (tm 5 (.c (.int .i64 0)) .done))
 (.block 0 (.loop (.seq (.seq (.reg (tm 6 (.t 5) (tm 7 (.t 0) (tq 8 (.len (.t 7)) (tq 9 (.bin .lss (.t 6) (.t 8)) .done)))))
 (.cond (.t 9) .skip
 (.exit 0)))
 (.seq (.block 1 (.seq (.reg (tm 12 (.t 0) (tm 13 (.t 5) (tq 14 (.iaddr 1 (.t 12) (.t 13)) (tq 15 (.load 1 false (.t 14)) (tm 16 (.t 1) (tq 17 (.call 84 [(.t 15),(.t 16)]) (tm 1 (.t 17) .done))))))))
 (.seq (.reg (tm 18 (.t 1) (tq 19 (.bin .lss (.t 18) (.c (.int .i64 0))) .done)))
 (.cond (.t 19) (.seq (.reg (tq 4 (.mov (.c (.int .i64 (-1)))) .done))
 .ret)
 .skip))))
 (.reg (tm 10 (.t 5) (tq 11 (.bin .add (.t 10) (.c (.int .i64 1))) (tm 5 (.t 11) .done)))))))))
 (.cut (.seq (.reg (tm 20 (.t 1) (tm 4 (.t 20) .done)))
 .ret))))
theorem e0r:a1p Try.prog Try.f54 = some (c54.erase,[.mov (.t 4)],21):=by kernel_rfl
def a2q :List (List y9) → Int → Option (Fl Int Int)
  | [],k_19 =>
    some (.go k_19)
  | x_37 :: xs,k_19 =>
    (a7q x_37 k_19).bind fun r_40 =>
    if (decide (r_40 < 0)) then
    some (.ret (-1))
    else
    a2q xs r_40 

def a6e (a_1:(List (List y9))) (k_2:Int):Option Int :=
    (a2q a_1 k_2).bind fun q => (match q with
    | .ret r => some r
    | .go k_29 =>
    some k_29)
theorem b1s (a_1:(List (List y9))) (k_2:Int) (r:Int) (hf:a6e a_1 k_2 = some r):a0d Try.prog 54 .flat [(.lst 1 (a_1.map (o8 3 o5))),(.int .i64 k_2)] (.int .i64 r):=by
 refine a0d.of_awp mixed Try.func54 e0r nle ?_;rw [a0t];unfold a6e at hf;unfold c54;refine (show awp Try.prog false 0 _ (ofL [(0,(.lst 1 (a_1.map (o8 3 o5)))),(1,(.int .i64 k_2))]) [] _ from ?_);refine sr<|l7 (.int .i64 0) rfl<|dk<|o6<|sr<|l7 (.int .i64 0) rfl<|dk<|?_
 obtain ⟨p30,hb1,hf⟩:=ob hf
 refine a4a (X:={q:Int // p30 = .go q}) (fun q => ([(1,(.int .i64 q.1))],[])) ?_ ?_
 ·refine a0z (X:={q:(Int × Nat) // a2q (a_1.drop q.2) q.1 = some p30}) (fun q => ([(0,(.lst 1 (a_1.map (o8 3 o5)))),(1,(.int .i64 q.1.1)),(5,(.int .i64 (q.1.2:Int)))],[])) (fun q => a_1.length - q.1.2) ⟨(k_2,0),hb1⟩ ⟨[],[],_,_,rfl,rfl,⟨.refl _,⟨.refl _,⟨.refl _,trivial⟩⟩⟩,(.refl _)⟩ ?_
  rintro ⟨⟨k_19,i_20⟩,hc1⟩
  have hc1:a2q (a_1.drop i_20) k_19 = some p30:=hc1
  refine (show awp Try.prog false 0 _ (ofL [(0,(.lst 1 (a_1.map (o8 3 o5)))),(1,(.int .i64 k_19)),(5,(.int .i64 (i_20:Int)))]) [] _ from ?_)
  rcases a5c a_1 i_20 with ⟨hie33,hd36⟩ | ⟨hlt31,x_37,hx32,hd36⟩
  ·rw [hd36,a2q.eq_1] at hc1
   have hq35:=dlf hie33
   refine o6<|sr<|l7 (.int .i64 (i_20:Int)) rfl<|l7 (.lst 1 (a_1.map (o8 3 o5))) rfl<|a0o (a1c (enc:=(o8 3 o5)) rfl) fun hl38 => y8 (.bool (decide ((i_20:Int) < (a_1.length:Int)))) rfl rfl rfl<|dk<|y7 rfl hq35<|a1y<|a1x<|a1i<|a1w<|?_;obtain rfl:=os hc1;exact a5z ⟨_,rfl⟩ ⟨[],[],_,_,rfl,rfl,⟨.refl _,trivial⟩,(.refl _)⟩
  ·rw [hd36,a2q.eq_2] at hc1
   have hq35:=dlt hlt31
   refine o6<|sr<|l7 (.int .i64 (i_20:Int)) rfl<|l7 (.lst 1 (a_1.map (o8 3 o5))) rfl<|a0o (a1c (enc:=(o8 3 o5)) rfl) fun hl39 => y8 (.bool (decide ((i_20:Int) < (a_1.length:Int)))) rfl rfl rfl<|dk<|y5 rfl hq35<|a0e<|a0g<|o6<|a3j<|sr<|?_
   obtain ⟨r_40,er41,hc1⟩:=ob hc1
   refine l7 (.lst 1 (a_1.map (o8 3 o5))) rfl<|l7 (.int .i64 (i_20:Int)) rfl<|a0b (a1a (enc:=(o8 3 o5)) rfl rfl hx32)<|y8 (.lst 3 (x_37.map o5)) rfl ⟨rfl,rfl⟩ rfl<|l7 (.int .i64 k_19) rfl<|a0b (a1t (b8a _ _ _ er41) rfl (.refl _) rfl)<|l7 (.int .i64 r_40) rfl<|dk<|sr<|l7 (.int .i64 r_40) rfl<|y8 (.bool (decide (r_40 < 0))) rfl rfl rfl<|dk<|?_
   rcases oi hc1 with ⟨c42,hc1⟩ | ⟨c42,hc1⟩
   ·refine y5 rfl c42<|sr<|l7 (.int .i64 (-1)) rfl<|dk<|a0k<|?_;obtain rfl:=os hc1;obtain rfl:=os hf;exact a0l ⟨trivial,trivial⟩ rfl (.refl _)
   ·refine y7 rfl (bf c42)<|a0e<|a2s<|a0g<|a0y<|l7 (.int .i64 (i_20:Int)) rfl<|y8 (.int .i64 (w64 ((i_20:Int) + 1))) rfl rfl rfl<|l7 (.int .i64 (w64 ((i_20:Int) + 1))) rfl<|a0m<|?_;exact a1e ⟨(r_40,(i_20 + 1)),hc1⟩ (mul hlt31) ⟨[],[],_,_,rfl,rfl,⟨.refl _,⟨.refl _,⟨.of_eq (congrArg (AV.int _) (a1j hlt31 hl39)),trivial⟩⟩⟩,(.refl _)⟩
 ·rintro ⟨k_29,rfl⟩
  refine sr<|l7 (.int .i64 k_29) rfl<|l7 (.int .i64 k_29) rfl<|dk<|a0k<|?_;obtain rfl:=os hf;exact a0l ⟨trivial,trivial⟩ rfl (.refl _)

/- laws.heldChangeS -/
def c33:a0r :=
 (.seq (.reg (tm 4 (.c (.int .i64 0)) .done))
 (.seq (.seq (.reg (tm 5 (.c (.int .i64 0)) .done))
 (.block 0 (.loop (.seq (.seq (.reg (tm 6 (.t 5) (tm 7 (.t 0) (tq 8 (.len (.t 7)) (tq 9 (.bin .lss (.t 6) (.t 8)) .done)))))
 (.cond (.t 9) .skip
 (.exit 0)))
 (.seq (.block 1 (.seq (.seq (.reg (tm 12 (.t 0) (tm 13 (.t 5) (tq 14 (.iaddr 6 (.t 12) (.t 13)) (tq 15 (.faddr 0 (.t 14)) (tq 16 (.load 1 false (.t 15)) (tm 17 (.t 1) (tq 18 (.bin .neq (.t 16) (.t 17)) .done))))))))
 (.cond (.t 18) (.seq (.reg (tq 4 (.mov (.c (.int .i64 (-1)))) .done))
 .ret)
 .skip))
 (.seq (.reg (tm 19 (.t 1) (tq 20 (.bin .add (.t 19) (.c (.int .i64 1))) (tm 1 (.t 20) .done))))
 (.seq (.seq (.reg (tm 21 (.t 0) (tm 22 (.t 5) (tq 23 (.iaddr 6 (.t 21) (.t 22)) (tq 24 (.faddr 1 (.t 23)) (tq 25 (.load 1 false (.t 24)) (tm 26 (.t 1) (tq 27 (.bin .neq (.t 25) (.t 26)) .done))))))))
 (.cond (.t 27) (.seq (.reg (tq 4 (.mov (.c (.int .i64 (-1)))) .done))
 .ret)
 .skip))
 (.seq (.reg (tm 28 (.t 1) (tq 29 (.bin .add (.t 28) (.c (.int .i64 1))) (tm 1 (.t 29) .done))))
 (.seq (.seq (.reg (tm 30 (.t 0) (tm 31 (.t 5) (tq 32 (.iaddr 6 (.t 30) (.t 31)) (tq 33 (.faddr 2 (.t 32)) (tq 34 (.faddr 0 (.t 33)) (tq 35 (.load 1 false (.t 34)) (tm 36 (.t 1) (tq 37 (.bin .neq (.t 35) (.t 36)) .done)))))))))
 (.cond (.t 37) (.seq (.reg (tq 4 (.mov (.c (.int .i64 (-1)))) .done))
 .ret)
 .skip))
 (.seq (.reg (tm 38 (.t 1) (tq 39 (.bin .add (.t 38) (.c (.int .i64 1))) (tm 1 (.t 39) .done))))
 (.seq (.reg (tm 40 (.t 0) (tm 41 (.t 5) (tq 42 (.iaddr 6 (.t 40) (.t 41)) (tq 43 (.faddr 2 (.t 42)) (tq 44 (.faddr 1 (.t 43)) (tq 45 (.load 1 false (.t 44)) (tm 46 (.t 1) (tq 47 (.call 54 [(.t 45),(.t 46)]) (tm 1 (.t 47) .done))))))))))
 (.seq (.seq (.reg (tm 48 (.t 1) (tq 49 (.bin .lss (.t 48) (.c (.int .i64 0))) .done)))
 (.cond (.t 49) (.seq (.reg (tq 4 (.mov (.c (.int .i64 (-1)))) .done))
 .ret)
 .skip))
 (.seq (.seq (.reg (tm 50 (.t 0) (tm 51 (.t 5) (tq 52 (.iaddr 6 (.t 50) (.t 51)) (tq 53 (.faddr 4 (.t 52)) (tq 54 (.faddr 0 (.t 53)) (tq 55 (.load 1 false (.t 54)) (tm 56 (.t 1) (tq 57 (.bin .neq (.t 55) (.t 56)) .done)))))))))
 (.cond (.t 57) (.seq (.reg (tq 4 (.mov (.c (.int .i64 (-1)))) .done))
 .ret)
 .skip))
 (.seq (.reg (tm 58 (.t 1) (tq 59 (.bin .add (.t 58) (.c (.int .i64 1))) (tm 1 (.t 59) .done))))
 (.seq (.reg (tm 60 (.t 0) (tm 61 (.t 5) (tq 62 (.iaddr 6 (.t 60) (.t 61)) (tq 63 (.faddr 4 (.t 62)) (tq 64 (.faddr 1 (.t 63)) (tq 65 (.load 1 false (.t 64)) (tm 66 (.t 1) (tq 67 (.call 54 [(.t 65),(.t 66)]) (tm 1 (.t 67) .done))))))))))
 (.seq (.reg (tm 68 (.t 1) (tq 69 (.bin .lss (.t 68) (.c (.int .i64 0))) .done)))
 (.cond (.t 69) (.seq (.reg (tq 4 (.mov (.c (.int .i64 (-1)))) .done))
 .ret)
 .skip))))))))))))))
 (.reg (tm 10 (.t 5) (tq 11 (.bin .add (.t 10) (.c (.int .i64 1))) (tm 5 (.t 11) .done)))))))))
 (.cut (.seq (.reg (tm 70 (.t 1) (tm 4 (.t 70) .done)))
 .ret))))
theorem e0s:a1p Try.prog Try.f33 = some (c33.erase,[.mov (.t 4)],71):=by kernel_rfl
def a2j :List a0c → Int → Option (Fl Int Int)
  | [],k_53 =>
    some (.go k_53)
  | x_88 :: xs,k_53 =>
    if (x_88.Table != k_53) then
    some (.ret (-1))
    else
    if (x_88.Id != w64 (k_53 + 1)) then
    some (.ret (-1))
    else
    if (x_88.Old.Id != w64 ((w64 (k_53 + 1)) + 1)) then
    some (.ret (-1))
    else
    (a6e x_88.Old.Cells (w64 ((w64 ((w64 (k_53 + 1)) + 1)) + 1))).bind fun r_94 =>
    if (decide (r_94 < 0)) then
    some (.ret (-1))
    else
    if (x_88.New.Id != r_94) then
    some (.ret (-1))
    else
    (a6e x_88.New.Cells (w64 (r_94 + 1))).bind fun r_98 =>
    if (decide (r_98 < 0)) then
    some (.ret (-1))
    else
    a2j xs r_98 

def a5t (a_1:(List a0c)) (k_2:Int):Option Int :=
    (a2j a_1 k_2).bind fun q => (match q with
    | .ret r => some r
    | .go k_80 =>
    some k_80)
theorem b1m (a_1:(List a0c)) (k_2:Int) (r:Int) (hf:a5t a_1 k_2 = some r):a0d Try.prog 33 .flat [(.lst 6 (a_1.map o7)),(.int .i64 k_2)] (.int .i64 r):=by
 refine a0d.of_awp mixed Try.func33 e0s nle ?_;rw [a0t];unfold a5t at hf;unfold c33;refine (show awp Try.prog false 0 _ (ofL [(0,(.lst 6 (a_1.map o7))),(1,(.int .i64 k_2))]) [] _ from ?_);refine sr<|l7 (.int .i64 0) rfl<|dk<|o6<|sr<|l7 (.int .i64 0) rfl<|dk<|?_
 obtain ⟨p81,hb1,hf⟩:=ob hf
 refine a4a (X:={q:Int // p81 = .go q}) (fun q => ([(1,(.int .i64 q.1))],[])) ?_ ?_
 ·refine a0z (X:={q:(Int × Nat) // a2j (a_1.drop q.2) q.1 = some p81}) (fun q => ([(0,(.lst 6 (a_1.map o7))),(1,(.int .i64 q.1.1)),(5,(.int .i64 (q.1.2:Int)))],[])) (fun q => a_1.length - q.1.2) ⟨(k_2,0),hb1⟩ ⟨[],[],_,_,rfl,rfl,⟨.refl _,⟨.refl _,⟨.refl _,trivial⟩⟩⟩,(.refl _)⟩ ?_
  rintro ⟨⟨k_53,i_54⟩,hc1⟩
  have hc1:a2j (a_1.drop i_54) k_53 = some p81:=hc1
  refine (show awp Try.prog false 0 _ (ofL [(0,(.lst 6 (a_1.map o7))),(1,(.int .i64 k_53)),(5,(.int .i64 (i_54:Int)))]) [] _ from ?_)
  rcases a5c a_1 i_54 with ⟨hie84,hd87⟩ | ⟨hlt82,x_88,hx83,hd87⟩
  ·rw [hd87,a2j.eq_1] at hc1
   have hq86:=dlf hie84
   refine o6<|sr<|l7 (.int .i64 (i_54:Int)) rfl<|l7 (.lst 6 (a_1.map o7)) rfl<|a0o (a1c (enc:=o7) rfl) fun hl89 => y8 (.bool (decide ((i_54:Int) < (a_1.length:Int)))) rfl rfl rfl<|dk<|y7 rfl hq86<|a1y<|a1x<|a1i<|a1w<|?_;obtain rfl:=os hc1;exact a5z ⟨_,rfl⟩ ⟨[],[],_,_,rfl,rfl,⟨.refl _,trivial⟩,(.refl _)⟩
  ·rw [hd87,a2j.eq_2] at hc1
   have hq86:=dlt hlt82
   refine o6<|sr<|l7 (.int .i64 (i_54:Int)) rfl<|l7 (.lst 6 (a_1.map o7)) rfl<|a0o (a1c (enc:=o7) rfl) fun hl90 => y8 (.bool (decide ((i_54:Int) < (a_1.length:Int)))) rfl rfl rfl<|dk<|y5 rfl hq86<|a0e<|a0g<|o6<|a3j<|o6<|sr<|l7 (.lst 6 (a_1.map o7)) rfl<|l7 (.int .i64 (i_54:Int)) rfl<|a0b (a1a (enc:=o7) rfl rfl hx83)<|y8 (.iptr (o7 x_88) 0) rfl trivial rfl<|y8 (.int .i64 x_88.Table) rfl nle rfl<|l7 (.int .i64 k_53) rfl<|y8 (.bool (x_88.Table != k_53)) rfl rfl rfl<|dk<|?_
   rcases oi hc1 with ⟨c91,hc1⟩ | ⟨c91,hc1⟩
   ·refine y5 rfl c91<|sr<|l7 (.int .i64 (-1)) rfl<|dk<|a0k<|?_;obtain rfl:=os hc1;obtain rfl:=os hf;exact a0l ⟨trivial,trivial⟩ rfl (.refl _)
   ·refine y7 rfl (bf c91)<|a0e<|a0g<|sr<|l7 (.int .i64 k_53) rfl<|y8 (.int .i64 (w64 (k_53 + 1))) rfl rfl rfl<|l7 (.int .i64 (w64 (k_53 + 1))) rfl<|dk<|o6<|sr<|l7 (.lst 6 (a_1.map o7)) rfl<|l7 (.int .i64 (i_54:Int)) rfl<|a0b (a1a (enc:=o7) rfl rfl hx83)<|y8 (.iptr (o7 x_88) 1) rfl trivial rfl<|y8 (.int .i64 x_88.Id) rfl nle rfl<|l7 (.int .i64 (w64 (k_53 + 1))) rfl<|y8 (.bool (x_88.Id != w64 (k_53 + 1))) rfl rfl rfl<|dk<|?_
    rcases oi hc1 with ⟨c92,hc1⟩ | ⟨c92,hc1⟩
    ·refine y5 rfl c92<|sr<|l7 (.int .i64 (-1)) rfl<|dk<|a0k<|?_;obtain rfl:=os hc1;obtain rfl:=os hf;exact a0l ⟨trivial,trivial⟩ rfl (.refl _)
    ·refine y7 rfl (bf c92)<|a0e<|a0g<|sr<|l7 (.int .i64 (w64 (k_53 + 1))) rfl<|y8 (.int .i64 (w64 ((w64 (k_53 + 1)) + 1))) rfl rfl rfl<|l7 (.int .i64 (w64 ((w64 (k_53 + 1)) + 1))) rfl<|dk<|o6<|sr<|l7 (.lst 6 (a_1.map o7)) rfl<|l7 (.int .i64 (i_54:Int)) rfl<|a0b (a1a (enc:=o7) rfl rfl hx83)<|y8 (.iptr (o7 x_88) 2) rfl trivial rfl<|y8 (.iptr (o7 x_88) 2) rfl trivial rfl<|y8 (.int .i64 x_88.Old.Id) rfl nle rfl<|l7 (.int .i64 (w64 ((w64 (k_53 + 1)) + 1))) rfl<|y8 (.bool (x_88.Old.Id != w64 ((w64 (k_53 + 1)) + 1))) rfl rfl rfl<|dk<|?_
     rcases oi hc1 with ⟨c93,hc1⟩ | ⟨c93,hc1⟩
     ·refine y5 rfl c93<|sr<|l7 (.int .i64 (-1)) rfl<|dk<|a0k<|?_;obtain rfl:=os hc1;obtain rfl:=os hf;exact a0l ⟨trivial,trivial⟩ rfl (.refl _)
     ·refine y7 rfl (bf c93)<|a0e<|a0g<|sr<|l7 (.int .i64 (w64 ((w64 (k_53 + 1)) + 1))) rfl<|y8 (.int .i64 (w64 ((w64 ((w64 (k_53 + 1)) + 1)) + 1))) rfl rfl rfl<|l7 (.int .i64 (w64 ((w64 ((w64 (k_53 + 1)) + 1)) + 1))) rfl<|dk<|sr<|?_
      obtain ⟨r_94,er95,hc1⟩:=ob hc1
      refine l7 (.lst 6 (a_1.map o7)) rfl<|l7 (.int .i64 (i_54:Int)) rfl<|a0b (a1a (enc:=o7) rfl rfl hx83)<|y8 (.iptr (o7 x_88) 2) rfl trivial rfl<|y8 (.iptr (o7 x_88) 3) rfl trivial rfl<|y8 (.lst 1 (x_88.Old.Cells.map (o8 3 o5))) rfl nle rfl<|l7 (.int .i64 (w64 ((w64 ((w64 (k_53 + 1)) + 1)) + 1))) rfl<|a0b (a1t (b1s _ _ _ er95) rfl (.refl _) rfl)<|l7 (.int .i64 r_94) rfl<|dk<|o6<|sr<|l7 (.int .i64 r_94) rfl<|y8 (.bool (decide (r_94 < 0))) rfl rfl rfl<|dk<|?_
      rcases oi hc1 with ⟨c96,hc1⟩ | ⟨c96,hc1⟩
      ·refine y5 rfl c96<|sr<|l7 (.int .i64 (-1)) rfl<|dk<|a0k<|?_;obtain rfl:=os hc1;obtain rfl:=os hf;exact a0l ⟨trivial,trivial⟩ rfl (.refl _)
      ·refine y7 rfl (bf c96)<|a0e<|a0g<|o6<|sr<|l7 (.lst 6 (a_1.map o7)) rfl<|l7 (.int .i64 (i_54:Int)) rfl<|a0b (a1a (enc:=o7) rfl rfl hx83)<|y8 (.iptr (o7 x_88) 4) rfl trivial rfl<|y8 (.iptr (o7 x_88) 4) rfl trivial rfl<|y8 (.int .i64 x_88.New.Id) rfl nle rfl<|l7 (.int .i64 r_94) rfl<|y8 (.bool (x_88.New.Id != r_94)) rfl rfl rfl<|dk<|?_
       rcases oi hc1 with ⟨c97,hc1⟩ | ⟨c97,hc1⟩
       ·refine y5 rfl c97<|sr<|l7 (.int .i64 (-1)) rfl<|dk<|a0k<|?_;obtain rfl:=os hc1;obtain rfl:=os hf;exact a0l ⟨trivial,trivial⟩ rfl (.refl _)
       ·refine y7 rfl (bf c97)<|a0e<|a0g<|sr<|l7 (.int .i64 r_94) rfl<|y8 (.int .i64 (w64 (r_94 + 1))) rfl rfl rfl<|l7 (.int .i64 (w64 (r_94 + 1))) rfl<|dk<|sr<|?_
        obtain ⟨r_98,er99,hc1⟩:=ob hc1
        refine l7 (.lst 6 (a_1.map o7)) rfl<|l7 (.int .i64 (i_54:Int)) rfl<|a0b (a1a (enc:=o7) rfl rfl hx83)<|y8 (.iptr (o7 x_88) 4) rfl trivial rfl<|y8 (.iptr (o7 x_88) 5) rfl trivial rfl<|y8 (.lst 1 (x_88.New.Cells.map (o8 3 o5))) rfl nle rfl<|l7 (.int .i64 (w64 (r_94 + 1))) rfl<|a0b (a1t (b1s _ _ _ er99) rfl (.refl _) rfl)<|l7 (.int .i64 r_98) rfl<|dk<|sr<|l7 (.int .i64 r_98) rfl<|y8 (.bool (decide (r_98 < 0))) rfl rfl rfl<|dk<|?_
        rcases oi hc1 with ⟨d0z,hc1⟩ | ⟨d0z,hc1⟩
        ·refine y5 rfl d0z<|sr<|l7 (.int .i64 (-1)) rfl<|dk<|a0k<|?_;obtain rfl:=os hc1;obtain rfl:=os hf;exact a0l ⟨trivial,trivial⟩ rfl (.refl _)
        ·refine y7 rfl (bf d0z)<|a0e<|a2s<|a0g<|a0y<|l7 (.int .i64 (i_54:Int)) rfl<|y8 (.int .i64 (w64 ((i_54:Int) + 1))) rfl rfl rfl<|l7 (.int .i64 (w64 ((i_54:Int) + 1))) rfl<|a0m<|?_;exact a1e ⟨(r_98,(i_54 + 1)),hc1⟩ (mul hlt82) ⟨[],[],_,_,rfl,rfl,⟨.refl _,⟨.refl _,⟨.of_eq (congrArg (AV.int _) (a1j hlt82 hl90)),trivial⟩⟩⟩,(.refl _)⟩
 ·rintro ⟨k_80,rfl⟩
  refine sr<|l7 (.int .i64 k_80) rfl<|l7 (.int .i64 k_80) rfl<|dk<|a0k<|?_;obtain rfl:=os hf;exact a0l ⟨trivial,trivial⟩ rfl (.refl _)

/- laws.FnExactDiffStores -/
def c6:a0r :=
 (.seq (.reg (tq 2 (.box 2 (.t 0)) (tq 3 (.box 2 (.t 1)) (tm 4 (.c (.bool false)) .done))))
 (.seq (.reg (tm 5 (.c (.int .i64 1048576)) .done))
 (.seq (.reg (tq 17 (.load 2 true (.t 2)) (tm 18 (.t 5) (tq 19 (.call 18 [(.t 17),(.t 18)]) (tm 5 (.t 19) .done)))))
 (.seq (.seq (.reg (tm 20 (.t 5) (tq 21 (.bin .lss (.t 20) (.c (.int .i64 0))) .done)))
 (.cond (.t 21) (.seq (.reg (tm 4 (.c (.bool true)) .done))
 .ret)
 .skip))
 (.seq (.reg (tq 22 (.load 2 true (.t 3)) (tm 23 (.t 5) (tq 24 (.call 18 [(.t 22),(.t 23)]) (tm 5 (.t 24) .done)))))
 (.seq (.seq (.reg (tm 25 (.t 5) (tq 26 (.bin .lss (.t 25) (.c (.int .i64 0))) .done)))
 (.cond (.t 26) (.seq (.reg (tm 4 (.c (.bool true)) .done))
 .ret)
 .skip))
 (.seq (.reg (tq 28 (.load 2 true (.t 2)) (tq 30 (.load 2 true (.t 3)) (.l ⟨(some 29),none,.call 21 [(.t 28)]⟩ [⟨(some 30),none,.load 2 true (.t 3)⟩]
 (.l ⟨(some 31),none,.call 21 [(.t 30)]⟩ []
 (.l ⟨(some 32),none,.call 31 [(.t 29),(.t 31)]⟩ []
 (tm 27 (.t 32) (tq 33 (.extract 0 (.t 27)) (tq 34 (.extract 1 (.t 27)) (tm 6 (.t 33) (tm 7 (.t 34) .done))))) .non) .non) .non))))
 (.seq (.reg (tq 35 (.load 2 true (.t 2)) (tq 36 (.call 21 [(.t 35)]) (tq 8 (.box 2 (.c (.agg [.nil,(.int .i64 0)]))) (.q ⟨none,none,.store 2 (.t 8) (.t 36)⟩
 .done)))))
 (.seq (.reg (tq 37 (.load 2 true (.t 3)) (tq 38 (.call 21 [(.t 37)]) (tq 9 (.box 2 (.c (.agg [.nil,(.int .i64 0)]))) (.q ⟨none,none,.store 2 (.t 9) (.t 38)⟩
 .done)))))
 (.seq (.reg (tq 40 (.load 2 true (.t 8)) (tq 41 (.load 2 true (.t 9)) (tq 42 (.call 32 [(.t 40),(.t 41)]) (tm 39 (.t 42) (tq 43 (.extract 0 (.t 39)) (tq 44 (.extract 1 (.t 39)) (tm 10 (.t 43) (tm 11 (.t 44) .done)))))))))
 (.seq (.seq (.reg (tm 45 (.t 10) (tm 46 (.t 6) (tq 47 (.call 25 [(.t 45),(.t 46)]) (tq 48 (.not (.t 47)) (tm 49 (.t 48) (tg 50 49 false (.mov (.t 11)) (tg 51 49 false (.mov (.t 7)) (tg 52 49 false (.bin .neq (.t 50) (.t 51)) (tq 53 (.pick (.t 49) (.c (.bool true)) (.t 52)) .done))))))))))
 (.cut (.cond (.t 53) (.seq (.reg (tm 4 (.c (.bool false)) .done))
 .ret)
 .skip)))
 (.seq (.seq (.reg (tq 54 (.load 2 true (.t 8)) (tq 55 (.load 2 true (.t 2)) (.l ⟨(some 56),none,.call 21 [(.t 55)]⟩ [⟨(some 54),none,.load 2 true (.t 8)⟩]
 (.l ⟨(some 57),none,.call 24 [(.t 54),(.t 56)]⟩ []
 (tq 58 (.not (.t 57)) .done) .non) .non))))
 (.cond (.t 58) (.seq (.reg (tm 4 (.c (.bool false)) .done))
 .ret)
 .skip))
 (.seq (.seq (.reg (tq 59 (.load 2 true (.t 9)) (tq 60 (.load 2 true (.t 3)) (.l ⟨(some 61),none,.call 21 [(.t 60)]⟩ [⟨(some 59),none,.load 2 true (.t 9)⟩]
 (.l ⟨(some 62),none,.call 24 [(.t 59),(.t 61)]⟩ []
 (tq 63 (.not (.t 62)) .done) .non) .non))))
 (.cond (.t 63) (.seq (.reg (tm 4 (.c (.bool false)) .done))
 .ret)
 .skip))
 (.seq (.reg (tm 12 (.c (.int .i64 1)) .done))
 (.seq (.reg (tq 64 (.load 2 true (.t 8)) (tm 65 (.t 12) (tq 66 (.call 26 [(.t 64),(.t 65)]) (tm 12 (.t 66) .done)))))
 (.seq (.reg (tq 67 (.load 2 true (.t 9)) (tm 68 (.t 12) (tq 69 (.call 26 [(.t 67),(.t 68)]) (tm 12 (.t 69) .done)))))
 (.seq (.seq (.reg (tm 70 (.t 12) (tq 71 (.bin .lss (.t 70) (.c (.int .i64 0))) (tm 72 (.t 71) (tg 73 72 false (.mov (.t 10)) (tg 74 72 false (.mov (.t 6)) (tg 75 72 false (.call 25 [(.t 73),(.t 74)]) (tg 76 72 false (.not (.t 75)) (tq 77 (.pick (.t 72) (.c (.bool true)) (.t 76)) (tm 78 (.t 77) (tg 79 78 false (.mov (.t 11)) (tg 80 78 false (.mov (.t 7)) (tg 81 78 false (.bin .neq (.t 79) (.t 80)) (tq 82 (.pick (.t 78) (.c (.bool true)) (.t 81)) .done))))))))))))))
 (.cut (.cond (.t 82) (.seq (.reg (tm 4 (.c (.bool false)) .done))
 .ret)
 .skip)))
 (.seq (.reg (tm 13 (.c (.int .i64 1)) .done))
 (.seq (.reg (tm 83 (.t 10) (tm 84 (.t 13) (tq 85 (.call 27 [(.t 83),(.t 84)]) (tm 13 (.t 85) .done)))))
 (.seq (.reg (tm 14 (.c (.int .i64 1)) .done))
 (.seq (.reg (tm 86 (.t 10) (tm 87 (.t 14) (tq 88 (.call 33 [(.t 86),(.t 87)]) (tm 14 (.t 88) .done)))))
 (.seq (.seq (.reg (tm 89 (.t 14) (tq 90 (.bin .lss (.t 89) (.c (.int .i64 0))) .done)))
 (.cond (.t 90) (.seq (.reg (tm 4 (.c (.bool false)) .done))
 .ret)
 .skip))
 (.seq (.seq (.reg (tm 91 (.t 14) (tm 92 (.t 13) (tq 93 (.bin .neq (.t 91) (.t 92)) .done))))
 (.cond (.t 93) (.seq (.reg (tm 4 (.c (.bool false)) .done))
 .ret)
 .skip))
 (.seq (.reg (tq 95 (.load 2 true (.t 2)) (tq 97 (.load 2 true (.t 3)) (.l ⟨(some 96),none,.call 21 [(.t 95)]⟩ [⟨(some 97),none,.load 2 true (.t 3)⟩]
 (.l ⟨(some 98),none,.call 21 [(.t 97)]⟩ []
 (.l ⟨(some 99),none,.call 32 [(.t 96),(.t 98)]⟩ []
 (tm 94 (.t 99) (tq 100 (.extract 0 (.t 94)) (tq 101 (.extract 1 (.t 94)) (tm 15 (.t 100) (tm 16 (.t 101) .done))))) .non) .non) .non))))
 (.seq (.seq (.reg (tm 102 (.t 15) (tm 103 (.t 6) (tq 104 (.call 25 [(.t 102),(.t 103)]) (tq 105 (.not (.t 104)) (tm 106 (.t 105) (tg 107 106 false (.mov (.t 16)) (tg 108 106 false (.mov (.t 7)) (tg 109 106 false (.bin .neq (.t 107) (.t 108)) (tq 110 (.pick (.t 106) (.c (.bool true)) (.t 109)) .done))))))))))
 (.cut (.cond (.t 110) (.seq (.reg (tm 4 (.c (.bool false)) .done))
 .ret)
 .skip)))
 (.seq (.reg (tm 14 (.c (.int .i64 1)) .done))
 (.seq (.reg (tm 111 (.t 10) (tm 112 (.t 14) (tq 113 (.call 33 [(.t 111),(.t 112)]) (tm 14 (.t 113) .done)))))
 (.seq (.seq (.reg (tm 114 (.t 14) (tq 115 (.bin .lss (.t 114) (.c (.int .i64 0))) .done)))
 (.cond (.t 115) (.seq (.reg (tm 4 (.c (.bool false)) .done))
 .ret)
 .skip))
 (.seq (.seq (.reg (tm 116 (.t 14) (tm 117 (.t 13) (tq 118 (.bin .neq (.t 116) (.t 117)) .done))))
 (.cond (.t 118) (.seq (.reg (tm 4 (.c (.bool false)) .done))
 .ret)
 .skip))
 (.seq (.reg (tm 4 (.c (.bool true)) .done))
 .ret))))))))))))))))))))))))))))))
theorem fc6:a1p Try.prog Try.f6 = some (c6.erase,[.mov (.t 4)],119):=by kernel_rfl
def a5o (aA_1:a1d) (aB_2:a1d):Option Bool :=
    (a7u aA_1 1048576).bind fun r_3 =>
    if (decide (r_3 < 0)) then
    some true
    else
    (a7u aB_2 r_3).bind fun r_6 =>
    if (decide (r_6 < 0)) then
    some true
    else
    (a4f aA_1).bind fun r_9 =>
    (a4f aB_2).bind fun r_11 =>
    (a7c r_9 r_11).bind fun r_13 =>
    (a4f aA_1).bind fun r_15 =>
    (a4f aB_2).bind fun r_17 =>
    (a6d r_15 r_17).bind fun r_19 =>
    (((a5w r_19.1 r_13.1).bind fun r_26 =>
    if (!r_26) then
    some true
    else
    some (r_19.2 != r_13.2):Option Bool)).bind fun s53_24 =>
    if s53_24 then
    some false
    else
    (a4f aA_1).bind fun r_30 =>
    (a7w r_15 r_30).bind fun r_32 =>
    if (!r_32) then
    some false
    else
    (a4f aB_2).bind fun r_35 =>
    (a7w r_17 r_35).bind fun r_37 =>
    if (!r_37) then
    some false
    else
    (a6r r_15 1).bind fun r_40 =>
    (a6r r_17 r_40.1).bind fun r_43 =>
    ((if (decide (r_43.1 < 0)) then
    some true
    else
    (a5w r_19.1 r_13.1).bind fun r_52 =>
    some (bif (!r_52) then true else (r_19.2 != r_13.2)):Option Bool)).bind fun s82_49 =>
    if s82_49 then
    some false
    else
    (a6s r_19.1 1).bind fun r_55 =>
    (a5t r_55.2 1).bind fun r_58 =>
    if (decide (r_58 < 0)) then
    some false
    else
    if (r_58 != r_55.1) then
    some false
    else
    (a4f aA_1).bind fun r_62 =>
    (a4f aB_2).bind fun r_64 =>
    (a6d r_62 r_64).bind fun r_66 =>
    (((a5w r_66.1 r_13.1).bind fun r_73 =>
    if (!r_73) then
    some true
    else
    some (r_66.2 != r_13.2):Option Bool)).bind fun s110_71 =>
    if s110_71 then
    some false
    else
    (a5t r_55.2 1).bind fun r_77 =>
    if (decide (r_77 < 0)) then
    some false
    else
    if (r_77 != r_55.1) then
    some false
    else
    some true
theorem b1y (aA_1:a1d) (aB_2:a1d) (r:Bool) (hf:a5o aA_1 aB_2 = some r):a0d Try.prog 6 .flat [(a1r aA_1),(a1r aB_2)] (.bool r):=by
 refine a0d.of_awp' (md:=⟨true,true,true⟩) (fun _ => rfl) (fun _ => rfl) (fun h => by cases h) mixed Try.func6 fc6 nle ?_;rw [a0t];unfold a5o at hf;unfold c6;refine (show awp Try.prog ⟨true,true,true⟩ 0 _ (ofL [(0,(a1r aA_1)),(1,(a1r aB_2))]) [] _ from ?_);refine sr<|a0b (a2t (j:=0) (c:=(.agg [(.lst 1 (aA_1.Tables.map (o8 2 l9))),(.int .i64 aA_1.Next)])) rfl trivial rfl rfl)<|a0b (a2t (j:=1) (c:=(.agg [(.lst 1 (aB_2.Tables.map (o8 2 l9))),(.int .i64 aB_2.Next)])) rfl trivial rfl rfl)<|l7 (.bool false) rfl<|dk<|sr<|l7 (.int .i64 1048576) rfl<|dk<|sr<|?_
 obtain ⟨r_3,er4,hf⟩:=ob hf
 refine y8 (.agg [(.lst 1 (aA_1.Tables.map (o8 2 l9))),(.int .i64 aA_1.Next)]) rfl (.of nle trivial) rfl<|l7 (.int .i64 1048576) rfl<|a0b (a1t (b3y _ _ _ er4) rfl (.refl _) rfl)<|l7 (.int .i64 r_3) rfl<|dk<|o6<|sr<|l7 (.int .i64 r_3) rfl<|y8 (.bool (decide (r_3 < 0))) rfl (.of rfl trivial) rfl<|dk<|?_
 rcases oi hf with ⟨c5,hf⟩ | ⟨c5,hf⟩
 ·refine y5 rfl c5<|sr<|l7 (.bool true) rfl<|dk<|a0k<|?_;obtain rfl:=os hf;exact a0l ⟨.of trivial trivial,trivial⟩ rfl (.refl _)
 ·refine y7 rfl (bf c5)<|a0e<|a0g<|sr<|?_
  obtain ⟨r_6,er7,hf⟩:=ob hf
  refine y8 (.agg [(.lst 1 (aB_2.Tables.map (o8 2 l9))),(.int .i64 aB_2.Next)]) rfl (.of nle trivial) rfl<|l7 (.int .i64 r_3) rfl<|a0b (a1t (b3y _ _ _ er7) rfl (.refl _) rfl)<|l7 (.int .i64 r_6) rfl<|dk<|o6<|sr<|l7 (.int .i64 r_6) rfl<|y8 (.bool (decide (r_6 < 0))) rfl (.of rfl trivial) rfl<|dk<|?_
  rcases oi hf with ⟨c8,hf⟩ | ⟨c8,hf⟩
  ·refine y5 rfl c8<|sr<|l7 (.bool true) rfl<|dk<|a0k<|?_;obtain rfl:=os hf;exact a0l ⟨.of trivial trivial,trivial⟩ rfl (.refl _)
  ·refine y7 rfl (bf c8)<|a0e<|a0g<|sr<|?_
   obtain ⟨r_9,er10,hf⟩:=ob hf
   obtain ⟨r_11,er12,hf⟩:=ob hf
   obtain ⟨r_13,er14,hf⟩:=ob hf
   refine y8 (.agg [(.lst 1 (aA_1.Tables.map (o8 2 l9))),(.int .i64 aA_1.Next)]) rfl (.of nle trivial) rfl<|y8 (.agg [(.lst 1 (aB_2.Tables.map (o8 2 l9))),(.int .i64 aB_2.Next)]) rfl (.of nle trivial) rfl<|a3i (a3f (v:=(.agg [(.own 2 0 r_9.Tables.length),(.int .i64 r_9.Next)])) (h':=[.row 1 (r_9.Tables.map (o8 2 l9))]) (a5g _ _ er10) rfl (.refl _) (by simp only [a1s,a1v,List.length_map,a6i,List.nil_append,List.append_nil,List.cons_append];rfl)) (.inr ⟨⟨(.of nle trivial),rfl⟩,trivial⟩) trivial<|a3i (a3f (v:=(.agg [(.own 3 0 r_11.Tables.length),(.int .i64 r_11.Next)])) (h':=[.row 1 (r_11.Tables.map (o8 2 l9))]) (a5g _ _ er12) rfl (.refl _) (by simp only [a1s,a1v,List.length_map,a6i,List.nil_append,List.append_nil,List.cons_append];rfl)) trivial trivial<|?_
   refine a3i (a3f (v:=(.tup [(.own 4 0 r_13.1.length),(.int .i64 r_13.2)])) (h':=[.row 6 (r_13.1.map o7)]) (b6v _ _ _ er14) rfl (.cons (.agg (.cons (.of_eq (congrArg (AV.lst _) (tko (enc:=(o8 2 l9)) r_9.Tables))) (.cons (.refl _) .nil))) (.cons (.agg (.cons (.of_eq (congrArg (AV.lst _) (tko (enc:=(o8 2 l9)) r_11.Tables))) (.cons (.refl _) .nil))) .nil)) (by simp only [a1s,a1v,List.length_map,List.nil_append,List.append_nil,List.cons_append];rfl)) trivial trivial<|l7 (.tup [(.own 4 0 r_13.1.length),(.int .i64 r_13.2)]) rfl<|y8 (.own 4 0 r_13.1.length) rfl (.of nle trivial) rfl<|y8 (.int .i64 r_13.2) rfl (.of nle trivial) rfl<|l7 (.own 4 0 r_13.1.length) rfl<|?_
   refine l7 (.int .i64 r_13.2) rfl<|dk<|sr<|?_
   obtain ⟨r_15,er16,hf⟩:=ob hf
   refine y8 (.agg [(.lst 1 (aA_1.Tables.map (o8 2 l9))),(.int .i64 aA_1.Next)]) rfl (.of nle trivial) rfl<|a0b (a3f (v:=(.agg [(.own 5 0 r_15.Tables.length),(.int .i64 r_15.Next)])) (h':=[.row 1 (r_15.Tables.map (o8 2 l9))]) (a5g _ _ er16) rfl (.refl _) (by simp only [a1s,a1v,List.length_map,a6i,List.nil_append,List.append_nil,List.cons_append];rfl))<|a0b (a2t (j:=6) (c:=(.agg [.nil,(.int .i64 0)])) rfl trivial rfl rfl)<|a4o (a1h (v:=(.agg [(.own 5 0 r_15.Tables.length),(.int .i64 r_15.Next)])) (y':=(.agg [(.own 5 0 r_15.Tables.length),(.int .i64 r_15.Next)])) rfl rfl rfl trivial ⟨rfl,nle⟩ ⟨⟨rfl,trivial⟩,⟨⟨rfl,trivial⟩,trivial⟩⟩ rfl)<|?_
   refine dk<|sr<|?_
   obtain ⟨r_17,er18,hf⟩:=ob hf
   refine y8 (.agg [(.lst 1 (aB_2.Tables.map (o8 2 l9))),(.int .i64 aB_2.Next)]) rfl (.of nle trivial) rfl<|a0b (a3f (v:=(.agg [(.own 7 0 r_17.Tables.length),(.int .i64 r_17.Next)])) (h':=[.row 1 (r_17.Tables.map (o8 2 l9))]) (a5g _ _ er18) rfl (.refl _) (by simp only [a1s,a1v,List.length_map,a6i,List.nil_append,List.append_nil,List.cons_append];rfl))<|a0b (a2t (j:=8) (c:=(.agg [.nil,(.int .i64 0)])) rfl trivial rfl rfl)<|a4o (a1h (v:=(.agg [(.own 7 0 r_17.Tables.length),(.int .i64 r_17.Next)])) (y':=(.agg [(.own 7 0 r_17.Tables.length),(.int .i64 r_17.Next)])) rfl rfl rfl trivial ⟨rfl,nle⟩ ⟨⟨rfl,trivial⟩,⟨⟨rfl,trivial⟩,trivial⟩⟩ rfl)<|?_
   refine dk<|sr<|?_
   obtain ⟨r_19,er20,hf⟩:=ob hf
   refine y8 (.agg [(.own 5 0 r_15.Tables.length),(.int .i64 r_15.Next)]) rfl (.of nle trivial) rfl<|y8 (.agg [(.own 7 0 r_17.Tables.length),(.int .i64 r_17.Next)]) rfl (.of nle trivial) rfl<|a0b (a3f (v:=(.tup [(.own 9 0 r_19.1.length),(.int .i64 r_19.2)])) (h':=[.row 6 (r_19.1.map o7)]) (b1r _ _ _ er20) rfl (.cons (.agg (.cons (.of_eq (congrArg (AV.lst _) (tko (enc:=(o8 2 l9)) r_15.Tables))) (.cons (.refl _) .nil))) (.cons (.agg (.cons (.of_eq (congrArg (AV.lst _) (tko (enc:=(o8 2 l9)) r_17.Tables))) (.cons (.refl _) .nil))) .nil)) (by simp only [a1s,a1v,List.length_map,List.nil_append,List.append_nil,List.cons_append];rfl))<|l7 (.tup [(.own 9 0 r_19.1.length),(.int .i64 r_19.2)]) rfl<|?_
   refine y8 (.own 9 0 r_19.1.length) rfl (.of nle trivial) rfl<|y8 (.int .i64 r_19.2) rfl (.of nle trivial) rfl<|l7 (.own 9 0 r_19.1.length) rfl<|l7 (.int .i64 r_19.2) rfl<|dk<|o6<|o6<|?_
   obtain ⟨s53_24,hb1,hf⟩:=ob hf
   refine a2e ([(2,(.ptr 0 0 0)),(3,(.ptr 1 0 0)),(6,(.own 2 0 r_13.1.length)),(7,(.int .i64 r_13.2)),(8,(.ptr 3 0 0)),(9,(.ptr 4 0 0)),(10,(.own 5 0 r_19.1.length)),(11,(.int .i64 r_19.2)),(53,(.bool s53_24))],[.box 2 (.agg [(.lst 1 (aA_1.Tables.map (o8 2 l9))),(.int .i64 aA_1.Next)]),.box 2 (.agg [(.lst 1 (aB_2.Tables.map (o8 2 l9))),(.int .i64 aB_2.Next)]),.row 6 (r_13.1.map o7),.box 2 (.agg [(.own 6 0 r_15.Tables.length),(.int .i64 r_15.Next)]),.box 2 (.agg [(.own 7 0 r_17.Tables.length),(.int .i64 r_17.Next)]),.row 6 (r_19.1.map o7),.row 1 (r_15.Tables.map (o8 2 l9)),.row 1 (r_17.Tables.map (o8 2 l9))]) ?_ ?_
   ·refine a0y ?_
    obtain ⟨r_26,er27,hb1⟩:=ob hb1
    rcases oi hb1 with ⟨c28,hb1⟩ | ⟨c28,hb1⟩
    ·refine l7 (.own 9 0 r_19.1.length) rfl<|l7 (.own 4 0 r_13.1.length) rfl<|a0b (a1t (a6q _ _ _ er27) rfl (.cons (.of_eq (congrArg (AV.lst _) (tko r_19.1))) (.cons (.of_eq (congrArg (AV.lst _) (tko r_13.1))) .nil)) rfl)<|y8 (.bool (!r_26)) rfl (.of trivial trivial) rfl<|l7 (.bool (!r_26)) rfl<|a8u (s:=49) (b:=true) rfl c28<|a1m rfl rfl<|a1m rfl rfl<|a1m rfl rfl<|y8 (.bool true) rfl (.of trivial trivial) rfl<|a0m<|?_;obtain rfl:=os hb1;exact ⟨[],[0,1,4,6,8,9,5,7],_,_,rfl,rfl,⟨.refl _,⟨.refl _,⟨.refl _,⟨.refl _,⟨.refl _,⟨.refl _,⟨.refl _,⟨.refl _,⟨.refl _,trivial⟩⟩⟩⟩⟩⟩⟩⟩⟩,(.refl _)⟩
    ·refine l7 (.own 9 0 r_19.1.length) rfl<|l7 (.own 4 0 r_13.1.length) rfl<|a0b (a1t (a6q _ _ _ er27) rfl (.cons (.of_eq (congrArg (AV.lst _) (tko r_19.1))) (.cons (.of_eq (congrArg (AV.lst _) (tko r_13.1))) .nil)) rfl)<|y8 (.bool (!r_26)) rfl (.of trivial trivial) rfl<|l7 (.bool (!r_26)) rfl<|a8u (s:=49) (b:=false) rfl (bf c28)<|s_on rfl<|l7 (.int .i64 r_19.2) rfl<|s_on rfl<|l7 (.int .i64 r_13.2) rfl<|s_on rfl<|y8 (.bool (r_19.2 != r_13.2)) rfl (.of rfl trivial) rfl<|y8 (.bool (r_19.2 != r_13.2)) rfl (.of trivial trivial) rfl<|a0m<|?_;obtain rfl:=os hb1;exact ⟨[],[0,1,4,6,8,9,5,7],_,_,rfl,rfl,⟨.refl _,⟨.refl _,⟨.refl _,⟨.refl _,⟨.refl _,⟨.refl _,⟨.refl _,⟨.refl _,⟨.refl _,trivial⟩⟩⟩⟩⟩⟩⟩⟩⟩,(.refl _)⟩
   ·rcases oi hf with ⟨c29,hf⟩ | ⟨c29,hf⟩
    ·refine y5 rfl c29<|sr<|l7 (.bool false) rfl<|dk<|a0k<|?_;obtain rfl:=os hf;exact a0l ⟨.of trivial trivial,trivial⟩ rfl (.refl _)
    ·refine y7 rfl (bf c29)<|a0e<|a0g<|o6<|sr<|?_
     obtain ⟨r_30,er31,hf⟩:=ob hf
     obtain ⟨r_32,er33,hf⟩:=ob hf
     refine y8 (.agg [(.own 6 0 r_15.Tables.length),(.int .i64 r_15.Next)]) rfl (.of nle trivial) rfl<|y8 (.agg [(.lst 1 (aA_1.Tables.map (o8 2 l9))),(.int .i64 aA_1.Next)]) rfl (.of nle trivial) rfl<|a3i (a3f (v:=(.agg [(.own 8 0 r_30.Tables.length),(.int .i64 r_30.Next)])) (h':=[.row 1 (r_30.Tables.map (o8 2 l9))]) (a5g _ _ er31) rfl (.refl _) (by simp only [a1s,a1v,List.length_map,a6i,List.nil_append,List.append_nil,List.cons_append];rfl)) (.inr ⟨⟨(.of nle trivial),rfl⟩,trivial⟩) trivial<|a3i (a1t (b3z _ _ _ er33) rfl (.cons (.agg (.cons (.of_eq (congrArg (AV.lst _) (tko (enc:=(o8 2 l9)) r_15.Tables))) (.cons (.refl _) .nil))) (.cons (.agg (.cons (.of_eq (congrArg (AV.lst _) (tko (enc:=(o8 2 l9)) r_30.Tables))) (.cons (.refl _) .nil))) .nil)) rfl) b1w trivial<|?_
     refine y8 (.bool (!r_32)) rfl (.of trivial trivial) rfl<|dk<|?_
     rcases oi hf with ⟨c34,hf⟩ | ⟨c34,hf⟩
     ·refine y5 rfl c34<|sr<|l7 (.bool false) rfl<|dk<|a0k<|?_;obtain rfl:=os hf;exact a0l ⟨.of trivial trivial,trivial⟩ rfl (.refl _)
     ·refine y7 rfl (bf c34)<|a0e<|a0g<|o6<|sr<|?_
      obtain ⟨r_35,er36,hf⟩:=ob hf
      obtain ⟨r_37,er38,hf⟩:=ob hf
      refine y8 (.agg [(.own 7 0 r_17.Tables.length),(.int .i64 r_17.Next)]) rfl (.of nle trivial) rfl<|y8 (.agg [(.lst 1 (aB_2.Tables.map (o8 2 l9))),(.int .i64 aB_2.Next)]) rfl (.of nle trivial) rfl<|a3i (a3f (v:=(.agg [(.own 9 0 r_35.Tables.length),(.int .i64 r_35.Next)])) (h':=[.row 1 (r_35.Tables.map (o8 2 l9))]) (a5g _ _ er36) rfl (.refl _) (by simp only [a1s,a1v,List.length_map,a6i,List.nil_append,List.append_nil,List.cons_append];rfl)) (.inr ⟨⟨(.of nle trivial),rfl⟩,trivial⟩) trivial<|a3i (a1t (b3z _ _ _ er38) rfl (.cons (.agg (.cons (.of_eq (congrArg (AV.lst _) (tko (enc:=(o8 2 l9)) r_17.Tables))) (.cons (.refl _) .nil))) (.cons (.agg (.cons (.of_eq (congrArg (AV.lst _) (tko (enc:=(o8 2 l9)) r_35.Tables))) (.cons (.refl _) .nil))) .nil)) rfl) b1w trivial<|?_
      refine y8 (.bool (!r_37)) rfl (.of trivial trivial) rfl<|dk<|?_
      rcases oi hf with ⟨c39,hf⟩ | ⟨c39,hf⟩
      ·refine y5 rfl c39<|sr<|l7 (.bool false) rfl<|dk<|a0k<|?_;obtain rfl:=os hf;exact a0l ⟨.of trivial trivial,trivial⟩ rfl (.refl _)
      ·refine y7 rfl (bf c39)<|a0e<|a0g<|sr<|l7 (.int .i64 1) rfl<|dk<|sr<|?_
       obtain ⟨r_40,er41,hf⟩:=ob hf
       refine y8 (.agg [(.own 6 0 r_15.Tables.length),(.int .i64 r_15.Next)]) rfl (.of nle trivial) rfl<|l7 (.int .i64 1) rfl<|?_;refine a0o (b3u (v:=(.int .i64 r_40.1)) (h2:=[.box 2 (.agg [(.lst 1 (aA_1.Tables.map (o8 2 l9))),(.int .i64 aA_1.Next)]),.box 2 (.agg [(.lst 1 (aB_2.Tables.map (o8 2 l9))),(.int .i64 aB_2.Next)]),.row 6 (r_13.1.map o7),.box 2 (.agg [(.own 6 0 r_15.Tables.length),(.int .i64 r_15.Next)]),.box 2 (.agg [(.own 7 0 r_17.Tables.length),(.int .i64 r_17.Next)]),.row 6 (r_19.1.map o7),.row 1 (r_40.2.Tables.map (o8 2 l9)),.row 1 (r_17.Tables.map (o8 2 l9)),.row 1 (r_30.Tables.map (o8 2 l9)),.row 1 (r_35.Tables.map (o8 2 l9))]) [] [6] (fun _ => rfl) (b2e _ _ _ er41) rfl (.refl _) (.refl _) rfl rfl) fun hl42 => ?_
       refine l7 (.int .i64 r_40.1) rfl<|dk<|sr<|?_
       obtain ⟨r_43,er44,hf⟩:=ob hf
       refine y8 (.agg [(.own 7 0 r_17.Tables.length),(.int .i64 r_17.Next)]) rfl (.of nle trivial) rfl<|l7 (.int .i64 r_40.1) rfl<|?_;refine a0o (b3u (v:=(.int .i64 r_43.1)) (h2:=[.box 2 (.agg [(.lst 1 (aA_1.Tables.map (o8 2 l9))),(.int .i64 aA_1.Next)]),.box 2 (.agg [(.lst 1 (aB_2.Tables.map (o8 2 l9))),(.int .i64 aB_2.Next)]),.row 6 (r_13.1.map o7),.box 2 (.agg [(.own 6 0 r_15.Tables.length),(.int .i64 r_15.Next)]),.box 2 (.agg [(.own 7 0 r_17.Tables.length),(.int .i64 r_17.Next)]),.row 6 (r_19.1.map o7),.row 1 (r_40.2.Tables.map (o8 2 l9)),.row 1 (r_43.2.Tables.map (o8 2 l9)),.row 1 (r_30.Tables.map (o8 2 l9)),.row 1 (r_35.Tables.map (o8 2 l9))]) [] [7] (fun _ => rfl) (b2e _ _ _ er44) rfl (.refl _) (.refl _) rfl rfl) fun hl45 => ?_
       refine l7 (.int .i64 r_43.1) rfl<|dk<|o6<|o6<|?_
       obtain ⟨s82_49,hb1,hf⟩:=ob hf
       refine a2e ([(2,(.ptr 0 0 0)),(3,(.ptr 1 0 0)),(6,(.own 2 0 r_13.1.length)),(7,(.int .i64 r_13.2)),(10,(.own 3 0 r_19.1.length)),(82,(.bool s82_49))],[.box 2 (.agg [(.lst 1 (aA_1.Tables.map (o8 2 l9))),(.int .i64 aA_1.Next)]),.box 2 (.agg [(.lst 1 (aB_2.Tables.map (o8 2 l9))),(.int .i64 aB_2.Next)]),.row 6 (r_13.1.map o7),.row 6 (r_19.1.map o7)]) ?_ ?_
       ·refine a0y<|l7 (.int .i64 r_43.1) rfl<|y8 (.bool (decide (r_43.1 < 0))) rfl (.of rfl trivial) rfl<|l7 (.bool (decide (r_43.1 < 0))) rfl<|?_
        rcases oi hb1 with ⟨c51,hb1⟩ | ⟨c51,hb1⟩
        ·refine a8u (s:=72) (b:=true) rfl c51<|a1m rfl rfl<|a1m rfl rfl<|a1m rfl rfl<|a1m rfl rfl<|y8 (.bool true) rfl (.of trivial trivial) rfl<|l7 (.bool true) rfl<|a1m rfl rfl<|a1m rfl rfl<|a1m rfl rfl<|y8 (.bool true) rfl (.of trivial trivial) rfl<|a0m<|?_;obtain rfl:=os hb1;exact ⟨[],[0,1,2,5],_,_,rfl,rfl,⟨.refl _,⟨.refl _,⟨.refl _,⟨.refl _,⟨.refl _,⟨.refl _,trivial⟩⟩⟩⟩⟩⟩,(.refl _)⟩
        ·refine a8u (s:=72) (b:=false) rfl (bf c51)<|s_on rfl<|l7 (.own 5 0 r_19.1.length) rfl<|s_on rfl<|l7 (.own 2 0 r_13.1.length) rfl<|s_on rfl<|?_
         obtain ⟨r_52,er53,hb1⟩:=ob hb1
         refine a0b (a1t (a6q _ _ _ er53) rfl (.cons (.of_eq (congrArg (AV.lst _) (tko r_19.1))) (.cons (.of_eq (congrArg (AV.lst _) (tko r_13.1))) .nil)) rfl)<|s_on rfl<|y8 (.bool (!r_52)) rfl (.of trivial trivial) rfl<|y8 (.bool (!r_52)) rfl (.of trivial trivial) rfl<|l7 (.bool (!r_52)) rfl<|?_;refine s_g (v:=(!r_52)) (.int .i64 r_19.2) rfl (fun hv => by (try simp only [a7f hv]);exact ⟨rfl,.of trivial trivial,rfl⟩) ?_;refine s_g (v:=(!r_52)) (.int .i64 r_13.2) rfl (fun hv => by (try simp only [a7f hv]);exact ⟨rfl,.of trivial trivial,rfl⟩) ?_;refine s_g (v:=(!r_52)) (.bool (r_19.2 != r_13.2)) rfl (fun hv => by (try simp only [a7f hv]);exact ⟨rfl,(.of rfl trivial),rfl⟩) ?_
         refine c8t (x:=true) (y:=(r_19.2 != r_13.2)) rfl (fun hv => by (try simp only [a7f hv]);rfl) (fun hv => by (try simp only [a7f hv]);rfl) ?_;refine a0m ?_;obtain rfl:=os hb1;exact ⟨[],[0,1,2,5],_,_,rfl,rfl,⟨.refl _,⟨.refl _,⟨.refl _,⟨.refl _,⟨.refl _,⟨.refl _,trivial⟩⟩⟩⟩⟩⟩,(.refl _)⟩
       ·rcases oi hf with ⟨c54,hf⟩ | ⟨c54,hf⟩
        ·refine y5 rfl c54<|sr<|l7 (.bool false) rfl<|dk<|a0k<|?_;obtain rfl:=os hf;exact a0l ⟨.of trivial trivial,trivial⟩ rfl (.refl _)
        ·refine y7 rfl (bf c54)<|a0e<|a0g<|sr<|l7 (.int .i64 1) rfl<|dk<|sr<|?_
         obtain ⟨r_55,er56,hf⟩:=ob hf
         refine l7 (.own 3 0 r_19.1.length) rfl<|l7 (.int .i64 1) rfl<|?_;refine a0o (b3u (v:=(.int .i64 r_55.1)) (h2:=[.box 2 (.agg [(.lst 1 (aA_1.Tables.map (o8 2 l9))),(.int .i64 aA_1.Next)]),.box 2 (.agg [(.lst 1 (aB_2.Tables.map (o8 2 l9))),(.int .i64 aB_2.Next)]),.row 6 (r_13.1.map o7),.row 6 (r_55.2.map o7)]) [] [3] (fun _ => rfl) (b5y _ _ _ er56) rfl (.refl _) (.refl _) rfl rfl) fun hl57 => ?_;refine l7 (.int .i64 r_55.1) rfl<|dk<|sr<|l7 (.int .i64 1) rfl<|dk<|sr<|?_
         obtain ⟨r_58,er59,hf⟩:=ob hf
         refine l7 (.own 3 0 r_19.1.length) rfl<|l7 (.int .i64 1) rfl<|a0b (a1t (b1m _ _ _ er59) rfl (.cons (.of_eq (congrArg (AV.lst _) (d9b (hl57 0 _ _ _ _ rfl rfl)))) (.cons (.refl _) .nil)) rfl)<|l7 (.int .i64 r_58) rfl<|dk<|o6<|sr<|l7 (.int .i64 r_58) rfl<|y8 (.bool (decide (r_58 < 0))) rfl (.of rfl trivial) rfl<|dk<|?_
         rcases oi hf with ⟨c60,hf⟩ | ⟨c60,hf⟩
         ·refine y5 rfl c60<|sr<|l7 (.bool false) rfl<|dk<|a0k<|?_;obtain rfl:=os hf;exact a0l ⟨.of trivial trivial,trivial⟩ rfl (.refl _)
         ·refine y7 rfl (bf c60)<|a0e<|a0g<|o6<|sr<|l7 (.int .i64 r_58) rfl<|l7 (.int .i64 r_55.1) rfl<|y8 (.bool (r_58 != r_55.1)) rfl (.of rfl trivial) rfl<|dk<|?_
          rcases oi hf with ⟨c61,hf⟩ | ⟨c61,hf⟩
          ·refine y5 rfl c61<|sr<|l7 (.bool false) rfl<|dk<|a0k<|?_;obtain rfl:=os hf;exact a0l ⟨.of trivial trivial,trivial⟩ rfl (.refl _)
          ·refine y7 rfl (bf c61)<|a0e<|a0g<|sr<|?_
           obtain ⟨r_62,er63,hf⟩:=ob hf
           obtain ⟨r_64,er65,hf⟩:=ob hf
           obtain ⟨r_66,er67,hf⟩:=ob hf
           refine y8 (.agg [(.lst 1 (aA_1.Tables.map (o8 2 l9))),(.int .i64 aA_1.Next)]) rfl (.of nle trivial) rfl<|y8 (.agg [(.lst 1 (aB_2.Tables.map (o8 2 l9))),(.int .i64 aB_2.Next)]) rfl (.of nle trivial) rfl<|a3i (a3f (v:=(.agg [(.own 4 0 r_62.Tables.length),(.int .i64 r_62.Next)])) (h':=[.row 1 (r_62.Tables.map (o8 2 l9))]) (a5g _ _ er63) rfl (.refl _) (by simp only [a1s,a1v,List.length_map,a6i,List.nil_append,List.append_nil,List.cons_append];rfl)) (.inr ⟨⟨(.of nle trivial),rfl⟩,trivial⟩) trivial<|a3i (a3f (v:=(.agg [(.own 5 0 r_64.Tables.length),(.int .i64 r_64.Next)])) (h':=[.row 1 (r_64.Tables.map (o8 2 l9))]) (a5g _ _ er65) rfl (.refl _) (by simp only [a1s,a1v,List.length_map,a6i,List.nil_append,List.append_nil,List.cons_append];rfl)) trivial trivial<|?_
           refine a3i (a3f (v:=(.tup [(.own 6 0 r_66.1.length),(.int .i64 r_66.2)])) (h':=[.row 6 (r_66.1.map o7)]) (b1r _ _ _ er67) rfl (.cons (.agg (.cons (.of_eq (congrArg (AV.lst _) (tko (enc:=(o8 2 l9)) r_62.Tables))) (.cons (.refl _) .nil))) (.cons (.agg (.cons (.of_eq (congrArg (AV.lst _) (tko (enc:=(o8 2 l9)) r_64.Tables))) (.cons (.refl _) .nil))) .nil)) (by simp only [a1s,a1v,List.length_map,List.nil_append,List.append_nil,List.cons_append];rfl)) trivial trivial<|l7 (.tup [(.own 6 0 r_66.1.length),(.int .i64 r_66.2)]) rfl<|y8 (.own 6 0 r_66.1.length) rfl (.of nle trivial) rfl<|y8 (.int .i64 r_66.2) rfl (.of nle trivial) rfl<|l7 (.own 6 0 r_66.1.length) rfl<|?_
           refine l7 (.int .i64 r_66.2) rfl<|dk<|o6<|o6<|?_
           obtain ⟨s110_71,hb1,hf⟩:=ob hf
           refine a2e ([(10,(.own 0 0 r_55.2.length)),(13,(.int .i64 r_55.1)),(110,(.bool s110_71))],[.row 6 (r_55.2.map o7)]) ?_ ?_
           ·refine a0y ?_
            obtain ⟨r_73,er74,hb1⟩:=ob hb1
            rcases oi hb1 with ⟨c75,hb1⟩ | ⟨c75,hb1⟩
            ·refine l7 (.own 6 0 r_66.1.length) rfl<|l7 (.own 2 0 r_13.1.length) rfl<|a0b (a1t (a6q _ _ _ er74) rfl (.cons (.of_eq (congrArg (AV.lst _) (tko r_66.1))) (.cons (.of_eq (congrArg (AV.lst _) (tko r_13.1))) .nil)) rfl)<|y8 (.bool (!r_73)) rfl (.of trivial trivial) rfl<|l7 (.bool (!r_73)) rfl<|a8u (s:=106) (b:=true) rfl c75<|a1m rfl rfl<|a1m rfl rfl<|a1m rfl rfl<|y8 (.bool true) rfl (.of trivial trivial) rfl<|a0m<|?_;obtain rfl:=os hb1;exact ⟨[],[3],_,_,rfl,rfl,⟨.of_eq (congrArg (AV.own _ 0) (by have h:=(hl57 0 _ _ _ _ rfl rfl);simpa using h.symm)),⟨.refl _,⟨.refl _,trivial⟩⟩⟩,(.refl _)⟩
            ·refine l7 (.own 6 0 r_66.1.length) rfl<|l7 (.own 2 0 r_13.1.length) rfl<|a0b (a1t (a6q _ _ _ er74) rfl (.cons (.of_eq (congrArg (AV.lst _) (tko r_66.1))) (.cons (.of_eq (congrArg (AV.lst _) (tko r_13.1))) .nil)) rfl)<|y8 (.bool (!r_73)) rfl (.of trivial trivial) rfl<|l7 (.bool (!r_73)) rfl<|a8u (s:=106) (b:=false) rfl (bf c75)<|s_on rfl<|l7 (.int .i64 r_66.2) rfl<|s_on rfl<|l7 (.int .i64 r_13.2) rfl<|s_on rfl<|y8 (.bool (r_66.2 != r_13.2)) rfl (.of rfl trivial) rfl<|y8 (.bool (r_66.2 != r_13.2)) rfl (.of trivial trivial) rfl<|a0m<|?_;obtain rfl:=os hb1;exact ⟨[],[3],_,_,rfl,rfl,⟨.of_eq (congrArg (AV.own _ 0) (by have h:=(hl57 0 _ _ _ _ rfl rfl);simpa using h.symm)),⟨.refl _,⟨.refl _,trivial⟩⟩⟩,(.refl _)⟩
           ·rcases oi hf with ⟨c76,hf⟩ | ⟨c76,hf⟩
            ·refine y5 rfl c76<|sr<|l7 (.bool false) rfl<|dk<|a0k<|?_;obtain rfl:=os hf;exact a0l ⟨.of trivial trivial,trivial⟩ rfl (.refl _)
            ·refine y7 rfl (bf c76)<|a0e<|a0g<|sr<|l7 (.int .i64 1) rfl<|dk<|sr<|?_
             obtain ⟨r_77,er78,hf⟩:=ob hf
             refine l7 (.own 0 0 r_55.2.length) rfl<|l7 (.int .i64 1) rfl<|a0b (a1t (b1m _ _ _ er78) rfl (.cons (.of_eq (congrArg (AV.lst _) (tko r_55.2))) (.cons (.refl _) .nil)) rfl)<|l7 (.int .i64 r_77) rfl<|dk<|o6<|sr<|l7 (.int .i64 r_77) rfl<|y8 (.bool (decide (r_77 < 0))) rfl (.of rfl trivial) rfl<|dk<|?_
             rcases oi hf with ⟨c79,hf⟩ | ⟨c79,hf⟩
             ·refine y5 rfl c79<|sr<|l7 (.bool false) rfl<|dk<|a0k<|?_;obtain rfl:=os hf;exact a0l ⟨.of trivial trivial,trivial⟩ rfl (.refl _)
             ·refine y7 rfl (bf c79)<|a0e<|a0g<|o6<|sr<|l7 (.int .i64 r_77) rfl<|l7 (.int .i64 r_55.1) rfl<|y8 (.bool (r_77 != r_55.1)) rfl (.of rfl trivial) rfl<|dk<|?_
              rcases oi hf with ⟨c80,hf⟩ | ⟨c80,hf⟩
              ·refine y5 rfl c80<|sr<|l7 (.bool false) rfl<|dk<|a0k<|?_;obtain rfl:=os hf;exact a0l ⟨.of trivial trivial,trivial⟩ rfl (.refl _)
              ·refine y7 rfl (bf c80)<|a0e<|a0g<|sr<|l7 (.bool true) rfl<|dk<|a0k<|?_;obtain rfl:=os hf;exact a0l ⟨.of trivial trivial,trivial⟩ rfl (.refl _)

end Go.R
