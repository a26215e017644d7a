/- Walks. -/
import Derived.Test.YtldahjcikmpifaaGreatWIRT
set_option linter.all false
namespace Go.R
open Go Go.Proofs
set_option linter.unusedVariables false
set_option linter.unusedSimpArgs false
set_option maxHeartbeats 8000000
/- laws.at -/
def c48:a0p :=
 (.seq (.reg (tm 6 (.c (.int .i64 0)) .done))
 (.seq (.seq (.reg (tm 7 (.t 2) (tq 8 (.bin .leq (.t 7) (.c (.int .i64 1))) .done)))
 (.cond (.t 8) (.seq (.reg (tm 6 (.c (.int .i64 0)) .done))
 .ret)
 .skip))
 (.seq (.seq (.reg (tm 9 (.t 0) (tq 10 (.len (.t 9)) (tq 11 (.bin .eql (.t 10) (.c (.int .i64 0))) .done))))
 (.cond (.t 11) (.seq (.reg (tm 12 (.t 1) (tq 13 (.bin .mul (.t 12) (.c (.int .i64 7))) (tm 14 (.t 2) (tq 15 (.bin .rem (.t 13) (.t 14)) (tm 6 (.t 15) .done))))))
 .ret)
 .skip))
 (.seq (.reg (tm 16 (.t 0) (tm 17 (.t 1) (tm 18 (.t 0) (tq 19 (.len (.t 18)) (tq 20 (.bin .rem (.t 17) (.t 19)) (tq 21 (.iaddr 1 (.t 16) (.t 20)) (tq 22 (.load 1 false (.t 21)) (tq 23 (.convI .i64 (.t 22)) (tq 24 (.bin .mul (.t 23) (.c (.int .i64 31))) (tm 25 (.t 0) (tm 26 (.t 1) (tq 27 (.bin .add (.t 26) (.c (.int .i64 1))) (tm 28 (.t 0) (tq 29 (.len (.t 28)) (tq 30 (.bin .rem (.t 27) (.t 29)) (tq 31 (.iaddr 1 (.t 25) (.t 30)) (tq 32 (.load 1 false (.t 31)) (tq 33 (.convI .i64 (.t 32)) (tq 34 (.bin .add (.t 24) (.t 33)) (tm 35 (.t 1) (tm 36 (.t 0) (tq 37 (.len (.t 36)) (tq 38 (.bin .quo (.t 35) (.t 37)) (tq 39 (.bin .add (.t 34) (.t 38)) (tm 40 (.t 2) (tq 41 (.bin .rem (.t 39) (.t 40)) (tm 6 (.t 41) .done))))))))))))))))))))))))))))
 .ret))))
theorem e6j:a1b Tryz.prog Tryz.f48 = some (c48.erase,[.mov (.t 6)],42):=by kernel_rfl
def b9h (more_1:(List Int)) (i_2:Int) (n_3:Int):Option Int :=
    if (decide (n_3 ≤ 1)) then
    some 0
    else
    if ((more_1.length:Int) == 0) then
    if n_3 ≠ 0 then
    some ((w64 (i_2 * 7)).tmod n_3)
    else none
    else
    if (more_1.length:Int) ≠ 0 then
    (idx more_1 (i_2.tmod (more_1.length:Int))).bind fun x_10 =>
    if (more_1.length:Int) ≠ 0 then
    (idx more_1 ((w64 (i_2 + 1)).tmod (more_1.length:Int))).bind fun x_14 =>
    if (more_1.length:Int) ≠ 0 then
    if n_3 ≠ 0 then
    some ((w64 ((w64 ((w64 ((w64 x_10) * 31)) + (w64 x_14))) + (w64 (i_2.tdiv (more_1.length:Int))))).tmod n_3)
    else none
    else none
    else none
    else none
theorem d5j (more_1:(List Int)) (i_2:Int) (n_3:Int) (r:Int) (hf:b9h more_1 i_2 n_3 = some r):y9 Tryz.prog 48 .flat [(.lst 1 (more_1.map a0q)),(.int .i64 i_2),(.int .i64 n_3)] (.int .i64 r):=by
 refine y9.of_awp mixed Tryz.func48 e6j nle ?_;rw [a0f];unfold b9h at hf;unfold c48;refine (show awp Tryz.prog false 0 _ (ofL [(0,(.lst 1 (more_1.map a0q))),(1,(.int .i64 i_2)),(2,(.int .i64 n_3))]) [] _ from ?_);refine sr<|l7 (.int .i64 0) rfl<|dk<|o6<|sr<|l7 (.int .i64 n_3) rfl<|o7 (.bool (decide (n_3 ≤ 1))) rfl rfl rfl<|dk<|?_
 rcases oi hf with ⟨c4,hf⟩ | ⟨c4,hf⟩
 ·refine a0b rfl c4<|sr<|l7 (.int .i64 0) rfl<|dk<|a0d<|?_;obtain rfl:=os hf;exact a0m ⟨trivial,trivial⟩ rfl (.refl _)
 ·refine a0c rfl (bf c4)<|a0i<|a0h<|o6<|sr<|l7 (.lst 1 (more_1.map a0q)) rfl<|a1n (a3d (enc:=a0q) rfl) fun hl5 => o7 (.bool ((more_1.length:Int) == 0)) rfl rfl rfl<|dk<|?_
  rcases oi hf with ⟨c6,hf⟩ | ⟨c6,hf⟩
  ·refine a0b rfl c6<|sr<|?_
   obtain ⟨g7,hf⟩:=og hf
   refine l7 (.int .i64 i_2) rfl<|o7 (.int .i64 (w64 (i_2 * 7))) rfl rfl rfl<|l7 (.int .i64 n_3) rfl<|o7 (.int .i64 ((w64 (i_2 * 7)).tmod n_3)) rfl ⟨rfl,g7⟩ rfl<|l7 (.int .i64 ((w64 (i_2 * 7)).tmod n_3)) rfl<|dk<|a0d<|?_;obtain rfl:=os hf;exact a0m ⟨trivial,trivial⟩ rfl (.refl _)
  ·refine a0c rfl (bf c6)<|a0i<|a0h<|sr<|l7 (.lst 1 (more_1.map a0q)) rfl<|l7 (.int .i64 i_2) rfl<|l7 (.lst 1 (more_1.map a0q)) rfl<|a1n (a3d (enc:=a0q) rfl) fun hl8 => ?_
   obtain ⟨g9,hf⟩:=og hf
   refine o7 (.int .i64 (i_2.tmod (more_1.length:Int))) rfl ⟨rfl,g9⟩ rfl ?_
   obtain ⟨x_10,ex11,hf⟩:=ob hf
   refine o8 (a5l (enc:=a0q) rfl rfl (b2x ex11) (b2y ex11))<|o7 (.int .u8 x_10) rfl ⟨rfl,rfl⟩ rfl<|o7 (.int .i64 (w64 x_10)) rfl trivial rfl<|o7 (.int .i64 (w64 ((w64 x_10) * 31))) rfl rfl rfl<|l7 (.lst 1 (more_1.map a0q)) rfl<|l7 (.int .i64 i_2) rfl<|o7 (.int .i64 (w64 (i_2 + 1))) rfl rfl rfl<|l7 (.lst 1 (more_1.map a0q)) rfl<|a1n (a3d (enc:=a0q) rfl) fun hl12 => ?_
   obtain ⟨g13,hf⟩:=og hf
   refine o7 (.int .i64 ((w64 (i_2 + 1)).tmod (more_1.length:Int))) rfl ⟨rfl,g13⟩ rfl ?_
   obtain ⟨x_14,ex15,hf⟩:=ob hf
   refine o8 (a5l (enc:=a0q) rfl rfl (b2x ex15) (b2y ex15))<|o7 (.int .u8 x_14) rfl ⟨rfl,rfl⟩ rfl<|o7 (.int .i64 (w64 x_14)) rfl trivial rfl<|o7 (.int .i64 (w64 ((w64 ((w64 x_10) * 31)) + (w64 x_14)))) rfl rfl rfl<|l7 (.int .i64 i_2) rfl<|l7 (.lst 1 (more_1.map a0q)) rfl<|a1n (a3d (enc:=a0q) rfl) fun hl16 => ?_
   obtain ⟨g17,hf⟩:=og hf
   refine o7 (.int .i64 (w64 (i_2.tdiv (more_1.length:Int)))) rfl ⟨rfl,g17⟩ rfl<|o7 (.int .i64 (w64 ((w64 ((w64 ((w64 x_10) * 31)) + (w64 x_14))) + (w64 (i_2.tdiv (more_1.length:Int)))))) rfl rfl rfl<|l7 (.int .i64 n_3) rfl<|?_
   obtain ⟨g18,hf⟩:=og hf
   refine o7 (.int .i64 ((w64 ((w64 ((w64 ((w64 x_10) * 31)) + (w64 x_14))) + (w64 (i_2.tdiv (more_1.length:Int))))).tmod n_3)) rfl ⟨rfl,g18⟩ rfl<|l7 (.int .i64 ((w64 ((w64 ((w64 ((w64 x_10) * 31)) + (w64 x_14))) + (w64 (i_2.tdiv (more_1.length:Int))))).tmod n_3)) rfl<|dk<|a0d<|?_;obtain rfl:=os hf;exact a0m ⟨trivial,trivial⟩ rfl (.refl _)

/- spec.l00Source -/
def d7l:a0p :=
 (.seq (.reg (tq 2 (.mov (.c (.hdr (.pointer none) 0 []))) .done))
 (.seq (.reg (tm 3 (.t 0) (tm 4 (.t 0) (tq 5 (.len (.t 4)) (tq 6 (.bin .rem (.t 5) (.c (.int .i64 1000))) (tq 7 (.build [.nil,(.int .i64 0),(.int .i64 0)] [(0,1,(.t 3)),(2,1,(.t 6))]) (tq 8 (.box 3 (.t 7)) (tm 2 (.t 8) .done))))))))
 .ret))
theorem d9x:a1b Tryz.prog Tryz.f72 = some (d7l.erase,[.mov (.t 2)],9):=by kernel_rfl
def a4l (code_1:(List Int)):Option a1h :=
    some (⟨code_1,0,(code_1.length:Int).tmod 1000⟩:a1h)
theorem b4c (code_1:(List Int)) (r:a1h) (hf:a4l code_1 = some r):a0j Tryz.prog true 72 [(.lst 1 (code_1.map a0q))] [] (.ptr 0 0 0) [.box 3 (.agg [(.lst 1 (r.Code.map a0q)),(.int .i64 r.At),(.int .i64 r.Seed)])]:=by
  refine a0j.of_awp mixed Tryz.func72 d9x nle ?_
  rw [a0f]
  unfold a4l at hf
  unfold d7l
  refine (show awp Tryz.prog true 0 _ (ofL [(0,(.lst 1 (code_1.map a0q)))]) [] _ from ?_)
  refine o6 ?_
  refine a0z ?_
  refine o8 (a2z (.hdr (.pointer none) 0 []) rfl) ?_
  refine a0e ?_
  refine a0h ?_
  refine o6 ?_
  refine a0z ?_
  refine o8 (a2z (.lst 1 (code_1.map a0q)) rfl) ?_
  refine o8 (a2z (.lst 1 (code_1.map a0q)) rfl) ?_
  refine a1n (a3d (enc:=a0q) rfl) fun hl2 => ?_
  refine o8 (o_q (.int .i64 ((code_1.length:Int).tmod 1000)) rfl ⟨rfl,by decide⟩ rfl) ?_
  refine o8 (o_q (.agg [(.lst 1 (code_1.map a0q)),(.int .i64 0),(.int .i64 ((code_1.length:Int).tmod 1000))]) rfl ⟨⟨rfl,nle,trivial⟩,⟨⟨rfl,nle,trivial⟩,trivial⟩⟩ rfl) ?_
  refine o8 (a1g (j:=0) (c:=(.agg [(.lst 1 (code_1.map a0q)),(.int .i64 0),(.int .i64 ((code_1.length:Int).tmod 1000))])) rfl trivial rfl rfl) ?_
  refine o8 (a2z (.ptr 0 0 0) rfl) ?_
  refine a0e ?_
  refine a0h ?_
  refine a0d ?_
  obtain rfl:=os hf
  exact a3a [] [0] rfl ⟨trivial,trivial⟩ rfl (.refl _) (.refl _)

/- (*spec.l00Src).byte -/
def d3n:a0p :=
 (.seq (.reg (tm 2 (.c (.int .i64 0)) .done))
 (.seq (.reg (tm 3 (.t 0) (tq 4 (.nilck (.t 3)) (tq 5 (.faddr 1 (.t 4)) (tq 6 (.load 1 false (.t 5)) (tq 7 (.bin .add (.t 6) (.c (.int .i64 1))) (tq 8 (.nilck (.t 3)) (tq 9 (.faddr 1 (.t 8)) (.q ⟨none,none,.store 1 (.t 9) (.t 7)⟩
 .done)))))))))
 (.seq (.seq (.reg (tm 10 (.t 0) (tq 11 (.nilck (.t 10)) (tq 12 (.faddr 1 (.t 11)) (tq 13 (.load 1 false (.t 12)) (tm 14 (.t 0) (tq 15 (.nilck (.t 14)) (tq 16 (.faddr 0 (.t 15)) (tq 17 (.load 1 false (.t 16)) (tq 18 (.len (.t 17)) (tq 19 (.bin .leq (.t 13) (.t 18)) .done)))))))))))
 (.cond (.t 19) (.seq (.reg (tm 20 (.t 0) (tm 21 (.t 0) (tq 22 (.nilck (.t 21)) (tq 23 (.faddr 2 (.t 22)) (tq 24 (.load 1 false (.t 23)) (tq 25 (.bin .mul (.t 24) (.c (.int .i64 31))) (tm 26 (.t 0) (tq 27 (.nilck (.t 26)) (tq 28 (.faddr 0 (.t 27)) (tq 29 (.load 1 false (.t 28)) (tm 30 (.t 0) (tq 31 (.nilck (.t 30)) (tq 32 (.faddr 1 (.t 31)) (tq 33 (.load 1 false (.t 32)) (tq 34 (.bin .sub (.t 33) (.c (.int .i64 1))) (tq 35 (.iaddr 1 (.t 29) (.t 34)) (tq 36 (.load 1 false (.t 35)) (tq 37 (.convI .i64 (.t 36)) (tq 38 (.bin .add (.t 25) (.t 37)) (tq 39 (.bin .add (.t 38) (.c (.int .i64 7))) (tq 40 (.bin .rem (.t 39) (.c (.int .i64 2147483648))) (tq 41 (.nilck (.t 20)) (tq 42 (.faddr 2 (.t 41)) (.l ⟨none,none,.store 1 (.t 42) (.t 40)⟩ []
 .done .non)))))))))))))))))))))))))
 (.seq (.reg (tm 43 (.t 0) (tq 44 (.nilck (.t 43)) (tq 45 (.faddr 0 (.t 44)) (tq 46 (.load 1 false (.t 45)) (tm 47 (.t 0) (tq 48 (.nilck (.t 47)) (tq 49 (.faddr 1 (.t 48)) (tq 50 (.load 1 false (.t 49)) (tq 51 (.bin .sub (.t 50) (.c (.int .i64 1))) (tq 52 (.iaddr 1 (.t 46) (.t 51)) (tq 53 (.load 1 false (.t 52)) (tq 54 (.convI .i64 (.t 53)) (tm 2 (.t 54) .done))))))))))))))
 .ret))
 .skip))
 (.seq (.seq (.reg (tm 55 (.t 0) (tq 56 (.nilck (.t 55)) (tq 57 (.faddr 1 (.t 56)) (tq 58 (.load 1 false (.t 57)) (tq 59 (.bin .gtr (.t 58) (.c (.int .i64 3000))) .done))))))
 (.cond (.t 59) (.seq (.reg (tm 2 (.c (.int .i64 0)) .done))
 .ret)
 .skip))
 (.seq (.reg (tm 60 (.t 0) (tm 61 (.t 0) (tq 62 (.nilck (.t 61)) (tq 63 (.faddr 2 (.t 62)) (tq 64 (.load 1 false (.t 63)) (tq 65 (.bin .mul (.t 64) (.c (.int .i64 1103515245))) (tq 66 (.bin .add (.t 65) (.c (.int .i64 12345))) (tq 67 (.bin .rem (.t 66) (.c (.int .i64 2147483648))) (tq 68 (.nilck (.t 60)) (tq 69 (.faddr 2 (.t 68)) (.q ⟨none,none,.store 1 (.t 69) (.t 67)⟩
 .done))))))))))))
 (.seq (.reg (tm 70 (.t 0) (tq 71 (.nilck (.t 70)) (tq 72 (.faddr 2 (.t 71)) (tq 73 (.load 1 false (.t 72)) (tq 74 (.bin .quo (.t 73) (.c (.int .i64 65536))) (tq 75 (.bin .rem (.t 74) (.c (.int .i64 256))) (tm 2 (.t 75) .done))))))))
 .ret))))))
theorem d7m:a1b Tryz.prog Tryz.f261 = some (d3n.erase,[.mov (.t 2)],76):=by kernel_rfl
def a2t (s_1:a1h):Option (Int × a1h) :=
    if (decide (w64 (s_1.At + 1) ≤ (s_1.Code.length:Int))) then
    (idx s_1.Code (w64 ((w64 (s_1.At + 1)) - 1))).bind fun x_4 =>
    (idx s_1.Code (w64 ((w64 (s_1.At + 1)) - 1))).bind fun x_6 =>
    some (w64 x_6,(⟨s_1.Code,w64 (s_1.At + 1),(w64 ((w64 ((w64 (s_1.Seed * 31)) + (w64 x_4))) + 7)).tmod 2147483648⟩:a1h))
    else
    if (decide (w64 (s_1.At + 1) > 3000)) then
    some (0,(⟨s_1.Code,w64 (s_1.At + 1),s_1.Seed⟩:a1h))
    else
    some ((w64 (((w64 ((w64 (s_1.Seed * 1103515245)) + 12345)).tmod 2147483648).tdiv 65536)).tmod 256,(⟨s_1.Code,w64 (s_1.At + 1),(w64 ((w64 (s_1.Seed * 1103515245)) + 12345)).tmod 2147483648⟩:a1h))
theorem a7r (s_1:a1h) (r:(Int × a1h)) (hf:a2t s_1 = some r):a0j Tryz.prog true 261 [(.ptr 0 0 0)] [.box 3 (.agg [(.lst 1 (s_1.Code.map a0q)),(.int .i64 s_1.At),(.int .i64 s_1.Seed)])] (.int .i64 r.1) [.box 3 (.agg [(.lst 1 (r.2.Code.map a0q)),(.int .i64 r.2.At),(.int .i64 r.2.Seed)])]:=by
 refine a0j.of_awp mixed Tryz.func261 d7m nle ?_;rw [a0f];unfold a2t at hf;unfold d3n;refine (show awp Tryz.prog true 1 _ (ofL [(0,(.ptr 0 0 0))]) [.box 3 (.agg [(.lst 1 (s_1.Code.map a0q)),(.int .i64 s_1.At),(.int .i64 s_1.Seed)])] _ from ?_);refine sr<|l7 (.int .i64 0) rfl<|dk<|sr<|l7 (.ptr 0 0 0) rfl<|o7 (.ptr 0 0 0) rfl trivial rfl<|o7 (.ptr 0 0 1) rfl trivial rfl<|o7 (.int .i64 s_1.At) rfl nle rfl<|o7 (.int .i64 (w64 (s_1.At + 1))) rfl rfl rfl<|o7 (.ptr 0 0 0) rfl trivial rfl<|o7 (.ptr 0 0 1) rfl trivial rfl<|a1i (x9 (v:=(.int .i64 (w64 (s_1.At + 1)))) (y':=(.agg [(.lst 1 (s_1.Code.map a0q)),(.int .i64 (w64 (s_1.At + 1))),(.int .i64 s_1.Seed)])) rfl rfl rfl trivial ⟨rfl,nle⟩ ⟨⟨rfl,trivial⟩,trivial⟩ rfl)<|?_
 refine dk<|o6<|sr<|l7 (.ptr 0 0 0) rfl<|o7 (.ptr 0 0 0) rfl trivial rfl<|o7 (.ptr 0 0 1) rfl trivial rfl<|o7 (.int .i64 (w64 (s_1.At + 1))) rfl nle rfl<|l7 (.ptr 0 0 0) rfl<|o7 (.ptr 0 0 0) rfl trivial rfl<|o7 (.ptr 0 0 0) rfl trivial rfl<|o7 (.lst 1 (s_1.Code.map a0q)) rfl nle rfl<|a1n (a3d (enc:=a0q) rfl) fun hl2 => o7 (.bool (decide (w64 (s_1.At + 1) ≤ (s_1.Code.length:Int)))) rfl rfl rfl<|dk<|?_
 rcases oi hf with ⟨c3,hf⟩ | ⟨c3,hf⟩
 ·refine a0b rfl c3<|sr<|l7 (.ptr 0 0 0) rfl<|l7 (.ptr 0 0 0) rfl<|o7 (.ptr 0 0 0) rfl trivial rfl<|o7 (.ptr 0 0 2) rfl trivial rfl<|o7 (.int .i64 s_1.Seed) rfl nle rfl<|o7 (.int .i64 (w64 (s_1.Seed * 31))) rfl rfl rfl<|l7 (.ptr 0 0 0) rfl<|o7 (.ptr 0 0 0) rfl trivial rfl<|o7 (.ptr 0 0 0) rfl trivial rfl<|o7 (.lst 1 (s_1.Code.map a0q)) rfl nle rfl<|l7 (.ptr 0 0 0) rfl<|o7 (.ptr 0 0 0) rfl trivial rfl<|o7 (.ptr 0 0 1) rfl trivial rfl<|o7 (.int .i64 (w64 (s_1.At + 1))) rfl nle rfl<|o7 (.int .i64 (w64 ((w64 (s_1.At + 1)) - 1))) rfl rfl rfl<|?_
  obtain ⟨x_4,ex5,hf⟩:=ob hf
  refine o8 (a5l (enc:=a0q) rfl rfl (b2x ex5) (b2y ex5))<|o7 (.int .u8 x_4) rfl ⟨rfl,rfl⟩ rfl<|o7 (.int .i64 (w64 x_4)) rfl trivial rfl<|o7 (.int .i64 (w64 ((w64 (s_1.Seed * 31)) + (w64 x_4)))) rfl rfl rfl<|o7 (.int .i64 (w64 ((w64 ((w64 (s_1.Seed * 31)) + (w64 x_4))) + 7))) rfl rfl rfl<|o7 (.int .i64 ((w64 ((w64 ((w64 (s_1.Seed * 31)) + (w64 x_4))) + 7)).tmod 2147483648)) rfl ⟨rfl,by decide⟩ rfl<|o7 (.ptr 0 0 0) rfl trivial rfl<|o7 (.ptr 0 0 2) rfl trivial rfl<|a6g (x9 (v:=(.int .i64 ((w64 ((w64 ((w64 (s_1.Seed * 31)) + (w64 x_4))) + 7)).tmod 2147483648))) (y':=(.agg [(.lst 1 (s_1.Code.map a0q)),(.int .i64 (w64 (s_1.At + 1))),(.int .i64 ((w64 ((w64 ((w64 (s_1.Seed * 31)) + (w64 x_4))) + 7)).tmod 2147483648))])) rfl rfl rfl trivial ⟨rfl,nle⟩ ⟨⟨rfl,trivial⟩,trivial⟩ rfl) trivial trivial<|?_
  refine dk<|sr<|l7 (.ptr 0 0 0) rfl<|o7 (.ptr 0 0 0) rfl trivial rfl<|o7 (.ptr 0 0 0) rfl trivial rfl<|o7 (.lst 1 (s_1.Code.map a0q)) rfl nle rfl<|l7 (.ptr 0 0 0) rfl<|o7 (.ptr 0 0 0) rfl trivial rfl<|o7 (.ptr 0 0 1) rfl trivial rfl<|o7 (.int .i64 (w64 (s_1.At + 1))) rfl nle rfl<|o7 (.int .i64 (w64 ((w64 (s_1.At + 1)) - 1))) rfl rfl rfl<|?_
  obtain ⟨x_6,ex7,hf⟩:=ob hf
  refine o8 (a5l (enc:=a0q) rfl rfl (b2x ex7) (b2y ex7))<|o7 (.int .u8 x_6) rfl ⟨rfl,rfl⟩ rfl<|o7 (.int .i64 (w64 x_6)) rfl trivial rfl<|l7 (.int .i64 (w64 x_6)) rfl<|dk<|a0d<|?_;obtain rfl:=os hf;exact a3a [] [0] rfl ⟨trivial,trivial⟩ rfl (.refl _) (.refl _)
 ·refine a0c rfl (bf c3)<|a0i<|a0h<|o6<|sr<|l7 (.ptr 0 0 0) rfl<|o7 (.ptr 0 0 0) rfl trivial rfl<|o7 (.ptr 0 0 1) rfl trivial rfl<|o7 (.int .i64 (w64 (s_1.At + 1))) rfl nle rfl<|o7 (.bool (decide (w64 (s_1.At + 1) > 3000))) rfl rfl rfl<|dk<|?_
  rcases oi hf with ⟨c8,hf⟩ | ⟨c8,hf⟩
  ·refine a0b rfl c8<|sr<|l7 (.int .i64 0) rfl<|dk<|a0d<|?_;obtain rfl:=os hf;exact a3a [] [0] rfl ⟨trivial,trivial⟩ rfl (.refl _) (.refl _)
  ·refine a0c rfl (bf c8)<|a0i<|a0h<|sr<|l7 (.ptr 0 0 0) rfl<|l7 (.ptr 0 0 0) rfl<|o7 (.ptr 0 0 0) rfl trivial rfl<|o7 (.ptr 0 0 2) rfl trivial rfl<|o7 (.int .i64 s_1.Seed) rfl nle rfl<|o7 (.int .i64 (w64 (s_1.Seed * 1103515245))) rfl rfl rfl<|o7 (.int .i64 (w64 ((w64 (s_1.Seed * 1103515245)) + 12345))) rfl rfl rfl<|o7 (.int .i64 ((w64 ((w64 (s_1.Seed * 1103515245)) + 12345)).tmod 2147483648)) rfl ⟨rfl,by decide⟩ rfl<|o7 (.ptr 0 0 0) rfl trivial rfl<|o7 (.ptr 0 0 2) rfl trivial rfl<|a1i (x9 (v:=(.int .i64 ((w64 ((w64 (s_1.Seed * 1103515245)) + 12345)).tmod 2147483648))) (y':=(.agg [(.lst 1 (s_1.Code.map a0q)),(.int .i64 (w64 (s_1.At + 1))),(.int .i64 ((w64 ((w64 (s_1.Seed * 1103515245)) + 12345)).tmod 2147483648))])) rfl rfl rfl trivial ⟨rfl,nle⟩ ⟨⟨rfl,trivial⟩,trivial⟩ rfl)<|?_
   refine dk<|sr<|l7 (.ptr 0 0 0) rfl<|o7 (.ptr 0 0 0) rfl trivial rfl<|o7 (.ptr 0 0 2) rfl trivial rfl<|o7 (.int .i64 ((w64 ((w64 (s_1.Seed * 1103515245)) + 12345)).tmod 2147483648)) rfl nle rfl<|o7 (.int .i64 (w64 (((w64 ((w64 (s_1.Seed * 1103515245)) + 12345)).tmod 2147483648).tdiv 65536))) rfl ⟨rfl,by decide⟩ rfl<|o7 (.int .i64 ((w64 (((w64 ((w64 (s_1.Seed * 1103515245)) + 12345)).tmod 2147483648).tdiv 65536)).tmod 256)) rfl ⟨rfl,by decide⟩ rfl<|l7 (.int .i64 ((w64 (((w64 ((w64 (s_1.Seed * 1103515245)) + 12345)).tmod 2147483648).tdiv 65536)).tmod 256)) rfl<|dk<|a0d<|?_;obtain rfl:=os hf;exact a3a [] [0] rfl ⟨trivial,trivial⟩ rfl (.refl _) (.refl _)

/- (*spec.l00Src).next -/
def d3o:a0p :=
 (.seq (.reg (tm 4 (.c (.int .i64 0)) .done))
 (.seq (.seq (.reg (tm 8 (.t 1) (tq 9 (.bin .leq (.t 8) (.c (.int .i64 1))) .done)))
 (.cond (.t 9) (.seq (.reg (tm 4 (.c (.int .i64 0)) .done))
 .ret)
 .skip))
 (.seq (.seq (.reg (tm 10 (.t 1) (tq 11 (.bin .leq (.t 10) (.c (.int .i64 256))) .done)))
 (.cond (.t 11) (.seq (.reg (tm 12 (.t 0) (tq 13 (.call 261 [(.t 12)]) (tm 14 (.t 1) (tq 15 (.bin .rem (.t 13) (.t 14)) (tm 4 (.t 15) .done))))))
 .ret)
 .skip))
 (.seq (.reg (tm 16 (.t 0) (tq 17 (.call 261 [(.t 16)]) (tm 5 (.t 17) .done))))
 (.seq (.reg (tm 18 (.t 0) (tq 19 (.call 261 [(.t 18)]) (tm 6 (.t 19) .done))))
 (.seq (.reg (tm 20 (.t 0) (tq 21 (.call 261 [(.t 20)]) (tm 7 (.t 21) .done))))
 (.seq (.reg (tm 22 (.t 5) (tq 23 (.bin .mul (.t 22) (.c (.int .i64 65536))) (tm 24 (.t 6) (tq 25 (.bin .mul (.t 24) (.c (.int .i64 256))) (tq 26 (.bin .add (.t 23) (.t 25)) (tm 27 (.t 7) (tq 28 (.bin .add (.t 26) (.t 27)) (tm 29 (.t 1) (tq 30 (.bin .rem (.t 28) (.t 29)) (tm 4 (.t 30) .done)))))))))))
 .ret)))))))
theorem d7n:a1b Tryz.prog Tryz.f163 = some (d3o.erase,[.mov (.t 4)],31):=by kernel_rfl
def a1z (n_1:Int) (s_2:a1h):Option (Int × a1h) :=
    if (decide (n_1 ≤ 1)) then
    some (0,s_2)
    else
    if (decide (n_1 ≤ 256)) then
    (a2t s_2).bind fun r_5 =>
    if n_1 ≠ 0 then
    some (r_5.1.tmod n_1,r_5.2)
    else none
    else
    (a2t s_2).bind fun r_8 =>
    (a2t r_8.2).bind fun r_10 =>
    (a2t r_10.2).bind fun r_12 =>
    if n_1 ≠ 0 then
    some ((w64 ((w64 ((w64 (r_8.1 * 65536)) + (w64 (r_10.1 * 256)))) + r_12.1)).tmod n_1,r_12.2)
    else none
theorem a4v (n_1:Int) (s_2:a1h) (r:(Int × a1h)) (hf:a1z n_1 s_2 = some r):a0j Tryz.prog true 163 [(.ptr 0 0 0),(.int .i64 n_1)] [.box 3 (.agg [(.lst 1 (s_2.Code.map a0q)),(.int .i64 s_2.At),(.int .i64 s_2.Seed)])] (.int .i64 r.1) [.box 3 (.agg [(.lst 1 (r.2.Code.map a0q)),(.int .i64 r.2.At),(.int .i64 r.2.Seed)])]:=by
 refine a0j.of_awp mixed Tryz.func163 d7n nle ?_;rw [a0f];unfold a1z at hf;unfold d3o;refine (show awp Tryz.prog true 1 _ (ofL [(0,(.ptr 0 0 0)),(1,(.int .i64 n_1))]) [.box 3 (.agg [(.lst 1 (s_2.Code.map a0q)),(.int .i64 s_2.At),(.int .i64 s_2.Seed)])] _ from ?_);refine sr<|l7 (.int .i64 0) rfl<|dk<|o6<|sr<|l7 (.int .i64 n_1) rfl<|o7 (.bool (decide (n_1 ≤ 1))) rfl rfl rfl<|dk<|?_
 rcases oi hf with ⟨c3,hf⟩ | ⟨c3,hf⟩
 ·refine a0b rfl c3<|sr<|l7 (.int .i64 0) rfl<|dk<|a0d<|?_;obtain rfl:=os hf;exact a3a [] [0] rfl ⟨trivial,trivial⟩ rfl (.refl _) (.refl _)
 ·refine a0c rfl (bf c3)<|a0i<|a0h<|o6<|sr<|l7 (.int .i64 n_1) rfl<|o7 (.bool (decide (n_1 ≤ 256))) rfl rfl rfl<|dk<|?_
  rcases oi hf with ⟨c4,hf⟩ | ⟨c4,hf⟩
  ·refine a0b rfl c4<|sr<|?_
   obtain ⟨r_5,er6,hf⟩:=ob hf
   obtain ⟨g7,hf⟩:=og hf
   refine l7 (.ptr 0 0 0) rfl ?_;refine o8 (a3e (v:=(.int .i64 r_5.1)) (h2:=[.box 3 (.agg [(.lst 1 (r_5.2.Code.map a0q)),(.int .i64 r_5.2.At),(.int .i64 r_5.2.Seed)])]) [] [0] (fun _ => rfl) (a7r _ _ er6) rfl (.refl _) (.refl _) rfl rfl) ?_;refine l7 (.int .i64 n_1) rfl<|o7 (.int .i64 (r_5.1.tmod n_1)) rfl ⟨rfl,g7⟩ rfl<|l7 (.int .i64 (r_5.1.tmod n_1)) rfl<|dk<|a0d<|?_;obtain rfl:=os hf;exact a3a [] [0] rfl ⟨trivial,trivial⟩ rfl (.refl _) (.refl _)
  ·refine a0c rfl (bf c4)<|a0i<|a0h<|sr<|?_
   obtain ⟨r_8,er9,hf⟩:=ob hf
   refine l7 (.ptr 0 0 0) rfl ?_;refine o8 (a3e (v:=(.int .i64 r_8.1)) (h2:=[.box 3 (.agg [(.lst 1 (r_8.2.Code.map a0q)),(.int .i64 r_8.2.At),(.int .i64 r_8.2.Seed)])]) [] [0] (fun _ => rfl) (a7r _ _ er9) rfl (.refl _) (.refl _) rfl rfl) ?_;refine l7 (.int .i64 r_8.1) rfl<|dk<|sr<|?_
   obtain ⟨r_10,er11,hf⟩:=ob hf
   refine l7 (.ptr 0 0 0) rfl ?_;refine o8 (a3e (v:=(.int .i64 r_10.1)) (h2:=[.box 3 (.agg [(.lst 1 (r_10.2.Code.map a0q)),(.int .i64 r_10.2.At),(.int .i64 r_10.2.Seed)])]) [] [0] (fun _ => rfl) (a7r _ _ er11) rfl (.refl _) (.refl _) rfl rfl) ?_;refine l7 (.int .i64 r_10.1) rfl<|dk<|sr<|?_
   obtain ⟨r_12,er13,hf⟩:=ob hf
   refine l7 (.ptr 0 0 0) rfl ?_;refine o8 (a3e (v:=(.int .i64 r_12.1)) (h2:=[.box 3 (.agg [(.lst 1 (r_12.2.Code.map a0q)),(.int .i64 r_12.2.At),(.int .i64 r_12.2.Seed)])]) [] [0] (fun _ => rfl) (a7r _ _ er13) rfl (.refl _) (.refl _) rfl rfl) ?_;refine l7 (.int .i64 r_12.1) rfl<|dk<|sr<|?_
   obtain ⟨g14,hf⟩:=og hf
   refine l7 (.int .i64 r_8.1) rfl<|o7 (.int .i64 (w64 (r_8.1 * 65536))) rfl rfl rfl<|l7 (.int .i64 r_10.1) rfl<|o7 (.int .i64 (w64 (r_10.1 * 256))) rfl rfl rfl<|o7 (.int .i64 (w64 ((w64 (r_8.1 * 65536)) + (w64 (r_10.1 * 256))))) rfl rfl rfl<|l7 (.int .i64 r_12.1) rfl<|o7 (.int .i64 (w64 ((w64 ((w64 (r_8.1 * 65536)) + (w64 (r_10.1 * 256)))) + r_12.1))) rfl rfl rfl<|l7 (.int .i64 n_1) rfl<|o7 (.int .i64 ((w64 ((w64 ((w64 (r_8.1 * 65536)) + (w64 (r_10.1 * 256)))) + r_12.1)).tmod n_1)) rfl ⟨rfl,g14⟩ rfl<|l7 (.int .i64 ((w64 ((w64 ((w64 (r_8.1 * 65536)) + (w64 (r_10.1 * 256)))) + r_12.1)).tmod n_1)) rfl<|dk<|a0d<|?_;obtain rfl:=os hf;exact a3a [] [0] rfl ⟨trivial,trivial⟩ rfl (.refl _) (.refl _)

/- (*spec.l00Src).pick -/
def d3p:a0p :=
 (.seq (.reg (tm 4 (.c (.str [])) .done))
 (.seq (.seq (.reg (tm 5 (.t 1) (tq 6 (.len (.t 5)) (tq 7 (.bin .eql (.t 6) (.c (.int .i64 0))) .done))))
 (.cond (.t 7) (.seq (.reg (tm 4 (.c (.str [])) .done))
 .ret)
 .skip))
 (.seq (.reg (tm 8 (.t 1) (tm 9 (.t 0) (tm 10 (.t 1) (tq 11 (.len (.t 10)) (tq 12 (.call 163 [(.t 9),(.t 11)]) (tq 13 (.iaddr 1 (.t 8) (.t 12)) (tq 14 (.load 1 false (.t 13)) (tm 4 (.t 14) .done)))))))))
 .ret)))
theorem d7o:a1b Tryz.prog Tryz.f303 = some (d3p.erase,[.mov (.t 4)],15):=by kernel_rfl
def a4e (list_1:(List Str)) (s_2:a1h):Option (Str × a1h) :=
    if ((list_1.length:Int) == 0) then
    some ([],s_2)
    else
    (a1z (list_1.length:Int) s_2).bind fun r_6 =>
    (idx list_1 r_6.1).bind fun x_8 =>
    some (x_8,r_6.2)
theorem b7z (list_1:(List Str)) (s_2:a1h) (r:(Str × a1h)) (hf:a4e list_1 s_2 = some r):a0j Tryz.prog true 303 [(.ptr 0 0 0),(.lst 1 (list_1.map AV.str))] [.box 3 (.agg [(.lst 1 (s_2.Code.map a0q)),(.int .i64 s_2.At),(.int .i64 s_2.Seed)])] (.str r.1) [.box 3 (.agg [(.lst 1 (r.2.Code.map a0q)),(.int .i64 r.2.At),(.int .i64 r.2.Seed)])]:=by
 refine a0j.of_awp mixed Tryz.func303 d7o nle ?_;rw [a0f];unfold a4e at hf;unfold d3p;refine (show awp Tryz.prog true 1 _ (ofL [(0,(.ptr 0 0 0)),(1,(.lst 1 (list_1.map AV.str)))]) [.box 3 (.agg [(.lst 1 (s_2.Code.map a0q)),(.int .i64 s_2.At),(.int .i64 s_2.Seed)])] _ from ?_);refine sr<|l7 (.str []) rfl<|dk<|o6<|sr<|l7 (.lst 1 (list_1.map AV.str)) rfl<|a1n (a3d (enc:=AV.str) rfl) fun hl3 => o7 (.bool ((list_1.length:Int) == 0)) rfl rfl rfl<|dk<|?_
 rcases oi hf with ⟨c4,hf⟩ | ⟨c4,hf⟩
 ·refine a0b rfl c4<|sr<|l7 (.str []) rfl<|dk<|a0d<|?_;obtain rfl:=os hf;exact a3a [] [0] rfl ⟨trivial,trivial⟩ rfl (.refl _) (.refl _)
 ·refine a0c rfl (bf c4)<|a0i<|a0h<|sr<|?_
  obtain ⟨r_6,er7,hf⟩:=ob hf
  obtain ⟨x_8,ex9,hf⟩:=ob hf
  refine l7 (.lst 1 (list_1.map AV.str)) rfl<|l7 (.ptr 0 0 0) rfl<|l7 (.lst 1 (list_1.map AV.str)) rfl<|a1n (a3d (enc:=AV.str) rfl) fun hl5 => ?_;refine o8 (a3e (v:=(.int .i64 r_6.1)) (h2:=[.box 3 (.agg [(.lst 1 (r_6.2.Code.map a0q)),(.int .i64 r_6.2.At),(.int .i64 r_6.2.Seed)])]) [] [0] (fun _ => rfl) (a4v _ _ _ er7) rfl (.refl _) (.refl _) rfl rfl) ?_;refine o8 (a5l (enc:=AV.str) rfl rfl (b2x ex9) (b2y ex9))<|o7 (.str x_8) rfl ⟨rfl,rfl⟩ rfl<|l7 (.str x_8) rfl<|dk<|a0d<|?_;obtain rfl:=os hf;exact a3a [] [0] rfl ⟨trivial,trivial⟩ rfl (.refl _) (.refl _)

/- (*spec.l00Src).atom -/
def d3q:a0p :=
 (.seq (.reg (tq 4 (.box 3 (.c (.agg [(.int .i64 0),(.int .i64 0),(.str [])]))) .done))
 (.seq (.seq (.reg (tm 5 (.t 1) .done))
 (.block 0 (.seq (.reg (tq 7 (.bin .eql (.t 5) (.c (.int .i64 1))) (tm 6 (.t 7) .done)))
 (.cond (.t 6) (.seq (.reg (tm 8 (.t 1) (tm 9 (.t 0) (tq 10 (.call 163 [(.t 9),(.c (.int .i64 12))]) (tq 11 (.bin .sub (.t 10) (.c (.int .i64 4))) (tq 12 (.build [(.int .i64 0),(.int .i64 0),(.str [])] [(0,1,(.t 8)),(1,1,(.t 11))]) (.q ⟨none,none,.store 3 (.t 4) (.t 12)⟩
 .done)))))))
 .ret)
 (.seq (.reg (tq 14 (.bin .eql (.t 5) (.c (.int .i64 2))) (tm 13 (.t 14) .done)))
 (.cond (.t 13) (.seq (.reg (tm 15 (.t 1) (tm 16 (.t 0) (tq 17 (.bslice 1 [(.c (.str [])),(.c (.str [97])),(.c (.str [98])),(.c (.str [99])),(.c (.str [110,101,116]))]) (tq 18 (.call 303 [(.t 16),(.t 17)]) (tq 19 (.build [(.int .i64 0),(.int .i64 0),(.str [])] [(0,1,(.t 15)),(2,1,(.t 18))]) (.q ⟨none,none,.store 3 (.t 4) (.t 19)⟩
 .done)))))))
 .ret)
 (.seq (.reg (tq 21 (.bin .eql (.t 5) (.c (.int .i64 3))) (tm 20 (.t 21) .done)))
 (.cond (.t 20) (.seq (.reg (tm 22 (.t 1) (tm 23 (.t 0) (tq 24 (.call 163 [(.t 23),(.c (.int .i64 2))]) (tq 25 (.build [(.int .i64 0),(.int .i64 0),(.str [])] [(0,1,(.t 22)),(1,1,(.t 24))]) (.q ⟨none,none,.store 3 (.t 4) (.t 25)⟩
 .done))))))
 .ret)
 .skip))))))))
 (.seq (.reg (tm 26 (.t 0) (tq 27 (.call 163 [(.t 26),(.c (.int .i64 6))]) (tq 28 (.bin .add (.c (.int .i64 1)) (.t 27)) (tq 29 (.build [(.int .i64 0),(.int .i64 0),(.str [])] [(0,1,(.c (.int .i64 4))),(1,1,(.t 28))]) (.q ⟨none,none,.store 3 (.t 4) (.t 29)⟩
 .done))))))
 .ret)))
theorem d7p:a1b Tryz.prog Tryz.f226 = some (d3q.erase,[.load 3 true (.t 4)],30):=by kernel_rfl
def a4x (kind_1:Int) (s_2:a1h):Option (x8 × a1h) :=
    if (kind_1 == 1) then
    (a1z 12 s_2).bind fun r_4 =>
    some ((⟨kind_1,w64 (r_4.1 - 4),[]⟩:x8),r_4.2)
    else
    if (kind_1 == 2) then
    (a4e [[],[97],[98],[99],[110,101,116]] s_2).bind fun r_7 =>
    some ((⟨kind_1,0,r_7.1⟩:x8),r_7.2)
    else
    if (kind_1 == 3) then
    (a1z 2 s_2).bind fun r_10 =>
    some ((⟨kind_1,r_10.1,[]⟩:x8),r_10.2)
    else
    (a1z 6 s_2).bind fun r_12 =>
    some ((⟨4,w64 (1 + r_12.1),[]⟩:x8),r_12.2)
theorem b2z (kind_1:Int) (s_2:a1h) (r:(x8 × a1h)) (hf:a4x kind_1 s_2 = some r):a0j Tryz.prog true 226 [(.ptr 0 0 0),(.int .i64 kind_1)] [.box 3 (.agg [(.lst 1 (s_2.Code.map a0q)),(.int .i64 s_2.At),(.int .i64 s_2.Seed)])] (l9 r.1) [.box 3 (.agg [(.lst 1 (r.2.Code.map a0q)),(.int .i64 r.2.At),(.int .i64 r.2.Seed)])]:=by
 refine a0j.of_awp mixed Tryz.func226 d7p nle ?_;rw [a0f];unfold a4x at hf;unfold d3q;refine (show awp Tryz.prog true 1 _ (ofL [(0,(.ptr 0 0 0)),(1,(.int .i64 kind_1))]) [.box 3 (.agg [(.lst 1 (s_2.Code.map a0q)),(.int .i64 s_2.At),(.int .i64 s_2.Seed)])] _ from ?_);refine sr<|o8 (a1g (j:=1) (c:=(.agg [(.int .i64 0),(.int .i64 0),(.str [])])) rfl trivial rfl rfl)<|dk<|o6<|sr<|l7 (.int .i64 kind_1) rfl<|dk<|a3s<|sr<|o7 (.bool (kind_1 == 1)) rfl rfl rfl<|l7 (.bool (kind_1 == 1)) rfl<|dk<|?_
 rcases oi hf with ⟨c3,hf⟩ | ⟨c3,hf⟩
 ·refine a0b rfl c3<|sr<|?_
  obtain ⟨r_4,er5,hf⟩:=ob hf
  refine l7 (.int .i64 kind_1) rfl<|l7 (.ptr 0 0 0) rfl<|?_;refine o8 (a3e (v:=(.int .i64 r_4.1)) (h2:=[.box 3 (.agg [(.lst 1 (r_4.2.Code.map a0q)),(.int .i64 r_4.2.At),(.int .i64 r_4.2.Seed)]),.box 3 (.agg [(.int .i64 0),(.int .i64 0),(.str [])])]) [] [0] (fun _ => rfl) (a4v _ _ _ er5) rfl (.refl _) (.refl _) rfl rfl) ?_;refine o7 (.int .i64 (w64 (r_4.1 - 4))) rfl rfl rfl<|o7 (.agg [(.int .i64 kind_1),(.int .i64 (w64 (r_4.1 - 4))),(.str [])]) rfl ⟨⟨rfl,nle,trivial⟩,⟨⟨rfl,nle,trivial⟩,trivial⟩⟩ rfl<|a1i (x9 (v:=(.agg [(.int .i64 kind_1),(.int .i64 (w64 (r_4.1 - 4))),(.str [])])) (y':=(.agg [(.int .i64 kind_1),(.int .i64 (w64 (r_4.1 - 4))),(.str [])])) rfl rfl rfl trivial ⟨rfl,nle⟩ ⟨⟨rfl,trivial⟩,⟨⟨rfl,trivial⟩,⟨⟨rfl,trivial⟩,trivial⟩⟩⟩ rfl)<|?_
  refine dk<|a0d<|?_;obtain rfl:=os hf;exact a3a [] [0] rfl ⟨nle,trivial⟩ rfl (.refl _) (.refl _)
 ·refine a0c rfl (bf c3)<|sr<|o7 (.bool (kind_1 == 2)) rfl rfl rfl<|l7 (.bool (kind_1 == 2)) rfl<|dk<|?_
  rcases oi hf with ⟨c6,hf⟩ | ⟨c6,hf⟩
  ·refine a0b rfl c6<|sr<|?_
   obtain ⟨r_7,er8,hf⟩:=ob hf
   refine l7 (.int .i64 kind_1) rfl<|l7 (.ptr 0 0 0) rfl<|?_;refine o8 (a1c (j:=2) (as':=[(.str []),(.str [97]),(.str [98]),(.str [99]),(.str [110,101,116])]) rfl (fun _ => by decide) ⟨rfl,⟨rfl,⟨rfl,⟨rfl,⟨rfl,trivial⟩⟩⟩⟩⟩ (.refl _) rfl rfl rfl) ?_;refine o8 (a3e (v:=(.str r_7.1)) (h2:=[.box 3 (.agg [(.lst 1 (r_7.2.Code.map a0q)),(.int .i64 r_7.2.At),(.int .i64 r_7.2.Seed)]),.box 3 (.agg [(.int .i64 0),(.int .i64 0),(.str [])]),.dead]) [false,true] [0] (fun h => absurd (show false = true from h) (by decide)) (b7z _ _ _ er8) rfl (.cons (.refl _) (.cons (.of_eq (congrArg (AV.lst _) (tko [[],[97],[98],[99],[110,101,116]]))) .nil)) (.refl _) rfl rfl) ?_
   refine o7 (.agg [(.int .i64 kind_1),(.int .i64 0),(.str r_7.1)]) rfl ⟨⟨rfl,nle,trivial⟩,⟨⟨rfl,nle,trivial⟩,trivial⟩⟩ rfl<|a1i (x9 (v:=(.agg [(.int .i64 kind_1),(.int .i64 0),(.str r_7.1)])) (y':=(.agg [(.int .i64 kind_1),(.int .i64 0),(.str r_7.1)])) rfl rfl rfl trivial ⟨rfl,nle⟩ ⟨⟨rfl,trivial⟩,⟨⟨rfl,trivial⟩,⟨⟨rfl,trivial⟩,trivial⟩⟩⟩ rfl)<|dk<|a0d<|?_;obtain rfl:=os hf;exact a3a [] [0] rfl ⟨nle,trivial⟩ rfl (.refl _) (.refl _)
  ·refine a0c rfl (bf c6)<|sr<|o7 (.bool (kind_1 == 3)) rfl rfl rfl<|l7 (.bool (kind_1 == 3)) rfl<|dk<|?_
   rcases oi hf with ⟨c9,hf⟩ | ⟨c9,hf⟩
   ·refine a0b rfl c9<|sr<|?_
    obtain ⟨r_10,er11,hf⟩:=ob hf
    refine l7 (.int .i64 kind_1) rfl<|l7 (.ptr 0 0 0) rfl<|?_;refine o8 (a3e (v:=(.int .i64 r_10.1)) (h2:=[.box 3 (.agg [(.lst 1 (r_10.2.Code.map a0q)),(.int .i64 r_10.2.At),(.int .i64 r_10.2.Seed)]),.box 3 (.agg [(.int .i64 0),(.int .i64 0),(.str [])])]) [] [0] (fun _ => rfl) (a4v _ _ _ er11) rfl (.refl _) (.refl _) rfl rfl) ?_;refine o7 (.agg [(.int .i64 kind_1),(.int .i64 r_10.1),(.str [])]) rfl ⟨⟨rfl,nle,trivial⟩,⟨⟨rfl,nle,trivial⟩,trivial⟩⟩ rfl<|a1i (x9 (v:=(.agg [(.int .i64 kind_1),(.int .i64 r_10.1),(.str [])])) (y':=(.agg [(.int .i64 kind_1),(.int .i64 r_10.1),(.str [])])) rfl rfl rfl trivial ⟨rfl,nle⟩ ⟨⟨rfl,trivial⟩,⟨⟨rfl,trivial⟩,⟨⟨rfl,trivial⟩,trivial⟩⟩⟩ rfl)<|?_
    refine dk<|a0d<|?_;obtain rfl:=os hf;exact a3a [] [0] rfl ⟨nle,trivial⟩ rfl (.refl _) (.refl _)
   ·refine a0c rfl (bf c9)<|a0i<|a3l<|a0h<|sr<|?_
    obtain ⟨r_12,er13,hf⟩:=ob hf
    refine l7 (.ptr 0 0 0) rfl ?_;refine o8 (a3e (v:=(.int .i64 r_12.1)) (h2:=[.box 3 (.agg [(.lst 1 (r_12.2.Code.map a0q)),(.int .i64 r_12.2.At),(.int .i64 r_12.2.Seed)]),.box 3 (.agg [(.int .i64 0),(.int .i64 0),(.str [])])]) [] [0] (fun _ => rfl) (a4v _ _ _ er13) rfl (.refl _) (.refl _) rfl rfl) ?_;refine o7 (.int .i64 (w64 (1 + r_12.1))) rfl rfl rfl<|o7 (.agg [(.int .i64 4),(.int .i64 (w64 (1 + r_12.1))),(.str [])]) rfl ⟨⟨rfl,nle,trivial⟩,⟨⟨rfl,nle,trivial⟩,trivial⟩⟩ rfl<|a1i (x9 (v:=(.agg [(.int .i64 4),(.int .i64 (w64 (1 + r_12.1))),(.str [])])) (y':=(.agg [(.int .i64 4),(.int .i64 (w64 (1 + r_12.1))),(.str [])])) rfl rfl rfl trivial ⟨rfl,nle⟩ ⟨⟨rfl,trivial⟩,⟨⟨rfl,trivial⟩,⟨⟨rfl,trivial⟩,trivial⟩⟩⟩ rfl)<|?_
    refine dk<|a0d<|?_;obtain rfl:=os hf;exact a3a [] [0] rfl ⟨nle,trivial⟩ rfl (.refl _) (.refl _)

/- spec.l03Has -/
def e2a:a0p :=
 (.seq (.reg (tq 3 (.box 3 (.t 1)) (tm 4 (.c (.bool false)) .done)))
 (.seq (.seq (.reg (tm 5 (.c (.int .i64 0)) .done))
 (.block 0 (.loop (.seq (.seq (.reg (tm 6 (.t 5) (tm 7 (.t 0) (tq 8 (.len (.t 7)) (tq 9 (.bin .lss (.t 6) (.t 8)) .done)))))
 (.cond (.t 9) .skip
 (.exit 0)))
 (.seq (.block 1 (.seq (.reg (tm 12 (.t 0) (tm 13 (.t 5) (tq 14 (.iaddr 3 (.t 12) (.t 13)) (tq 15 (.load 3 true (.t 14)) (tq 16 (.load 3 true (.t 3)) (tq 17 (.eqs false [0,0,2] (.t 15) (.t 16)) .done)))))))
 (.cond (.t 17) (.seq (.reg (tm 4 (.c (.bool true)) .done))
 .ret)
 .skip)))
 (.reg (tm 10 (.t 5) (tq 11 (.bin .add (.t 10) (.c (.int .i64 1))) (tm 5 (.t 11) .done)))))))))
 (.cut (.seq (.reg (tm 4 (.c (.bool false)) .done))
 .ret))))
theorem e2c:a1b Tryz.prog Tryz.f185 = some (e2a.erase,[.mov (.t 4)],18):=by kernel_rfl
def a5b (a_2:x8):List x8 → Option (Fl Bool Unit)
  | [] =>
    some (.go ())
  | x_28 :: xs =>
    if (x_28.Kind == a_2.Kind && (x_28.N == a_2.N && (x_28.T == a_2.T && true))) then
    some (.ret true)
    else
    a5b a_2 xs 

def b1s (d_1:(List x8)) (a_2:x8):Option Bool :=
    (a5b a_2 d_1 ).bind fun q => (match q with
    | .ret r => some r
    | .go _ =>
    some false)
theorem c5u (d_1:(List x8)) (a_2:x8) (r:Bool) (hf:b1s d_1 a_2 = some r):y9 Tryz.prog 185 .flat [(.lst 3 (d_1.map l9)),(l9 a_2)] (.bool r):=by
 refine y9.of_awp mixed Tryz.func185 e2c nle ?_;rw [a0f];unfold b1s at hf;unfold e2a;refine (show awp Tryz.prog false 0 _ (ofL [(0,(.lst 3 (d_1.map l9))),(1,(l9 a_2))]) [] _ from ?_);refine sr<|o8 (a1g (j:=0) (c:=(.agg [(.int .i64 a_2.Kind),(.int .i64 a_2.N),(.str a_2.T)])) rfl trivial rfl rfl)<|l7 (.bool false) rfl<|dk<|o6<|sr<|l7 (.int .i64 0) rfl<|dk<|?_
 obtain ⟨p21,hb1,hf⟩:=ob hf
 refine a4k (X:={q:Unit // p21 = .go q}) (fun q => ([],[])) ?_ ?_
 ·refine a1v (X:={q:Nat // a5b a_2 (d_1.drop q)  = some p21}) (fun q => ([(0,(.lst 3 (d_1.map l9))),(3,(.ptr 0 0 0)),(5,(.int .i64 (q.1:Int)))],[.box 3 (.agg [(.int .i64 a_2.Kind),(.int .i64 a_2.N),(.str a_2.T)])])) (fun q => d_1.length - q.1) ⟨0,hb1⟩ ⟨[],[0],_,_,rfl,rfl,⟨.refl _,⟨.refl _,⟨.refl _,trivial⟩⟩⟩,(.refl _)⟩ ?_
  rintro ⟨i_14,hc1⟩
  have hc1:a5b a_2 (d_1.drop i_14)  = some p21:=hc1
  refine (show awp Tryz.prog false 0 _ (ofL [(0,(.lst 3 (d_1.map l9))),(3,(.ptr 0 0 0)),(5,(.int .i64 (i_14:Int)))]) [.box 3 (.agg [(.int .i64 a_2.Kind),(.int .i64 a_2.N),(.str a_2.T)])] _ from ?_)
  rcases a7j d_1 i_14 with ⟨hie24,hd27⟩ | ⟨hlt22,x_28,hx23,hd27⟩
  ·rw [hd27,a5b.eq_1] at hc1
   have hq26:=dlf hie24
   refine o6<|sr<|l7 (.int .i64 (i_14:Int)) rfl<|l7 (.lst 3 (d_1.map l9)) rfl<|a1n (a3d (enc:=l9) rfl) fun hl29 => o7 (.bool (decide ((i_14:Int) < (d_1.length:Int)))) rfl rfl rfl<|dk<|a0c rfl hq26<|a4b<|a4a<|a2w<|a3z<|?_;obtain rfl:=os hc1;exact a5z ⟨_,rfl⟩ ⟨[],[],_,_,rfl,rfl,trivial,(.refl _)⟩
  ·rw [hd27,a5b.eq_2] at hc1
   have hq26:=dlt hlt22
   refine o6<|sr<|l7 (.int .i64 (i_14:Int)) rfl<|l7 (.lst 3 (d_1.map l9)) rfl<|a1n (a3d (enc:=l9) rfl) fun hl30 => o7 (.bool (decide ((i_14:Int) < (d_1.length:Int)))) rfl rfl rfl<|dk<|a0b rfl hq26<|a0i<|a0h<|o6<|a3s<|sr<|l7 (.lst 3 (d_1.map l9)) rfl<|l7 (.int .i64 (i_14:Int)) rfl<|o8 (a3o (enc:=l9) rfl rfl hx23)<|o7 (l9 x_28) rfl nle rfl<|o7 (.agg [(.int .i64 a_2.Kind),(.int .i64 a_2.N),(.str a_2.T)]) rfl nle rfl<|o7 (.bool (x_28.Kind == a_2.Kind && (x_28.N == a_2.N && (x_28.T == a_2.T && true)))) rfl ⟨⟨rfl,rfl⟩,⟨⟨rfl,rfl⟩,⟨rfl,trivial⟩⟩⟩ rfl<|?_
   refine dk<|?_
   rcases oi hc1 with ⟨c31,hc1⟩ | ⟨c31,hc1⟩
   ·refine a0b rfl c31<|sr<|l7 (.bool true) rfl<|dk<|a0d<|?_;obtain rfl:=os hc1;obtain rfl:=os hf;exact a0m ⟨trivial,trivial⟩ rfl (.refl _)
   ·refine a0c rfl (bf c31)<|a0i<|a3l<|a0h<|a0z<|l7 (.int .i64 (i_14:Int)) rfl<|o7 (.int .i64 (w64 ((i_14:Int) + 1))) rfl rfl rfl<|l7 (.int .i64 (w64 ((i_14:Int) + 1))) rfl<|a0e<|?_;exact a2p ⟨(i_14 + 1),hc1⟩ (mul hlt22) ⟨[],[0],_,_,rfl,rfl,⟨.refl _,⟨.refl _,⟨.of_eq (congrArg (AV.int _) (a3h hlt22 hl30)),trivial⟩⟩⟩,(.refl _)⟩
 ·rintro ⟨_,rfl⟩
  refine sr<|l7 (.bool false) rfl<|dk<|a0d<|?_;obtain rfl:=os hf;exact a0m ⟨trivial,trivial⟩ rfl (.refl _)

/- spec.l01Bit -/
def e2d:a0p :=
 (.seq (.reg (tm 2 (.c (.int .i64 0)) .done))
 (.seq (.seq (.reg (tm 3 (.t 0) .done))
 (.cond (.t 3) (.seq (.reg (tm 2 (.c (.int .i64 1)) .done))
 .ret)
 .skip))
 (.seq (.reg (tm 2 (.c (.int .i64 0)) .done))
 .ret)))
theorem e2e:a1b Tryz.prog Tryz.f184 = some (e2d.erase,[.mov (.t 2)],4):=by kernel_rfl
def a8n (b_1:Bool):Option Int :=
    if b_1 then
    some 1
    else
    some 0
theorem b1j (b_1:Bool) (r:Int) (hf:a8n b_1 = some r):y9 Tryz.prog 184 .flat [(.bool b_1)] (.int .i64 r):=by
  refine y9.of_awp mixed Tryz.func184 e2e nle ?_
  rw [a0f]
  unfold a8n at hf
  unfold e2d
  refine (show awp Tryz.prog false 0 _ (ofL [(0,(.bool b_1))]) [] _ from ?_)
  refine o6 ?_
  refine a0z ?_
  refine o8 (a2z (.int .i64 0) rfl) ?_
  refine a0e ?_
  refine a0h ?_
  refine o6 ?_
  refine o6 ?_
  refine a0z ?_
  refine o8 (a2z (.bool b_1) rfl) ?_
  refine a0e ?_
  refine a0h ?_
  rcases oi hf with ⟨c2,hf⟩ | ⟨c2,hf⟩
  · refine a0b rfl c2 ?_
    refine o6 ?_
    refine a0z ?_
    refine o8 (a2z (.int .i64 1) rfl) ?_
    refine a0e ?_
    refine a0h ?_
    refine a0d ?_
    obtain rfl:=os hf
    exact a0m ⟨trivial,trivial⟩ rfl (.refl _)
  · refine a0c rfl (bf c2) ?_
    refine a0i ?_
    refine a0h ?_
    refine o6 ?_
    refine a0z ?_
    refine o8 (a2z (.int .i64 0) rfl) ?_
    refine a0e ?_
    refine a0h ?_
    refine a0d ?_
    obtain rfl:=os hf
    exact a0m ⟨trivial,trivial⟩ rfl (.refl _)

/- spec.l03Order -/
def c229:a0p :=
 (.seq (.reg (tq 2 (.box 3 (.t 0)) (tq 3 (.box 3 (.t 1)) (tm 4 (.c (.int .i64 0)) .done))))
 (.seq (.block 0 (.seq (.reg (tq 6 (.faddr 0 (.t 2)) (tq 7 (.load 1 false (.t 6)) (tq 8 (.faddr 0 (.t 3)) (tq 9 (.load 1 false (.t 8)) (tq 10 (.bin .neq (.t 7) (.t 9)) (tm 5 (.t 10) .done)))))))
 (.cond (.t 5) (.seq (.reg (tq 11 (.faddr 0 (.t 2)) (tq 12 (.load 1 false (.t 11)) (tq 13 (.faddr 0 (.t 3)) (tq 14 (.load 1 false (.t 13)) (tq 15 (.bin .lss (.t 12) (.t 14)) (tq 16 (.call 184 [(.t 15)]) (tq 17 (.bin .mul (.c (.int .i64 2)) (.t 16)) (tq 18 (.bin .sub (.c (.int .i64 1)) (.t 17)) (tm 4 (.t 18) .done))))))))))
 .ret)
 (.seq (.reg (tq 20 (.faddr 1 (.t 2)) (tq 21 (.load 1 false (.t 20)) (tq 22 (.faddr 1 (.t 3)) (tq 23 (.load 1 false (.t 22)) (tq 24 (.bin .neq (.t 21) (.t 23)) (tm 19 (.t 24) .done)))))))
 (.cond (.t 19) (.seq (.reg (tq 25 (.faddr 1 (.t 2)) (tq 26 (.load 1 false (.t 25)) (tq 27 (.faddr 1 (.t 3)) (tq 28 (.load 1 false (.t 27)) (tq 29 (.bin .lss (.t 26) (.t 28)) (tq 30 (.call 184 [(.t 29)]) (tq 31 (.bin .mul (.c (.int .i64 2)) (.t 30)) (tq 32 (.bin .sub (.c (.int .i64 1)) (.t 31)) (tm 4 (.t 32) .done))))))))))
 .ret)
 (.seq (.reg (tq 34 (.faddr 2 (.t 2)) (tq 35 (.load 1 false (.t 34)) (tq 36 (.faddr 2 (.t 3)) (tq 37 (.load 1 false (.t 36)) (tq 38 (.bin .neq (.t 35) (.t 37)) (tm 33 (.t 38) .done)))))))
 (.cond (.t 33) (.seq (.reg (tq 39 (.faddr 2 (.t 2)) (tq 40 (.load 1 false (.t 39)) (tq 41 (.faddr 2 (.t 3)) (tq 42 (.load 1 false (.t 41)) (tq 43 (.bin .lss (.t 40) (.t 42)) (tq 44 (.call 184 [(.t 43)]) (tq 45 (.bin .mul (.c (.int .i64 2)) (.t 44)) (tq 46 (.bin .sub (.c (.int .i64 1)) (.t 45)) (tm 4 (.t 46) .done))))))))))
 .ret)
 .skip)))))))
 (.seq (.reg (tm 4 (.c (.int .i64 0)) .done))
 .ret)))
theorem e2f:a1b Tryz.prog Tryz.f229 = some (c229.erase,[.mov (.t 4)],47):=by kernel_rfl
def a6x (a_1:x8) (b_2:x8):Option Int :=
    if (a_1.Kind != b_2.Kind) then
    (a8n (decide (a_1.Kind < b_2.Kind))).bind fun r_4 =>
    some (w64 (1 - (w64 (2 * r_4))))
    else
    if (a_1.N != b_2.N) then
    (a8n (decide (a_1.N < b_2.N))).bind fun r_7 =>
    some (w64 (1 - (w64 (2 * r_7))))
    else
    if (!(a_1.T == b_2.T)) then
    (a8n (Op.bytesLess a_1.T b_2.T)).bind fun r_10 =>
    some (w64 (1 - (w64 (2 * r_10))))
    else
    some 0
theorem b5d (a_1:x8) (b_2:x8) (r:Int) (hf:a6x a_1 b_2 = some r):y9 Tryz.prog 229 .flat [(l9 a_1),(l9 b_2)] (.int .i64 r):=by
 refine y9.of_awp mixed Tryz.func229 e2f nle ?_;rw [a0f];unfold a6x at hf;unfold c229;refine (show awp Tryz.prog false 0 _ (ofL [(0,(l9 a_1)),(1,(l9 b_2))]) [] _ from ?_);refine sr<|o8 (a1g (j:=0) (c:=(.agg [(.int .i64 a_1.Kind),(.int .i64 a_1.N),(.str a_1.T)])) rfl trivial rfl rfl)<|o8 (a1g (j:=1) (c:=(.agg [(.int .i64 b_2.Kind),(.int .i64 b_2.N),(.str b_2.T)])) rfl trivial rfl rfl)<|l7 (.int .i64 0) rfl<|dk<|o6<|a3s<|sr<|o7 (.ptr 0 0 0) rfl trivial rfl<|o7 (.int .i64 a_1.Kind) rfl nle rfl<|o7 (.ptr 1 0 0) rfl trivial rfl<|o7 (.int .i64 b_2.Kind) rfl nle rfl<|o7 (.bool (a_1.Kind != b_2.Kind)) rfl rfl rfl<|?_
 refine l7 (.bool (a_1.Kind != b_2.Kind)) rfl<|dk<|?_
 rcases oi hf with ⟨c3,hf⟩ | ⟨c3,hf⟩
 ·refine a0b rfl c3<|sr<|?_
  obtain ⟨r_4,er5,hf⟩:=ob hf
  refine o7 (.ptr 0 0 0) rfl trivial rfl<|o7 (.int .i64 a_1.Kind) rfl nle rfl<|o7 (.ptr 1 0 0) rfl trivial rfl<|o7 (.int .i64 b_2.Kind) rfl nle rfl<|o7 (.bool (decide (a_1.Kind < b_2.Kind))) rfl rfl rfl<|o8 (a1f (b1j _ _ er5) rfl (.refl _) rfl)<|o7 (.int .i64 (w64 (2 * r_4))) rfl rfl rfl<|o7 (.int .i64 (w64 (1 - (w64 (2 * r_4))))) rfl rfl rfl<|l7 (.int .i64 (w64 (1 - (w64 (2 * r_4))))) rfl<|dk<|a0d<|?_;obtain rfl:=os hf;exact a0m ⟨trivial,trivial⟩ rfl (.refl _)
 ·refine a0c rfl (bf c3)<|sr<|o7 (.ptr 0 0 1) rfl trivial rfl<|o7 (.int .i64 a_1.N) rfl nle rfl<|o7 (.ptr 1 0 1) rfl trivial rfl<|o7 (.int .i64 b_2.N) rfl nle rfl<|o7 (.bool (a_1.N != b_2.N)) rfl rfl rfl<|l7 (.bool (a_1.N != b_2.N)) rfl<|dk<|?_
  rcases oi hf with ⟨c6,hf⟩ | ⟨c6,hf⟩
  ·refine a0b rfl c6<|sr<|?_
   obtain ⟨r_7,er8,hf⟩:=ob hf
   refine o7 (.ptr 0 0 1) rfl trivial rfl<|o7 (.int .i64 a_1.N) rfl nle rfl<|o7 (.ptr 1 0 1) rfl trivial rfl<|o7 (.int .i64 b_2.N) rfl nle rfl<|o7 (.bool (decide (a_1.N < b_2.N))) rfl rfl rfl<|o8 (a1f (b1j _ _ er8) rfl (.refl _) rfl)<|o7 (.int .i64 (w64 (2 * r_7))) rfl rfl rfl<|o7 (.int .i64 (w64 (1 - (w64 (2 * r_7))))) rfl rfl rfl<|l7 (.int .i64 (w64 (1 - (w64 (2 * r_7))))) rfl<|dk<|a0d<|?_;obtain rfl:=os hf;exact a0m ⟨trivial,trivial⟩ rfl (.refl _)
  ·refine a0c rfl (bf c6)<|sr<|o7 (.ptr 0 0 2) rfl trivial rfl<|o7 (.str a_1.T) rfl nle rfl<|o7 (.ptr 1 0 2) rfl trivial rfl<|o7 (.str b_2.T) rfl nle rfl<|o7 (.bool (!(a_1.T == b_2.T))) rfl trivial rfl<|l7 (.bool (!(a_1.T == b_2.T))) rfl<|dk<|?_
   rcases oi hf with ⟨c9,hf⟩ | ⟨c9,hf⟩
   ·refine a0b rfl c9<|sr<|?_
    obtain ⟨r_10,er11,hf⟩:=ob hf
    refine o7 (.ptr 0 0 2) rfl trivial rfl<|o7 (.str a_1.T) rfl nle rfl<|o7 (.ptr 1 0 2) rfl trivial rfl<|o7 (.str b_2.T) rfl nle rfl<|o7 (.bool (Op.bytesLess a_1.T b_2.T)) rfl trivial rfl<|o8 (a1f (b1j _ _ er11) rfl (.refl _) rfl)<|o7 (.int .i64 (w64 (2 * r_10))) rfl rfl rfl<|o7 (.int .i64 (w64 (1 - (w64 (2 * r_10))))) rfl rfl rfl<|l7 (.int .i64 (w64 (1 - (w64 (2 * r_10))))) rfl<|dk<|a0d<|?_;obtain rfl:=os hf;exact a0m ⟨trivial,trivial⟩ rfl (.refl _)
   ·refine a0c rfl (bf c9)<|a0i<|a3l<|a0h<|sr<|l7 (.int .i64 0) rfl<|dk<|a0d<|?_;obtain rfl:=os hf;exact a0m ⟨trivial,trivial⟩ rfl (.refl _)

/- spec.l03Put -/
def d3r:a0p :=
 (.seq (.reg (tq 3 (.box 3 (.t 1)) (tm 4 (.c .nil) .done)))
 (.seq (.seq (.reg (tm 6 (.t 0) (tq 7 (.load 3 true (.t 3)) (tq 8 (.call 185 [(.t 6),(.t 7)]) .done))))
 (.cond (.t 8) (.seq (.reg (tm 9 (.t 0) (tm 4 (.t 9) .done)))
 .ret)
 .skip))
 (.seq (.reg (tm 10 (.t 0) (tq 11 (.len (.t 10)) (tm 5 (.t 11) .done))))
 (.seq (.block 0 (.loop (.seq (.seq (.reg (tm 12 (.t 5) (tq 13 (.bin .gtr (.t 12) (.c (.int .i64 0))) (tm 14 (.t 13) (tg 15 14 true (.mov (.t 0)) (tg 16 14 true (.mov (.t 5)) (tg 17 14 true (.bin .sub (.t 16) (.c (.int .i64 1))) (tg 18 14 true (.iaddr 3 (.t 15) (.t 17)) (tg 19 14 true (.load 3 true (.t 18)) (tg 20 14 true (.load 3 true (.t 3)) (.l ⟨(some 21),(some (14,true)),.call 229 [(.t 19),(.t 20)]⟩ []
 (tg 22 14 true (.bin .gtr (.t 21) (.c (.int .i64 0))) (tq 23 (.pick (.t 14) (.t 22) (.c (.bool false))) .done)) .non)))))))))))
 (.cut (.cond (.t 23) .skip
 (.exit 0))))
 (.block 1 (.reg (tm 24 (.t 5) (tq 25 (.bin .sub (.t 24) (.c (.int .i64 1))) (tm 5 (.t 25) .done))))))))
 (.cut (.seq (.reg (tm 27 (.t 0) (tm 28 (.t 5) (tq 29 (.slice 3 (.t 27) none (some (.t 28))) (tq 31 (.load 3 true (.t 3)) (tm 34 (.t 0) (tm 35 (.t 5) (tq 36 (.slice 3 (.t 34) (some (.t 35)) none) (.l ⟨(some 26),none,.bslice 3 []⟩ [⟨(some 36),none,.slice 3 (.t 34) (some (.t 35)) none⟩,⟨(some 31),none,.load 3 true (.t 3)⟩,⟨(some 29),none,.slice 3 (.t 27) none (some (.t 28))⟩]
 (.l ⟨(some 30),none,.append 3 32 (.t 26) (.t 29)⟩ [⟨(some 36),none,.slice 3 (.t 34) (some (.t 35)) none⟩,⟨(some 31),none,.load 3 true (.t 3)⟩]
 (.l ⟨(some 32),none,.bslice 3 [(.t 31)]⟩ [⟨(some 36),none,.slice 3 (.t 34) (some (.t 35)) none⟩,⟨(some 29),none,.slice 3 (.t 27) none (some (.t 28))⟩]
 (.l ⟨(some 33),none,.append 3 32 (.t 30) (.t 32)⟩ [⟨(some 36),none,.slice 3 (.t 34) (some (.t 35)) none⟩]
 (.l ⟨(some 37),none,.append 3 32 (.t 33) (.t 36)⟩ []
 (tm 4 (.t 37) .done) .non) .non) .non) (.l ⟨(some 32),none,.bslice 3 [(.t 31)]⟩ [⟨(some 36),none,.slice 3 (.t 34) (some (.t 35)) none⟩,⟨(some 29),none,.slice 3 (.t 27) none (some (.t 28))⟩]
 (.l ⟨(some 30),none,.append 3 32 (.t 26) (.t 29)⟩ [⟨(some 36),none,.slice 3 (.t 34) (some (.t 35)) none⟩,⟨(some 31),none,.load 3 true (.t 3)⟩]
 (.l ⟨(some 33),none,.append 3 32 (.t 30) (.t 32)⟩ [⟨(some 36),none,.slice 3 (.t 34) (some (.t 35)) none⟩]
 (.l ⟨(some 37),none,.append 3 32 (.t 33) (.t 36)⟩ []
 (tm 4 (.t 37) .done) .non) .non) .non) .non)) (.l ⟨(some 32),none,.bslice 3 [(.t 31)]⟩ [⟨(some 36),none,.slice 3 (.t 34) (some (.t 35)) none⟩,⟨(some 29),none,.slice 3 (.t 27) none (some (.t 28))⟩]
 (.l ⟨(some 26),none,.bslice 3 []⟩ [⟨(some 36),none,.slice 3 (.t 34) (some (.t 35)) none⟩,⟨(some 31),none,.load 3 true (.t 3)⟩,⟨(some 29),none,.slice 3 (.t 27) none (some (.t 28))⟩]
 (.l ⟨(some 30),none,.append 3 32 (.t 26) (.t 29)⟩ [⟨(some 36),none,.slice 3 (.t 34) (some (.t 35)) none⟩,⟨(some 31),none,.load 3 true (.t 3)⟩]
 (.l ⟨(some 33),none,.append 3 32 (.t 30) (.t 32)⟩ [⟨(some 36),none,.slice 3 (.t 34) (some (.t 35)) none⟩]
 (.l ⟨(some 37),none,.append 3 32 (.t 33) (.t 36)⟩ []
 (tm 4 (.t 37) .done) .non) .non) .non) .non) .non))))))))))
 .ret))))))
theorem d7q:a1b Tryz.prog Tryz.f225 = some (d3r.erase,[.mov (.t 4)],38):=by kernel_rfl
def a3t (d_1:(List x8)) (a_2:x8):Nat → Int → Option Int
  | 0,_ => none
  | k + 1,k_38 =>
    ((if (decide (k_38 > 0)) then
    if (0:Int) ≤ w64 (k_38 - 1) ∧ w64 (k_38 - 1) < (d_1.length:Int) then
    (d_1[(0 + (w64 (k_38 - 1)).toNat)]?).bind fun x_66 =>
    (a6x x_66 a_2).bind fun r_68 =>
    some (decide (r_68 > 0))
    else none
    else
    some false:Option Bool)).bind fun s23_62 =>
    if s23_62 then
    a3t d_1 a_2 k (w64 (k_38 - 1))
    else
    some k_38

def a8o (d_1:(List x8)) (a_2:x8):Option (List x8) :=
    (b1s d_1 a_2).bind fun r_3 =>
    if r_3 then
    some d_1
    else
    (a3t d_1 a_2 FUEL (d_1.length:Int)).bind fun k_54 =>
    if (0:Int) ≤ k_54 ∧ k_54 ≤ (d_1.length:Int) then
    if (0:Int) ≤ k_54 ∧ k_54 ≤ (d_1.length:Int) then
    if ([] ++ (d_1.take k_54.toNat)).length ≤ 2 ^ 30 then
    if (([] ++ (d_1.take k_54.toNat)) ++ [a_2]).length ≤ 2 ^ 30 then
    if ((([] ++ (d_1.take k_54.toNat)) ++ [a_2]) ++ ((d_1.drop k_54.toNat).take (d_1.length - k_54.toNat))).length ≤ 2 ^ 30 then
    some ((([] ++ (d_1.take k_54.toNat)) ++ [a_2]) ++ ((d_1.drop k_54.toNat).take (d_1.length - k_54.toNat)))
    else none
    else none
    else none
    else none
    else none
theorem c0x (d_1:(List x8)) (a_2:x8) (r:(List x8)) (hf:a8o d_1 a_2 = some r):a0j Tryz.prog true 225 [(.own 0 0 d_1.length),(l9 a_2)] [.row 3 (d_1.map l9)] (.own 1 0 r.length) [.dead,.row 3 (r.map l9)]:=by
 refine a0j.of_awp mixed Tryz.func225 d7q nle ?_;rw [a0f];unfold a8o at hf;unfold d3r;refine (show awp Tryz.prog true 1 _ (ofL [(0,(.own 0 0 d_1.length)),(1,(l9 a_2))]) [.row 3 (d_1.map l9)] _ from ?_);refine sr<|o8 (a1g (j:=1) (c:=(.agg [(.int .i64 a_2.Kind),(.int .i64 a_2.N),(.str a_2.T)])) rfl trivial rfl rfl)<|l7 .nil rfl<|dk<|o6<|sr<|?_
 obtain ⟨r_3,er4,hf⟩:=ob hf
 refine l7 (.own 0 0 d_1.length) rfl<|o7 (.agg [(.int .i64 a_2.Kind),(.int .i64 a_2.N),(.str a_2.T)]) rfl nle rfl<|o8 (a1f (c5u _ _ _ er4) rfl (.cons (.of_eq (congrArg (AV.lst _) (tko d_1))) (.cons (.refl _) .nil)) rfl)<|dk<|?_
 rcases oi hf with ⟨c5,hf⟩ | ⟨c5,hf⟩
 ·refine a0b rfl c5<|sr<|l7 (.own 0 0 d_1.length) rfl<|l7 (.own 0 0 d_1.length) rfl<|dk<|a0d<|?_;obtain rfl:=os hf;exact a3a [.mv 0] [0,2] rfl ⟨trivial,trivial⟩ rfl (.refl _) (.refl _)
 ·refine a0c rfl (bf c5)<|a0i<|a0h<|sr<|l7 (.own 0 0 d_1.length) rfl<|a1n (a6h rfl rfl) fun hl6 => l7 (.int .i64 (d_1.length:Int)) rfl<|dk<|o6<|?_
  obtain ⟨k_54,hb1,hf⟩:=ob hf
  refine a2v ([(0,(.own 0 0 d_1.length)),(3,(.ptr 1 0 0)),(5,(.int .i64 k_54))],[.row 3 (d_1.map l9),.box 3 (.agg [(.int .i64 a_2.Kind),(.int .i64 a_2.N),(.str a_2.T)])]) ?_ ?_
  ·refine a1v (X:={q:(Nat × Int) // a3t d_1 a_2 q.1 q.2 = some k_54}) (fun q => ([(0,(.own 0 0 d_1.length)),(3,(.ptr 1 0 0)),(5,(.int .i64 q.1.2))],[.row 3 (d_1.map l9),.box 3 (.agg [(.int .i64 a_2.Kind),(.int .i64 a_2.N),(.str a_2.T)])])) (fun q => q.1.1) ⟨(FUEL,(d_1.length:Int)),hb1⟩ ⟨[],[0,1],_,_,rfl,rfl,⟨.refl _,⟨.refl _,⟨.refl _,trivial⟩⟩⟩,(.refl _)⟩ ?_
   rintro ⟨⟨k,k_38⟩,hc1⟩
   have hc1:a3t d_1 a_2 k k_38 = some k_54:=hc1
   refine (show awp Tryz.prog true 1 _ (ofL [(0,(.own 0 0 d_1.length)),(3,(.ptr 1 0 0)),(5,(.int .i64 k_38))]) [.row 3 (d_1.map l9),.box 3 (.agg [(.int .i64 a_2.Kind),(.int .i64 a_2.N),(.str a_2.T)])] _ from ?_)
   rcases k with _ | k
   ·rw [a3t.eq_1] at hc1
    cases hc1
   ·rw [a3t.eq_2] at hc1;refine o6<|o6<|?_
    obtain ⟨s23_62,hb2,hc1⟩:=ob hc1
    refine a2v ([(0,(.own 0 0 d_1.length)),(3,(.ptr 1 0 0)),(5,(.int .i64 k_38)),(23,(.bool s23_62))],[.row 3 (d_1.map l9),.box 3 (.agg [(.int .i64 a_2.Kind),(.int .i64 a_2.N),(.str a_2.T)])]) ?_ ?_
    ·refine a0z ?_
     rcases oi hb2 with ⟨c64,hb2⟩ | ⟨c64,hb2⟩
     ·obtain ⟨g65,hb2⟩:=og hb2
      obtain ⟨x_66,ex67,hb2⟩:=ob hb2
      obtain ⟨r_68,er69,hb2⟩:=ob hb2
      refine l7 (.int .i64 k_38) rfl<|o7 (.bool (decide (k_38 > 0))) rfl rfl rfl<|l7 (.bool (decide (k_38 > 0))) rfl<|a1k (s:=14) (b:=true) rfl c64<|s_on rfl<|l7 (.own 0 0 d_1.length) rfl<|s_on rfl<|l7 (.int .i64 k_38) rfl<|s_on rfl<|o7 (.int .i64 (w64 (k_38 - 1))) rfl rfl rfl<|s_on rfl<|o8 (a2i rfl rfl g65.1 g65.2 rfl rfl)<|s_on rfl<|o8 (a3r (enc:=l9) (v:=(l9 x_66)) rfl rfl ex67 nle rfl)<|s_on rfl<|o7 (.agg [(.int .i64 a_2.Kind),(.int .i64 a_2.N),(.str a_2.T)]) rfl nle rfl<|d0v rfl<|a1r (a1f (b5d _ _ _ er69) rfl (.refl _) rfl) a9t trivial<|s_on rfl<|o7 (.bool (decide (r_68 > 0))) rfl rfl rfl<|?_
      refine o7 (.bool (decide (r_68 > 0))) rfl trivial rfl<|a0e<|?_;obtain rfl:=os hb2;exact ⟨[],[0,1],_,_,rfl,rfl,⟨.refl _,⟨.refl _,⟨.refl _,⟨.refl _,trivial⟩⟩⟩⟩,(.refl _)⟩
     ·refine l7 (.int .i64 k_38) rfl<|o7 (.bool (decide (k_38 > 0))) rfl rfl rfl<|l7 (.bool (decide (k_38 > 0))) rfl<|a1k (s:=14) (b:=false) rfl (bf c64)<|a0a rfl rfl<|a0a rfl rfl<|a0a rfl rfl<|a0a rfl rfl<|a0a rfl rfl<|a0a rfl rfl<|c4i rfl rfl trivial<|a0a rfl rfl<|o7 (.bool false) rfl trivial rfl<|a0e<|?_;obtain rfl:=os hb2;exact ⟨[],[0,1],_,_,rfl,rfl,⟨.refl _,⟨.refl _,⟨.refl _,⟨.refl _,trivial⟩⟩⟩⟩,(.refl _)⟩
    ·rcases oi hc1 with ⟨c70,hc1⟩ | ⟨c70,hc1⟩
     ·refine a0b rfl c70<|a0i<|a0h<|a3s<|a0z<|l7 (.int .i64 k_38) rfl<|o7 (.int .i64 (w64 (k_38 - 1))) rfl rfl rfl<|l7 (.int .i64 (w64 (k_38 - 1))) rfl<|a0e<|a3l<|?_;exact a2p ⟨(k,w64 (k_38 - 1)),hc1⟩ (Nat.lt_succ_self _) ⟨[],[0,1],_,_,rfl,rfl,⟨.refl _,⟨.refl _,⟨.refl _,trivial⟩⟩⟩,(.refl _)⟩
     ·refine a0c rfl (bf c70)<|a4b<|a4a<|a2w<|a3z<|?_;obtain rfl:=os hc1;exact ⟨[],[0,1],_,_,rfl,rfl,⟨.refl _,⟨.refl _,⟨.refl _,trivial⟩⟩⟩,(.refl _)⟩
  ·refine sr<|?_
   obtain ⟨g71,hf⟩:=og hf
   obtain ⟨g72,hf⟩:=og hf
   obtain ⟨g73,hf⟩:=og hf
   obtain ⟨g74,hf⟩:=og hf
   obtain ⟨g75,hf⟩:=og hf
   refine l7 (.own 0 0 d_1.length) rfl<|l7 (.int .i64 k_54) rfl<|o8 (c8u rfl rfl rfl g71.1 g71.2)<|o7 (.agg [(.int .i64 a_2.Kind),(.int .i64 a_2.N),(.str a_2.T)]) rfl nle rfl<|l7 (.own 0 0 d_1.length) rfl<|l7 (.int .i64 k_54) rfl<|o8 (c0s rfl rfl rfl g72.1 g72.2)<|?_;refine a1r (a1c (j:=2) (as':=[]) rfl (fun _ => by decide) trivial (.refl _) rfl rfl rfl) (.inr ⟨(b0h rfl rfl rfl g72.1 g72.2),⟨⟨nle,rfl⟩,⟨(b9b rfl rfl rfl g71.1 g71.2),trivial⟩⟩⟩) ?_ ?_
   ·refine a1r (a1c (j:=2) (as':=[(l9 a_2)]) rfl (fun _ => by decide) ⟨rfl,trivial⟩ (.refl _) rfl rfl rfl) (.inr ⟨(b0h rfl rfl rfl g72.1 g72.2),⟨(b9b rfl rfl rfl g71.1 g71.2),trivial⟩⟩) trivial ?_;refine a1r (a1c (j:=3) (as':=[]) rfl (fun _ => by decide) trivial (.refl _) rfl rfl rfl) (.inr ⟨(b0h rfl rfl rfl g72.1 g72.2),⟨⟨nle,rfl⟩,⟨(b9b rfl rfl rfl g71.1 g71.2),trivial⟩⟩⟩) trivial ?_
    refine a1r (a2a (j:=4) (L:=(([] ++ (d_1.take k_54.toNat)).map l9)) (len:=([] ++ (d_1.take k_54.toNat)).length) rfl false rfl rfl (fun _ => flw (enc:=l9) (fun _ => rfl) d_1 _ _) (fun _ _ h => (b7c (show AV.own _ _ _ = AV.lst _ _ from h)).elim) (by decide) ((by simp)) (by simp <;> omega) g73 rfl rfl) (.inr ⟨(b0h rfl rfl rfl g72.1 g72.2),⟨⟨nle,rfl⟩,trivial⟩⟩) trivial ?_
    refine a1r (a2a (j:=5) (L:=((([] ++ (d_1.take k_54.toNat)) ++ [a_2]).map l9)) (len:=(([] ++ (d_1.take k_54.toNat)) ++ [a_2]).length) rfl false rfl rfl (fun _ => flo (enc:=l9) (fun _ => rfl) [a_2] _) (fun _ _ h => (b7c (show AV.own _ _ _ = AV.lst _ _ from h)).elim) (by decide) (c5s (enc:=l9) ([] ++ (d_1.take k_54.toNat)) [a_2] _ (by rfl)) (by simp <;> omega) g74 rfl rfl) (.inr ⟨(b0h rfl rfl rfl g72.1 g72.2),trivial⟩) trivial ?_
    refine a1r (a2a (j:=6) (L:=(((([] ++ (d_1.take k_54.toNat)) ++ [a_2]) ++ ((d_1.drop k_54.toNat).take (d_1.length - k_54.toNat))).map l9)) (len:=((([] ++ (d_1.take k_54.toNat)) ++ [a_2]) ++ ((d_1.drop k_54.toNat).take (d_1.length - k_54.toNat))).length) rfl false rfl rfl (fun _ => flw (enc:=l9) (fun _ => rfl) d_1 _ _) (fun _ _ h => (b7c (show AV.own _ _ _ = AV.lst _ _ from h)).elim) (by decide) ((apg (enc:=l9) (([] ++ (d_1.take k_54.toNat)) ++ [a_2]) ((d_1.drop k_54.toNat).take (d_1.length - k_54.toNat)) (tkw _ _ _))) (by simp <;> omega) g75 rfl rfl) trivial trivial ?_
    refine l7 (.own 6 0 (((([] ++ (d_1.take k_54.toNat)) ++ [a_2]) ++ ((d_1.drop k_54.toNat).take (d_1.length - k_54.toNat))).length)) rfl<|dk<|a0d<|?_;obtain rfl:=os hf;exact a3a [.kill 0] [0,6] rfl ⟨trivial,trivial⟩ rfl (.refl _) (.refl _)
   ·refine a1r (a2a (j:=3) (L:=(([] ++ (d_1.take k_54.toNat)).map l9)) (len:=([] ++ (d_1.take k_54.toNat)).length) rfl false rfl rfl (fun _ => flw (enc:=l9) (fun _ => rfl) d_1 _ _) (fun _ _ h => (b7c (show AV.own _ _ _ = AV.lst _ _ from h)).elim) (by decide) ((by simp)) (by simp <;> omega) g73 rfl rfl) (.inr ⟨(b0h rfl rfl rfl g72.1 g72.2),⟨⟨nle,rfl⟩,trivial⟩⟩) ?_ ?_
    ·refine a1r (a1c (j:=3) (as':=[(l9 a_2)]) rfl (fun _ => by decide) ⟨rfl,trivial⟩ (.refl _) rfl rfl rfl) (.inr ⟨(b0h rfl rfl rfl g72.1 g72.2),⟨(b9b rfl rfl rfl g71.1 g71.2),trivial⟩⟩) trivial ?_
     refine a1r (a2a (j:=4) (L:=(([] ++ (d_1.take k_54.toNat)).map l9)) (len:=([] ++ (d_1.take k_54.toNat)).length) rfl false rfl rfl (fun _ => flw (enc:=l9) (fun _ => rfl) d_1 _ _) (fun _ _ h => (b7c (show AV.own _ _ _ = AV.lst _ _ from h)).elim) (by decide) ((by simp)) (by simp <;> omega) g73 rfl rfl) (.inr ⟨(b0h rfl rfl rfl g72.1 g72.2),⟨⟨nle,rfl⟩,trivial⟩⟩) trivial ?_
     refine a1r (a2a (j:=5) (L:=((([] ++ (d_1.take k_54.toNat)) ++ [a_2]).map l9)) (len:=(([] ++ (d_1.take k_54.toNat)) ++ [a_2]).length) rfl false rfl rfl (fun _ => flo (enc:=l9) (fun _ => rfl) [a_2] _) (fun _ _ h => (b7c (show AV.own _ _ _ = AV.lst _ _ from h)).elim) (by decide) (c5s (enc:=l9) ([] ++ (d_1.take k_54.toNat)) [a_2] _ (by rfl)) (by simp <;> omega) g74 rfl rfl) (.inr ⟨(b0h rfl rfl rfl g72.1 g72.2),trivial⟩) trivial ?_
     refine a1r (a2a (j:=6) (L:=(((([] ++ (d_1.take k_54.toNat)) ++ [a_2]) ++ ((d_1.drop k_54.toNat).take (d_1.length - k_54.toNat))).map l9)) (len:=((([] ++ (d_1.take k_54.toNat)) ++ [a_2]) ++ ((d_1.drop k_54.toNat).take (d_1.length - k_54.toNat))).length) rfl false rfl rfl (fun _ => flw (enc:=l9) (fun _ => rfl) d_1 _ _) (fun _ _ h => (b7c (show AV.own _ _ _ = AV.lst _ _ from h)).elim) (by decide) ((apg (enc:=l9) (([] ++ (d_1.take k_54.toNat)) ++ [a_2]) ((d_1.drop k_54.toNat).take (d_1.length - k_54.toNat)) (tkw _ _ _))) (by simp <;> omega) g75 rfl rfl) trivial trivial ?_
     refine l7 (.own 6 0 (((([] ++ (d_1.take k_54.toNat)) ++ [a_2]) ++ ((d_1.drop k_54.toNat).take (d_1.length - k_54.toNat))).length)) rfl<|dk<|a0d<|?_;obtain rfl:=os hf;exact a3a [.kill 0] [0,6] rfl ⟨trivial,trivial⟩ rfl (.refl _) (.refl _)
    ·refine a1r (a1c (j:=4) (as':=[(l9 a_2)]) rfl (fun _ => by decide) ⟨rfl,trivial⟩ (.refl _) rfl rfl rfl) (.inr ⟨(b0h rfl rfl rfl g72.1 g72.2),⟨(b9b rfl rfl rfl g71.1 g71.2),trivial⟩⟩) trivial ?_
     refine a1r (a2a (j:=5) (L:=((([] ++ (d_1.take k_54.toNat)) ++ [a_2]).map l9)) (len:=(([] ++ (d_1.take k_54.toNat)) ++ [a_2]).length) rfl false rfl rfl (fun _ => flo (enc:=l9) (fun _ => rfl) [a_2] _) (fun _ _ h => (b7c (show AV.own _ _ _ = AV.lst _ _ from h)).elim) (by decide) (c5s (enc:=l9) ([] ++ (d_1.take k_54.toNat)) [a_2] _ (by rfl)) (by simp <;> omega) g74 rfl rfl) (.inr ⟨(b0h rfl rfl rfl g72.1 g72.2),trivial⟩) trivial ?_
     refine a1r (a2a (j:=6) (L:=(((([] ++ (d_1.take k_54.toNat)) ++ [a_2]) ++ ((d_1.drop k_54.toNat).take (d_1.length - k_54.toNat))).map l9)) (len:=((([] ++ (d_1.take k_54.toNat)) ++ [a_2]) ++ ((d_1.drop k_54.toNat).take (d_1.length - k_54.toNat))).length) rfl false rfl rfl (fun _ => flw (enc:=l9) (fun _ => rfl) d_1 _ _) (fun _ _ h => (b7c (show AV.own _ _ _ = AV.lst _ _ from h)).elim) (by decide) ((apg (enc:=l9) (([] ++ (d_1.take k_54.toNat)) ++ [a_2]) ((d_1.drop k_54.toNat).take (d_1.length - k_54.toNat)) (tkw _ _ _))) (by simp <;> omega) g75 rfl rfl) trivial trivial ?_
     refine l7 (.own 6 0 (((([] ++ (d_1.take k_54.toNat)) ++ [a_2]) ++ ((d_1.drop k_54.toNat).take (d_1.length - k_54.toNat))).length)) rfl<|dk<|a0d<|?_;obtain rfl:=os hf;exact a3a [.kill 0] [0,6] rfl ⟨trivial,trivial⟩ rfl (.refl _) (.refl _)

/- (*spec.l00Src).datum -/
def d3s:a0p :=
 (.seq (.reg (tm 4 (.c .nil) .done))
 (.seq (.reg (tq 7 (.bslice 3 []) (tm 5 (.t 7) .done)))
 (.seq (.seq (.reg (tm 8 (.t 0) (tq 9 (.call 163 [(.t 8),(.c (.int .i64 5))]) (tm 6 (.t 9) .done))))
 (.block 0 (.loop (.seq (.seq (.reg (tm 10 (.t 6) (tq 11 (.bin .gtr (.t 10) (.c (.int .i64 0))) .done)))
 (.cond (.t 11) .skip
 (.exit 0)))
 (.seq (.block 1 (.reg (tm 14 (.t 5) (tm 15 (.t 0) (tm 16 (.t 1) (tq 17 (.call 226 [(.t 15),(.t 16)]) (tq 18 (.call 225 [(.t 14),(.t 17)]) (tm 5 (.t 18) .done))))))))
 (.reg (tm 12 (.t 6) (tq 13 (.bin .sub (.t 12) (.c (.int .i64 1))) (tm 6 (.t 13) .done)))))))))
 (.cut (.seq (.reg (tm 19 (.t 5) (tm 4 (.t 19) .done)))
 .ret)))))
theorem d7r:a1b Tryz.prog Tryz.f127 = some (d3s.erase,[.mov (.t 4)],20):=by kernel_rfl
def a2x (kind_1:Int):Nat → Int → (List Int) → Int → Int → (List x8) → Option ((List Int) × Int × Int × (List x8))
  | 0,_,_,_,_,_ => none
  | k + 1,i_20,x_21,x_22,x_23,out_24 =>
    if (decide (i_20 > 0)) then
    (a4x kind_1 (⟨x_21,x_22,x_23⟩:a1h)).bind fun r_36 =>
    (a8o out_24 r_36.1).bind fun r_38 =>
    a2x kind_1 k (w64 (i_20 - 1)) r_36.2.Code r_36.2.At r_36.2.Seed r_38
    else
    some (x_21,x_22,x_23,out_24)

def a6r (kind_1:Int) (s_2:a1h):Option ((List x8) × a1h) :=
    (a1z 5 s_2).bind fun r_3 =>
    (a2x kind_1 FUEL r_3.1 r_3.2.Code r_3.2.At r_3.2.Seed []).bind fun p34 =>
    (match p34 with
    | (x_30,x_31,x_32,out_33) =>
    some (out_33,(⟨x_30,x_31,x_32⟩:a1h)))
theorem b7d (kind_1:Int) (s_2:a1h) (r:((List x8) × a1h)) (hf:a6r kind_1 s_2 = some r):a0j Tryz.prog true 127 [(.ptr 0 0 0),(.int .i64 kind_1)] [.box 3 (.agg [(.lst 1 (s_2.Code.map a0q)),(.int .i64 s_2.At),(.int .i64 s_2.Seed)])] (.own 1 0 r.1.length) [.box 3 (.agg [(.lst 1 (r.2.Code.map a0q)),(.int .i64 r.2.At),(.int .i64 r.2.Seed)]),.row 3 (r.1.map l9)]:=by
 refine a0j.of_awp mixed Tryz.func127 d7r nle ?_;rw [a0f];unfold a6r at hf;unfold d3s;refine (show awp Tryz.prog true 1 _ (ofL [(0,(.ptr 0 0 0)),(1,(.int .i64 kind_1))]) [.box 3 (.agg [(.lst 1 (s_2.Code.map a0q)),(.int .i64 s_2.At),(.int .i64 s_2.Seed)])] _ from ?_);refine sr<|l7 .nil rfl<|dk<|sr<|?_;refine o8 (a1c (j:=1) (as':=[]) rfl (fun _ => by decide) trivial (.refl _) rfl rfl rfl) ?_;refine l7 (.own 1 0 0) rfl<|dk<|o6<|sr<|?_
 obtain ⟨r_3,er4,hf⟩:=ob hf
 refine l7 (.ptr 0 0 0) rfl ?_;refine o8 (a3e (v:=(.int .i64 r_3.1)) (h2:=[.box 3 (.agg [(.lst 1 (r_3.2.Code.map a0q)),(.int .i64 r_3.2.At),(.int .i64 r_3.2.Seed)]),.row 3 ([].map l9)]) [] [0] (fun _ => rfl) (a4v _ _ _ er4) rfl (.refl _) (.refl _) rfl rfl) ?_;refine l7 (.int .i64 r_3.1) rfl<|dk<|?_
 obtain ⟨p34,hb1,hf⟩:=ob hf
 refine a2v ([(5,(.own 1 0 p34.2.2.2.length))],[.box 3 (.agg [(.lst 1 (p34.1.map a0q)),(.int .i64 p34.2.1),(.int .i64 p34.2.2.1)]),.row 3 (p34.2.2.2.map l9)]) ?_ ?_
 ·refine a1v (X:={q:(Nat × Int × (List Int) × Int × Int × (List x8)) // a2x kind_1 q.1 q.2.1 q.2.2.1 q.2.2.2.1 q.2.2.2.2.1 q.2.2.2.2.2 = some p34}) (fun q => ([(0,(.ptr 0 0 0)),(1,(.int .i64 kind_1)),(5,(.own 1 0 q.1.2.2.2.2.2.length)),(6,(.int .i64 q.1.2.1))],[.box 3 (.agg [(.lst 1 (q.1.2.2.1.map a0q)),(.int .i64 q.1.2.2.2.1),(.int .i64 q.1.2.2.2.2.1)]),.row 3 (q.1.2.2.2.2.2.map l9)])) (fun q => q.1.1) ⟨(FUEL,r_3.1,r_3.2.Code,r_3.2.At,r_3.2.Seed,[]),hb1⟩ ⟨[],[0,1],_,_,rfl,rfl,⟨.refl _,⟨.refl _,⟨.of_eq (congrArg (AV.own _ 0) (by simp)),⟨.refl _,trivial⟩⟩⟩⟩,(.refl _)⟩ ?_
  rintro ⟨⟨k,i_20,x_21,x_22,x_23,out_24⟩,hc1⟩
  have hc1:a2x kind_1 k i_20 x_21 x_22 x_23 out_24 = some p34:=hc1
  refine (show awp Tryz.prog true 1 _ (ofL [(0,(.ptr 0 0 0)),(1,(.int .i64 kind_1)),(5,(.own 1 0 out_24.length)),(6,(.int .i64 i_20))]) [.box 3 (.agg [(.lst 1 (x_21.map a0q)),(.int .i64 x_22),(.int .i64 x_23)]),.row 3 (out_24.map l9)] _ from ?_)
  rcases k with _ | k
  ·rw [a2x.eq_1] at hc1
   cases hc1
  ·rw [a2x.eq_2] at hc1;refine o6<|sr<|l7 (.int .i64 i_20) rfl<|o7 (.bool (decide (i_20 > 0))) rfl rfl rfl<|dk<|?_
   rcases oi hc1 with ⟨c35,hc1⟩ | ⟨c35,hc1⟩
   ·refine a0b rfl c35<|a0i<|a0h<|o6<|a3s<|a0z<|?_
    obtain ⟨r_36,er37,hc1⟩:=ob hc1
    obtain ⟨r_38,er39,hc1⟩:=ob hc1
    refine l7 (.own 1 0 out_24.length) rfl<|l7 (.ptr 0 0 0) rfl<|l7 (.int .i64 kind_1) rfl<|?_;refine o8 (a3e (v:=(l9 r_36.1)) (h2:=[.box 3 (.agg [(.lst 1 (r_36.2.Code.map a0q)),(.int .i64 r_36.2.At),(.int .i64 r_36.2.Seed)]),.row 3 (out_24.map l9)]) [] [0] (fun _ => rfl) (b2z _ _ _ er37) rfl (.refl _) (.refl _) rfl rfl) ?_;refine o8 (a3e (v:=(.own 2 0 r_38.length)) (h2:=[.box 3 (.agg [(.lst 1 (r_36.2.Code.map a0q)),(.int .i64 r_36.2.At),(.int .i64 r_36.2.Seed)]),.dead,.row 3 (r_38.map l9)]) [] [1] (fun _ => rfl) (c0x _ _ _ er39) rfl (.refl _) (.refl _) rfl rfl) ?_;refine l7 (.own 2 0 r_38.length) rfl<|a0e<|a3l<|a0h<|?_
    refine a0z<|l7 (.int .i64 i_20) rfl<|o7 (.int .i64 (w64 (i_20 - 1))) rfl rfl rfl<|l7 (.int .i64 (w64 (i_20 - 1))) rfl<|a0e<|?_;exact a2p ⟨(k,w64 (i_20 - 1),r_36.2.Code,r_36.2.At,r_36.2.Seed,r_38),hc1⟩ (Nat.lt_succ_self _) ⟨[],[0,2],_,_,rfl,rfl,⟨.refl _,⟨.refl _,⟨.refl _,⟨.refl _,trivial⟩⟩⟩⟩,(.refl _)⟩
   ·refine a0c rfl (bf c35)<|a4b<|a4a<|a2w<|a3z<|?_;obtain rfl:=os hc1;exact ⟨[],[0,1],_,_,rfl,rfl,⟨.refl _,trivial⟩,(.refl _)⟩
 ·obtain ⟨x_30,x_31,x_32,out_33⟩:=p34
  refine sr<|l7 (.own 1 0 out_33.length) rfl<|l7 (.own 1 0 out_33.length) rfl<|dk<|a0d<|?_;obtain rfl:=os hf;exact a3a [] [0,1] rfl ⟨trivial,trivial⟩ rfl (.refl _) (.refl _)

/- spec.DatumDrawn -/
def c47:a0p :=
 (.seq (.reg (tm 4 (.c .nil) .done))
 (.seq (.reg (tm 5 (.t 0) (tq 6 (.call 72 [(.t 5)]) (tm 7 (.t 1) (tq 8 (.call 127 [(.t 6),(.t 7)]) (tm 4 (.t 8) .done))))))
 .ret))
theorem e6k:a1b Tryz.prog Tryz.f47 = some (c47.erase,[.mov (.t 4)],9):=by kernel_rfl
def a7x (code_1:(List Int)) (kind_2:Int):Option (List x8) :=
    (a4l code_1).bind fun r_3 =>
    (a6r kind_2 r_3).bind fun r_5 =>
    some r_5.1
theorem b9i (code_1:(List Int)) (kind_2:Int) (r:(List x8)) (hf:a7x code_1 kind_2 = some r):y9 Tryz.prog 47 .fresh [(.lst 1 (code_1.map a0q)),(.int .i64 kind_2)] (.lst 3 (r.map l9)):=by
 refine y9.of_awp mixed Tryz.func47 e6k nle ?_;rw [a0f];unfold a7x at hf;unfold c47;refine (show awp Tryz.prog true 0 _ (ofL [(0,(.lst 1 (code_1.map a0q))),(1,(.int .i64 kind_2))]) [] _ from ?_);refine sr<|l7 .nil rfl<|dk<|sr<|?_
 obtain ⟨r_3,er4,hf⟩:=ob hf
 obtain ⟨r_5,er6,hf⟩:=ob hf
 refine l7 (.lst 1 (code_1.map a0q)) rfl ?_;refine o8 (a3e (v:=(.ptr 0 0 0)) (h2:=[.box 3 (.agg [(.lst 1 (r_3.Code.map a0q)),(.int .i64 r_3.At),(.int .i64 r_3.Seed)])]) [] [] (fun _ => rfl) (b4c _ _ er4) rfl (.refl _) (.refl _) rfl rfl) ?_;refine l7 (.int .i64 kind_2) rfl ?_;refine o8 (a3e (v:=(.own 1 0 r_5.1.length)) (h2:=[.box 3 (.agg [(.lst 1 (r_5.2.Code.map a0q)),(.int .i64 r_5.2.At),(.int .i64 r_5.2.Seed)]),.row 3 (r_5.1.map l9)]) [] [0] (fun _ => rfl) (b7d _ _ _ er6) rfl (.refl _) (.refl _) rfl rfl) ?_;refine l7 (.own 1 0 r_5.1.length) rfl<|dk<|a0d<|?_;obtain rfl:=os hf;exact a1j ⟨trivial,trivial⟩ rfl (by decide) (.of_eq (congrArg (AV.lst _) (tk (enc:=l9) r_5.1)))

/- impl.isList[impl.Atom] -/
def e2g:a0p :=
 (.seq (.reg (tm 2 (.c (.bool false)) .done))
 (.seq (.reg (tm 3 (.t 0) (tq 4 (.len (.t 3)) (tq 5 (.bin .leq (.t 4) (.c (.int .i64 4096))) (tm 2 (.t 5) .done)))))
 .ret))
theorem e2h:a1b Tryz.prog Tryz.f128 = some (e2g.erase,[.mov (.t 2)],6):=by kernel_rfl
def a6i (list_1:(List x8)):Option Bool :=
    some (decide ((list_1.length:Int) ≤ 4096))
theorem b4d (list_1:(List x8)) (r:Bool) (hf:a6i list_1 = some r):y9 Tryz.prog 128 .flat [(.lst 3 (list_1.map l9))] (.bool r):=by
  refine y9.of_awp mixed Tryz.func128 e2h nle ?_
  rw [a0f]
  unfold a6i at hf
  unfold e2g
  refine (show awp Tryz.prog false 0 _ (ofL [(0,(.lst 3 (list_1.map l9)))]) [] _ from ?_)
  refine o6 ?_
  refine a0z ?_
  refine o8 (a2z (.bool false) rfl) ?_
  refine a0e ?_
  refine a0h ?_
  refine o6 ?_
  refine a0z ?_
  refine o8 (a2z (.lst 3 (list_1.map l9)) rfl) ?_
  refine a1n (a3d (enc:=l9) rfl) fun hl2 => ?_
  refine o8 (o_q (.bool (decide ((list_1.length:Int) ≤ 4096))) rfl rfl rfl) ?_
  refine o8 (a2z (.bool (decide ((list_1.length:Int) ≤ 4096))) rfl) ?_
  refine a0e ?_
  refine a0h ?_
  refine a0d ?_
  obtain rfl:=os hf
  exact a0m ⟨trivial,trivial⟩ rfl (.refl _)

/- impl.within -/
def c81:a0p :=
 (.seq (.reg (tm 6 (.c (.bool false)) .done))
 (.seq (.reg (tm 7 (.t 0) (tm 8 (.t 1) (tq 9 (.bin .geq (.t 7) (.t 8)) (tm 10 (.t 9) (tg 11 10 true (.mov (.t 0)) (tg 12 10 true (.mov (.t 2)) (tg 13 10 true (.bin .leq (.t 11) (.t 12)) (tq 14 (.pick (.t 10) (.t 13) (.c (.bool false))) (tm 6 (.t 14) .done))))))))))
 .ret))
theorem e6l:a1b Tryz.prog Tryz.f81 = some (c81.erase,[.mov (.t 6)],15):=by kernel_rfl
def a6s (n_1:Int) (low_2:Int) (high_3:Int):Option Bool :=
    if (decide (n_1 ≥ low_2)) then
    some (decide (n_1 ≤ high_3))
    else
    some false
theorem a8c (n_1:Int) (low_2:Int) (high_3:Int) (r:Bool) (hf:a6s n_1 low_2 high_3 = some r):y9 Tryz.prog 81 .flat [(.int .i64 n_1),(.int .i64 low_2),(.int .i64 high_3)] (.bool r):=by
 refine y9.of_awp mixed Tryz.func81 e6l nle ?_;rw [a0f];unfold a6s at hf;unfold c81;refine (show awp Tryz.prog false 0 _ (ofL [(0,(.int .i64 n_1)),(1,(.int .i64 low_2)),(2,(.int .i64 high_3))]) [] _ from ?_);refine sr<|l7 (.bool false) rfl<|dk<|sr<|?_
 rcases oi hf with ⟨c4,hf⟩ | ⟨c4,hf⟩
 ·refine l7 (.int .i64 n_1) rfl<|l7 (.int .i64 low_2) rfl<|o7 (.bool (decide (n_1 ≥ low_2))) rfl rfl rfl<|l7 (.bool (decide (n_1 ≥ low_2))) rfl<|a1k (s:=10) (b:=true) rfl c4<|s_on rfl<|l7 (.int .i64 n_1) rfl<|s_on rfl<|l7 (.int .i64 high_3) rfl<|s_on rfl<|o7 (.bool (decide (n_1 ≤ high_3))) rfl rfl rfl<|o7 (.bool (decide (n_1 ≤ high_3))) rfl trivial rfl<|l7 (.bool (decide (n_1 ≤ high_3))) rfl<|dk<|a0d<|?_;obtain rfl:=os hf;exact a0m ⟨trivial,trivial⟩ rfl (.refl _)
 ·refine l7 (.int .i64 n_1) rfl<|l7 (.int .i64 low_2) rfl<|o7 (.bool (decide (n_1 ≥ low_2))) rfl rfl rfl<|l7 (.bool (decide (n_1 ≥ low_2))) rfl<|a1k (s:=10) (b:=false) rfl (bf c4)<|a0a rfl rfl<|a0a rfl rfl<|a0a rfl rfl<|o7 (.bool false) rfl trivial rfl<|l7 (.bool false) rfl<|dk<|a0d<|?_;obtain rfl:=os hf;exact a0m ⟨trivial,trivial⟩ rfl (.refl _)

/- impl.isNumber -/
def c233:a0p :=
 (.seq (.reg (tm 2 (.c (.bool false)) .done))
 (.seq (.reg (tm 3 (.t 0) (tq 4 (.call 81 [(.t 3),(.c (.int .i64 (-1000000000))),(.c (.int .i64 1000000000))]) (tm 2 (.t 4) .done))))
 .ret))
theorem e2i:a1b Tryz.prog Tryz.f233 = some (c233.erase,[.mov (.t 2)],5):=by kernel_rfl
def a8d (n_1:Int):Option Bool :=
    (a6s n_1 (-1000000000) 1000000000).bind fun r_2 =>
    some r_2
theorem b2b (n_1:Int) (r:Bool) (hf:a8d n_1 = some r):y9 Tryz.prog 233 .flat [(.int .i64 n_1)] (.bool r):=by
  refine y9.of_awp mixed Tryz.func233 e2i nle ?_
  rw [a0f]
  unfold a8d at hf
  unfold c233
  refine (show awp Tryz.prog false 0 _ (ofL [(0,(.int .i64 n_1))]) [] _ from ?_)
  refine o6 ?_
  refine a0z ?_
  refine o8 (a2z (.bool false) rfl) ?_
  refine a0e ?_
  refine a0h ?_
  refine o6 ?_
  refine a0z ?_
  obtain ⟨r_2,er3,hf⟩:=ob hf
  refine o8 (a2z (.int .i64 n_1) rfl) ?_
  refine o8 (a1f (a8c _ _ _ _ er3) rfl (.refl _) rfl) ?_
  refine o8 (a2z (.bool r_2) rfl) ?_
  refine a0e ?_
  refine a0h ?_
  refine a0d ?_
  obtain rfl:=os hf
  exact a0m ⟨trivial,trivial⟩ rfl (.refl _)

/- impl.isPlain -/
def c234:a0p :=
 (.seq (.reg (tm 2 (.c (.bool false)) .done))
 (.seq (.seq (.reg (tm 4 (.t 0) (tq 5 (.lenS (.t 4)) (tm 6 (.c (.int .i64 0)) .done))))
 (.block 0 (.loop (.seq (.reg (tq 7 (.bin .lss (.t 6) (.t 5)) .done))
 (.seq (.cond (.t 7) .skip
 (.exit 0))
 (.seq (.block 1 (.seq (.reg (tm 8 (.t 6) (tm 3 (.t 8) .done)))
 (.seq (.reg (tm 9 (.t 0) (tm 10 (.t 3) (tq 11 (.idxs (.t 9) (.t 10)) (tq 12 (.bin .lss (.t 11) (.c (.int .u8 32))) (tm 13 (.t 12) (tg 14 13 false (.mov (.t 0)) (tg 15 13 false (.mov (.t 3)) (tg 16 13 false (.idxs (.t 14) (.t 15)) (tg 17 13 false (.bin .gtr (.t 16) (.c (.int .u8 126))) (tq 18 (.pick (.t 13) (.c (.bool true)) (.t 17)) .done)))))))))))
 (.cut (.cond (.t 18) (.seq (.reg (tm 2 (.c (.bool false)) .done))
 .ret)
 .skip)))))
 (.reg (tq 19 (.bin .add (.t 6) (.c (.int .i64 1))) (tm 6 (.t 19) .done)))))))))
 (.cut (.seq (.reg (tm 20 (.t 0) (tq 21 (.lenS (.t 20)) (tq 22 (.bin .leq (.t 21) (.c (.int .i64 200))) (tm 2 (.t 22) .done)))))
 .ret))))
theorem e2j:a1b Tryz.prog Tryz.f234 = some (c234.erase,[.mov (.t 2)],23):=by kernel_rfl
def a4n :List UInt8 → Option (Fl Bool Unit)
  | [] =>
    some (.go ())
  | x_54 :: xs =>
    ((if (decide ((x_54.toNat:Int) < 32)) then
    some true
    else
    some (decide ((x_54.toNat:Int) > 126)):Option Bool)).bind fun s18_56 =>
    if s18_56 then
    some (.ret false)
    else
    a4n xs 

def a7s (t_1:Str):Option Bool :=
    (a4n t_1 ).bind fun q => (match q with
    | .ret r => some r
    | .go _ =>
    some (decide ((t_1.length:Int) ≤ 200)))
theorem b3a (t_1:Str) (r:Bool) (hf:a7s t_1 = some r):y9 Tryz.prog 234 .flat [(.str t_1)] (.bool r):=by
 refine y9.of_awp mixed Tryz.func234 e2j nle ?_;rw [a0f];unfold a7s at hf;unfold c234;refine (show awp Tryz.prog false 0 _ (ofL [(0,(.str t_1))]) [] _ from ?_);refine sr<|l7 (.bool false) rfl<|dk<|o6<|sr<|l7 (.str t_1) rfl<|a1n (b6a rfl) fun hl2 => l7 (.int .i64 0) rfl<|dk<|?_
 obtain ⟨p47,hb1,hf⟩:=ob hf
 refine a4k (X:={q:Unit // p47 = .go q}) (fun q => ([(0,(.str t_1))],[])) ?_ ?_
 ·refine a1v (X:={q:Nat // a4n (t_1.drop q)  = some p47}) (fun q => ([(0,(.str t_1)),(5,(.int .i64 (t_1.length:Int))),(6,(.int .i64 (q.1:Int)))],[])) (fun q => t_1.length - q.1) ⟨0,hb1⟩ ⟨[],[],_,_,rfl,rfl,⟨.refl _,⟨.refl _,⟨.refl _,trivial⟩⟩⟩,(.refl _)⟩ ?_
  rintro ⟨s6_32,hc1⟩
  have hc1:a4n (t_1.drop s6_32)  = some p47:=hc1
  refine (show awp Tryz.prog false 0 _ (ofL [(0,(.str t_1)),(5,(.int .i64 (t_1.length:Int))),(6,(.int .i64 (s6_32:Int)))]) [] _ from ?_)
  rcases a7j t_1 s6_32 with ⟨hie50,hd53⟩ | ⟨hlt48,x_54,hx49,hd53⟩
  ·rw [hd53,a4n.eq_1] at hc1
   have hq52:=dlf hie50
   refine sr<|o7 (.bool (decide ((s6_32:Int) < (t_1.length:Int)))) rfl rfl rfl<|dk<|o6<|a0c rfl hq52<|a4b<|a4a<|a2w<|a3z<|?_;obtain rfl:=os hc1;exact a5z ⟨_,rfl⟩ ⟨[],[],_,_,rfl,rfl,⟨.refl _,trivial⟩,(.refl _)⟩
  ·rw [hd53,a4n.eq_2] at hc1
   have hq52:=dlt hlt48
   refine sr<|o7 (.bool (decide ((s6_32:Int) < (t_1.length:Int)))) rfl rfl rfl<|dk<|o6<|a0b rfl hq52<|a0i<|a0h<|o6<|a3s<|sr<|l7 (.int .i64 (s6_32:Int)) rfl<|l7 (.int .i64 (s6_32:Int)) rfl<|dk<|o6<|?_
   obtain ⟨s18_56,hb2,hc1⟩:=ob hc1
   refine a2v ([(0,(.str t_1)),(5,(.int .i64 (t_1.length:Int))),(6,(.int .i64 (s6_32:Int))),(18,(.bool s18_56))],[]) ?_ ?_
   ·refine a0z ?_
    rcases oi hb2 with ⟨c58,hb2⟩ | ⟨c58,hb2⟩
    ·refine l7 (.str t_1) rfl<|l7 (.int .i64 (s6_32:Int)) rfl<|o8 (b4s rfl rfl hx49)<|o7 (.bool (decide ((x_54.toNat:Int) < 32))) rfl rfl rfl<|l7 (.bool (decide ((x_54.toNat:Int) < 32))) rfl<|a1k (s:=13) (b:=true) rfl c58<|a0a rfl rfl<|a0a rfl rfl<|a0a rfl rfl<|a0a rfl rfl<|o7 (.bool true) rfl trivial rfl<|a0e<|?_;obtain rfl:=os hb2;exact ⟨[],[],_,_,rfl,rfl,⟨.refl _,⟨.refl _,⟨.refl _,⟨.refl _,trivial⟩⟩⟩⟩,(.refl _)⟩
    ·refine l7 (.str t_1) rfl<|l7 (.int .i64 (s6_32:Int)) rfl<|o8 (b4s rfl rfl hx49)<|o7 (.bool (decide ((x_54.toNat:Int) < 32))) rfl rfl rfl<|l7 (.bool (decide ((x_54.toNat:Int) < 32))) rfl<|a1k (s:=13) (b:=false) rfl (bf c58)<|s_on rfl<|l7 (.str t_1) rfl<|s_on rfl<|l7 (.int .i64 (s6_32:Int)) rfl<|s_on rfl<|o8 (b4s rfl rfl hx49)<|s_on rfl<|o7 (.bool (decide ((x_54.toNat:Int) > 126))) rfl rfl rfl<|o7 (.bool (decide ((x_54.toNat:Int) > 126))) rfl trivial rfl<|a0e<|?_;obtain rfl:=os hb2;exact ⟨[],[],_,_,rfl,rfl,⟨.refl _,⟨.refl _,⟨.refl _,⟨.refl _,trivial⟩⟩⟩⟩,(.refl _)⟩
   ·rcases oi hc1 with ⟨c59,hc1⟩ | ⟨c59,hc1⟩
    ·refine a0b rfl c59<|sr<|l7 (.bool false) rfl<|dk<|a0d<|?_;obtain rfl:=os hc1;obtain rfl:=os hf;exact a0m ⟨trivial,trivial⟩ rfl (.refl _)
    ·refine a0c rfl (bf c59)<|a0i<|a3l<|a0h<|a0z<|o7 (.int .i64 (w64 ((s6_32:Int) + 1))) rfl rfl rfl<|l7 (.int .i64 (w64 ((s6_32:Int) + 1))) rfl<|a0e<|?_;exact a2p ⟨(s6_32 + 1),hc1⟩ (mul hlt48) ⟨[],[],_,_,rfl,rfl,⟨.refl _,⟨.refl _,⟨.of_eq (congrArg (AV.int _) (a3h hlt48 hl2)),trivial⟩⟩⟩,(.refl _)⟩
 ·rintro ⟨_,rfl⟩
  refine sr<|l7 (.str t_1) rfl<|a1n (b6a rfl) fun hl60 => o7 (.bool (decide ((t_1.length:Int) ≤ 200))) rfl rfl rfl<|l7 (.bool (decide ((t_1.length:Int) ≤ 200))) rfl<|dk<|a0d<|?_;obtain rfl:=os hf;exact a0m ⟨trivial,trivial⟩ rfl (.refl _)

/- impl.isId -/
def c89:a0p :=
 (.seq (.reg (tm 2 (.c (.bool false)) .done))
 (.seq (.reg (tm 3 (.t 0) (tq 4 (.call 81 [(.t 3),(.c (.int .i64 1)),(.c (.int .i64 1000000))]) (tm 2 (.t 4) .done))))
 .ret))
theorem e6m:a1b Tryz.prog Tryz.f89 = some (c89.erase,[.mov (.t 2)],5):=by kernel_rfl
def b6x (n_1:Int):Option Bool :=
    (a6s n_1 1 1000000).bind fun r_2 =>
    some r_2
theorem c1z (n_1:Int) (r:Bool) (hf:b6x n_1 = some r):y9 Tryz.prog 89 .flat [(.int .i64 n_1)] (.bool r):=by
  refine y9.of_awp mixed Tryz.func89 e6m nle ?_
  rw [a0f]
  unfold b6x at hf
  unfold c89
  refine (show awp Tryz.prog false 0 _ (ofL [(0,(.int .i64 n_1))]) [] _ from ?_)
  refine o6 ?_
  refine a0z ?_
  refine o8 (a2z (.bool false) rfl) ?_
  refine a0e ?_
  refine a0h ?_
  refine o6 ?_
  refine a0z ?_
  obtain ⟨r_2,er3,hf⟩:=ob hf
  refine o8 (a2z (.int .i64 n_1) rfl) ?_
  refine o8 (a1f (a8c _ _ _ _ er3) rfl (.refl _) rfl) ?_
  refine o8 (a2z (.bool r_2) rfl) ?_
  refine a0e ?_
  refine a0h ?_
  refine a0d ?_
  obtain rfl:=os hf
  exact a0m ⟨trivial,trivial⟩ rfl (.refl _)

/- impl.AtomOK -/
def d5k:a0p :=
 (.seq (.reg (tq 1 (.box 3 (.t 0)) (tm 2 (.c (.bool false)) .done)))
 (.seq (.seq (.reg (tq 3 (.faddr 0 (.t 1)) (tq 4 (.load 1 false (.t 3)) .done)))
 (.block 0 (.seq (.reg (tq 6 (.bin .eql (.t 4) (.c (.int .i64 1))) (tm 5 (.t 6) .done)))
 (.cond (.t 5) (.seq (.reg (tq 7 (.faddr 1 (.t 1)) (tq 8 (.load 1 false (.t 7)) (tq 9 (.call 233 [(.t 8)]) (tm 10 (.t 9) (tg 11 10 true (.faddr 2 (.t 1)) (tg 12 10 true (.load 1 false (.t 11)) (tg 13 10 true (.bin .eql (.t 12) (.c (.str []))) (tq 14 (.pick (.t 10) (.t 13) (.c (.bool false))) (tm 2 (.t 14) .done))))))))))
 .ret)
 (.seq (.reg (tq 16 (.bin .eql (.t 4) (.c (.int .i64 2))) (tm 15 (.t 16) .done)))
 (.cond (.t 15) (.seq (.reg (tq 17 (.faddr 1 (.t 1)) (tq 18 (.load 1 false (.t 17)) (tq 19 (.bin .eql (.t 18) (.c (.int .i64 0))) (tm 20 (.t 19) (tg 21 20 true (.faddr 2 (.t 1)) (tg 22 20 true (.load 1 false (.t 21)) (tg 23 20 true (.call 234 [(.t 22)]) (tq 24 (.pick (.t 20) (.t 23) (.c (.bool false))) (tm 2 (.t 24) .done))))))))))
 .ret)
 (.seq (.reg (tq 26 (.bin .eql (.t 4) (.c (.int .i64 3))) (tm 25 (.t 26) .done)))
 (.cond (.t 25) (.seq (.reg (tq 27 (.faddr 1 (.t 1)) (tq 28 (.load 1 false (.t 27)) (tq 29 (.call 81 [(.t 28),(.c (.int .i64 0)),(.c (.int .i64 1))]) (tm 30 (.t 29) (tg 31 30 true (.faddr 2 (.t 1)) (tg 32 30 true (.load 1 false (.t 31)) (tg 33 30 true (.bin .eql (.t 32) (.c (.str []))) (tq 34 (.pick (.t 30) (.t 33) (.c (.bool false))) (tm 2 (.t 34) .done))))))))))
 .ret)
 (.seq (.reg (tq 36 (.bin .eql (.t 4) (.c (.int .i64 4))) (tm 35 (.t 36) .done)))
 (.cond (.t 35) (.seq (.reg (tq 37 (.faddr 1 (.t 1)) (tq 38 (.load 1 false (.t 37)) (tq 39 (.call 89 [(.t 38)]) (tm 40 (.t 39) (tg 41 40 true (.faddr 2 (.t 1)) (tg 42 40 true (.load 1 false (.t 41)) (tg 43 40 true (.bin .eql (.t 42) (.c (.str []))) (tq 44 (.pick (.t 40) (.t 43) (.c (.bool false))) (tm 2 (.t 44) .done))))))))))
 .ret)
 .skip))))))))))
 (.seq (.reg (tm 2 (.c (.bool false)) .done))
 .ret)))
theorem e2k:a1b Tryz.prog Tryz.f135 = some (d5k.erase,[.mov (.t 2)],45):=by kernel_rfl
def a6t (a_1:x8):Option Bool :=
    if (a_1.Kind == 1) then
    (a8d a_1.N).bind fun r_3 =>
    if r_3 then
    some (a_1.T == [])
    else
    some false
    else
    if (a_1.Kind == 2) then
    if (a_1.N == 0) then
    (a7s a_1.T).bind fun r_8 =>
    some r_8
    else
    some false
    else
    if (a_1.Kind == 3) then
    (a6s a_1.N 0 1).bind fun r_11 =>
    if r_11 then
    some (a_1.T == [])
    else
    some false
    else
    if (a_1.Kind == 4) then
    (b6x a_1.N).bind fun r_15 =>
    if r_15 then
    some (a_1.T == [])
    else
    some false
    else
    some false
theorem b1k (a_1:x8) (r:Bool) (hf:a6t a_1 = some r):y9 Tryz.prog 135 .flat [(l9 a_1)] (.bool r):=by
 refine y9.of_awp mixed Tryz.func135 e2k nle ?_;rw [a0f];unfold a6t at hf;unfold d5k;refine (show awp Tryz.prog false 0 _ (ofL [(0,(l9 a_1))]) [] _ from ?_);refine sr<|o8 (a1g (j:=0) (c:=(.agg [(.int .i64 a_1.Kind),(.int .i64 a_1.N),(.str a_1.T)])) rfl trivial rfl rfl)<|l7 (.bool false) rfl<|dk<|o6<|sr<|o7 (.ptr 0 0 0) rfl trivial rfl<|o7 (.int .i64 a_1.Kind) rfl nle rfl<|dk<|a3s<|sr<|o7 (.bool (a_1.Kind == 1)) rfl rfl rfl<|l7 (.bool (a_1.Kind == 1)) rfl<|dk<|?_
 rcases oi hf with ⟨c2,hf⟩ | ⟨c2,hf⟩
 ·refine a0b rfl c2<|sr<|?_
  obtain ⟨r_3,er4,hf⟩:=ob hf
  rcases oi hf with ⟨c5,hf⟩ | ⟨c5,hf⟩
  ·refine o7 (.ptr 0 0 1) rfl trivial rfl<|o7 (.int .i64 a_1.N) rfl nle rfl<|o8 (a1f (b2b _ _ er4) rfl (.refl _) rfl)<|l7 (.bool r_3) rfl<|a1k (s:=10) (b:=true) rfl c5<|s_on rfl<|o7 (.ptr 0 0 2) rfl trivial rfl<|s_on rfl<|o7 (.str a_1.T) rfl nle rfl<|s_on rfl<|o7 (.bool (a_1.T == [])) rfl trivial rfl<|o7 (.bool (a_1.T == [])) rfl trivial rfl<|l7 (.bool (a_1.T == [])) rfl<|dk<|a0d<|?_;obtain rfl:=os hf;exact a0m ⟨trivial,trivial⟩ rfl (.refl _)
  ·refine o7 (.ptr 0 0 1) rfl trivial rfl<|o7 (.int .i64 a_1.N) rfl nle rfl<|o8 (a1f (b2b _ _ er4) rfl (.refl _) rfl)<|l7 (.bool r_3) rfl<|a1k (s:=10) (b:=false) rfl (bf c5)<|a0a rfl rfl<|a0a rfl rfl<|a0a rfl rfl<|o7 (.bool false) rfl trivial rfl<|l7 (.bool false) rfl<|dk<|a0d<|?_;obtain rfl:=os hf;exact a0m ⟨trivial,trivial⟩ rfl (.refl _)
 ·refine a0c rfl (bf c2)<|sr<|o7 (.bool (a_1.Kind == 2)) rfl rfl rfl<|l7 (.bool (a_1.Kind == 2)) rfl<|dk<|?_
  rcases oi hf with ⟨c6,hf⟩ | ⟨c6,hf⟩
  ·refine a0b rfl c6<|sr<|?_
   rcases oi hf with ⟨c7,hf⟩ | ⟨c7,hf⟩
   ·obtain ⟨r_8,er9,hf⟩:=ob hf
    refine o7 (.ptr 0 0 1) rfl trivial rfl<|o7 (.int .i64 a_1.N) rfl nle rfl<|o7 (.bool (a_1.N == 0)) rfl rfl rfl<|l7 (.bool (a_1.N == 0)) rfl<|a1k (s:=20) (b:=true) rfl c7<|s_on rfl<|o7 (.ptr 0 0 2) rfl trivial rfl<|s_on rfl<|o7 (.str a_1.T) rfl nle rfl<|s_on rfl<|o8 (a1f (b3a _ _ er9) rfl (.refl _) rfl)<|o7 (.bool r_8) rfl trivial rfl<|l7 (.bool r_8) rfl<|dk<|a0d<|?_;obtain rfl:=os hf;exact a0m ⟨trivial,trivial⟩ rfl (.refl _)
   ·refine o7 (.ptr 0 0 1) rfl trivial rfl<|o7 (.int .i64 a_1.N) rfl nle rfl<|o7 (.bool (a_1.N == 0)) rfl rfl rfl<|l7 (.bool (a_1.N == 0)) rfl<|a1k (s:=20) (b:=false) rfl (bf c7)<|a0a rfl rfl<|a0a rfl rfl<|a0a rfl rfl<|o7 (.bool false) rfl trivial rfl<|l7 (.bool false) rfl<|dk<|a0d<|?_;obtain rfl:=os hf;exact a0m ⟨trivial,trivial⟩ rfl (.refl _)
  ·refine a0c rfl (bf c6)<|sr<|o7 (.bool (a_1.Kind == 3)) rfl rfl rfl<|l7 (.bool (a_1.Kind == 3)) rfl<|dk<|?_
   rcases oi hf with ⟨c10,hf⟩ | ⟨c10,hf⟩
   ·refine a0b rfl c10<|sr<|?_
    obtain ⟨r_11,er12,hf⟩:=ob hf
    rcases oi hf with ⟨c13,hf⟩ | ⟨c13,hf⟩
    ·refine o7 (.ptr 0 0 1) rfl trivial rfl<|o7 (.int .i64 a_1.N) rfl nle rfl<|o8 (a1f (a8c _ _ _ _ er12) rfl (.refl _) rfl)<|l7 (.bool r_11) rfl<|a1k (s:=30) (b:=true) rfl c13<|s_on rfl<|o7 (.ptr 0 0 2) rfl trivial rfl<|s_on rfl<|o7 (.str a_1.T) rfl nle rfl<|s_on rfl<|o7 (.bool (a_1.T == [])) rfl trivial rfl<|o7 (.bool (a_1.T == [])) rfl trivial rfl<|l7 (.bool (a_1.T == [])) rfl<|dk<|a0d<|?_;obtain rfl:=os hf;exact a0m ⟨trivial,trivial⟩ rfl (.refl _)
    ·refine o7 (.ptr 0 0 1) rfl trivial rfl<|o7 (.int .i64 a_1.N) rfl nle rfl<|o8 (a1f (a8c _ _ _ _ er12) rfl (.refl _) rfl)<|l7 (.bool r_11) rfl<|a1k (s:=30) (b:=false) rfl (bf c13)<|a0a rfl rfl<|a0a rfl rfl<|a0a rfl rfl<|o7 (.bool false) rfl trivial rfl<|l7 (.bool false) rfl<|dk<|a0d<|?_;obtain rfl:=os hf;exact a0m ⟨trivial,trivial⟩ rfl (.refl _)
   ·refine a0c rfl (bf c10)<|sr<|o7 (.bool (a_1.Kind == 4)) rfl rfl rfl<|l7 (.bool (a_1.Kind == 4)) rfl<|dk<|?_
    rcases oi hf with ⟨c14,hf⟩ | ⟨c14,hf⟩
    ·refine a0b rfl c14<|sr<|?_
     obtain ⟨r_15,er16,hf⟩:=ob hf
     rcases oi hf with ⟨c17,hf⟩ | ⟨c17,hf⟩
     ·refine o7 (.ptr 0 0 1) rfl trivial rfl<|o7 (.int .i64 a_1.N) rfl nle rfl<|o8 (a1f (c1z _ _ er16) rfl (.refl _) rfl)<|l7 (.bool r_15) rfl<|a1k (s:=40) (b:=true) rfl c17<|s_on rfl<|o7 (.ptr 0 0 2) rfl trivial rfl<|s_on rfl<|o7 (.str a_1.T) rfl nle rfl<|s_on rfl<|o7 (.bool (a_1.T == [])) rfl trivial rfl<|o7 (.bool (a_1.T == [])) rfl trivial rfl<|l7 (.bool (a_1.T == [])) rfl<|dk<|a0d<|?_;obtain rfl:=os hf;exact a0m ⟨trivial,trivial⟩ rfl (.refl _)
     ·refine o7 (.ptr 0 0 1) rfl trivial rfl<|o7 (.int .i64 a_1.N) rfl nle rfl<|o8 (a1f (c1z _ _ er16) rfl (.refl _) rfl)<|l7 (.bool r_15) rfl<|a1k (s:=40) (b:=false) rfl (bf c17)<|a0a rfl rfl<|a0a rfl rfl<|a0a rfl rfl<|o7 (.bool false) rfl trivial rfl<|l7 (.bool false) rfl<|dk<|a0d<|?_;obtain rfl:=os hf;exact a0m ⟨trivial,trivial⟩ rfl (.refl _)
    ·refine a0c rfl (bf c14)<|a0i<|a3l<|a0h<|sr<|l7 (.bool false) rfl<|dk<|a0d<|?_;obtain rfl:=os hf;exact a0m ⟨trivial,trivial⟩ rfl (.refl _)

/- cmp.isNaN[int] -/
def e2l:a0p :=
 (.seq (.reg (tm 2 (.c (.bool false)) .done))
 (.seq (.reg (tm 3 (.t 0) (tm 4 (.t 0) (tq 5 (.bin .neq (.t 3) (.t 4)) (tm 2 (.t 5) .done)))))
 .ret))
theorem e2m:a1b Tryz.prog Tryz.f311 = some (e2l.erase,[.mov (.t 2)],6):=by kernel_rfl
def cmp_isNaN_int (x_1:Int):Option Bool :=
    some (x_1 != x_1)
theorem b5e (x_1:Int) (r:Bool) (hf:cmp_isNaN_int x_1 = some r):y9 Tryz.prog 311 .flat [(.int .i64 x_1)] (.bool r):=by
  refine y9.of_awp mixed Tryz.func311 e2m nle ?_
  rw [a0f]
  unfold cmp_isNaN_int at hf
  unfold e2l
  refine (show awp Tryz.prog false 0 _ (ofL [(0,(.int .i64 x_1))]) [] _ from ?_)
  refine o6 ?_
  refine a0z ?_
  refine o8 (a2z (.bool false) rfl) ?_
  refine a0e ?_
  refine a0h ?_
  refine o6 ?_
  refine a0z ?_
  refine o8 (a2z (.int .i64 x_1) rfl) ?_
  refine o8 (a2z (.int .i64 x_1) rfl) ?_
  refine o8 (o_q (.bool (x_1 != x_1)) rfl rfl rfl) ?_
  refine o8 (a2z (.bool (x_1 != x_1)) rfl) ?_
  refine a0e ?_
  refine a0h ?_
  refine a0d ?_
  obtain rfl:=os hf
  exact a0m ⟨trivial,trivial⟩ rfl (.refl _)

/- cmp.Compare[int] -/
def e2n:a0p :=
 (.seq (.reg (tm 4 (.c (.int .i64 0)) .done))
 (.seq (.reg (tm 7 (.t 0) (tq 8 (.call 311 [(.t 7)]) (tm 5 (.t 8) .done))))
 (.seq (.reg (tm 9 (.t 1) (tq 10 (.call 311 [(.t 9)]) (tm 6 (.t 10) .done))))
 (.seq (.seq (.reg (tm 11 (.t 5) .done))
 (.cond (.t 11) (.seq (.seq (.reg (tm 12 (.t 6) .done))
 (.cond (.t 12) (.seq (.reg (tm 4 (.c (.int .i64 0)) .done))
 .ret)
 .skip))
 (.seq (.reg (tq 4 (.mov (.c (.int .i64 (-1)))) .done))
 .ret))
 .skip))
 (.seq (.seq (.reg (tm 13 (.t 6) .done))
 (.cond (.t 13) (.seq (.reg (tm 4 (.c (.int .i64 1)) .done))
 .ret)
 .skip))
 (.seq (.seq (.reg (tm 14 (.t 0) (tm 15 (.t 1) (tq 16 (.bin .lss (.t 14) (.t 15)) .done))))
 (.cond (.t 16) (.seq (.reg (tq 4 (.mov (.c (.int .i64 (-1)))) .done))
 .ret)
 .skip))
 (.seq (.seq (.reg (tm 17 (.t 0) (tm 18 (.t 1) (tq 19 (.bin .gtr (.t 17) (.t 18)) .done))))
 (.cond (.t 19) (.seq (.reg (tm 4 (.c (.int .i64 1)) .done))
 .ret)
 .skip))
 (.seq (.reg (tm 4 (.c (.int .i64 0)) .done))
 .ret))))))))
theorem e2o:a1b Tryz.prog Tryz.f249 = some (e2n.erase,[.mov (.t 4)],20):=by kernel_rfl
def cmp_Compare_int (x_1:Int) (y_2:Int):Option Int :=
    (cmp_isNaN_int x_1).bind fun r_3 =>
    (cmp_isNaN_int y_2).bind fun r_5 =>
    if r_3 then
    if r_5 then
    some 0
    else
    some (-1)
    else
    if r_5 then
    some 1
    else
    if (decide (x_1 < y_2)) then
    some (-1)
    else
    if (decide (x_1 > y_2)) then
    some 1
    else
    some 0
theorem b3j (x_1:Int) (y_2:Int) (r:Int) (hf:cmp_Compare_int x_1 y_2 = some r):y9 Tryz.prog 249 .flat [(.int .i64 x_1),(.int .i64 y_2)] (.int .i64 r):=by
 refine y9.of_awp mixed Tryz.func249 e2o nle ?_;rw [a0f];unfold cmp_Compare_int at hf;unfold e2n;refine (show awp Tryz.prog false 0 _ (ofL [(0,(.int .i64 x_1)),(1,(.int .i64 y_2))]) [] _ from ?_);refine sr<|l7 (.int .i64 0) rfl<|dk<|sr<|?_
 obtain ⟨r_3,er4,hf⟩:=ob hf
 refine l7 (.int .i64 x_1) rfl<|o8 (a1f (b5e _ _ er4) rfl (.refl _) rfl)<|l7 (.bool r_3) rfl<|dk<|sr<|?_
 obtain ⟨r_5,er6,hf⟩:=ob hf
 refine l7 (.int .i64 y_2) rfl<|o8 (a1f (b5e _ _ er6) rfl (.refl _) rfl)<|l7 (.bool r_5) rfl<|dk<|o6<|sr<|l7 (.bool r_3) rfl<|dk<|?_
 rcases oi hf with ⟨c7,hf⟩ | ⟨c7,hf⟩
 ·refine a0b rfl c7<|o6<|sr<|l7 (.bool r_5) rfl<|dk<|?_
  rcases oi hf with ⟨c8,hf⟩ | ⟨c8,hf⟩
  ·refine a0b rfl c8<|sr<|l7 (.int .i64 0) rfl<|dk<|a0d<|?_;obtain rfl:=os hf;exact a0m ⟨trivial,trivial⟩ rfl (.refl _)
  ·refine a0c rfl (bf c8)<|a0i<|a0h<|sr<|l7 (.int .i64 (-1)) rfl<|dk<|a0d<|?_;obtain rfl:=os hf;exact a0m ⟨trivial,trivial⟩ rfl (.refl _)
 ·refine a0c rfl (bf c7)<|a0i<|a0h<|o6<|sr<|l7 (.bool r_5) rfl<|dk<|?_
  rcases oi hf with ⟨c9,hf⟩ | ⟨c9,hf⟩
  ·refine a0b rfl c9<|sr<|l7 (.int .i64 1) rfl<|dk<|a0d<|?_;obtain rfl:=os hf;exact a0m ⟨trivial,trivial⟩ rfl (.refl _)
  ·refine a0c rfl (bf c9)<|a0i<|a0h<|o6<|sr<|l7 (.int .i64 x_1) rfl<|l7 (.int .i64 y_2) rfl<|o7 (.bool (decide (x_1 < y_2))) rfl rfl rfl<|dk<|?_
   rcases oi hf with ⟨c10,hf⟩ | ⟨c10,hf⟩
   ·refine a0b rfl c10<|sr<|l7 (.int .i64 (-1)) rfl<|dk<|a0d<|?_;obtain rfl:=os hf;exact a0m ⟨trivial,trivial⟩ rfl (.refl _)
   ·refine a0c rfl (bf c10)<|a0i<|a0h<|o6<|sr<|l7 (.int .i64 x_1) rfl<|l7 (.int .i64 y_2) rfl<|o7 (.bool (decide (x_1 > y_2))) rfl rfl rfl<|dk<|?_
    rcases oi hf with ⟨c11,hf⟩ | ⟨c11,hf⟩
    ·refine a0b rfl c11<|sr<|l7 (.int .i64 1) rfl<|dk<|a0d<|?_;obtain rfl:=os hf;exact a0m ⟨trivial,trivial⟩ rfl (.refl _)
    ·refine a0c rfl (bf c11)<|a0i<|a0h<|sr<|l7 (.int .i64 0) rfl<|dk<|a0d<|?_;obtain rfl:=os hf;exact a0m ⟨trivial,trivial⟩ rfl (.refl _)

/- internal/bytealg.CompareString -/
def a4f (a b:Str):Option Int:=some (Lib.compareBytes a b)
set_option maxRecDepth 100000 in
open Go.RowKit in
theorem d7s (a b:ByteArray) (w:World):Calls Tryz.prog 351 #[.string a,.string b] w fun e w' => e = .returned (.int .i64 (Lib.compareBytes a.data.toList b.data.toList)) ∧ w' = w:=by
  go_enter Tryz.func351,(show Tryz.f351.ntmps = _ from rfl)
  go_wp2
  rw [run_callFunc_extern Tryz.func384 (by kernel_rfl) (by kernel_rfl) (by kernel_rfl) (e:=Extern.BytealgCompare.compare) (by kernel_rfl),Lib.run_compareString]
  simp only [Result.andThen]
  rw [Oper.upon_value]
  go_wp2
  go_ret
  exact ⟨rfl,rfl⟩
open Go.RowKit in
theorem b0i (a b:Str) (r:Int) (hf:a4f a b = some r):y9 Tryz.prog 351 .flat [(.str a),(.str b)] (.int .i64 r):=by
  intro w vals fps hr
  simp only [a1q,Rep] at hr
  obtain ⟨v1,vs1,f1,f2,rfl,⟨rfl,h1,rfl⟩,⟨v2,vs2,f3,f4,rfl,⟨rfl,h2,rfl⟩,⟨rfl,rfl⟩,rfl⟩,rfl⟩:=hr
  unfold a4f at hf
  obtain rfl:=os hf
  refine (d7s ⟨a.toArray⟩ ⟨b.toArray⟩ w).mono ?_
  rintro e w' ⟨rfl,rfl⟩
  refine ⟨Below.refl _ _,?_⟩
  exact ⟨[.int .i64 (Lib.compareBytes a b)],rfl,by simp [Rep]⟩

/- strings.Compare -/
def e2p:a0p :=
 (.seq (.reg (tm 4 (.c (.int .i64 0)) .done))
 (.seq (.reg (tm 5 (.t 0) (tm 6 (.t 1) (tq 7 (.call 351 [(.t 5),(.t 6)]) (tm 4 (.t 7) .done)))))
 .ret))
theorem e2q:a1b Tryz.prog Tryz.f305 = some (e2p.erase,[.mov (.t 4)],8):=by kernel_rfl
def strings_Compare (a_1:Str) (b_2:Str):Option Int :=
    (a4f a_1 b_2).bind fun r_3 =>
    some r_3
theorem b9j (a_1:Str) (b_2:Str) (r:Int) (hf:strings_Compare a_1 b_2 = some r):y9 Tryz.prog 305 .flat [(.str a_1),(.str b_2)] (.int .i64 r):=by
  refine y9.of_awp mixed Tryz.func305 e2q nle ?_
  rw [a0f]
  unfold strings_Compare at hf
  unfold e2p
  refine (show awp Tryz.prog false 0 _ (ofL [(0,(.str a_1)),(1,(.str b_2))]) [] _ from ?_)
  refine o6 ?_
  refine a0z ?_
  refine o8 (a2z (.int .i64 0) rfl) ?_
  refine a0e ?_
  refine a0h ?_
  refine o6 ?_
  refine a0z ?_
  obtain ⟨r_3,er4,hf⟩:=ob hf
  refine o8 (a2z (.str a_1) rfl) ?_
  refine o8 (a2z (.str b_2) rfl) ?_
  refine o8 (a1f (b0i _ _ _ er4) rfl (.refl _) rfl) ?_
  refine o8 (a2z (.int .i64 r_3) rfl) ?_
  refine a0e ?_
  refine a0h ?_
  refine a0d ?_
  obtain rfl:=os hf
  exact a0m ⟨trivial,trivial⟩ rfl (.refl _)

/- cmp.Or[int] -/
def e2r:a0p :=
 (.seq (.reg (tm 2 (.c (.int .i64 0)) .done))
 (.seq (.reg (tm 3 (.c (.int .i64 0)) .done))
 (.seq (.seq (.reg (tm 6 (.t 0) (tq 7 (.len (.t 6)) (tm 8 (.c (.int .i64 0)) .done))))
 (.block 0 (.loop (.seq (.reg (tq 9 (.bin .lss (.t 8) (.t 7)) .done))
 (.seq (.cond (.t 9) .skip
 (.exit 0))
 (.seq (.block 1 (.seq (.reg (tq 10 (.iaddr 1 (.t 6) (.t 8)) (tq 11 (.load 1 false (.t 10)) (tm 5 (.t 11) .done))))
 (.seq (.reg (tm 12 (.t 5) (tm 13 (.t 3) (tq 14 (.bin .neq (.t 12) (.t 13)) .done))))
 (.cond (.t 14) (.seq (.reg (tm 15 (.t 5) (tm 2 (.t 15) .done)))
 .ret)
 .skip))))
 (.reg (tq 16 (.bin .add (.t 8) (.c (.int .i64 1))) (tm 8 (.t 16) .done)))))))))
 (.cut (.seq (.reg (tm 17 (.t 3) (tm 2 (.t 17) .done)))
 .ret)))))
theorem e2s:a1b Tryz.prog Tryz.f304 = some (e2r.erase,[.mov (.t 2)],18):=by kernel_rfl
def a4m :List Int → Option (Fl Int Unit)
  | [] =>
    some (.go ())
  | x_24 :: xs =>
    if (x_24 != 0) then
    some (.ret x_24)
    else
    a4m xs 

def b4u (vals_1:(List Int)):Option Int :=
    (a4m vals_1 ).bind fun q => (match q with
    | .ret r => some r
    | .go _ =>
    some 0)
theorem c8w (vals_1:(List Int)) (r:Int) (hf:b4u vals_1 = some r):y9 Tryz.prog 304 .flat [(.lst 1 (vals_1.map encI))] (.int .i64 r):=by
 refine y9.of_awp mixed Tryz.func304 e2s nle ?_;rw [a0f];unfold b4u at hf;unfold e2r;refine (show awp Tryz.prog false 0 _ (ofL [(0,(.lst 1 (vals_1.map encI)))]) [] _ from ?_);refine sr<|l7 (.int .i64 0) rfl<|dk<|sr<|l7 (.int .i64 0) rfl<|dk<|o6<|sr<|l7 (.lst 1 (vals_1.map encI)) rfl<|a1n (a3d (enc:=encI) rfl) fun hl2 => l7 (.int .i64 0) rfl<|dk<|?_
 obtain ⟨p17,hb1,hf⟩:=ob hf
 refine a4k (X:={q:Unit // p17 = .go q}) (fun q => ([(3,(.int .i64 0))],[])) ?_ ?_
 ·refine a1v (X:={q:Nat // a4m (vals_1.drop q)  = some p17}) (fun q => ([(3,(.int .i64 0)),(6,(.lst 1 (vals_1.map encI))),(7,(.int .i64 (vals_1.length:Int))),(8,(.int .i64 (q.1:Int)))],[])) (fun q => vals_1.length - q.1) ⟨0,hb1⟩ ⟨[],[],_,_,rfl,rfl,⟨.refl _,⟨.refl _,⟨.refl _,⟨.refl _,trivial⟩⟩⟩⟩,(.refl _)⟩ ?_
  rintro ⟨s8_12,hc1⟩
  have hc1:a4m (vals_1.drop s8_12)  = some p17:=hc1
  refine (show awp Tryz.prog false 0 _ (ofL [(3,(.int .i64 0)),(6,(.lst 1 (vals_1.map encI))),(7,(.int .i64 (vals_1.length:Int))),(8,(.int .i64 (s8_12:Int)))]) [] _ from ?_)
  rcases a7j vals_1 s8_12 with ⟨hie20,hd23⟩ | ⟨hlt18,x_24,hx19,hd23⟩
  ·rw [hd23,a4m.eq_1] at hc1
   have hq22:=dlf hie20
   refine sr<|o7 (.bool (decide ((s8_12:Int) < (vals_1.length:Int)))) rfl rfl rfl<|dk<|o6<|a0c rfl hq22<|a4b<|a4a<|a2w<|a3z<|?_;obtain rfl:=os hc1;exact a5z ⟨_,rfl⟩ ⟨[],[],_,_,rfl,rfl,⟨.refl _,trivial⟩,(.refl _)⟩
  ·rw [hd23,a4m.eq_2] at hc1
   have hq22:=dlt hlt18
   refine sr<|o7 (.bool (decide ((s8_12:Int) < (vals_1.length:Int)))) rfl rfl rfl<|dk<|o6<|a0b rfl hq22<|a0i<|a0h<|o6<|a3s<|sr<|o8 (a3o (enc:=encI) rfl rfl hx19)<|o7 (.int .i64 x_24) rfl ⟨rfl,rfl⟩ rfl<|l7 (.int .i64 x_24) rfl<|dk<|sr<|l7 (.int .i64 x_24) rfl<|l7 (.int .i64 0) rfl<|o7 (.bool (x_24 != 0)) rfl rfl rfl<|dk<|?_
   rcases oi hc1 with ⟨c25,hc1⟩ | ⟨c25,hc1⟩
   ·refine a0b rfl c25<|sr<|l7 (.int .i64 x_24) rfl<|l7 (.int .i64 x_24) rfl<|dk<|a0d<|?_;obtain rfl:=os hc1;obtain rfl:=os hf;exact a0m ⟨trivial,trivial⟩ rfl (.refl _)
   ·refine a0c rfl (bf c25)<|a0i<|a3l<|a0h<|a0z<|o7 (.int .i64 (w64 ((s8_12:Int) + 1))) rfl rfl rfl<|l7 (.int .i64 (w64 ((s8_12:Int) + 1))) rfl<|a0e<|?_;exact a2p ⟨(s8_12 + 1),hc1⟩ (mul hlt18) ⟨[],[],_,_,rfl,rfl,⟨.refl _,⟨.refl _,⟨.refl _,⟨.of_eq (congrArg (AV.int _) (a3h hlt18 hl2)),trivial⟩⟩⟩⟩,(.refl _)⟩
 ·rintro ⟨_,rfl⟩
  refine sr<|l7 (.int .i64 0) rfl<|l7 (.int .i64 0) rfl<|dk<|a0d<|?_;obtain rfl:=os hf;exact a0m ⟨trivial,trivial⟩ rfl (.refl _)

/- impl.compareAtoms -/
def c227:a0p :=
 (.seq (.reg (tq 2 (.box 3 (.t 0)) (tq 3 (.box 3 (.t 1)) (tm 4 (.c (.int .i64 0)) .done))))
 (.seq (.reg (tq 5 (.faddr 0 (.t 2)) (tq 6 (.load 1 false (.t 5)) (tq 7 (.faddr 0 (.t 3)) (tq 8 (.load 1 false (.t 7)) (tq 10 (.faddr 1 (.t 2)) (tq 11 (.load 1 false (.t 10)) (tq 12 (.faddr 1 (.t 3)) (tq 13 (.load 1 false (.t 12)) (tq 15 (.faddr 2 (.t 2)) (tq 16 (.load 1 false (.t 15)) (tq 17 (.faddr 2 (.t 3)) (tq 18 (.load 1 false (.t 17)) (.l ⟨(some 9),none,.call 249 [(.t 6),(.t 8)]⟩ [⟨(some 18),none,.load 1 false (.t 17)⟩,⟨(some 17),none,.faddr 2 (.t 3)⟩,⟨(some 16),none,.load 1 false (.t 15)⟩,⟨(some 15),none,.faddr 2 (.t 2)⟩,⟨(some 13),none,.load 1 false (.t 12)⟩,⟨(some 12),none,.faddr 1 (.t 3)⟩,⟨(some 11),none,.load 1 false (.t 10)⟩,⟨(some 10),none,.faddr 1 (.t 2)⟩]
 (.l ⟨(some 14),none,.call 249 [(.t 11),(.t 13)]⟩ [⟨(some 18),none,.load 1 false (.t 17)⟩,⟨(some 17),none,.faddr 2 (.t 3)⟩,⟨(some 16),none,.load 1 false (.t 15)⟩,⟨(some 15),none,.faddr 2 (.t 2)⟩]
 (.l ⟨(some 19),none,.call 305 [(.t 16),(.t 18)]⟩ []
 (.l ⟨(some 20),none,.bslice 1 [(.t 9),(.t 14),(.t 19)]⟩ []
 (.l ⟨(some 21),none,.call 304 [(.t 20)]⟩ []
 (tm 4 (.t 21) .done) .non) .non) .non) .non) .non))))))))))))))
 .ret))
theorem e2t:a1b Tryz.prog Tryz.f227 = some (c227.erase,[.mov (.t 4)],22):=by kernel_rfl
def a5c (a_1:x8) (b_2:x8):Option Int :=
    (cmp_Compare_int a_1.Kind b_2.Kind).bind fun r_3 =>
    (cmp_Compare_int a_1.N b_2.N).bind fun r_5 =>
    (strings_Compare a_1.T b_2.T).bind fun r_7 =>
    (b4u [r_3,r_5,r_7]).bind fun r_9 =>
    some r_9
theorem b2f (a_1:x8) (b_2:x8) (r:Int) (hf:a5c a_1 b_2 = some r):y9 Tryz.prog 227 .flat [(l9 a_1),(l9 b_2)] (.int .i64 r):=by
 refine y9.of_awp mixed Tryz.func227 e2t nle ?_;rw [a0f];unfold a5c at hf;unfold c227;refine (show awp Tryz.prog false 0 _ (ofL [(0,(l9 a_1)),(1,(l9 b_2))]) [] _ from ?_);refine sr<|o8 (a1g (j:=0) (c:=(.agg [(.int .i64 a_1.Kind),(.int .i64 a_1.N),(.str a_1.T)])) rfl trivial rfl rfl)<|o8 (a1g (j:=1) (c:=(.agg [(.int .i64 b_2.Kind),(.int .i64 b_2.N),(.str b_2.T)])) rfl trivial rfl rfl)<|l7 (.int .i64 0) rfl<|dk<|sr<|o7 (.ptr 0 0 0) rfl trivial rfl<|o7 (.int .i64 a_1.Kind) rfl nle rfl<|o7 (.ptr 1 0 0) rfl trivial rfl<|o7 (.int .i64 b_2.Kind) rfl nle rfl<|o7 (.ptr 0 0 1) rfl trivial rfl<|o7 (.int .i64 a_1.N) rfl nle rfl<|?_
 refine o7 (.ptr 1 0 1) rfl trivial rfl<|o7 (.int .i64 b_2.N) rfl nle rfl<|o7 (.ptr 0 0 2) rfl trivial rfl<|o7 (.str a_1.T) rfl nle rfl<|o7 (.ptr 1 0 2) rfl trivial rfl<|o7 (.str b_2.T) rfl nle rfl<|?_
 obtain ⟨r_3,er4,hf⟩:=ob hf
 refine a1r (a1f (b3j _ _ _ er4) rfl (.refl _) rfl) a9t trivial ?_
 obtain ⟨r_5,er6,hf⟩:=ob hf
 refine a1r (a1f (b3j _ _ _ er6) rfl (.refl _) rfl) a9t trivial ?_
 obtain ⟨r_7,er8,hf⟩:=ob hf
 refine a1r (a1f (b9j _ _ _ er8) rfl (.refl _) rfl) a9t trivial ?_;refine a1r (a1c (j:=2) (as':=[(.int .i64 r_3),(.int .i64 r_5),(.int .i64 r_7)]) rfl (fun _ => by decide) ⟨rfl,⟨rfl,⟨rfl,trivial⟩⟩⟩ (.refl _) rfl rfl rfl) trivial trivial ?_
 obtain ⟨r_9,er10,hf⟩:=ob hf
 refine a1r (a1f (c8w _ _ er10) rfl (.cons (.of_eq (congrArg (AV.lst _) (by rfl))) .nil) rfl) a9t trivial<|l7 (.int .i64 r_9) rfl<|dk<|a0d<|?_;obtain rfl:=os hf;exact a0m ⟨trivial,trivial⟩ rfl (.refl _)

/- impl.DatumOK -/
def e2u:a0p :=
 (.seq (.reg (tm 2 (.c (.bool false)) .done))
 (.seq (.seq (.reg (tm 5 (.t 0) (tq 6 (.len (.t 5)) (tm 7 (.c (.int .i64 0)) .done))))
 (.block 0 (.loop (.seq (.reg (tq 8 (.bin .lss (.t 7) (.t 6)) .done))
 (.seq (.cond (.t 8) .skip
 (.exit 0))
 (.seq (.block 1 (.seq (.reg (tm 9 (.t 7) (tq 10 (.iaddr 3 (.t 5) (.t 7)) (tq 11 (.load 3 true (.t 10)) (tq 4 (.box 3 (.c (.agg [(.int .i64 0),(.int .i64 0),(.str [])]))) (tm 3 (.t 9) (.q ⟨none,none,.store 3 (.t 4) (.t 11)⟩
 .done)))))))
 (.seq (.reg (tq 12 (.load 3 true (.t 4)) (.l ⟨(some 13),none,.call 135 [(.t 12)]⟩ []
 (tq 14 (.not (.t 13)) (tm 15 (.t 14) (tg 16 15 false (.faddr 0 (.t 4)) (tg 17 15 false (.load 1 false (.t 16)) (tg 18 15 false (.mov (.t 0)) (tg 19 15 false (.iaddr 3 (.t 18) (.c (.int .i64 0))) (tg 20 15 false (.faddr 0 (.t 19)) (tg 21 15 false (.load 1 false (.t 20)) (tg 22 15 false (.bin .neq (.t 17) (.t 21)) (tq 23 (.pick (.t 15) (.c (.bool true)) (.t 22)) (tm 24 (.t 23) (tg 25 24 false (.mov (.t 3)) (tg 26 24 false (.bin .gtr (.t 25) (.c (.int .i64 0))) (tg 27 24 false (.mov (.t 26)) (tg 28 27 true (.mov (.t 0)) (tg 29 27 true (.mov (.t 3)) (tg 30 27 true (.bin .sub (.t 29) (.c (.int .i64 1))) (tg 31 27 true (.iaddr 3 (.t 28) (.t 30)) (tg 32 27 true (.load 3 true (.t 31)) (tg 33 27 true (.load 3 true (.t 4)) (.l ⟨(some 34),(some (27,true)),.call 227 [(.t 32),(.t 33)]⟩ []
 (tg 35 27 true (.bin .geq (.t 34) (.c (.int .i64 0))) (tg 36 24 false (.pick (.t 27) (.t 35) (.c (.bool false))) (tq 37 (.pick (.t 24) (.c (.bool true)) (.t 36)) .done))) .non))))))))))))))))))))) .non)))
 (.cut (.cond (.t 37) (.seq (.reg (tm 2 (.c (.bool false)) .done))
 .ret)
 .skip)))))
 (.reg (tq 38 (.bin .add (.t 7) (.c (.int .i64 1))) (tm 7 (.t 38) .done)))))))))
 (.cut (.seq (.reg (tm 39 (.t 0) (tq 40 (.len (.t 39)) (tq 41 (.bin .leq (.t 40) (.c (.int .i64 8))) (tm 2 (.t 41) .done)))))
 .ret))))
theorem e2v:a1b Tryz.prog Tryz.f129 = some (e2u.erase,[.mov (.t 2)],42):=by kernel_rfl
def a4o (d_1:(List x8)):List x8 → Nat → Option (Fl Bool Unit)
  | [],s7_50 =>
    some (.go ())
  | x_86 :: xs,s7_50 =>
    (((a6t x_86).bind fun r_100 =>
    if (!r_100) then
    some true
    else
    (idx d_1 0).bind fun x_103 =>
    if (x_86.Kind != x_103.Kind) then
    some true
    else
    if (decide ((s7_50:Int) > 0)) then
    (idx d_1 (w64 ((s7_50:Int) - 1))).bind fun x_107 =>
    (a5c x_107 x_86).bind fun r_109 =>
    some (decide (r_109 ≥ 0))
    else
    some false:Option Bool)).bind fun s37_98 =>
    if s37_98 then
    some (.ret false)
    else
    a4o d_1 xs (s7_50 + 1)

def a8x (d_1:(List x8)):Option Bool :=
    (a4o d_1 d_1 0).bind fun q => (match q with
    | .ret r => some r
    | .go _ =>
    some (decide ((d_1.length:Int) ≤ 8)))
theorem b6d (d_1:(List x8)) (r:Bool) (hf:a8x d_1 = some r):y9 Tryz.prog 129 .flat [(.lst 3 (d_1.map l9))] (.bool r):=by
 refine y9.of_awp mixed Tryz.func129 e2v nle ?_;rw [a0f];unfold a8x at hf;unfold e2u;refine (show awp Tryz.prog false 0 _ (ofL [(0,(.lst 3 (d_1.map l9)))]) [] _ from ?_);refine sr<|l7 (.bool false) rfl<|dk<|o6<|sr<|l7 (.lst 3 (d_1.map l9)) rfl<|a1n (a3d (enc:=l9) rfl) fun hl2 => l7 (.int .i64 0) rfl<|dk<|?_
 obtain ⟨p79,hb1,hf⟩:=ob hf
 refine a4k (X:={q:Unit // p79 = .go q}) (fun q => ([(0,(.lst 3 (d_1.map l9)))],[])) ?_ ?_
 ·refine a1v (X:={q:Nat // a4o d_1 (d_1.drop q) q = some p79}) (fun q => ([(0,(.lst 3 (d_1.map l9))),(5,(.lst 3 (d_1.map l9))),(6,(.int .i64 (d_1.length:Int))),(7,(.int .i64 (q.1:Int)))],[])) (fun q => d_1.length - q.1) ⟨0,hb1⟩ ⟨[],[],_,_,rfl,rfl,⟨.refl _,⟨.refl _,⟨.refl _,⟨.refl _,trivial⟩⟩⟩⟩,(.refl _)⟩ ?_
  rintro ⟨s7_50,hc1⟩
  have hc1:a4o d_1 (d_1.drop s7_50) s7_50 = some p79:=hc1
  refine (show awp Tryz.prog false 0 _ (ofL [(0,(.lst 3 (d_1.map l9))),(5,(.lst 3 (d_1.map l9))),(6,(.int .i64 (d_1.length:Int))),(7,(.int .i64 (s7_50:Int)))]) [] _ from ?_)
  rcases a7j d_1 s7_50 with ⟨hie82,hd85⟩ | ⟨hlt80,x_86,hx81,hd85⟩
  ·rw [hd85,a4o.eq_1] at hc1
   have hq84:=dlf hie82
   refine sr<|o7 (.bool (decide ((s7_50:Int) < (d_1.length:Int)))) rfl rfl rfl<|dk<|o6<|a0c rfl hq84<|a4b<|a4a<|a2w<|a3z<|?_;obtain rfl:=os hc1;exact a5z ⟨_,rfl⟩ ⟨[],[],_,_,rfl,rfl,⟨.refl _,trivial⟩,(.refl _)⟩
  ·rw [hd85,a4o.eq_2] at hc1
   have hq84:=dlt hlt80
   refine sr<|o7 (.bool (decide ((s7_50:Int) < (d_1.length:Int)))) rfl rfl rfl<|dk<|o6<|a0b rfl hq84<|a0i<|a0h<|o6<|a3s<|sr<|l7 (.int .i64 (s7_50:Int)) rfl<|o8 (a3o (enc:=l9) rfl rfl hx81)<|o7 (l9 x_86) rfl nle rfl<|o8 (a1g (j:=0) (c:=(.agg [(.int .i64 0),(.int .i64 0),(.str [])])) rfl trivial rfl rfl)<|l7 (.int .i64 (s7_50:Int)) rfl<|a1i (x9 (v:=(.agg [(.int .i64 x_86.Kind),(.int .i64 x_86.N),(.str x_86.T)])) (y':=(.agg [(.int .i64 x_86.Kind),(.int .i64 x_86.N),(.str x_86.T)])) rfl rfl rfl trivial ⟨rfl,nle⟩ ⟨⟨rfl,trivial⟩,⟨⟨rfl,trivial⟩,⟨⟨rfl,trivial⟩,trivial⟩⟩⟩ rfl)<|?_
   refine dk<|o6<|?_
   obtain ⟨s37_98,hb2,hc1⟩:=ob hc1
   refine a2v ([(0,(.lst 3 (d_1.map l9))),(5,(.lst 3 (d_1.map l9))),(6,(.int .i64 (d_1.length:Int))),(7,(.int .i64 (s7_50:Int))),(37,(.bool s37_98))],[]) ?_ ?_
   ·refine a0z<|o7 (.agg [(.int .i64 x_86.Kind),(.int .i64 x_86.N),(.str x_86.T)]) rfl nle rfl<|?_
    obtain ⟨r_100,er101,hb2⟩:=ob hb2
    refine a1r (a1f (b1k _ _ er101) rfl (.refl _) rfl) a9t trivial<|o7 (.bool (!r_100)) rfl trivial rfl<|l7 (.bool (!r_100)) rfl<|?_
    rcases oi hb2 with ⟨c102,hb2⟩ | ⟨c102,hb2⟩
    ·refine a1k (s:=15) (b:=true) rfl c102<|a0a rfl rfl<|a0a rfl rfl<|a0a rfl rfl<|a0a rfl rfl<|a0a rfl rfl<|a0a rfl rfl<|a0a rfl rfl<|o7 (.bool true) rfl trivial rfl<|l7 (.bool true) rfl<|a0a rfl rfl<|a0a rfl rfl<|a0a rfl rfl<|a2s rfl<|a2s rfl<|a2s rfl<|a2s rfl<|a2s rfl<|a2s rfl<|c2w rfl trivial<|a2s rfl<|a0a rfl rfl<|o7 (.bool true) rfl trivial rfl<|a0e<|?_;obtain rfl:=os hb2;exact ⟨[],[],_,_,rfl,rfl,⟨.refl _,⟨.refl _,⟨.refl _,⟨.refl _,⟨.refl _,trivial⟩⟩⟩⟩⟩,(.refl _)⟩
    ·refine a1k (s:=15) (b:=false) rfl (bf c102)<|s_on rfl<|o7 (.ptr 0 0 0) rfl trivial rfl<|s_on rfl<|o7 (.int .i64 x_86.Kind) rfl nle rfl<|s_on rfl<|l7 (.lst 3 (d_1.map l9)) rfl<|s_on rfl<|?_
     obtain ⟨x_103,ex104,hb2⟩:=ob hb2
     refine o8 (a5l (enc:=l9) rfl rfl (b2x ex104) (b2y ex104))<|s_on rfl<|o7 (.iptr (l9 x_103) 0) rfl trivial rfl<|s_on rfl<|o7 (.int .i64 x_103.Kind) rfl nle rfl<|s_on rfl<|o7 (.bool (x_86.Kind != x_103.Kind)) rfl rfl rfl<|o7 (.bool (x_86.Kind != x_103.Kind)) rfl trivial rfl<|l7 (.bool (x_86.Kind != x_103.Kind)) rfl<|?_
     rcases oi hb2 with ⟨c105,hb2⟩ | ⟨c105,hb2⟩
     ·refine a1k (s:=24) (b:=true) rfl c105<|a0a rfl rfl<|a0a rfl rfl<|a0a rfl rfl<|a2s rfl<|a2s rfl<|a2s rfl<|a2s rfl<|a2s rfl<|a2s rfl<|c2w rfl trivial<|a2s rfl<|a0a rfl rfl<|o7 (.bool true) rfl trivial rfl<|a0e<|?_;obtain rfl:=os hb2;exact ⟨[],[],_,_,rfl,rfl,⟨.refl _,⟨.refl _,⟨.refl _,⟨.refl _,⟨.refl _,trivial⟩⟩⟩⟩⟩,(.refl _)⟩
     ·refine a1k (s:=24) (b:=false) rfl (bf c105)<|s_on rfl<|l7 (.int .i64 (s7_50:Int)) rfl<|s_on rfl<|o7 (.bool (decide ((s7_50:Int) > 0))) rfl rfl rfl<|s_on rfl<|l7 (.bool (decide ((s7_50:Int) > 0))) rfl<|?_
      rcases oi hb2 with ⟨c106,hb2⟩ | ⟨c106,hb2⟩
      ·refine a1k (s:=27) (b:=true) rfl c106<|s_on rfl<|l7 (.lst 3 (d_1.map l9)) rfl<|s_on rfl<|l7 (.int .i64 (s7_50:Int)) rfl<|s_on rfl<|o7 (.int .i64 (w64 ((s7_50:Int) - 1))) rfl rfl rfl<|s_on rfl<|?_
       obtain ⟨x_107,ex108,hb2⟩:=ob hb2
       refine o8 (a5l (enc:=l9) rfl rfl (b2x ex108) (b2y ex108))<|s_on rfl<|o7 (l9 x_107) rfl nle rfl<|s_on rfl<|o7 (.agg [(.int .i64 x_86.Kind),(.int .i64 x_86.N),(.str x_86.T)]) rfl nle rfl<|d0v rfl<|?_
       obtain ⟨r_109,er110,hb2⟩:=ob hb2
       refine a1r (a1f (b2f _ _ _ er110) rfl (.refl _) rfl) a9t trivial<|s_on rfl<|o7 (.bool (decide (r_109 ≥ 0))) rfl rfl rfl<|s_on rfl<|o7 (.bool (decide (r_109 ≥ 0))) rfl trivial rfl<|o7 (.bool (decide (r_109 ≥ 0))) rfl trivial rfl<|a0e<|?_;obtain rfl:=os hb2;exact ⟨[],[],_,_,rfl,rfl,⟨.refl _,⟨.refl _,⟨.refl _,⟨.refl _,⟨.refl _,trivial⟩⟩⟩⟩⟩,(.refl _)⟩
      ·refine a1k (s:=27) (b:=false) rfl (bf c106)<|a0a rfl rfl<|a0a rfl rfl<|a0a rfl rfl<|a0a rfl rfl<|a0a rfl rfl<|a0a rfl rfl<|c4i rfl rfl trivial<|a0a rfl rfl<|s_on rfl<|o7 (.bool false) rfl trivial rfl<|o7 (.bool false) rfl trivial rfl<|a0e<|?_;obtain rfl:=os hb2;exact ⟨[],[],_,_,rfl,rfl,⟨.refl _,⟨.refl _,⟨.refl _,⟨.refl _,⟨.refl _,trivial⟩⟩⟩⟩⟩,(.refl _)⟩
   ·rcases oi hc1 with ⟨c111,hc1⟩ | ⟨c111,hc1⟩
    ·refine a0b rfl c111<|sr<|l7 (.bool false) rfl<|dk<|a0d<|?_;obtain rfl:=os hc1;obtain rfl:=os hf;exact a0m ⟨trivial,trivial⟩ rfl (.refl _)
    ·refine a0c rfl (bf c111)<|a0i<|a3l<|a0h<|a0z<|o7 (.int .i64 (w64 ((s7_50:Int) + 1))) rfl rfl rfl<|l7 (.int .i64 (w64 ((s7_50:Int) + 1))) rfl<|a0e<|?_;exact a2p ⟨(s7_50 + 1),hc1⟩ (mul hlt80) ⟨[],[],_,_,rfl,rfl,⟨.refl _,⟨.refl _,⟨.refl _,⟨.of_eq (congrArg (AV.int _) (a3h hlt80 hl2)),trivial⟩⟩⟩⟩,(.refl _)⟩
 ·rintro ⟨_,rfl⟩
  refine sr<|l7 (.lst 3 (d_1.map l9)) rfl<|a1n (a3d (enc:=l9) rfl) fun hl112 => o7 (.bool (decide ((d_1.length:Int) ≤ 8))) rfl rfl rfl<|l7 (.bool (decide ((d_1.length:Int) ≤ 8))) rfl<|dk<|a0d<|?_;obtain rfl:=os hf;exact a0m ⟨trivial,trivial⟩ rfl (.refl _)

/- impl.jsNumber -/
def e2w:a0p :=
 (.seq (.reg (tq 2 (.box 5 (.c (.agg [(.int .i64 0),(.int .i64 0),(.str []),.nil,.nil]))) .done))
 (.seq (.reg (tm 3 (.t 0) (tq 4 (.build [(.int .i64 0),(.int .i64 0),(.str []),.nil,.nil] [(0,1,(.c (.int .i64 2))),(1,1,(.t 3))]) (.q ⟨none,none,.store 5 (.t 2) (.t 4)⟩
 .done))))
 .ret))
theorem e2x:a1b Tryz.prog Tryz.f223 = some (e2w.erase,[.load 5 true (.t 2)],5):=by kernel_rfl
def b1l (n_1:Int):Option y7 :=
    some (⟨2,n_1,[],[],[]⟩:y7)
theorem b5f (n_1:Int) (r:y7) (hf:b1l n_1 = some r):y9 Tryz.prog 223 .fresh [(.int .i64 n_1)] (o5 r):=by
  refine y9.of_awp mixed Tryz.func223 e2x nle ?_
  rw [a0f]
  unfold b1l at hf
  unfold e2w
  refine (show awp Tryz.prog true 0 _ (ofL [(0,(.int .i64 n_1))]) [] _ from ?_)
  refine o6 ?_
  refine a0z ?_
  refine o8 (a1g (j:=0) (c:=(.agg [(.int .i64 0),(.int .i64 0),(.str []),.nil,.nil])) rfl trivial rfl rfl) ?_
  refine a0e ?_
  refine a0h ?_
  refine o6 ?_
  refine a0z ?_
  refine o8 (a2z (.int .i64 n_1) rfl) ?_
  refine o8 (o_q (.agg [(.int .i64 2),(.int .i64 n_1),(.str []),.nil,.nil]) rfl ⟨⟨rfl,nle,trivial⟩,⟨⟨rfl,nle,trivial⟩,trivial⟩⟩ rfl) ?_
  refine a1i (x9 (v:=(.agg [(.int .i64 2),(.int .i64 n_1),(.str []),.nil,.nil])) (y':=(.agg [(.int .i64 2),(.int .i64 n_1),(.str []),.nil,.nil])) rfl rfl rfl trivial ⟨rfl,nle⟩ ⟨⟨rfl,trivial⟩,⟨⟨rfl,trivial⟩,⟨⟨rfl,trivial⟩,⟨⟨rfl,trivial⟩,⟨⟨rfl,trivial⟩,trivial⟩⟩⟩⟩⟩ rfl) ?_
  refine a0e ?_
  refine a0h ?_
  refine a0d ?_
  obtain rfl:=os hf
  exact a1j ⟨nle,trivial⟩ rfl (by decide) (leJ (x:=(⟨2,n_1,[],[],[]⟩:y7)) (.agg (.cons (.refl _) (.cons (.refl _) (.cons (.refl _) (.cons (.nil _) (.cons (.nil _) .nil)))))))

/- impl.jsText -/
def e2y:a0p :=
 (.seq (.reg (tq 2 (.box 5 (.c (.agg [(.int .i64 0),(.int .i64 0),(.str []),.nil,.nil]))) .done))
 (.seq (.reg (tm 3 (.t 0) (tq 4 (.build [(.int .i64 0),(.int .i64 0),(.str []),.nil,.nil] [(0,1,(.c (.int .i64 3))),(2,1,(.t 3))]) (.q ⟨none,none,.store 5 (.t 2) (.t 4)⟩
 .done))))
 .ret))
theorem e2z:a1b Tryz.prog Tryz.f220 = some (e2y.erase,[.load 5 true (.t 2)],5):=by kernel_rfl
def b1t (t_1:Str):Option y7 :=
    some (⟨3,0,t_1,[],[]⟩:y7)
theorem b3v (t_1:Str) (r:y7) (hf:b1t t_1 = some r):y9 Tryz.prog 220 .fresh [(.str t_1)] (o5 r):=by
  refine y9.of_awp mixed Tryz.func220 e2z nle ?_
  rw [a0f]
  unfold b1t at hf
  unfold e2y
  refine (show awp Tryz.prog true 0 _ (ofL [(0,(.str t_1))]) [] _ from ?_)
  refine o6 ?_
  refine a0z ?_
  refine o8 (a1g (j:=0) (c:=(.agg [(.int .i64 0),(.int .i64 0),(.str []),.nil,.nil])) rfl trivial rfl rfl) ?_
  refine a0e ?_
  refine a0h ?_
  refine o6 ?_
  refine a0z ?_
  refine o8 (a2z (.str t_1) rfl) ?_
  refine o8 (o_q (.agg [(.int .i64 3),(.int .i64 0),(.str t_1),.nil,.nil]) rfl ⟨⟨rfl,nle,trivial⟩,⟨⟨rfl,nle,trivial⟩,trivial⟩⟩ rfl) ?_
  refine a1i (x9 (v:=(.agg [(.int .i64 3),(.int .i64 0),(.str t_1),.nil,.nil])) (y':=(.agg [(.int .i64 3),(.int .i64 0),(.str t_1),.nil,.nil])) rfl rfl rfl trivial ⟨rfl,nle⟩ ⟨⟨rfl,trivial⟩,⟨⟨rfl,trivial⟩,⟨⟨rfl,trivial⟩,⟨⟨rfl,trivial⟩,⟨⟨rfl,trivial⟩,trivial⟩⟩⟩⟩⟩ rfl) ?_
  refine a0e ?_
  refine a0h ?_
  refine a0d ?_
  obtain rfl:=os hf
  exact a1j ⟨nle,trivial⟩ rfl (by decide) (leJ (x:=(⟨3,0,t_1,[],[]⟩:y7)) (.agg (.cons (.refl _) (.cons (.refl _) (.cons (.refl _) (.cons (.nil _) (.cons (.nil _) .nil)))))))

/- impl.jsBool -/
def e3a:a0p :=
 (.seq (.reg (tq 2 (.box 5 (.c (.agg [(.int .i64 0),(.int .i64 0),(.str []),.nil,.nil]))) .done))
 (.seq (.seq (.reg (tm 3 (.t 0) .done))
 (.cond (.t 3) (.seq (.reg (tq 4 (.build [(.int .i64 0),(.int .i64 0),(.str []),.nil,.nil] [(0,1,(.c (.int .i64 1))),(1,1,(.c (.int .i64 1)))]) (.q ⟨none,none,.store 5 (.t 2) (.t 4)⟩
 .done)))
 .ret)
 .skip))
 (.seq (.reg (tq 5 (.build [(.int .i64 0),(.int .i64 0),(.str []),.nil,.nil] [(0,1,(.c (.int .i64 1)))]) (.q ⟨none,none,.store 5 (.t 2) (.t 5)⟩
 .done)))
 .ret)))
theorem e3c:a1b Tryz.prog Tryz.f235 = some (e3a.erase,[.load 5 true (.t 2)],6):=by kernel_rfl
def b1u (holds_1:Bool):Option y7 :=
    if holds_1 then
    some (⟨1,1,[],[],[]⟩:y7)
    else
    some (⟨1,0,[],[],[]⟩:y7)
theorem c5v (holds_1:Bool) (r:y7) (hf:b1u holds_1 = some r):y9 Tryz.prog 235 .fresh [(.bool holds_1)] (o5 r):=by
 refine y9.of_awp mixed Tryz.func235 e3c nle ?_;rw [a0f];unfold b1u at hf;unfold e3a;refine (show awp Tryz.prog true 0 _ (ofL [(0,(.bool holds_1))]) [] _ from ?_);refine sr<|o8 (a1g (j:=0) (c:=(.agg [(.int .i64 0),(.int .i64 0),(.str []),.nil,.nil])) rfl trivial rfl rfl)<|dk<|o6<|sr<|l7 (.bool holds_1) rfl<|dk<|?_
 rcases oi hf with ⟨c2,hf⟩ | ⟨c2,hf⟩
 ·refine a0b rfl c2<|sr<|o7 (.agg [(.int .i64 1),(.int .i64 1),(.str []),.nil,.nil]) rfl ⟨⟨rfl,nle,trivial⟩,⟨⟨rfl,nle,trivial⟩,trivial⟩⟩ rfl<|a1i (x9 (v:=(.agg [(.int .i64 1),(.int .i64 1),(.str []),.nil,.nil])) (y':=(.agg [(.int .i64 1),(.int .i64 1),(.str []),.nil,.nil])) rfl rfl rfl trivial ⟨rfl,nle⟩ ⟨⟨rfl,trivial⟩,⟨⟨rfl,trivial⟩,⟨⟨rfl,trivial⟩,⟨⟨rfl,trivial⟩,⟨⟨rfl,trivial⟩,trivial⟩⟩⟩⟩⟩ rfl)<|dk<|a0d<|?_;obtain rfl:=os hf;exact a1j ⟨nle,trivial⟩ rfl (by decide) (leJ (x:=(⟨1,1,[],[],[]⟩:y7)) (.agg (.cons (.refl _) (.cons (.refl _) (.cons (.refl _) (.cons (.nil _) (.cons (.nil _) .nil)))))))
 ·refine a0c rfl (bf c2)<|a0i<|a0h<|sr<|o7 (.agg [(.int .i64 1),(.int .i64 0),(.str []),.nil,.nil]) rfl ⟨⟨rfl,nle,trivial⟩,trivial⟩ rfl<|a1i (x9 (v:=(.agg [(.int .i64 1),(.int .i64 0),(.str []),.nil,.nil])) (y':=(.agg [(.int .i64 1),(.int .i64 0),(.str []),.nil,.nil])) rfl rfl rfl trivial ⟨rfl,nle⟩ ⟨⟨rfl,trivial⟩,⟨⟨rfl,trivial⟩,⟨⟨rfl,trivial⟩,⟨⟨rfl,trivial⟩,⟨⟨rfl,trivial⟩,trivial⟩⟩⟩⟩⟩ rfl)<|dk<|a0d<|?_;obtain rfl:=os hf;exact a1j ⟨nle,trivial⟩ rfl (by decide) (leJ (x:=(⟨1,0,[],[],[]⟩:y7)) (.agg (.cons (.refl _) (.cons (.refl _) (.cons (.refl _) (.cons (.nil _) (.cons (.nil _) .nil)))))))

/- impl.jsList -/
def d3t:a0p :=
 (.seq (.reg (tq 2 (.box 5 (.c (.agg [(.int .i64 0),(.int .i64 0),(.str []),.nil,.nil]))) .done))
 (.seq (.reg (tm 3 (.t 0) (tq 4 (.build [(.int .i64 0),(.int .i64 0),(.str []),.nil,.nil] [(0,1,(.c (.int .i64 4))),(4,1,(.t 3))]) (.q ⟨none,none,.store 5 (.t 2) (.t 4)⟩
 .done))))
 .ret))
theorem d7t:a1b Tryz.prog Tryz.f222 = some (d3t.erase,[.load 5 true (.t 2)],5):=by kernel_rfl
def a8p (list_1:(List y7)):Option y7 :=
    some (⟨4,0,[],[],list_1⟩:y7)
theorem c0y (list_1:(List y7)) (r:y7) (hf:a8p list_1 = some r):a0j Tryz.prog true 222 [(.own 0 0 list_1.length)] [.row 5 (list_1.map o5)] (.agg [(.int .i64 r.Kind),(.int .i64 r.N),(.str r.T),(.own 1 0 r.Keys.length),(.own 2 0 r.Items.length)]) [.dead,.row 1 (r.Keys.map AV.str),.row 5 (r.Items.map o5)]:=by
 refine a0j.of_awp mixed Tryz.func222 d7t nle ?_;rw [a0f];unfold a8p at hf;unfold d3t;refine (show awp Tryz.prog true 1 _ (ofL [(0,(.own 0 0 list_1.length))]) [.row 5 (list_1.map o5)] _ from ?_);refine sr<|o8 (a1g (j:=1) (c:=(.agg [(.int .i64 0),(.int .i64 0),(.str []),.nil,.nil])) rfl trivial rfl rfl)<|dk<|sr<|l7 (.own 0 0 list_1.length) rfl<|o7 (.agg [(.int .i64 4),(.int .i64 0),(.str []),.nil,(.own 0 0 list_1.length)]) rfl ⟨⟨rfl,nle,trivial⟩,⟨⟨rfl,nle,trivial⟩,trivial⟩⟩ rfl<|a1i (x9 (v:=(.agg [(.int .i64 4),(.int .i64 0),(.str []),.nil,(.own 0 0 list_1.length)])) (y':=(.agg [(.int .i64 4),(.int .i64 0),(.str []),.nil,(.own 0 0 list_1.length)])) rfl rfl rfl trivial ⟨rfl,nle⟩ ⟨⟨rfl,trivial⟩,⟨⟨rfl,trivial⟩,⟨⟨rfl,trivial⟩,⟨⟨rfl,trivial⟩,⟨⟨rfl,trivial⟩,trivial⟩⟩⟩⟩⟩ rfl)<|?_
 refine dk<|a0d<|?_;obtain rfl:=os hf;exact a3a [.nilC 1 3 1,.mv 0] [0,2,3] rfl ⟨nle,trivial⟩ rfl (.refl _) (.refl _)

/- impl.atomJson -/
def e3d:a0p :=
 (.seq (.reg (tq 1 (.box 3 (.t 0)) (tq 2 (.box 5 (.c (.agg [(.int .i64 0),(.int .i64 0),(.str []),.nil,.nil]))) .done)))
 (.seq (.seq (.reg (tq 3 (.faddr 0 (.t 1)) (tq 4 (.load 1 false (.t 3)) .done)))
 (.block 0 (.seq (.reg (tq 6 (.bin .eql (.t 4) (.c (.int .i64 1))) (tm 5 (.t 6) .done)))
 (.cond (.t 5) (.seq (.reg (tq 7 (.faddr 1 (.t 1)) (tq 8 (.load 1 false (.t 7)) (tq 9 (.call 223 [(.t 8)]) (.q ⟨none,none,.store 5 (.t 2) (.t 9)⟩
 .done)))))
 .ret)
 (.seq (.reg (tq 11 (.bin .eql (.t 4) (.c (.int .i64 2))) (tm 10 (.t 11) .done)))
 (.cond (.t 10) (.seq (.reg (tq 12 (.faddr 2 (.t 1)) (tq 13 (.load 1 false (.t 12)) (tq 14 (.call 220 [(.t 13)]) (.q ⟨none,none,.store 5 (.t 2) (.t 14)⟩
 .done)))))
 .ret)
 (.seq (.reg (tq 16 (.bin .eql (.t 4) (.c (.int .i64 3))) (tm 15 (.t 16) .done)))
 (.cond (.t 15) (.seq (.reg (tq 17 (.faddr 1 (.t 1)) (tq 18 (.load 1 false (.t 17)) (tq 19 (.bin .eql (.t 18) (.c (.int .i64 1))) (tq 20 (.call 235 [(.t 19)]) (.q ⟨none,none,.store 5 (.t 2) (.t 20)⟩
 .done))))))
 .ret)
 .skip))))))))
 (.seq (.reg (tq 22 (.faddr 1 (.t 1)) (tq 23 (.load 1 false (.t 22)) (.l ⟨(some 21),none,.call 220 [(.c (.str [117,117,105,100]))]⟩ [⟨(some 23),none,.load 1 false (.t 22)⟩,⟨(some 22),none,.faddr 1 (.t 1)⟩]
 (.l ⟨(some 24),none,.call 223 [(.t 23)]⟩ []
 (.l ⟨(some 25),none,.bslice 5 [(.t 21),(.t 24)]⟩ []
 (.l ⟨(some 26),none,.call 222 [(.t 25)]⟩ []
 (.l ⟨none,none,.store 5 (.t 2) (.t 26)⟩ []
 .done .non) .non) .non) .non) .non))))
 .ret)))
theorem e3e:a1b Tryz.prog Tryz.f136 = some (e3d.erase,[.load 5 true (.t 2)],27):=by kernel_rfl
def a5r (a_1:x8):Option y7 :=
    if (a_1.Kind == 1) then
    (b1l a_1.N).bind fun r_3 =>
    some r_3
    else
    if (a_1.Kind == 2) then
    (b1t a_1.T).bind fun r_6 =>
    some r_6
    else
    if (a_1.Kind == 3) then
    (b1u (a_1.N == 1)).bind fun r_9 =>
    some r_9
    else
    (b1t [117,117,105,100]).bind fun r_11 =>
    (b1l a_1.N).bind fun r_13 =>
    (a8p [r_11,r_13]).bind fun r_15 =>
    some r_15
theorem b5g (a_1:x8) (r:y7) (hf:a5r a_1 = some r):y9 Tryz.prog 136 .fresh [(l9 a_1)] (o5 r):=by
 refine y9.of_awp mixed Tryz.func136 e3e nle ?_;rw [a0f];unfold a5r at hf;unfold e3d;refine (show awp Tryz.prog true 0 _ (ofL [(0,(l9 a_1))]) [] _ from ?_);refine sr<|o8 (a1g (j:=0) (c:=(.agg [(.int .i64 a_1.Kind),(.int .i64 a_1.N),(.str a_1.T)])) rfl trivial rfl rfl)<|o8 (a1g (j:=1) (c:=(.agg [(.int .i64 0),(.int .i64 0),(.str []),.nil,.nil])) rfl trivial rfl rfl)<|dk<|o6<|sr<|o7 (.ptr 0 0 0) rfl trivial rfl<|o7 (.int .i64 a_1.Kind) rfl nle rfl<|dk<|a3s<|sr<|o7 (.bool (a_1.Kind == 1)) rfl rfl rfl<|l7 (.bool (a_1.Kind == 1)) rfl<|dk<|?_
 rcases oi hf with ⟨c2,hf⟩ | ⟨c2,hf⟩
 ·refine a0b rfl c2<|sr<|?_
  obtain ⟨r_3,er4,hf⟩:=ob hf
  refine o7 (.ptr 0 0 1) rfl trivial rfl<|o7 (.int .i64 a_1.N) rfl nle rfl<|o8 (a3j (v:=(.agg [(.int .i64 r_3.Kind),(.int .i64 r_3.N),(.str r_3.T),(.own 2 0 r_3.Keys.length),(.own 3 0 r_3.Items.length)])) (h':=[.row 1 (r_3.Keys.map AV.str),.row 5 (r_3.Items.map o5)]) (b5f _ _ er4) rfl (.refl _) (by simp only [a2b,a2c,List.length_map,y8,List.nil_append,List.append_nil,List.cons_append];rfl))<|a1i (x9 (v:=(.agg [(.int .i64 r_3.Kind),(.int .i64 r_3.N),(.str r_3.T),(.own 2 0 r_3.Keys.length),(.own 3 0 r_3.Items.length)])) (y':=(.agg [(.int .i64 r_3.Kind),(.int .i64 r_3.N),(.str r_3.T),(.own 2 0 r_3.Keys.length),(.own 3 0 r_3.Items.length)])) rfl rfl rfl trivial ⟨rfl,nle⟩ ⟨⟨rfl,trivial⟩,⟨⟨rfl,trivial⟩,⟨⟨rfl,trivial⟩,⟨⟨rfl,trivial⟩,⟨⟨rfl,trivial⟩,trivial⟩⟩⟩⟩⟩ rfl)<|?_
  refine dk<|a0d<|?_;obtain rfl:=os hf;exact a1j ⟨nle,trivial⟩ rfl (by decide) (leJ (x:=r_3) (.agg (.cons (.refl _) (.cons (.refl _) (.cons (.refl _) (.cons (.of_eq (congrArg (AV.lst _) (tk (enc:=AV.str) r_3.Keys))) (.cons (.of_eq (congrArg (AV.lst _) (tk (enc:=o5) r_3.Items))) .nil)))))))
 ·refine a0c rfl (bf c2)<|sr<|o7 (.bool (a_1.Kind == 2)) rfl rfl rfl<|l7 (.bool (a_1.Kind == 2)) rfl<|dk<|?_
  rcases oi hf with ⟨c5,hf⟩ | ⟨c5,hf⟩
  ·refine a0b rfl c5<|sr<|?_
   obtain ⟨r_6,er7,hf⟩:=ob hf
   refine o7 (.ptr 0 0 2) rfl trivial rfl<|o7 (.str a_1.T) rfl nle rfl<|o8 (a3j (v:=(.agg [(.int .i64 r_6.Kind),(.int .i64 r_6.N),(.str r_6.T),(.own 2 0 r_6.Keys.length),(.own 3 0 r_6.Items.length)])) (h':=[.row 1 (r_6.Keys.map AV.str),.row 5 (r_6.Items.map o5)]) (b3v _ _ er7) rfl (.refl _) (by simp only [a2b,a2c,List.length_map,y8,List.nil_append,List.append_nil,List.cons_append];rfl))<|a1i (x9 (v:=(.agg [(.int .i64 r_6.Kind),(.int .i64 r_6.N),(.str r_6.T),(.own 2 0 r_6.Keys.length),(.own 3 0 r_6.Items.length)])) (y':=(.agg [(.int .i64 r_6.Kind),(.int .i64 r_6.N),(.str r_6.T),(.own 2 0 r_6.Keys.length),(.own 3 0 r_6.Items.length)])) rfl rfl rfl trivial ⟨rfl,nle⟩ ⟨⟨rfl,trivial⟩,⟨⟨rfl,trivial⟩,⟨⟨rfl,trivial⟩,⟨⟨rfl,trivial⟩,⟨⟨rfl,trivial⟩,trivial⟩⟩⟩⟩⟩ rfl)<|?_
   refine dk<|a0d<|?_;obtain rfl:=os hf;exact a1j ⟨nle,trivial⟩ rfl (by decide) (leJ (x:=r_6) (.agg (.cons (.refl _) (.cons (.refl _) (.cons (.refl _) (.cons (.of_eq (congrArg (AV.lst _) (tk (enc:=AV.str) r_6.Keys))) (.cons (.of_eq (congrArg (AV.lst _) (tk (enc:=o5) r_6.Items))) .nil)))))))
  ·refine a0c rfl (bf c5)<|sr<|o7 (.bool (a_1.Kind == 3)) rfl rfl rfl<|l7 (.bool (a_1.Kind == 3)) rfl<|dk<|?_
   rcases oi hf with ⟨c8,hf⟩ | ⟨c8,hf⟩
   ·refine a0b rfl c8<|sr<|?_
    obtain ⟨r_9,er10,hf⟩:=ob hf
    refine o7 (.ptr 0 0 1) rfl trivial rfl<|o7 (.int .i64 a_1.N) rfl nle rfl<|o7 (.bool (a_1.N == 1)) rfl rfl rfl<|o8 (a3j (v:=(.agg [(.int .i64 r_9.Kind),(.int .i64 r_9.N),(.str r_9.T),(.own 2 0 r_9.Keys.length),(.own 3 0 r_9.Items.length)])) (h':=[.row 1 (r_9.Keys.map AV.str),.row 5 (r_9.Items.map o5)]) (c5v _ _ er10) rfl (.refl _) (by simp only [a2b,a2c,List.length_map,y8,List.nil_append,List.append_nil,List.cons_append];rfl))<|a1i (x9 (v:=(.agg [(.int .i64 r_9.Kind),(.int .i64 r_9.N),(.str r_9.T),(.own 2 0 r_9.Keys.length),(.own 3 0 r_9.Items.length)])) (y':=(.agg [(.int .i64 r_9.Kind),(.int .i64 r_9.N),(.str r_9.T),(.own 2 0 r_9.Keys.length),(.own 3 0 r_9.Items.length)])) rfl rfl rfl trivial ⟨rfl,nle⟩ ⟨⟨rfl,trivial⟩,⟨⟨rfl,trivial⟩,⟨⟨rfl,trivial⟩,⟨⟨rfl,trivial⟩,⟨⟨rfl,trivial⟩,trivial⟩⟩⟩⟩⟩ rfl)<|?_
    refine dk<|a0d<|?_;obtain rfl:=os hf;exact a1j ⟨nle,trivial⟩ rfl (by decide) (leJ (x:=r_9) (.agg (.cons (.refl _) (.cons (.refl _) (.cons (.refl _) (.cons (.of_eq (congrArg (AV.lst _) (tk (enc:=AV.str) r_9.Keys))) (.cons (.of_eq (congrArg (AV.lst _) (tk (enc:=o5) r_9.Items))) .nil)))))))
   ·refine a0c rfl (bf c8)<|a0i<|a3l<|a0h<|sr<|?_
    obtain ⟨r_11,er12,hf⟩:=ob hf
    obtain ⟨r_13,er14,hf⟩:=ob hf
    obtain ⟨r_15,er16,hf⟩:=ob hf
    refine o7 (.ptr 0 0 1) rfl trivial rfl<|o7 (.int .i64 a_1.N) rfl nle rfl<|a1r (a3j (v:=(.agg [(.int .i64 r_11.Kind),(.int .i64 r_11.N),(.str r_11.T),(.own 2 0 r_11.Keys.length),(.own 3 0 r_11.Items.length)])) (h':=[.row 1 (r_11.Keys.map AV.str),.row 5 (r_11.Items.map o5)]) (b3v _ _ er12) rfl (.refl _) (by simp only [a2b,a2c,List.length_map,y8,List.nil_append,List.append_nil,List.cons_append];rfl)) (.inr ⟨⟨nle,rfl⟩,⟨⟨trivial,rfl⟩,trivial⟩⟩) trivial<|a1r (a3j (v:=(.agg [(.int .i64 r_13.Kind),(.int .i64 r_13.N),(.str r_13.T),(.own 4 0 r_13.Keys.length),(.own 5 0 r_13.Items.length)])) (h':=[.row 1 (r_13.Keys.map AV.str),.row 5 (r_13.Items.map o5)]) (b5f _ _ er14) rfl (.refl _) (by simp only [a2b,a2c,List.length_map,y8,List.nil_append,List.append_nil,List.cons_append];rfl)) trivial trivial<|?_
    refine a1r (a1c (j:=6) (as':=[(o5 r_11),(o5 r_13)]) rfl (fun _ => by decide) ⟨rfl,⟨rfl,trivial⟩⟩ (.cons (leJ (x:=r_11) (.agg (.cons (.refl _) (.cons (.refl _) (.cons (.refl _) (.cons (.of_eq (congrArg (AV.lst _) (tk (enc:=AV.str) r_11.Keys))) (.cons (.of_eq (congrArg (AV.lst _) (tk (enc:=o5) r_11.Items))) .nil))))))) (.cons (leJ (x:=r_13) (.agg (.cons (.refl _) (.cons (.refl _) (.cons (.refl _) (.cons (.of_eq (congrArg (AV.lst _) (tk (enc:=AV.str) r_13.Keys))) (.cons (.of_eq (congrArg (AV.lst _) (tk (enc:=o5) r_13.Items))) .nil))))))) .nil)) rfl rfl rfl) trivial trivial ?_;refine a1r (a3e (v:=(.agg [(.int .i64 r_15.Kind),(.int .i64 r_15.N),(.str r_15.T),(.own 7 0 r_15.Keys.length),(.own 8 0 r_15.Items.length)])) (h2:=[.box 3 (.agg [(.int .i64 a_1.Kind),(.int .i64 a_1.N),(.str a_1.T)]),.box 5 (.agg [(.int .i64 0),(.int .i64 0),(.str []),.nil,.nil]),.dead,.dead,.dead,.dead,.dead,.row 1 (r_15.Keys.map AV.str),.row 5 (r_15.Items.map o5)]) [] [6] (fun _ => rfl) (c0y _ _ er16) rfl (.cons (.of_eq (congrArg (AV.own _ 0) (by simp))) .nil) (.refl _) rfl rfl) trivial trivial ?_
    refine a6g (x9 (v:=(.agg [(.int .i64 r_15.Kind),(.int .i64 r_15.N),(.str r_15.T),(.own 7 0 r_15.Keys.length),(.own 8 0 r_15.Items.length)])) (y':=(.agg [(.int .i64 r_15.Kind),(.int .i64 r_15.N),(.str r_15.T),(.own 7 0 r_15.Keys.length),(.own 8 0 r_15.Items.length)])) rfl rfl rfl trivial ⟨rfl,nle⟩ ⟨⟨rfl,trivial⟩,⟨⟨rfl,trivial⟩,⟨⟨rfl,trivial⟩,⟨⟨rfl,trivial⟩,⟨⟨rfl,trivial⟩,trivial⟩⟩⟩⟩⟩ rfl) trivial trivial<|dk<|a0d<|?_;obtain rfl:=os hf;exact a1j ⟨nle,trivial⟩ rfl (by decide) (leJ (x:=r_15) (.agg (.cons (.refl _) (.cons (.refl _) (.cons (.refl _) (.cons (.of_eq (congrArg (AV.lst _) (tk (enc:=AV.str) r_15.Keys))) (.cons (.of_eq (congrArg (AV.lst _) (tk (enc:=o5) r_15.Items))) .nil)))))))

/- impl.jsList -/
def d3u:a0p :=
 (.seq (.reg (tq 2 (.box 5 (.c (.agg [(.int .i64 0),(.int .i64 0),(.str []),.nil,.nil]))) .done))
 (.seq (.reg (tm 3 (.t 0) (tq 4 (.build [(.int .i64 0),(.int .i64 0),(.str []),.nil,.nil] [(0,1,(.c (.int .i64 4))),(4,1,(.t 3))]) (.q ⟨none,none,.store 5 (.t 2) (.t 4)⟩
 .done))))
 .ret))
theorem d7u:a1b Tryz.prog Tryz.f222 = some (d3u.erase,[.load 5 true (.t 2)],5):=by kernel_rfl
def b0j (list_1:(List y7)):Option y7 :=
    some (⟨4,0,[],[],list_1⟩:y7)
theorem b4e (list_1:(List y7)) (r:y7) (hf:b0j list_1 = some r):a0j Tryz.prog ⟨true,true,false⟩ 222 [(.own 0 0 list_1.length)] [.row 5 (list_1.map o5)] (.agg [(.int .i64 r.Kind),(.int .i64 r.N),(.str r.T),(.own 1 0 r.Keys.length),(.own 2 0 r.Items.length)]) [.dead,.row 1 (r.Keys.map AV.str),.row 5 (r.Items.map o5)]:=by
 refine a0j.of_awp mixed Tryz.func222 d7u nle ?_;rw [a0f];unfold b0j at hf;unfold d3u;refine (show awp Tryz.prog ⟨true,true,false⟩ 1 _ (ofL [(0,(.own 0 0 list_1.length))]) [.row 5 (list_1.map o5)] _ from ?_);refine sr<|o8 (a1g (j:=1) (c:=(.agg [(.int .i64 0),(.int .i64 0),(.str []),.nil,.nil])) rfl trivial rfl rfl)<|dk<|sr<|l7 (.own 0 0 list_1.length) rfl<|o7 (.agg [(.int .i64 4),(.int .i64 0),(.str []),.nil,(.own 0 0 list_1.length)]) rfl (.of ⟨⟨rfl,nle,trivial⟩,⟨⟨rfl,nle,trivial⟩,trivial⟩⟩ trivial) rfl<|a1i (x9 (v:=(.agg [(.int .i64 4),(.int .i64 0),(.str []),.nil,(.own 0 0 list_1.length)])) (y':=(.agg [(.int .i64 4),(.int .i64 0),(.str []),.nil,(.own 0 0 list_1.length)])) rfl rfl rfl trivial ⟨rfl,nle⟩ ⟨⟨rfl,trivial⟩,⟨⟨rfl,trivial⟩,⟨⟨rfl,trivial⟩,⟨⟨rfl,trivial⟩,⟨⟨rfl,trivial⟩,trivial⟩⟩⟩⟩⟩ rfl)<|?_
 refine dk<|a0d<|?_;obtain rfl:=os hf;exact a3a [.nilC 1 3 1,.mv 0] [0,2,3] rfl ⟨.of nle trivial,trivial⟩ rfl (.refl _) (.refl _)

/- impl.datumJson -/
def c130:a0p :=
 (.seq (.reg (tq 2 (.box 5 (.c (.agg [(.int .i64 0),(.int .i64 0),(.str []),.nil,.nil]))) .done))
 (.seq (.reg (tq 6 (.bslice 5 []) (tm 3 (.t 6) .done)))
 (.seq (.seq (.reg (tm 7 (.t 0) (tq 8 (.len (.t 7)) (tm 9 (.c (.int .i64 0)) .done))))
 (.block 0 (.loop (.seq (.reg (tq 10 (.bin .lss (.t 9) (.t 8)) .done))
 (.seq (.cond (.t 10) .skip
 (.exit 0))
 (.seq (.block 1 (.seq (.reg (tq 11 (.iaddr 3 (.t 7) (.t 9)) (tq 12 (.load 3 true (.t 11)) (tq 5 (.box 3 (.c (.agg [(.int .i64 0),(.int .i64 0),(.str [])]))) (.q ⟨none,none,.store 3 (.t 5) (.t 12)⟩
 .done)))))
 (.reg (tm 13 (.t 3) (tq 14 (.load 3 true (.t 5)) (tq 15 (.call 136 [(.t 14)]) (tq 16 (.bslice 5 [(.t 15)]) (tq 17 (.append 5 80 (.t 13) (.t 16)) (tm 3 (.t 17) .done)))))))))
 (.reg (tq 18 (.bin .add (.t 9) (.c (.int .i64 1))) (tm 9 (.t 18) .done)))))))))
 (.cut (.seq (.seq (.reg (tm 19 (.t 3) (tq 20 (.len (.t 19)) (tq 21 (.bin .eql (.t 20) (.c (.int .i64 1))) .done))))
 (.cond (.t 21) (.seq (.rev (.reg (tm 22 (.t 3) (tq 23 (.iaddr 5 (.t 22) (.c (.int .i64 0))) (tq 24 (.load 5 true (.t 23)) (.q ⟨none,none,.store 5 (.t 2) (.t 24)⟩
 .done))))))
 .ret)
 .skip))
 (.seq (.reg (tq 25 (.call 220 [(.c (.str [115,101,116]))]) (tm 26 (.t 3) (tq 27 (.call 222 [(.t 26)]) (tq 28 (.bslice 5 [(.t 25),(.t 27)]) (tq 29 (.call 222 [(.t 28)]) (.q ⟨none,none,.store 5 (.t 2) (.t 29)⟩
 .done)))))))
 .ret))))))
theorem e3f:a1b Tryz.prog Tryz.f130 = some (c130.erase,[.load 5 true (.t 2)],30):=by kernel_rfl
def a1y :List x8 → (List y7) → Option (List y7)
  | [],items_18 =>
    some items_18
  | x_33 :: xs,items_18 =>
    (a5r x_33).bind fun r_34 =>
    if (items_18 ++ [r_34]).length ≤ 2 ^ 30 then
    a1y xs  (items_18 ++ [r_34])
    else none

def a2y (d_1:(List x8)):Option y7 :=
    (a1y d_1 []).bind fun items_25 =>
    if ((items_25.length:Int) == 1) then
    ((items_25[0]?)).bind fun x_40 =>
    if 0 < items_25.length then
    some x_40
    else none
    else
    (b1t [115,101,116]).bind fun r_43 =>
    (b0j items_25).bind fun r_45 =>
    (b0j [r_43,r_45]).bind fun r_47 =>
    some r_47
theorem b4f (d_1:(List x8)) (r:y7) (hf:a2y d_1 = some r):y9 Tryz.prog 130 .fresh [(.lst 3 (d_1.map l9))] (o5 r):=by
 refine y9.of_awp' (md:=⟨true,true,true⟩) (fun _ => rfl) (fun _ => rfl) (fun h => by cases h) mixed Tryz.func130 e3f nle ?_;rw [a0f];unfold a2y at hf;unfold c130;refine (show awp Tryz.prog ⟨true,true,true⟩ 0 _ (ofL [(0,(.lst 3 (d_1.map l9)))]) [] _ from ?_);refine sr<|o8 (a1g (j:=0) (c:=(.agg [(.int .i64 0),(.int .i64 0),(.str []),.nil,.nil])) rfl trivial rfl rfl)<|dk<|sr<|?_;refine o8 (a1c (j:=1) (as':=[]) rfl (fun _ => by decide) trivial (.refl _) rfl rfl rfl) ?_;refine l7 (.own 1 0 0) rfl<|dk<|o6<|sr<|l7 (.lst 3 (d_1.map l9)) rfl<|a1n (a3d (enc:=l9) rfl) fun hl2 => ?_
 refine l7 (.int .i64 0) rfl<|dk<|?_
 obtain ⟨items_25,hb1,hf⟩:=ob hf
 refine a2v ([(2,(.ptr 0 0 0)),(3,(.own 1 0 items_25.length))],[.box 5 (.agg [(.int .i64 0),(.int .i64 0),(.str []),.nil,.nil]),.row 5 (items_25.map o5)]) ?_ ?_
 ·refine a1v (X:={q:(Nat × (List y7)) // a1y (d_1.drop q.1) q.2 = some items_25}) (fun q => ([(2,(.ptr 0 0 0)),(3,(.own 1 0 q.1.2.length)),(7,(.lst 3 (d_1.map l9))),(8,(.int .i64 (d_1.length:Int))),(9,(.int .i64 (q.1.1:Int)))],[.box 5 (.agg [(.int .i64 0),(.int .i64 0),(.str []),.nil,.nil]),.row 5 (q.1.2.map o5)])) (fun q => d_1.length - q.1.1) ⟨(0,[]),hb1⟩ ⟨[],[0,1],_,_,rfl,rfl,⟨.refl _,⟨.of_eq (congrArg (AV.own _ 0) (by simp)),⟨.refl _,⟨.refl _,⟨.refl _,trivial⟩⟩⟩⟩⟩,(.refl _)⟩ ?_
  rintro ⟨⟨s9_17,items_18⟩,hc1⟩
  have hc1:a1y (d_1.drop s9_17) items_18 = some items_25:=hc1
  refine (show awp Tryz.prog ⟨true,true,true⟩ 0 _ (ofL [(2,(.ptr 0 0 0)),(3,(.own 1 0 items_18.length)),(7,(.lst 3 (d_1.map l9))),(8,(.int .i64 (d_1.length:Int))),(9,(.int .i64 (s9_17:Int)))]) [.box 5 (.agg [(.int .i64 0),(.int .i64 0),(.str []),.nil,.nil]),.row 5 (items_18.map o5)] _ from ?_)
  rcases a7j d_1 s9_17 with ⟨hie29,hd32⟩ | ⟨hlt27,x_33,hx28,hd32⟩
  ·rw [hd32,a1y.eq_1] at hc1
   have hq31:=dlf hie29
   refine sr<|o7 (.bool (decide ((s9_17:Int) < (d_1.length:Int)))) rfl (.of rfl trivial) rfl<|dk<|o6<|a0c rfl hq31<|a4b<|a4a<|a2w<|a3z<|?_;obtain rfl:=os hc1;exact ⟨[],[0,1],_,_,rfl,rfl,⟨.refl _,⟨.refl _,trivial⟩⟩,(.refl _)⟩
  ·rw [hd32,a1y.eq_2] at hc1
   have hq31:=dlt hlt27
   refine sr<|o7 (.bool (decide ((s9_17:Int) < (d_1.length:Int)))) rfl (.of rfl trivial) rfl<|dk<|o6<|a0b rfl hq31<|a0i<|a0h<|o6<|a3s<|sr<|o8 (a3o (enc:=l9) rfl rfl hx28)<|o7 (l9 x_33) rfl (.of nle trivial) rfl<|o8 (a1g (j:=2) (c:=(.agg [(.int .i64 0),(.int .i64 0),(.str [])])) rfl trivial rfl rfl)<|a1i (x9 (v:=(.agg [(.int .i64 x_33.Kind),(.int .i64 x_33.N),(.str x_33.T)])) (y':=(.agg [(.int .i64 x_33.Kind),(.int .i64 x_33.N),(.str x_33.T)])) rfl rfl rfl trivial ⟨rfl,nle⟩ ⟨⟨rfl,trivial⟩,⟨⟨rfl,trivial⟩,⟨⟨rfl,trivial⟩,trivial⟩⟩⟩ rfl)<|dk<|a0z<|?_
   obtain ⟨r_34,er35,hc1⟩:=ob hc1
   obtain ⟨g36,hc1⟩:=og hc1
   refine l7 (.own 1 0 items_18.length) rfl<|o7 (.agg [(.int .i64 x_33.Kind),(.int .i64 x_33.N),(.str x_33.T)]) rfl (.of nle trivial) rfl<|o8 (a3j (v:=(.agg [(.int .i64 r_34.Kind),(.int .i64 r_34.N),(.str r_34.T),(.own 3 0 r_34.Keys.length),(.own 4 0 r_34.Items.length)])) (h':=[.row 1 (r_34.Keys.map AV.str),.row 5 (r_34.Items.map o5)]) (b5g _ _ er35) rfl (.refl _) (by simp only [a2b,a2c,List.length_map,y8,List.nil_append,List.append_nil,List.cons_append];rfl))<|?_;refine o8 (a1c (j:=5) (as':=[(o5 r_34)]) rfl (fun _ => by decide) ⟨rfl,trivial⟩ (.cons (leJ (x:=r_34) (.agg (.cons (.refl _) (.cons (.refl _) (.cons (.refl _) (.cons (.of_eq (congrArg (AV.lst _) (tk (enc:=AV.str) r_34.Keys))) (.cons (.of_eq (congrArg (AV.lst _) (tk (enc:=o5) r_34.Items))) .nil))))))) .nil) rfl rfl rfl) ?_
   refine o8 (a2a (j:=6) (L:=((items_18 ++ [r_34]).map o5)) (len:=(items_18 ++ [r_34]).length) rfl true rfl rfl (fun h => Bool.noConfusion h) (fun _ _ h => (b7c (show AV.own _ _ _ = AV.lst _ _ from h)).elim) (by decide) (c5s (enc:=o5) items_18 [r_34] _ (by rfl)) (by simp <;> omega) g36 rfl rfl) ?_
   refine l7 (.own 6 0 ((items_18 ++ [r_34]).length)) rfl<|a0e<|a3l<|a0h<|a0z<|o7 (.int .i64 (w64 ((s9_17:Int) + 1))) rfl (.of rfl trivial) rfl<|l7 (.int .i64 (w64 ((s9_17:Int) + 1))) rfl<|a0e<|?_;exact a2p ⟨((s9_17 + 1),items_18 ++ [r_34]),hc1⟩ (mul hlt27) ⟨[],[0,6],_,_,rfl,rfl,⟨.refl _,⟨.refl _,⟨.refl _,⟨.refl _,⟨.of_eq (congrArg (AV.int _) (a3h hlt27 hl2)),trivial⟩⟩⟩⟩⟩,(.refl _)⟩
 ·refine o6<|sr<|l7 (.own 1 0 items_25.length) rfl<|a1n (a6h rfl rfl) fun hl37 => o7 (.bool ((items_25.length:Int) == 1)) rfl (.of rfl trivial) rfl<|dk<|?_
  rcases oi hf with ⟨c38,hf⟩ | ⟨c38,hf⟩
  ·refine a0b rfl c38<|o6<|?_
   obtain ⟨x_40,ex41,hf⟩:=ob hf
   refine e1w (o:=1) (i:=0) (el:=(.agg [(.int .i64 x_40.Kind),(.int .i64 x_40.N),(.str x_40.T),(.lst 1 (x_40.Keys.map AV.str)),(.lst 5 (x_40.Items.map o5))])) (el2:=(.agg [(.int .i64 x_40.Kind),(.int .i64 x_40.N),(.str x_40.T),(.own 2 0 x_40.Keys.length),(.own 3 0 x_40.Items.length)])) (xs:=[.row 1 (x_40.Keys.map AV.str),.row 5 (x_40.Items.map o5)]) rfl rfl rfl ex41 (y8 _) (by simp only [AV.cells,a2c,a2b,List.length_map,List.nil_append,List.append_nil,List.cons_append];rfl)<|a0z<|?_
   obtain ⟨g42,hf⟩:=og hf
   refine l7 (.own 1 0 items_25.length) rfl<|o8 (d5i rfl rfl g42 rfl rfl)<|o8 (d9s rfl rfl nle rfl)<|a1i (x9 (v:=(.agg [(.int .i64 x_40.Kind),(.int .i64 x_40.N),(.str x_40.T),(.own 2 0 x_40.Keys.length),(.own 3 0 x_40.Items.length)])) (y':=(.agg [(.int .i64 x_40.Kind),(.int .i64 x_40.N),(.str x_40.T),(.own 2 0 x_40.Keys.length),(.own 3 0 x_40.Items.length)])) rfl rfl rfl trivial ⟨rfl,nle⟩ ⟨⟨rfl,trivial⟩,⟨⟨rfl,trivial⟩,⟨⟨rfl,trivial⟩,⟨⟨rfl,trivial⟩,⟨⟨rfl,trivial⟩,trivial⟩⟩⟩⟩⟩ rfl)<|dk<|a0d<|?_;obtain rfl:=os hf;exact a1j ⟨.of nle trivial,trivial⟩ rfl (by decide) (leJ (x:=x_40) (.agg (.cons (.refl _) (.cons (.refl _) (.cons (.refl _) (.cons (.of_eq (congrArg (AV.lst _) (tk (enc:=AV.str) x_40.Keys))) (.cons (.of_eq (congrArg (AV.lst _) (tk (enc:=o5) x_40.Items))) .nil)))))))
  ·refine a0c rfl (bf c38)<|a0i<|a0h<|sr<|?_
   obtain ⟨r_43,er44,hf⟩:=ob hf
   obtain ⟨r_45,er46,hf⟩:=ob hf
   obtain ⟨r_47,er48,hf⟩:=ob hf
   refine o8 (a3j (v:=(.agg [(.int .i64 r_43.Kind),(.int .i64 r_43.N),(.str r_43.T),(.own 2 0 r_43.Keys.length),(.own 3 0 r_43.Items.length)])) (h':=[.row 1 (r_43.Keys.map AV.str),.row 5 (r_43.Items.map o5)]) (b3v _ _ er44) rfl (.refl _) (by simp only [a2b,a2c,List.length_map,y8,List.nil_append,List.append_nil,List.cons_append];rfl))<|l7 (.own 1 0 items_25.length) rfl<|?_;refine o8 (a3e (v:=(.agg [(.int .i64 r_45.Kind),(.int .i64 r_45.N),(.str r_45.T),(.own 4 0 r_45.Keys.length),(.own 5 0 r_45.Items.length)])) (h2:=[.box 5 (.agg [(.int .i64 0),(.int .i64 0),(.str []),.nil,.nil]),.dead,.row 1 (r_43.Keys.map AV.str),.row 5 (r_43.Items.map o5),.row 1 (r_45.Keys.map AV.str),.row 5 (r_45.Items.map o5)]) [] [1] (fun _ => rfl) (b4e _ _ er46) rfl (.refl _) (.refl _) rfl rfl) ?_
   refine o8 (a1c (j:=6) (as':=[(o5 r_43),(o5 r_45)]) rfl (fun _ => by decide) ⟨rfl,⟨rfl,trivial⟩⟩ (.cons (leJ (x:=r_43) (.agg (.cons (.refl _) (.cons (.refl _) (.cons (.refl _) (.cons (.of_eq (congrArg (AV.lst _) (tk (enc:=AV.str) r_43.Keys))) (.cons (.of_eq (congrArg (AV.lst _) (tk (enc:=o5) r_43.Items))) .nil))))))) (.cons (leJ (x:=r_45) (.agg (.cons (.refl _) (.cons (.refl _) (.cons (.refl _) (.cons (.of_eq (congrArg (AV.lst _) (tk (enc:=AV.str) r_45.Keys))) (.cons (.of_eq (congrArg (AV.lst _) (tk (enc:=o5) r_45.Items))) .nil))))))) .nil)) rfl rfl rfl) ?_;refine o8 (a3e (v:=(.agg [(.int .i64 r_47.Kind),(.int .i64 r_47.N),(.str r_47.T),(.own 7 0 r_47.Keys.length),(.own 8 0 r_47.Items.length)])) (h2:=[.box 5 (.agg [(.int .i64 0),(.int .i64 0),(.str []),.nil,.nil]),.dead,.dead,.dead,.dead,.dead,.dead,.row 1 (r_47.Keys.map AV.str),.row 5 (r_47.Items.map o5)]) [] [6] (fun _ => rfl) (b4e _ _ er48) rfl (.cons (.of_eq (congrArg (AV.own _ 0) (by simp))) .nil) (.refl _) rfl rfl) ?_
   refine a1i (x9 (v:=(.agg [(.int .i64 r_47.Kind),(.int .i64 r_47.N),(.str r_47.T),(.own 7 0 r_47.Keys.length),(.own 8 0 r_47.Items.length)])) (y':=(.agg [(.int .i64 r_47.Kind),(.int .i64 r_47.N),(.str r_47.T),(.own 7 0 r_47.Keys.length),(.own 8 0 r_47.Items.length)])) rfl rfl rfl trivial ⟨rfl,nle⟩ ⟨⟨rfl,trivial⟩,⟨⟨rfl,trivial⟩,⟨⟨rfl,trivial⟩,⟨⟨rfl,trivial⟩,⟨⟨rfl,trivial⟩,trivial⟩⟩⟩⟩⟩ rfl)<|dk<|a0d<|?_;obtain rfl:=os hf;exact a1j ⟨.of nle trivial,trivial⟩ rfl (by decide) (leJ (x:=r_47) (.agg (.cons (.refl _) (.cons (.refl _) (.cons (.refl _) (.cons (.of_eq (congrArg (AV.lst _) (tk (enc:=AV.str) r_47.Keys))) (.cons (.of_eq (congrArg (AV.lst _) (tk (enc:=o5) r_47.Items))) .nil)))))))

/- impl.DatumJson -/
def c49:a0p :=
 (.seq (.reg (tq 2 (.box 5 (.c (.agg [(.int .i64 0),(.int .i64 0),(.str []),.nil,.nil]))) (tm 3 (.c (.int .i64 0)) .done)))
 (.seq (.block 0 (.seq (.reg (tm 5 (.t 0) (tq 6 (.call 128 [(.t 5)]) (tq 7 (.not (.t 6)) (tm 4 (.t 7) .done)))))
 (.cond (.t 4) (.seq (.reg (tq 8 (.build [(.int .i64 0),(.int .i64 0),(.str []),.nil,.nil] []) (.q ⟨none,none,.store 5 (.t 2) (.t 8)⟩
 (tm 3 (.c (.int .i64 2)) .done))))
 .ret)
 (.seq (.reg (tm 10 (.t 0) (tq 11 (.call 129 [(.t 10)]) (tq 12 (.not (.t 11)) (tm 9 (.t 12) .done)))))
 (.cond (.t 9) (.seq (.reg (tq 13 (.build [(.int .i64 0),(.int .i64 0),(.str []),.nil,.nil] []) (.q ⟨none,none,.store 5 (.t 2) (.t 13)⟩
 (tm 3 (.c (.int .i64 1)) .done))))
 .ret)
 .skip)))))
 (.seq (.reg (tm 14 (.t 0) (tq 15 (.call 130 [(.t 14)]) (.q ⟨none,none,.store 5 (.t 2) (.t 15)⟩
 (tm 3 (.c (.int .i64 0)) .done)))))
 .ret)))
theorem e6n:a1b Tryz.prog Tryz.f49 = some (c49.erase,[.load 5 true (.t 2),.mov (.t 3)],16):=by kernel_rfl
def a8q (d_1:(List x8)):Option (y7 × Int) :=
    (a6i d_1).bind fun r_2 =>
    if (!r_2) then
    some ((⟨0,0,[],[],[]⟩:y7),2)
    else
    (a8x d_1).bind fun r_5 =>
    if (!r_5) then
    some ((⟨0,0,[],[],[]⟩:y7),1)
    else
    (a2y d_1).bind fun r_8 =>
    some (r_8,0)
theorem c0z (d_1:(List x8)) (r:(y7 × Int)) (hf:a8q d_1 = some r):y9 Tryz.prog 49 .fresh [(.lst 3 (d_1.map l9))] (.tup [(o5 r.1),(.int .i64 r.2)]):=by
 refine y9.of_awp mixed Tryz.func49 e6n nle ?_;rw [a0f];unfold a8q at hf;unfold c49;refine (show awp Tryz.prog true 0 _ (ofL [(0,(.lst 3 (d_1.map l9)))]) [] _ from ?_);refine sr<|o8 (a1g (j:=0) (c:=(.agg [(.int .i64 0),(.int .i64 0),(.str []),.nil,.nil])) rfl trivial rfl rfl)<|l7 (.int .i64 0) rfl<|dk<|o6<|a3s<|sr<|?_
 obtain ⟨r_2,er3,hf⟩:=ob hf
 refine l7 (.lst 3 (d_1.map l9)) rfl<|o8 (a1f (b4d _ _ er3) rfl (.refl _) rfl)<|o7 (.bool (!r_2)) rfl trivial rfl<|l7 (.bool (!r_2)) rfl<|dk<|?_
 rcases oi hf with ⟨c4,hf⟩ | ⟨c4,hf⟩
 ·refine a0b rfl c4<|sr<|o7 (.agg [(.int .i64 0),(.int .i64 0),(.str []),.nil,.nil]) rfl trivial rfl<|a1i (x9 (v:=(.agg [(.int .i64 0),(.int .i64 0),(.str []),.nil,.nil])) (y':=(.agg [(.int .i64 0),(.int .i64 0),(.str []),.nil,.nil])) rfl rfl rfl trivial ⟨rfl,nle⟩ ⟨⟨rfl,trivial⟩,⟨⟨rfl,trivial⟩,⟨⟨rfl,trivial⟩,⟨⟨rfl,trivial⟩,⟨⟨rfl,trivial⟩,trivial⟩⟩⟩⟩⟩ rfl)<|l7 (.int .i64 2) rfl<|dk<|a0d<|?_;obtain rfl:=os hf;exact a1j ⟨nle,⟨trivial,trivial⟩⟩ rfl (by decide) (.tup (.cons (leJ (x:=(⟨0,0,[],[],[]⟩:y7)) (.agg (.cons (.refl _) (.cons (.refl _) (.cons (.refl _) (.cons (.nil _) (.cons (.nil _) .nil))))))) (.cons (.refl _) .nil)))
 ·refine a0c rfl (bf c4)<|sr<|?_
  obtain ⟨r_5,er6,hf⟩:=ob hf
  refine l7 (.lst 3 (d_1.map l9)) rfl<|o8 (a1f (b6d _ _ er6) rfl (.refl _) rfl)<|o7 (.bool (!r_5)) rfl trivial rfl<|l7 (.bool (!r_5)) rfl<|dk<|?_
  rcases oi hf with ⟨c7,hf⟩ | ⟨c7,hf⟩
  ·refine a0b rfl c7<|sr<|o7 (.agg [(.int .i64 0),(.int .i64 0),(.str []),.nil,.nil]) rfl trivial rfl<|a1i (x9 (v:=(.agg [(.int .i64 0),(.int .i64 0),(.str []),.nil,.nil])) (y':=(.agg [(.int .i64 0),(.int .i64 0),(.str []),.nil,.nil])) rfl rfl rfl trivial ⟨rfl,nle⟩ ⟨⟨rfl,trivial⟩,⟨⟨rfl,trivial⟩,⟨⟨rfl,trivial⟩,⟨⟨rfl,trivial⟩,⟨⟨rfl,trivial⟩,trivial⟩⟩⟩⟩⟩ rfl)<|l7 (.int .i64 1) rfl<|dk<|a0d<|?_;obtain rfl:=os hf;exact a1j ⟨nle,⟨trivial,trivial⟩⟩ rfl (by decide) (.tup (.cons (leJ (x:=(⟨0,0,[],[],[]⟩:y7)) (.agg (.cons (.refl _) (.cons (.refl _) (.cons (.refl _) (.cons (.nil _) (.cons (.nil _) .nil))))))) (.cons (.refl _) .nil)))
  ·refine a0c rfl (bf c7)<|a0i<|a3l<|a0h<|sr<|?_
   obtain ⟨r_8,er9,hf⟩:=ob hf
   refine l7 (.lst 3 (d_1.map l9)) rfl<|o8 (a3j (v:=(.agg [(.int .i64 r_8.Kind),(.int .i64 r_8.N),(.str r_8.T),(.own 1 0 r_8.Keys.length),(.own 2 0 r_8.Items.length)])) (h':=[.row 1 (r_8.Keys.map AV.str),.row 5 (r_8.Items.map o5)]) (b4f _ _ er9) rfl (.refl _) (by simp only [a2b,a2c,List.length_map,y8,List.nil_append,List.append_nil,List.cons_append];rfl))<|a1i (x9 (v:=(.agg [(.int .i64 r_8.Kind),(.int .i64 r_8.N),(.str r_8.T),(.own 1 0 r_8.Keys.length),(.own 2 0 r_8.Items.length)])) (y':=(.agg [(.int .i64 r_8.Kind),(.int .i64 r_8.N),(.str r_8.T),(.own 1 0 r_8.Keys.length),(.own 2 0 r_8.Items.length)])) rfl rfl rfl trivial ⟨rfl,nle⟩ ⟨⟨rfl,trivial⟩,⟨⟨rfl,trivial⟩,⟨⟨rfl,trivial⟩,⟨⟨rfl,trivial⟩,⟨⟨rfl,trivial⟩,trivial⟩⟩⟩⟩⟩ rfl)<|?_
   refine l7 (.int .i64 0) rfl<|dk<|a0d<|?_;obtain rfl:=os hf;exact a1j ⟨nle,⟨trivial,trivial⟩⟩ rfl (by decide) (.tup (.cons (leJ (x:=r_8) (.agg (.cons (.refl _) (.cons (.refl _) (.cons (.refl _) (.cons (.of_eq (congrArg (AV.lst _) (tk (enc:=AV.str) r_8.Keys))) (.cons (.of_eq (congrArg (AV.lst _) (tk (enc:=o5) r_8.Items))) .nil))))))) (.cons (.refl _) .nil)))

/- spec.l01In -/
def c85:a0p :=
 (.seq (.reg (tm 6 (.c (.bool false)) .done))
 (.seq (.reg (tm 7 (.t 1) (tm 8 (.t 0) (tq 9 (.bin .leq (.t 7) (.t 8)) (tm 10 (.t 9) (tg 11 10 true (.mov (.t 0)) (tg 12 10 true (.mov (.t 2)) (tg 13 10 true (.bin .leq (.t 11) (.t 12)) (tq 14 (.pick (.t 10) (.t 13) (.c (.bool false))) (tm 6 (.t 14) .done))))))))))
 .ret))
theorem e6o:a1b Tryz.prog Tryz.f85 = some (c85.erase,[.mov (.t 6)],15):=by kernel_rfl
def a9u (n_1:Int) (low_2:Int) (high_3:Int):Option Bool :=
    if (decide (low_2 ≤ n_1)) then
    some (decide (n_1 ≤ high_3))
    else
    some false
theorem a8y (n_1:Int) (low_2:Int) (high_3:Int) (r:Bool) (hf:a9u n_1 low_2 high_3 = some r):y9 Tryz.prog 85 .flat [(.int .i64 n_1),(.int .i64 low_2),(.int .i64 high_3)] (.bool r):=by
 refine y9.of_awp mixed Tryz.func85 e6o nle ?_;rw [a0f];unfold a9u at hf;unfold c85;refine (show awp Tryz.prog false 0 _ (ofL [(0,(.int .i64 n_1)),(1,(.int .i64 low_2)),(2,(.int .i64 high_3))]) [] _ from ?_);refine sr<|l7 (.bool false) rfl<|dk<|sr<|?_
 rcases oi hf with ⟨c4,hf⟩ | ⟨c4,hf⟩
 ·refine l7 (.int .i64 low_2) rfl<|l7 (.int .i64 n_1) rfl<|o7 (.bool (decide (low_2 ≤ n_1))) rfl rfl rfl<|l7 (.bool (decide (low_2 ≤ n_1))) rfl<|a1k (s:=10) (b:=true) rfl c4<|s_on rfl<|l7 (.int .i64 n_1) rfl<|s_on rfl<|l7 (.int .i64 high_3) rfl<|s_on rfl<|o7 (.bool (decide (n_1 ≤ high_3))) rfl rfl rfl<|o7 (.bool (decide (n_1 ≤ high_3))) rfl trivial rfl<|l7 (.bool (decide (n_1 ≤ high_3))) rfl<|dk<|a0d<|?_;obtain rfl:=os hf;exact a0m ⟨trivial,trivial⟩ rfl (.refl _)
 ·refine l7 (.int .i64 low_2) rfl<|l7 (.int .i64 n_1) rfl<|o7 (.bool (decide (low_2 ≤ n_1))) rfl rfl rfl<|l7 (.bool (decide (low_2 ≤ n_1))) rfl<|a1k (s:=10) (b:=false) rfl (bf c4)<|a0a rfl rfl<|a0a rfl rfl<|a0a rfl rfl<|o7 (.bool false) rfl trivial rfl<|l7 (.bool false) rfl<|dk<|a0d<|?_;obtain rfl:=os hf;exact a0m ⟨trivial,trivial⟩ rfl (.refl _)

/- spec.l01Text -/
def e3g:a0p :=
 (.seq (.reg (tm 2 (.c (.bool false)) .done))
 (.seq (.seq (.reg (tm 3 (.c (.int .i64 0)) .done))
 (.block 0 (.loop (.seq (.seq (.reg (tm 4 (.t 3) (tm 5 (.t 0) (tq 6 (.lenS (.t 5)) (tq 7 (.bin .lss (.t 4) (.t 6)) .done)))))
 (.cond (.t 7) .skip
 (.exit 0)))
 (.seq (.block 1 (.seq (.reg (tm 10 (.t 0) (tm 11 (.t 3) (tq 12 (.idxs (.t 10) (.t 11)) (tq 13 (.bin .lss (.t 12) (.c (.int .u8 32))) (tm 14 (.t 13) (tg 15 14 false (.mov (.t 0)) (tg 16 14 false (.mov (.t 3)) (tg 17 14 false (.idxs (.t 15) (.t 16)) (tg 18 14 false (.bin .gtr (.t 17) (.c (.int .u8 126))) (tq 19 (.pick (.t 14) (.c (.bool true)) (.t 18)) .done)))))))))))
 (.cut (.cond (.t 19) (.seq (.reg (tm 2 (.c (.bool false)) .done))
 .ret)
 .skip))))
 (.reg (tm 8 (.t 3) (tq 9 (.bin .add (.t 8) (.c (.int .i64 1))) (tm 3 (.t 9) .done)))))))))
 (.cut (.seq (.reg (tm 20 (.t 0) (tq 21 (.lenS (.t 20)) (tq 22 (.bin .leq (.t 21) (.c (.int .i64 200))) (tm 2 (.t 22) .done)))))
 .ret))))
theorem e3h:a1b Tryz.prog Tryz.f298 = some (e3g.erase,[.mov (.t 2)],23):=by kernel_rfl
def a4p :List UInt8 → Option (Fl Bool Unit)
  | [] =>
    some (.go ())
  | x_57 :: xs =>
    ((if (decide ((x_57.toNat:Int) < 32)) then
    some true
    else
    some (decide ((x_57.toNat:Int) > 126)):Option Bool)).bind fun s19_61 =>
    if s19_61 then
    some (.ret false)
    else
    a4p xs 

def b0k (t_1:Str):Option Bool :=
    (a4p t_1 ).bind fun q => (match q with
    | .ret r => some r
    | .go _ =>
    some (decide ((t_1.length:Int) ≤ 200)))
theorem c4l (t_1:Str) (r:Bool) (hf:b0k t_1 = some r):y9 Tryz.prog 298 .flat [(.str t_1)] (.bool r):=by
 refine y9.of_awp mixed Tryz.func298 e3h nle ?_;rw [a0f];unfold b0k at hf;unfold e3g;refine (show awp Tryz.prog false 0 _ (ofL [(0,(.str t_1))]) [] _ from ?_);refine sr<|l7 (.bool false) rfl<|dk<|o6<|sr<|l7 (.int .i64 0) rfl<|dk<|?_
 obtain ⟨p50,hb1,hf⟩:=ob hf
 refine a4k (X:={q:Unit // p50 = .go q}) (fun q => ([(0,(.str t_1))],[])) ?_ ?_
 ·refine a1v (X:={q:Nat // a4p (t_1.drop q)  = some p50}) (fun q => ([(0,(.str t_1)),(3,(.int .i64 (q.1:Int)))],[])) (fun q => t_1.length - q.1) ⟨0,hb1⟩ ⟨[],[],_,_,rfl,rfl,⟨.refl _,⟨.refl _,trivial⟩⟩,(.refl _)⟩ ?_
  rintro ⟨i_33,hc1⟩
  have hc1:a4p (t_1.drop i_33)  = some p50:=hc1
  refine (show awp Tryz.prog false 0 _ (ofL [(0,(.str t_1)),(3,(.int .i64 (i_33:Int)))]) [] _ from ?_)
  rcases a7j t_1 i_33 with ⟨hie53,hd56⟩ | ⟨hlt51,x_57,hx52,hd56⟩
  ·rw [hd56,a4p.eq_1] at hc1
   have hq55:=dlf hie53
   refine o6<|sr<|l7 (.int .i64 (i_33:Int)) rfl<|l7 (.str t_1) rfl<|a1n (b6a rfl) fun hl58 => o7 (.bool (decide ((i_33:Int) < (t_1.length:Int)))) rfl rfl rfl<|dk<|a0c rfl hq55<|a4b<|a4a<|a2w<|a3z<|?_;obtain rfl:=os hc1;exact a5z ⟨_,rfl⟩ ⟨[],[],_,_,rfl,rfl,⟨.refl _,trivial⟩,(.refl _)⟩
  ·rw [hd56,a4p.eq_2] at hc1
   have hq55:=dlt hlt51
   refine o6<|sr<|l7 (.int .i64 (i_33:Int)) rfl<|l7 (.str t_1) rfl<|a1n (b6a rfl) fun hl59 => o7 (.bool (decide ((i_33:Int) < (t_1.length:Int)))) rfl rfl rfl<|dk<|a0b rfl hq55<|a0i<|a0h<|o6<|a3s<|o6<|?_
   obtain ⟨s19_61,hb2,hc1⟩:=ob hc1
   refine a2v ([(0,(.str t_1)),(3,(.int .i64 (i_33:Int))),(19,(.bool s19_61))],[]) ?_ ?_
   ·refine a0z ?_
    rcases oi hb2 with ⟨c63,hb2⟩ | ⟨c63,hb2⟩
    ·refine l7 (.str t_1) rfl<|l7 (.int .i64 (i_33:Int)) rfl<|o8 (b4s rfl rfl hx52)<|o7 (.bool (decide ((x_57.toNat:Int) < 32))) rfl rfl rfl<|l7 (.bool (decide ((x_57.toNat:Int) < 32))) rfl<|a1k (s:=14) (b:=true) rfl c63<|a0a rfl rfl<|a0a rfl rfl<|a0a rfl rfl<|a0a rfl rfl<|o7 (.bool true) rfl trivial rfl<|a0e<|?_;obtain rfl:=os hb2;exact ⟨[],[],_,_,rfl,rfl,⟨.refl _,⟨.refl _,⟨.refl _,trivial⟩⟩⟩,(.refl _)⟩
    ·refine l7 (.str t_1) rfl<|l7 (.int .i64 (i_33:Int)) rfl<|o8 (b4s rfl rfl hx52)<|o7 (.bool (decide ((x_57.toNat:Int) < 32))) rfl rfl rfl<|l7 (.bool (decide ((x_57.toNat:Int) < 32))) rfl<|a1k (s:=14) (b:=false) rfl (bf c63)<|s_on rfl<|l7 (.str t_1) rfl<|s_on rfl<|l7 (.int .i64 (i_33:Int)) rfl<|s_on rfl<|o8 (b4s rfl rfl hx52)<|s_on rfl<|o7 (.bool (decide ((x_57.toNat:Int) > 126))) rfl rfl rfl<|o7 (.bool (decide ((x_57.toNat:Int) > 126))) rfl trivial rfl<|a0e<|?_;obtain rfl:=os hb2;exact ⟨[],[],_,_,rfl,rfl,⟨.refl _,⟨.refl _,⟨.refl _,trivial⟩⟩⟩,(.refl _)⟩
   ·rcases oi hc1 with ⟨c64,hc1⟩ | ⟨c64,hc1⟩
    ·refine a0b rfl c64<|sr<|l7 (.bool false) rfl<|dk<|a0d<|?_;obtain rfl:=os hc1;obtain rfl:=os hf;exact a0m ⟨trivial,trivial⟩ rfl (.refl _)
    ·refine a0c rfl (bf c64)<|a0i<|a3l<|a0h<|a0z<|l7 (.int .i64 (i_33:Int)) rfl<|o7 (.int .i64 (w64 ((i_33:Int) + 1))) rfl rfl rfl<|l7 (.int .i64 (w64 ((i_33:Int) + 1))) rfl<|a0e<|?_;exact a2p ⟨(i_33 + 1),hc1⟩ (mul hlt51) ⟨[],[],_,_,rfl,rfl,⟨.refl _,⟨.of_eq (congrArg (AV.int _) (a3h hlt51 hl59)),trivial⟩⟩,(.refl _)⟩
 ·rintro ⟨_,rfl⟩
  refine sr<|l7 (.str t_1) rfl<|a1n (b6a rfl) fun hl65 => o7 (.bool (decide ((t_1.length:Int) ≤ 200))) rfl rfl rfl<|l7 (.bool (decide ((t_1.length:Int) ≤ 200))) rfl<|dk<|a0d<|?_;obtain rfl:=os hf;exact a0m ⟨trivial,trivial⟩ rfl (.refl _)

/- spec.AtomOK -/
def c228:a0p :=
 (.seq (.reg (tq 1 (.box 3 (.t 0)) (tm 2 (.c (.bool false)) .done)))
 (.seq (.seq (.reg (tq 3 (.faddr 0 (.t 1)) (tq 4 (.load 1 false (.t 3)) .done)))
 (.block 0 (.seq (.reg (tq 6 (.bin .eql (.t 4) (.c (.int .i64 1))) (tm 5 (.t 6) .done)))
 (.cond (.t 5) (.seq (.reg (tq 7 (.faddr 1 (.t 1)) (tq 8 (.load 1 false (.t 7)) (tq 9 (.call 85 [(.t 8),(.c (.int .i64 (-1000000000))),(.c (.int .i64 1000000000))]) (tm 10 (.t 9) (tg 11 10 true (.faddr 2 (.t 1)) (tg 12 10 true (.load 1 false (.t 11)) (tg 13 10 true (.bin .eql (.t 12) (.c (.str []))) (tq 14 (.pick (.t 10) (.t 13) (.c (.bool false))) (tm 2 (.t 14) .done))))))))))
 .ret)
 (.seq (.reg (tq 16 (.bin .eql (.t 4) (.c (.int .i64 2))) (tm 15 (.t 16) .done)))
 (.cond (.t 15) (.seq (.reg (tq 17 (.faddr 1 (.t 1)) (tq 18 (.load 1 false (.t 17)) (tq 19 (.bin .eql (.t 18) (.c (.int .i64 0))) (tm 20 (.t 19) (tg 21 20 true (.faddr 2 (.t 1)) (tg 22 20 true (.load 1 false (.t 21)) (tg 23 20 true (.call 298 [(.t 22)]) (tq 24 (.pick (.t 20) (.t 23) (.c (.bool false))) (tm 2 (.t 24) .done))))))))))
 .ret)
 (.seq (.reg (tq 26 (.bin .eql (.t 4) (.c (.int .i64 3))) (tm 25 (.t 26) .done)))
 (.cond (.t 25) (.seq (.reg (tq 27 (.faddr 1 (.t 1)) (tq 28 (.load 1 false (.t 27)) (tq 29 (.call 85 [(.t 28),(.c (.int .i64 0)),(.c (.int .i64 1))]) (tm 30 (.t 29) (tg 31 30 true (.faddr 2 (.t 1)) (tg 32 30 true (.load 1 false (.t 31)) (tg 33 30 true (.bin .eql (.t 32) (.c (.str []))) (tq 34 (.pick (.t 30) (.t 33) (.c (.bool false))) (tm 2 (.t 34) .done))))))))))
 .ret)
 (.seq (.reg (tq 36 (.bin .eql (.t 4) (.c (.int .i64 4))) (tm 35 (.t 36) .done)))
 (.cond (.t 35) (.seq (.reg (tq 37 (.faddr 1 (.t 1)) (tq 38 (.load 1 false (.t 37)) (tq 39 (.call 85 [(.t 38),(.c (.int .i64 1)),(.c (.int .i64 1000000))]) (tm 40 (.t 39) (tg 41 40 true (.faddr 2 (.t 1)) (tg 42 40 true (.load 1 false (.t 41)) (tg 43 40 true (.bin .eql (.t 42) (.c (.str []))) (tq 44 (.pick (.t 40) (.t 43) (.c (.bool false))) (tm 2 (.t 44) .done))))))))))
 .ret)
 .skip))))))))))
 (.seq (.reg (tm 2 (.c (.bool false)) .done))
 .ret)))
theorem e3i:a1b Tryz.prog Tryz.f228 = some (c228.erase,[.mov (.t 2)],45):=by kernel_rfl
def a9y (a_1:x8):Option Bool :=
    if (a_1.Kind == 1) then
    (a9u a_1.N (-1000000000) 1000000000).bind fun r_3 =>
    if r_3 then
    some (a_1.T == [])
    else
    some false
    else
    if (a_1.Kind == 2) then
    if (a_1.N == 0) then
    (b0k a_1.T).bind fun r_8 =>
    some r_8
    else
    some false
    else
    if (a_1.Kind == 3) then
    (a9u a_1.N 0 1).bind fun r_11 =>
    if r_11 then
    some (a_1.T == [])
    else
    some false
    else
    if (a_1.Kind == 4) then
    (a9u a_1.N 1 1000000).bind fun r_15 =>
    if r_15 then
    some (a_1.T == [])
    else
    some false
    else
    some false
theorem c5w (a_1:x8) (r:Bool) (hf:a9y a_1 = some r):y9 Tryz.prog 228 .flat [(l9 a_1)] (.bool r):=by
 refine y9.of_awp mixed Tryz.func228 e3i nle ?_;rw [a0f];unfold a9y at hf;unfold c228;refine (show awp Tryz.prog false 0 _ (ofL [(0,(l9 a_1))]) [] _ from ?_);refine sr<|o8 (a1g (j:=0) (c:=(.agg [(.int .i64 a_1.Kind),(.int .i64 a_1.N),(.str a_1.T)])) rfl trivial rfl rfl)<|l7 (.bool false) rfl<|dk<|o6<|sr<|o7 (.ptr 0 0 0) rfl trivial rfl<|o7 (.int .i64 a_1.Kind) rfl nle rfl<|dk<|a3s<|sr<|o7 (.bool (a_1.Kind == 1)) rfl rfl rfl<|l7 (.bool (a_1.Kind == 1)) rfl<|dk<|?_
 rcases oi hf with ⟨c2,hf⟩ | ⟨c2,hf⟩
 ·refine a0b rfl c2<|sr<|?_
  obtain ⟨r_3,er4,hf⟩:=ob hf
  rcases oi hf with ⟨c5,hf⟩ | ⟨c5,hf⟩
  ·refine o7 (.ptr 0 0 1) rfl trivial rfl<|o7 (.int .i64 a_1.N) rfl nle rfl<|o8 (a1f (a8y _ _ _ _ er4) rfl (.refl _) rfl)<|l7 (.bool r_3) rfl<|a1k (s:=10) (b:=true) rfl c5<|s_on rfl<|o7 (.ptr 0 0 2) rfl trivial rfl<|s_on rfl<|o7 (.str a_1.T) rfl nle rfl<|s_on rfl<|o7 (.bool (a_1.T == [])) rfl trivial rfl<|o7 (.bool (a_1.T == [])) rfl trivial rfl<|l7 (.bool (a_1.T == [])) rfl<|dk<|a0d<|?_;obtain rfl:=os hf;exact a0m ⟨trivial,trivial⟩ rfl (.refl _)
  ·refine o7 (.ptr 0 0 1) rfl trivial rfl<|o7 (.int .i64 a_1.N) rfl nle rfl<|o8 (a1f (a8y _ _ _ _ er4) rfl (.refl _) rfl)<|l7 (.bool r_3) rfl<|a1k (s:=10) (b:=false) rfl (bf c5)<|a0a rfl rfl<|a0a rfl rfl<|a0a rfl rfl<|o7 (.bool false) rfl trivial rfl<|l7 (.bool false) rfl<|dk<|a0d<|?_;obtain rfl:=os hf;exact a0m ⟨trivial,trivial⟩ rfl (.refl _)
 ·refine a0c rfl (bf c2)<|sr<|o7 (.bool (a_1.Kind == 2)) rfl rfl rfl<|l7 (.bool (a_1.Kind == 2)) rfl<|dk<|?_
  rcases oi hf with ⟨c6,hf⟩ | ⟨c6,hf⟩
  ·refine a0b rfl c6<|sr<|?_
   rcases oi hf with ⟨c7,hf⟩ | ⟨c7,hf⟩
   ·obtain ⟨r_8,er9,hf⟩:=ob hf
    refine o7 (.ptr 0 0 1) rfl trivial rfl<|o7 (.int .i64 a_1.N) rfl nle rfl<|o7 (.bool (a_1.N == 0)) rfl rfl rfl<|l7 (.bool (a_1.N == 0)) rfl<|a1k (s:=20) (b:=true) rfl c7<|s_on rfl<|o7 (.ptr 0 0 2) rfl trivial rfl<|s_on rfl<|o7 (.str a_1.T) rfl nle rfl<|s_on rfl<|o8 (a1f (c4l _ _ er9) rfl (.refl _) rfl)<|o7 (.bool r_8) rfl trivial rfl<|l7 (.bool r_8) rfl<|dk<|a0d<|?_;obtain rfl:=os hf;exact a0m ⟨trivial,trivial⟩ rfl (.refl _)
   ·refine o7 (.ptr 0 0 1) rfl trivial rfl<|o7 (.int .i64 a_1.N) rfl nle rfl<|o7 (.bool (a_1.N == 0)) rfl rfl rfl<|l7 (.bool (a_1.N == 0)) rfl<|a1k (s:=20) (b:=false) rfl (bf c7)<|a0a rfl rfl<|a0a rfl rfl<|a0a rfl rfl<|o7 (.bool false) rfl trivial rfl<|l7 (.bool false) rfl<|dk<|a0d<|?_;obtain rfl:=os hf;exact a0m ⟨trivial,trivial⟩ rfl (.refl _)
  ·refine a0c rfl (bf c6)<|sr<|o7 (.bool (a_1.Kind == 3)) rfl rfl rfl<|l7 (.bool (a_1.Kind == 3)) rfl<|dk<|?_
   rcases oi hf with ⟨c10,hf⟩ | ⟨c10,hf⟩
   ·refine a0b rfl c10<|sr<|?_
    obtain ⟨r_11,er12,hf⟩:=ob hf
    rcases oi hf with ⟨c13,hf⟩ | ⟨c13,hf⟩
    ·refine o7 (.ptr 0 0 1) rfl trivial rfl<|o7 (.int .i64 a_1.N) rfl nle rfl<|o8 (a1f (a8y _ _ _ _ er12) rfl (.refl _) rfl)<|l7 (.bool r_11) rfl<|a1k (s:=30) (b:=true) rfl c13<|s_on rfl<|o7 (.ptr 0 0 2) rfl trivial rfl<|s_on rfl<|o7 (.str a_1.T) rfl nle rfl<|s_on rfl<|o7 (.bool (a_1.T == [])) rfl trivial rfl<|o7 (.bool (a_1.T == [])) rfl trivial rfl<|l7 (.bool (a_1.T == [])) rfl<|dk<|a0d<|?_;obtain rfl:=os hf;exact a0m ⟨trivial,trivial⟩ rfl (.refl _)
    ·refine o7 (.ptr 0 0 1) rfl trivial rfl<|o7 (.int .i64 a_1.N) rfl nle rfl<|o8 (a1f (a8y _ _ _ _ er12) rfl (.refl _) rfl)<|l7 (.bool r_11) rfl<|a1k (s:=30) (b:=false) rfl (bf c13)<|a0a rfl rfl<|a0a rfl rfl<|a0a rfl rfl<|o7 (.bool false) rfl trivial rfl<|l7 (.bool false) rfl<|dk<|a0d<|?_;obtain rfl:=os hf;exact a0m ⟨trivial,trivial⟩ rfl (.refl _)
   ·refine a0c rfl (bf c10)<|sr<|o7 (.bool (a_1.Kind == 4)) rfl rfl rfl<|l7 (.bool (a_1.Kind == 4)) rfl<|dk<|?_
    rcases oi hf with ⟨c14,hf⟩ | ⟨c14,hf⟩
    ·refine a0b rfl c14<|sr<|?_
     obtain ⟨r_15,er16,hf⟩:=ob hf
     rcases oi hf with ⟨c17,hf⟩ | ⟨c17,hf⟩
     ·refine o7 (.ptr 0 0 1) rfl trivial rfl<|o7 (.int .i64 a_1.N) rfl nle rfl<|o8 (a1f (a8y _ _ _ _ er16) rfl (.refl _) rfl)<|l7 (.bool r_15) rfl<|a1k (s:=40) (b:=true) rfl c17<|s_on rfl<|o7 (.ptr 0 0 2) rfl trivial rfl<|s_on rfl<|o7 (.str a_1.T) rfl nle rfl<|s_on rfl<|o7 (.bool (a_1.T == [])) rfl trivial rfl<|o7 (.bool (a_1.T == [])) rfl trivial rfl<|l7 (.bool (a_1.T == [])) rfl<|dk<|a0d<|?_;obtain rfl:=os hf;exact a0m ⟨trivial,trivial⟩ rfl (.refl _)
     ·refine o7 (.ptr 0 0 1) rfl trivial rfl<|o7 (.int .i64 a_1.N) rfl nle rfl<|o8 (a1f (a8y _ _ _ _ er16) rfl (.refl _) rfl)<|l7 (.bool r_15) rfl<|a1k (s:=40) (b:=false) rfl (bf c17)<|a0a rfl rfl<|a0a rfl rfl<|a0a rfl rfl<|o7 (.bool false) rfl trivial rfl<|l7 (.bool false) rfl<|dk<|a0d<|?_;obtain rfl:=os hf;exact a0m ⟨trivial,trivial⟩ rfl (.refl _)
    ·refine a0c rfl (bf c14)<|a0i<|a3l<|a0h<|sr<|l7 (.bool false) rfl<|dk<|a0d<|?_;obtain rfl:=os hf;exact a0m ⟨trivial,trivial⟩ rfl (.refl _)

/- spec.DatumOK -/
def c131:a0p :=
 (.seq (.reg (tm 2 (.c (.bool false)) .done))
 (.seq (.seq (.reg (tm 4 (.t 0) (tq 5 (.len (.t 4)) (tq 6 (.bin .gtr (.t 5) (.c (.int .i64 4096))) .done))))
 (.cond (.t 6) (.seq (.reg (tm 2 (.c (.bool false)) .done))
 .ret)
 .skip))
 (.seq (.seq (.reg (tm 3 (.c (.int .i64 0)) .done))
 (.block 0 (.loop (.seq (.seq (.reg (tm 7 (.t 3) (tm 8 (.t 0) (tq 9 (.len (.t 8)) (tq 10 (.bin .lss (.t 7) (.t 9)) .done)))))
 (.cond (.t 10) .skip
 (.exit 0)))
 (.seq (.block 1 (.seq (.reg (tm 13 (.t 0) (tm 14 (.t 3) (tq 15 (.iaddr 3 (.t 13) (.t 14)) (tq 16 (.load 3 true (.t 15)) (.l ⟨(some 17),none,.call 228 [(.t 16)]⟩ []
 (tq 18 (.not (.t 17)) (tm 19 (.t 18) (tg 20 19 false (.mov (.t 0)) (tg 21 19 false (.mov (.t 3)) (tg 22 19 false (.iaddr 3 (.t 20) (.t 21)) (tg 23 19 false (.faddr 0 (.t 22)) (tg 24 19 false (.load 1 false (.t 23)) (tg 25 19 false (.mov (.t 0)) (tg 26 19 false (.iaddr 3 (.t 25) (.c (.int .i64 0))) (tg 27 19 false (.faddr 0 (.t 26)) (tg 28 19 false (.load 1 false (.t 27)) (tg 29 19 false (.bin .neq (.t 24) (.t 28)) (tq 30 (.pick (.t 19) (.c (.bool true)) (.t 29)) (tm 31 (.t 30) (tg 32 31 false (.mov (.t 3)) (tg 33 31 false (.bin .gtr (.t 32) (.c (.int .i64 0))) (tg 34 31 false (.mov (.t 33)) (tg 35 34 true (.mov (.t 0)) (tg 36 34 true (.mov (.t 3)) (tg 37 34 true (.bin .sub (.t 36) (.c (.int .i64 1))) (tg 38 34 true (.iaddr 3 (.t 35) (.t 37)) (tg 39 34 true (.load 3 true (.t 38)) (tg 40 34 true (.mov (.t 0)) (tg 41 34 true (.mov (.t 3)) (tg 42 34 true (.iaddr 3 (.t 40) (.t 41)) (tg 43 34 true (.load 3 true (.t 42)) (.l ⟨(some 44),(some (34,true)),.call 229 [(.t 39),(.t 43)]⟩ []
 (tg 45 34 true (.bin .geq (.t 44) (.c (.int .i64 0))) (tg 46 31 false (.pick (.t 34) (.t 45) (.c (.bool false))) (tq 47 (.pick (.t 31) (.c (.bool true)) (.t 46)) .done))) .non))))))))))))))))))))))))))) .non))))))
 (.cut (.cond (.t 47) (.seq (.reg (tm 2 (.c (.bool false)) .done))
 .ret)
 .skip))))
 (.reg (tm 11 (.t 3) (tq 12 (.bin .add (.t 11) (.c (.int .i64 1))) (tm 3 (.t 12) .done)))))))))
 (.cut (.seq (.reg (tm 48 (.t 0) (tq 49 (.len (.t 48)) (tq 50 (.bin .leq (.t 49) (.c (.int .i64 8))) (tm 2 (.t 50) .done)))))
 .ret)))))
theorem e3j:a1b Tryz.prog Tryz.f131 = some (c131.erase,[.mov (.t 2)],51):=by kernel_rfl
def a4q (d_1:(List x8)):List x8 → Nat → Option (Fl Bool Unit)
  | [],i_69 =>
    some (.go ())
  | x_117 :: xs,i_69 =>
    (((a9y x_117).bind fun r_133 =>
    if (!r_133) then
    some true
    else
    (idx d_1 0).bind fun x_136 =>
    if (x_117.Kind != x_136.Kind) then
    some true
    else
    if (decide ((i_69:Int) > 0)) then
    (idx d_1 (w64 ((i_69:Int) - 1))).bind fun x_140 =>
    (a6x x_140 x_117).bind fun r_142 =>
    some (decide (r_142 ≥ 0))
    else
    some false:Option Bool)).bind fun s47_131 =>
    if s47_131 then
    some (.ret false)
    else
    a4q d_1 xs (i_69 + 1)

def b0l (d_1:(List x8)):Option Bool :=
    if (decide ((d_1.length:Int) > 4096)) then
    some false
    else
    (a4q d_1 d_1 0).bind fun q => (match q with
    | .ret r => some r
    | .go _ =>
    some (decide ((d_1.length:Int) ≤ 8)))
theorem c4m (d_1:(List x8)) (r:Bool) (hf:b0l d_1 = some r):y9 Tryz.prog 131 .flat [(.lst 3 (d_1.map l9))] (.bool r):=by
 refine y9.of_awp mixed Tryz.func131 e3j nle ?_;rw [a0f];unfold b0l at hf;unfold c131;refine (show awp Tryz.prog false 0 _ (ofL [(0,(.lst 3 (d_1.map l9)))]) [] _ from ?_);refine sr<|l7 (.bool false) rfl<|dk<|o6<|sr<|l7 (.lst 3 (d_1.map l9)) rfl<|a1n (a3d (enc:=l9) rfl) fun hl2 => o7 (.bool (decide ((d_1.length:Int) > 4096))) rfl rfl rfl<|dk<|?_
 rcases oi hf with ⟨c3,hf⟩ | ⟨c3,hf⟩
 ·refine a0b rfl c3<|sr<|l7 (.bool false) rfl<|dk<|a0d<|?_;obtain rfl:=os hf;exact a0m ⟨trivial,trivial⟩ rfl (.refl _)
 ·refine a0c rfl (bf c3)<|a0i<|a0h<|o6<|sr<|l7 (.int .i64 0) rfl<|dk<|?_
  obtain ⟨p110,hb1,hf⟩:=ob hf
  refine a4k (X:={q:Unit // p110 = .go q}) (fun q => ([(0,(.lst 3 (d_1.map l9)))],[])) ?_ ?_
  ·refine a1v (X:={q:Nat // a4q d_1 (d_1.drop q) q = some p110}) (fun q => ([(0,(.lst 3 (d_1.map l9))),(3,(.int .i64 (q.1:Int)))],[])) (fun q => d_1.length - q.1) ⟨0,hb1⟩ ⟨[],[],_,_,rfl,rfl,⟨.refl _,⟨.refl _,trivial⟩⟩,(.refl _)⟩ ?_
   rintro ⟨i_69,hc1⟩
   have hc1:a4q d_1 (d_1.drop i_69) i_69 = some p110:=hc1
   refine (show awp Tryz.prog false 0 _ (ofL [(0,(.lst 3 (d_1.map l9))),(3,(.int .i64 (i_69:Int)))]) [] _ from ?_)
   rcases a7j d_1 i_69 with ⟨hie113,hd116⟩ | ⟨hlt111,x_117,hx112,hd116⟩
   ·rw [hd116,a4q.eq_1] at hc1
    have hq115:=dlf hie113
    refine o6<|sr<|l7 (.int .i64 (i_69:Int)) rfl<|l7 (.lst 3 (d_1.map l9)) rfl<|a1n (a3d (enc:=l9) rfl) fun hl118 => o7 (.bool (decide ((i_69:Int) < (d_1.length:Int)))) rfl rfl rfl<|dk<|a0c rfl hq115<|a4b<|a4a<|a2w<|a3z<|?_;obtain rfl:=os hc1;exact a5z ⟨_,rfl⟩ ⟨[],[],_,_,rfl,rfl,⟨.refl _,trivial⟩,(.refl _)⟩
   ·rw [hd116,a4q.eq_2] at hc1
    have hq115:=dlt hlt111
    refine o6<|sr<|l7 (.int .i64 (i_69:Int)) rfl<|l7 (.lst 3 (d_1.map l9)) rfl<|a1n (a3d (enc:=l9) rfl) fun hl119 => o7 (.bool (decide ((i_69:Int) < (d_1.length:Int)))) rfl rfl rfl<|dk<|a0b rfl hq115<|a0i<|a0h<|o6<|a3s<|o6<|?_
    obtain ⟨s47_131,hb2,hc1⟩:=ob hc1
    refine a2v ([(0,(.lst 3 (d_1.map l9))),(3,(.int .i64 (i_69:Int))),(47,(.bool s47_131))],[]) ?_ ?_
    ·refine a0z<|l7 (.lst 3 (d_1.map l9)) rfl<|l7 (.int .i64 (i_69:Int)) rfl<|o8 (a3o (enc:=l9) rfl rfl hx112)<|o7 (l9 x_117) rfl nle rfl<|?_
     obtain ⟨r_133,er134,hb2⟩:=ob hb2
     refine a1r (a1f (c5w _ _ er134) rfl (.refl _) rfl) a9t trivial<|o7 (.bool (!r_133)) rfl trivial rfl<|l7 (.bool (!r_133)) rfl<|?_
     rcases oi hb2 with ⟨d5k,hb2⟩ | ⟨d5k,hb2⟩
     ·refine a1k (s:=19) (b:=true) rfl d5k<|a0a rfl rfl<|a0a rfl rfl<|a0a rfl rfl<|a0a rfl rfl<|a0a rfl rfl<|a0a rfl rfl<|a0a rfl rfl<|a0a rfl rfl<|a0a rfl rfl<|a0a rfl rfl<|o7 (.bool true) rfl trivial rfl<|l7 (.bool true) rfl<|a0a rfl rfl<|a0a rfl rfl<|a0a rfl rfl<|a2s rfl<|a2s rfl<|a2s rfl<|a2s rfl<|a2s rfl<|a2s rfl<|a2s rfl<|a2s rfl<|a2s rfl<|c2w rfl trivial<|a2s rfl<|a0a rfl rfl<|o7 (.bool true) rfl trivial rfl<|a0e<|?_;obtain rfl:=os hb2;exact ⟨[],[],_,_,rfl,rfl,⟨.refl _,⟨.refl _,⟨.refl _,trivial⟩⟩⟩,(.refl _)⟩
     ·refine a1k (s:=19) (b:=false) rfl (bf d5k)<|s_on rfl<|l7 (.lst 3 (d_1.map l9)) rfl<|s_on rfl<|l7 (.int .i64 (i_69:Int)) rfl<|s_on rfl<|o8 (a3o (enc:=l9) rfl rfl hx112)<|s_on rfl<|o7 (.iptr (l9 x_117) 0) rfl trivial rfl<|s_on rfl<|o7 (.int .i64 x_117.Kind) rfl nle rfl<|s_on rfl<|l7 (.lst 3 (d_1.map l9)) rfl<|s_on rfl<|?_
      obtain ⟨x_136,ex137,hb2⟩:=ob hb2
      refine o8 (a5l (enc:=l9) rfl rfl (b2x ex137) (b2y ex137))<|s_on rfl<|o7 (.iptr (l9 x_136) 0) rfl trivial rfl<|s_on rfl<|o7 (.int .i64 x_136.Kind) rfl nle rfl<|s_on rfl<|o7 (.bool (x_117.Kind != x_136.Kind)) rfl rfl rfl<|o7 (.bool (x_117.Kind != x_136.Kind)) rfl trivial rfl<|l7 (.bool (x_117.Kind != x_136.Kind)) rfl<|?_
      rcases oi hb2 with ⟨c138,hb2⟩ | ⟨c138,hb2⟩
      ·refine a1k (s:=31) (b:=true) rfl c138<|a0a rfl rfl<|a0a rfl rfl<|a0a rfl rfl<|a2s rfl<|a2s rfl<|a2s rfl<|a2s rfl<|a2s rfl<|a2s rfl<|a2s rfl<|a2s rfl<|a2s rfl<|c2w rfl trivial<|a2s rfl<|a0a rfl rfl<|o7 (.bool true) rfl trivial rfl<|a0e<|?_;obtain rfl:=os hb2;exact ⟨[],[],_,_,rfl,rfl,⟨.refl _,⟨.refl _,⟨.refl _,trivial⟩⟩⟩,(.refl _)⟩
      ·refine a1k (s:=31) (b:=false) rfl (bf c138)<|s_on rfl<|l7 (.int .i64 (i_69:Int)) rfl<|s_on rfl<|o7 (.bool (decide ((i_69:Int) > 0))) rfl rfl rfl<|s_on rfl<|l7 (.bool (decide ((i_69:Int) > 0))) rfl<|?_
       rcases oi hb2 with ⟨c139,hb2⟩ | ⟨c139,hb2⟩
       ·refine a1k (s:=34) (b:=true) rfl c139<|s_on rfl<|l7 (.lst 3 (d_1.map l9)) rfl<|s_on rfl<|l7 (.int .i64 (i_69:Int)) rfl<|s_on rfl<|o7 (.int .i64 (w64 ((i_69:Int) - 1))) rfl rfl rfl<|s_on rfl<|?_
        obtain ⟨x_140,ex141,hb2⟩:=ob hb2
        refine o8 (a5l (enc:=l9) rfl rfl (b2x ex141) (b2y ex141))<|s_on rfl<|o7 (l9 x_140) rfl nle rfl<|s_on rfl<|l7 (.lst 3 (d_1.map l9)) rfl<|s_on rfl<|l7 (.int .i64 (i_69:Int)) rfl<|s_on rfl<|o8 (a3o (enc:=l9) rfl rfl hx112)<|s_on rfl<|o7 (l9 x_117) rfl nle rfl<|d0v rfl<|?_
        obtain ⟨r_142,er143,hb2⟩:=ob hb2
        refine a1r (a1f (b5d _ _ _ er143) rfl (.refl _) rfl) a9t trivial<|s_on rfl<|o7 (.bool (decide (r_142 ≥ 0))) rfl rfl rfl<|s_on rfl<|o7 (.bool (decide (r_142 ≥ 0))) rfl trivial rfl<|o7 (.bool (decide (r_142 ≥ 0))) rfl trivial rfl<|a0e<|?_;obtain rfl:=os hb2;exact ⟨[],[],_,_,rfl,rfl,⟨.refl _,⟨.refl _,⟨.refl _,trivial⟩⟩⟩,(.refl _)⟩
       ·refine a1k (s:=34) (b:=false) rfl (bf c139)<|a0a rfl rfl<|a0a rfl rfl<|a0a rfl rfl<|a0a rfl rfl<|a0a rfl rfl<|a0a rfl rfl<|a0a rfl rfl<|a0a rfl rfl<|a0a rfl rfl<|c4i rfl rfl trivial<|a0a rfl rfl<|s_on rfl<|o7 (.bool false) rfl trivial rfl<|o7 (.bool false) rfl trivial rfl<|a0e<|?_;obtain rfl:=os hb2;exact ⟨[],[],_,_,rfl,rfl,⟨.refl _,⟨.refl _,⟨.refl _,trivial⟩⟩⟩,(.refl _)⟩
    ·rcases oi hc1 with ⟨c144,hc1⟩ | ⟨c144,hc1⟩
     ·refine a0b rfl c144<|sr<|l7 (.bool false) rfl<|dk<|a0d<|?_;obtain rfl:=os hc1;obtain rfl:=os hf;exact a0m ⟨trivial,trivial⟩ rfl (.refl _)
     ·refine a0c rfl (bf c144)<|a0i<|a3l<|a0h<|a0z<|l7 (.int .i64 (i_69:Int)) rfl<|o7 (.int .i64 (w64 ((i_69:Int) + 1))) rfl rfl rfl<|l7 (.int .i64 (w64 ((i_69:Int) + 1))) rfl<|a0e<|?_;exact a2p ⟨(i_69 + 1),hc1⟩ (mul hlt111) ⟨[],[],_,_,rfl,rfl,⟨.refl _,⟨.of_eq (congrArg (AV.int _) (a3h hlt111 hl119)),trivial⟩⟩,(.refl _)⟩
  ·rintro ⟨_,rfl⟩
   refine sr<|l7 (.lst 3 (d_1.map l9)) rfl<|a1n (a3d (enc:=l9) rfl) fun hl145 => o7 (.bool (decide ((d_1.length:Int) ≤ 8))) rfl rfl rfl<|l7 (.bool (decide ((d_1.length:Int) ≤ 8))) rfl<|dk<|a0d<|?_;obtain rfl:=os hf;exact a0m ⟨trivial,trivial⟩ rfl (.refl _)

/- spec.l13N -/
def e3k:a0p :=
 (.seq (.reg (tq 2 (.box 5 (.c (.agg [(.int .i64 0),(.int .i64 0),(.str []),.nil,.nil]))) .done))
 (.seq (.reg (tm 3 (.t 0) (tq 4 (.build [(.int .i64 0),(.int .i64 0),(.str []),.nil,.nil] [(0,1,(.c (.int .i64 2))),(1,1,(.t 3))]) (.q ⟨none,none,.store 5 (.t 2) (.t 4)⟩
 .done))))
 .ret))
theorem e3l:a1b Tryz.prog Tryz.f216 = some (e3k.erase,[.load 5 true (.t 2)],5):=by kernel_rfl
def b6y (n_1:Int):Option y7 :=
    some (⟨2,n_1,[],[],[]⟩:y7)
theorem c2a (n_1:Int) (r:y7) (hf:b6y n_1 = some r):y9 Tryz.prog 216 .fresh [(.int .i64 n_1)] (o5 r):=by
  refine y9.of_awp mixed Tryz.func216 e3l nle ?_
  rw [a0f]
  unfold b6y at hf
  unfold e3k
  refine (show awp Tryz.prog true 0 _ (ofL [(0,(.int .i64 n_1))]) [] _ from ?_)
  refine o6 ?_
  refine a0z ?_
  refine o8 (a1g (j:=0) (c:=(.agg [(.int .i64 0),(.int .i64 0),(.str []),.nil,.nil])) rfl trivial rfl rfl) ?_
  refine a0e ?_
  refine a0h ?_
  refine o6 ?_
  refine a0z ?_
  refine o8 (a2z (.int .i64 n_1) rfl) ?_
  refine o8 (o_q (.agg [(.int .i64 2),(.int .i64 n_1),(.str []),.nil,.nil]) rfl ⟨⟨rfl,nle,trivial⟩,⟨⟨rfl,nle,trivial⟩,trivial⟩⟩ rfl) ?_
  refine a1i (x9 (v:=(.agg [(.int .i64 2),(.int .i64 n_1),(.str []),.nil,.nil])) (y':=(.agg [(.int .i64 2),(.int .i64 n_1),(.str []),.nil,.nil])) rfl rfl rfl trivial ⟨rfl,nle⟩ ⟨⟨rfl,trivial⟩,⟨⟨rfl,trivial⟩,⟨⟨rfl,trivial⟩,⟨⟨rfl,trivial⟩,⟨⟨rfl,trivial⟩,trivial⟩⟩⟩⟩⟩ rfl) ?_
  refine a0e ?_
  refine a0h ?_
  refine a0d ?_
  obtain rfl:=os hf
  exact a1j ⟨nle,trivial⟩ rfl (by decide) (leJ (x:=(⟨2,n_1,[],[],[]⟩:y7)) (.agg (.cons (.refl _) (.cons (.refl _) (.cons (.refl _) (.cons (.nil _) (.cons (.nil _) .nil)))))))

/- spec.l13T -/
def c213:a0p :=
 (.seq (.reg (tq 2 (.box 5 (.c (.agg [(.int .i64 0),(.int .i64 0),(.str []),.nil,.nil]))) .done))
 (.seq (.reg (tm 3 (.t 0) (tq 4 (.build [(.int .i64 0),(.int .i64 0),(.str []),.nil,.nil] [(0,1,(.c (.int .i64 3))),(2,1,(.t 3))]) (.q ⟨none,none,.store 5 (.t 2) (.t 4)⟩
 .done))))
 .ret))
theorem e3m:a1b Tryz.prog Tryz.f213 = some (c213.erase,[.load 5 true (.t 2)],5):=by kernel_rfl
def b2p (t_1:Str):Option y7 :=
    some (⟨3,0,t_1,[],[]⟩:y7)
theorem b6e (t_1:Str) (r:y7) (hf:b2p t_1 = some r):y9 Tryz.prog 213 .fresh [(.str t_1)] (o5 r):=by
  refine y9.of_awp mixed Tryz.func213 e3m nle ?_
  rw [a0f]
  unfold b2p at hf
  unfold c213
  refine (show awp Tryz.prog true 0 _ (ofL [(0,(.str t_1))]) [] _ from ?_)
  refine o6 ?_
  refine a0z ?_
  refine o8 (a1g (j:=0) (c:=(.agg [(.int .i64 0),(.int .i64 0),(.str []),.nil,.nil])) rfl trivial rfl rfl) ?_
  refine a0e ?_
  refine a0h ?_
  refine o6 ?_
  refine a0z ?_
  refine o8 (a2z (.str t_1) rfl) ?_
  refine o8 (o_q (.agg [(.int .i64 3),(.int .i64 0),(.str t_1),.nil,.nil]) rfl ⟨⟨rfl,nle,trivial⟩,⟨⟨rfl,nle,trivial⟩,trivial⟩⟩ rfl) ?_
  refine a1i (x9 (v:=(.agg [(.int .i64 3),(.int .i64 0),(.str t_1),.nil,.nil])) (y':=(.agg [(.int .i64 3),(.int .i64 0),(.str t_1),.nil,.nil])) rfl rfl rfl trivial ⟨rfl,nle⟩ ⟨⟨rfl,trivial⟩,⟨⟨rfl,trivial⟩,⟨⟨rfl,trivial⟩,⟨⟨rfl,trivial⟩,⟨⟨rfl,trivial⟩,trivial⟩⟩⟩⟩⟩ rfl) ?_
  refine a0e ?_
  refine a0h ?_
  refine a0d ?_
  obtain rfl:=os hf
  exact a1j ⟨nle,trivial⟩ rfl (by decide) (leJ (x:=(⟨3,0,t_1,[],[]⟩:y7)) (.agg (.cons (.refl _) (.cons (.refl _) (.cons (.refl _) (.cons (.nil _) (.cons (.nil _) .nil)))))))

/- spec.l13B -/
def e3n:a0p :=
 (.seq (.reg (tq 2 (.box 5 (.c (.agg [(.int .i64 0),(.int .i64 0),(.str []),.nil,.nil]))) .done))
 (.seq (.reg (tm 3 (.t 0) (tq 4 (.call 184 [(.t 3)]) (tq 5 (.build [(.int .i64 0),(.int .i64 0),(.str []),.nil,.nil] [(0,1,(.c (.int .i64 1))),(1,1,(.t 4))]) (.q ⟨none,none,.store 5 (.t 2) (.t 5)⟩
 .done)))))
 .ret))
theorem e3o:a1b Tryz.prog Tryz.f306 = some (e3n.erase,[.load 5 true (.t 2)],6):=by kernel_rfl
def b6z (b_1:Bool):Option y7 :=
    (a8n b_1).bind fun r_2 =>
    some (⟨1,r_2,[],[],[]⟩:y7)
theorem d0z (b_1:Bool) (r:y7) (hf:b6z b_1 = some r):y9 Tryz.prog 306 .fresh [(.bool b_1)] (o5 r):=by
  refine y9.of_awp mixed Tryz.func306 e3o nle ?_
  rw [a0f]
  unfold b6z at hf
  unfold e3n
  refine (show awp Tryz.prog true 0 _ (ofL [(0,(.bool b_1))]) [] _ from ?_)
  refine o6 ?_
  refine a0z ?_
  refine o8 (a1g (j:=0) (c:=(.agg [(.int .i64 0),(.int .i64 0),(.str []),.nil,.nil])) rfl trivial rfl rfl) ?_
  refine a0e ?_
  refine a0h ?_
  refine o6 ?_
  refine a0z ?_
  obtain ⟨r_2,er3,hf⟩:=ob hf
  refine o8 (a2z (.bool b_1) rfl) ?_
  refine o8 (a1f (b1j _ _ er3) rfl (.refl _) rfl) ?_
  refine o8 (o_q (.agg [(.int .i64 1),(.int .i64 r_2),(.str []),.nil,.nil]) rfl ⟨⟨rfl,nle,trivial⟩,⟨⟨rfl,nle,trivial⟩,trivial⟩⟩ rfl) ?_
  refine a1i (x9 (v:=(.agg [(.int .i64 1),(.int .i64 r_2),(.str []),.nil,.nil])) (y':=(.agg [(.int .i64 1),(.int .i64 r_2),(.str []),.nil,.nil])) rfl rfl rfl trivial ⟨rfl,nle⟩ ⟨⟨rfl,trivial⟩,⟨⟨rfl,trivial⟩,⟨⟨rfl,trivial⟩,⟨⟨rfl,trivial⟩,⟨⟨rfl,trivial⟩,trivial⟩⟩⟩⟩⟩ rfl) ?_
  refine a0e ?_
  refine a0h ?_
  refine a0d ?_
  obtain rfl:=os hf
  exact a1j ⟨nle,trivial⟩ rfl (by decide) (leJ (x:=(⟨1,r_2,[],[],[]⟩:y7)) (.agg (.cons (.refl _) (.cons (.refl _) (.cons (.refl _) (.cons (.nil _) (.cons (.nil _) .nil)))))))

/- spec.l13L -/
def d3v:a0p :=
 (.seq (.reg (tq 2 (.box 5 (.c (.agg [(.int .i64 0),(.int .i64 0),(.str []),.nil,.nil]))) .done))
 (.seq (.reg (tq 3 (.bslice 5 []) (tm 4 (.t 0) (tq 5 (.append 5 80 (.t 3) (.t 4)) (tq 6 (.build [(.int .i64 0),(.int .i64 0),(.str []),.nil,.nil] [(0,1,(.c (.int .i64 4))),(4,1,(.t 5))]) (.q ⟨none,none,.store 5 (.t 2) (.t 6)⟩
 .done))))))
 .ret))
theorem d7v:a1b Tryz.prog Tryz.f215 = some (d3v.erase,[.load 5 true (.t 2)],7):=by kernel_rfl
def a6u (list_1:(List y7)):Option y7 :=
    if ([] ++ list_1).length ≤ 2 ^ 30 then
    some (⟨4,0,[],[],[] ++ list_1⟩:y7)
    else none
theorem b6f (list_1:(List y7)) (r:y7) (hf:a6u list_1 = some r):a0j Tryz.prog true 215 [(.own 0 0 list_1.length)] [.row 5 (list_1.map o5)] (.agg [(.int .i64 r.Kind),(.int .i64 r.N),(.str r.T),(.own 1 0 r.Keys.length),(.own 2 0 r.Items.length)]) [.dead,.row 1 (r.Keys.map AV.str),.row 5 (r.Items.map o5)]:=by
 refine a0j.of_awp mixed Tryz.func215 d7v nle ?_;rw [a0f];unfold a6u at hf;unfold d3v;refine (show awp Tryz.prog true 1 _ (ofL [(0,(.own 0 0 list_1.length))]) [.row 5 (list_1.map o5)] _ from ?_);refine sr<|o8 (a1g (j:=1) (c:=(.agg [(.int .i64 0),(.int .i64 0),(.str []),.nil,.nil])) rfl trivial rfl rfl)<|dk<|sr<|?_
 obtain ⟨g2,hf⟩:=og hf
 refine o8 (a1c (j:=2) (as':=[]) rfl (fun _ => by decide) trivial (.refl _) rfl rfl rfl) ?_;refine l7 (.own 0 0 list_1.length) rfl ?_
 refine o8 (a2a (j:=3) (L:=(([] ++ list_1).map o5)) (len:=([] ++ list_1).length) rfl true rfl rfl (fun h => Bool.noConfusion h) (fun _ _ h => (b7c (show AV.own _ _ _ = AV.lst _ _ from h)).elim) (by decide) ((by simp [← List.map_take])) (by simp <;> omega) g2 rfl rfl) ?_
 refine o7 (.agg [(.int .i64 4),(.int .i64 0),(.str []),.nil,(.own 3 0 (([] ++ list_1).length))]) rfl ⟨⟨rfl,nle,trivial⟩,⟨⟨rfl,nle,trivial⟩,trivial⟩⟩ rfl<|a1i (x9 (v:=(.agg [(.int .i64 4),(.int .i64 0),(.str []),.nil,(.own 3 0 (([] ++ list_1).length))])) (y':=(.agg [(.int .i64 4),(.int .i64 0),(.str []),.nil,(.own 3 0 (([] ++ list_1).length))])) rfl rfl rfl trivial ⟨rfl,nle⟩ ⟨⟨rfl,trivial⟩,⟨⟨rfl,trivial⟩,⟨⟨rfl,trivial⟩,⟨⟨rfl,trivial⟩,⟨⟨rfl,trivial⟩,trivial⟩⟩⟩⟩⟩ rfl)<|dk<|a0d<|?_;obtain rfl:=os hf;exact a3a [.nilC 1 3 1] [0,4,3] rfl ⟨nle,trivial⟩ rfl (.refl _) (.refl _)

end Go.R
