/- Walks. -/
import Derived.Test.YtgdkfnndbknjpaaGreatMTT
set_option linter.all false
namespace Go.R
open Go Go.Proofs
set_option linter.unusedVariables false
set_option linter.unusedSimpArgs false
set_option maxHeartbeats 8000000
/- laws.at -/
def c31:a0n :=
 (.seq (.reg (tm 6 (.c (.int .i64 0)) .done))
 (.seq (.seq (.reg (tm 7 (.t 2) (tq 8 (.bin .leq (.t 7) (.c (.int .i64 1))) .done)))
 (.cond (.t 8) (.seq (.reg (tm 6 (.c (.int .i64 0)) .done))
 .ret)
 .skip))
 (.seq (.seq (.reg (tm 9 (.t 0) (tq 10 (.len (.t 9)) (tq 11 (.bin .eql (.t 10) (.c (.int .i64 0))) .done))))
 (.cond (.t 11) (.seq (.reg (tm 12 (.t 1) (tq 13 (.bin .mul (.t 12) (.c (.int .i64 7))) (tm 14 (.t 2) (tq 15 (.bin .rem (.t 13) (.t 14)) (tm 6 (.t 15) .done))))))
 .ret)
 .skip))
 (.seq (.reg (tm 16 (.t 0) (tm 17 (.t 1) (tm 18 (.t 0) (tq 19 (.len (.t 18)) (tq 20 (.bin .rem (.t 17) (.t 19)) (tq 21 (.iaddr 1 (.t 16) (.t 20)) (tq 22 (.load 1 false (.t 21)) (tq 23 (.convI .i64 (.t 22)) (tq 24 (.bin .mul (.t 23) (.c (.int .i64 31))) (tm 25 (.t 0) (tm 26 (.t 1) (tq 27 (.bin .add (.t 26) (.c (.int .i64 1))) (tm 28 (.t 0) (tq 29 (.len (.t 28)) (tq 30 (.bin .rem (.t 27) (.t 29)) (tq 31 (.iaddr 1 (.t 25) (.t 30)) (tq 32 (.load 1 false (.t 31)) (tq 33 (.convI .i64 (.t 32)) (tq 34 (.bin .add (.t 24) (.t 33)) (tm 35 (.t 1) (tm 36 (.t 0) (tq 37 (.len (.t 36)) (tq 38 (.bin .quo (.t 35) (.t 37)) (tq 39 (.bin .add (.t 34) (.t 38)) (tm 40 (.t 2) (tq 41 (.bin .rem (.t 39) (.t 40)) (tm 6 (.t 41) .done))))))))))))))))))))))))))))
 .ret))))
theorem e8b:a1c Tryz.prog Tryz.f31 = some (c31.erase,[.mov (.t 6)],42):=by kernel_rfl
def b9a (more_1:(List Int)) (i_2:Int) (n_3:Int):Option Int :=
    if (decide (n_3 ≤ 1)) then
    some 0
    else
    if ((more_1.length:Int) == 0) then
    if n_3 ≠ 0 then
    some ((w64 (i_2 * 7)).tmod n_3)
    else none
    else
    if (more_1.length:Int) ≠ 0 then
    (idx more_1 (i_2.tmod (more_1.length:Int))).bind fun x_10 =>
    if (more_1.length:Int) ≠ 0 then
    (idx more_1 ((w64 (i_2 + 1)).tmod (more_1.length:Int))).bind fun x_14 =>
    if (more_1.length:Int) ≠ 0 then
    if n_3 ≠ 0 then
    some ((w64 ((w64 ((w64 ((w64 x_10) * 31)) + (w64 x_14))) + (w64 (i_2.tdiv (more_1.length:Int))))).tmod n_3)
    else none
    else none
    else none
    else none
theorem d4p (more_1:(List Int)) (i_2:Int) (n_3:Int) (r:Int) (hf:b9a more_1 i_2 n_3 = some r):y8 Tryz.prog 31 .flat [(.lst 1 (more_1.map a0p)),(.int .i64 i_2),(.int .i64 n_3)] (.int .i64 r):=by
 refine y8.of_awp mixed Tryz.func31 e8b nle ?_;rw [a0h];unfold b9a at hf;unfold c31;refine (show awp Tryz.prog false 0 _ (ofL [(0,(.lst 1 (more_1.map a0p))),(1,(.int .i64 i_2)),(2,(.int .i64 n_3))]) [] _ from ?_);refine sr<|l9 (.int .i64 0) rfl<|dk<|o6<|sr<|l9 (.int .i64 n_3) rfl<|o7 (.bool (decide (n_3 ≤ 1))) rfl rfl rfl<|dk<|?_
 rcases oi hf with ⟨c4,hf⟩ | ⟨c4,hf⟩
 ·refine x9 rfl c4<|sr<|l9 (.int .i64 0) rfl<|dk<|a0a<|?_;obtain rfl:=os hf;exact a0d ⟨trivial,trivial⟩ rfl (.refl _)
 ·refine y5 rfl (bf c4)<|a0e<|a0f<|o6<|sr<|l9 (.lst 1 (more_1.map a0p)) rfl<|a1e (a1p (enc:=a0p) rfl) fun hl5 => o7 (.bool ((more_1.length:Int) == 0)) rfl rfl rfl<|dk<|?_
  rcases oi hf with ⟨c6,hf⟩ | ⟨c6,hf⟩
  ·refine x9 rfl c6<|sr<|?_
   obtain ⟨g7,hf⟩:=og hf
   refine l9 (.int .i64 i_2) rfl<|o7 (.int .i64 (w64 (i_2 * 7))) rfl rfl rfl<|l9 (.int .i64 n_3) rfl<|o7 (.int .i64 ((w64 (i_2 * 7)).tmod n_3)) rfl ⟨rfl,g7⟩ rfl<|l9 (.int .i64 ((w64 (i_2 * 7)).tmod n_3)) rfl<|dk<|a0a<|?_;obtain rfl:=os hf;exact a0d ⟨trivial,trivial⟩ rfl (.refl _)
  ·refine y5 rfl (bf c6)<|a0e<|a0f<|sr<|l9 (.lst 1 (more_1.map a0p)) rfl<|l9 (.int .i64 i_2) rfl<|l9 (.lst 1 (more_1.map a0p)) rfl<|a1e (a1p (enc:=a0p) rfl) fun hl8 => ?_
   obtain ⟨g9,hf⟩:=og hf
   refine o7 (.int .i64 (i_2.tmod (more_1.length:Int))) rfl ⟨rfl,g9⟩ rfl ?_
   obtain ⟨x_10,ex11,hf⟩:=ob hf
   refine x8 (a3l (enc:=a0p) rfl rfl (a8m ex11) (a8n ex11))<|o7 (.int .u8 x_10) rfl ⟨rfl,rfl⟩ rfl<|o7 (.int .i64 (w64 x_10)) rfl trivial rfl<|o7 (.int .i64 (w64 ((w64 x_10) * 31))) rfl rfl rfl<|l9 (.lst 1 (more_1.map a0p)) rfl<|l9 (.int .i64 i_2) rfl<|o7 (.int .i64 (w64 (i_2 + 1))) rfl rfl rfl<|l9 (.lst 1 (more_1.map a0p)) rfl<|a1e (a1p (enc:=a0p) rfl) fun hl12 => ?_
   obtain ⟨g13,hf⟩:=og hf
   refine o7 (.int .i64 ((w64 (i_2 + 1)).tmod (more_1.length:Int))) rfl ⟨rfl,g13⟩ rfl ?_
   obtain ⟨x_14,ex15,hf⟩:=ob hf
   refine x8 (a3l (enc:=a0p) rfl rfl (a8m ex15) (a8n ex15))<|o7 (.int .u8 x_14) rfl ⟨rfl,rfl⟩ rfl<|o7 (.int .i64 (w64 x_14)) rfl trivial rfl<|o7 (.int .i64 (w64 ((w64 ((w64 x_10) * 31)) + (w64 x_14)))) rfl rfl rfl<|l9 (.int .i64 i_2) rfl<|l9 (.lst 1 (more_1.map a0p)) rfl<|a1e (a1p (enc:=a0p) rfl) fun hl16 => ?_
   obtain ⟨g17,hf⟩:=og hf
   refine o7 (.int .i64 (w64 (i_2.tdiv (more_1.length:Int)))) rfl ⟨rfl,g17⟩ rfl<|o7 (.int .i64 (w64 ((w64 ((w64 ((w64 x_10) * 31)) + (w64 x_14))) + (w64 (i_2.tdiv (more_1.length:Int)))))) rfl rfl rfl<|l9 (.int .i64 n_3) rfl<|?_
   obtain ⟨g18,hf⟩:=og hf
   refine o7 (.int .i64 ((w64 ((w64 ((w64 ((w64 x_10) * 31)) + (w64 x_14))) + (w64 (i_2.tdiv (more_1.length:Int))))).tmod n_3)) rfl ⟨rfl,g18⟩ rfl<|l9 (.int .i64 ((w64 ((w64 ((w64 ((w64 x_10) * 31)) + (w64 x_14))) + (w64 (i_2.tdiv (more_1.length:Int))))).tmod n_3)) rfl<|dk<|a0a<|?_;obtain rfl:=os hf;exact a0d ⟨trivial,trivial⟩ rfl (.refl _)

/- spec.PlainSchema -/
def c25:a0n :=
 (.seq (.reg (tq 0 (.box 1 (.c (.agg [.nil]))) .done))
 (.seq (.reg (tq 2 (.build [(.str []),(.int .i64 0),(.int .i64 0),(.int .i64 0),(.int .i64 0),(.int .i64 0),(.str []),(.bool false)] [(0,1,(.c (.str [110,97,109,101]))),(1,1,(.c (.int .i64 2))),(2,1,(.c (.int .i64 1))),(3,1,(.c (.int .i64 1)))]) (tq 1 (.box 8 (.c (.agg [(.str []),(.int .i64 0),(.int .i64 0),(.int .i64 0),(.int .i64 0),(.int .i64 0),(.str []),(.bool false)]))) (.q ⟨none,none,.store 8 (.t 1) (.t 2)⟩
 .done))))
 (.seq (.reg (tq 3 (.load 8 true (.t 1)) (tq 4 (.build [(.str []),(.int .i64 0),(.int .i64 0),(.int .i64 0),(.int .i64 0),(.int .i64 0),(.str []),(.bool false)] [(0,1,(.c (.str [97,98,111,117,116]))),(1,1,(.c (.int .i64 4))),(3,1,(.c (.int .i64 4))),(6,1,(.c (.str [112,111,114,116])))]) (tq 5 (.bslice 8 [(.t 3),(.t 4)]) (tq 6 (.build [(.str []),.nil,.nil,(.bool false)] [(0,1,(.c (.str [110,111,116,101]))),(1,1,(.t 5)),(3,1,(.c (.bool true)))]) (tq 7 (.load 8 true (.t 1)) (tq 8 (.build [(.str []),(.int .i64 0),(.int .i64 0),(.int .i64 0),(.int .i64 0),(.int .i64 0),(.str []),(.bool false)] [(0,1,(.c (.str [116,97,103]))),(1,1,(.c (.int .i64 1))),(3,1,(.c (.int .i64 1))),(4,1,(.c (.int .i64 0))),(5,1,(.c (.int .i64 99)))]) (tq 9 (.build [(.str []),(.int .i64 0),(.int .i64 0),(.int .i64 0),(.int .i64 0),(.int .i64 0),(.str []),(.bool false)] [(0,1,(.c (.str [117,112]))),(1,1,(.c (.int .i64 3))),(2,1,(.c (.int .i64 1))),(3,1,(.c (.int .i64 1)))]) (tq 10 (.bslice 8 [(.t 7),(.t 8),(.t 9)]) (tq 11 (.bslice 1 [(.c (.int .i64 0))]) (tq 12 (.build [(.str []),.nil,.nil,(.bool false)] [(0,1,(.c (.str [112,111,114,116]))),(1,1,(.t 10)),(2,1,(.t 11))]) (tq 13 (.load 8 true (.t 1)) (tq 14 (.build [(.str []),(.int .i64 0),(.int .i64 0),(.int .i64 0),(.int .i64 0),(.int .i64 0),(.str []),(.bool false)] [(0,1,(.c (.str [99,111,117,110,116]))),(1,1,(.c (.int .i64 1))),(2,1,(.c (.int .i64 1))),(3,1,(.c (.int .i64 1))),(4,1,(.c (.int .i64 (-1000)))),(5,1,(.c (.int .i64 1000)))]) (tq 15 (.build [(.str []),(.int .i64 0),(.int .i64 0),(.int .i64 0),(.int .i64 0),(.int .i64 0),(.str []),(.bool false)] [(0,1,(.c (.str [112,111,114,116,115]))),(1,1,(.c (.int .i64 4))),(3,1,(.c (.int .i64 8))),(6,1,(.c (.str [112,111,114,116]))),(7,1,(.c (.bool true)))]) (tq 16 (.bslice 8 [(.t 13),(.t 14),(.t 15)]) (tq 17 (.bslice 1 [(.c (.int .i64 0))]) (tq 18 (.build [(.str []),.nil,.nil,(.bool false)] [(0,1,(.c (.str [115,119,105,116,99,104]))),(1,1,(.t 16)),(2,1,(.t 17)),(3,1,(.c (.bool true)))]) (tq 19 (.bslice 4 [(.t 6),(.t 12),(.t 18)]) (tq 20 (.build [.nil] [(0,1,(.t 19))]) (.q ⟨none,none,.store 1 (.t 0) (.t 20)⟩
 .done))))))))))))))))))))
 .ret)))
theorem e8c:a1c Tryz.prog Tryz.f25 = some (c25.erase,[.load 1 true (.t 0)],21):=by kernel_rfl
def a7o :Option b7a :=
    some (⟨[(⟨[110,111,116,101],[(⟨[110,97,109,101],2,1,1,0,0,[],false⟩:a0m),(⟨[97,98,111,117,116],4,0,4,0,0,[112,111,114,116],false⟩:a0m)],[],true⟩:a0w),(⟨[112,111,114,116],[(⟨[110,97,109,101],2,1,1,0,0,[],false⟩:a0m),(⟨[116,97,103],1,0,1,0,99,[],false⟩:a0m),(⟨[117,112],3,1,1,0,0,[],false⟩:a0m)],[(0:Int)],false⟩:a0w),(⟨[115,119,105,116,99,104],[(⟨[110,97,109,101],2,1,1,0,0,[],false⟩:a0m),(⟨[99,111,117,110,116],1,1,1,(-1000),1000,[],false⟩:a0m),(⟨[112,111,114,116,115],4,0,8,0,0,[112,111,114,116],true⟩:a0m)],[(0:Int)],true⟩:a0w)]⟩:b7a)
theorem b3q  (r:b7a) (hf:a7o = some r):y8 Tryz.prog 25 .fresh [] (c4d r):=by
 refine y8.of_awp mixed Tryz.func25 e8c nle ?_;rw [a0h];unfold a7o at hf;unfold c25;refine (show awp Tryz.prog true 0 _ (ofL []) [] _ from ?_);refine sr<|x8 (a1o (j:=0) (c:=(.agg [.nil])) rfl trivial rfl rfl)<|dk<|sr<|o7 (.agg [(.str [110,97,109,101]),(.int .i64 2),(.int .i64 1),(.int .i64 1),(.int .i64 0),(.int .i64 0),(.str []),(.bool false)]) rfl ⟨⟨rfl,nle,trivial⟩,⟨⟨rfl,nle,trivial⟩,⟨⟨rfl,nle,trivial⟩,⟨⟨rfl,nle,trivial⟩,trivial⟩⟩⟩⟩ rfl<|x8 (a1o (j:=1) (c:=(.agg [(.str []),(.int .i64 0),(.int .i64 0),(.int .i64 0),(.int .i64 0),(.int .i64 0),(.str []),(.bool false)])) rfl trivial rfl rfl)<|a3w (a0v (v:=(.agg [(.str [110,97,109,101]),(.int .i64 2),(.int .i64 1),(.int .i64 1),(.int .i64 0),(.int .i64 0),(.str []),(.bool false)])) (y':=(.agg [(.str [110,97,109,101]),(.int .i64 2),(.int .i64 1),(.int .i64 1),(.int .i64 0),(.int .i64 0),(.str []),(.bool false)])) rfl rfl rfl trivial ⟨rfl,nle⟩ ⟨⟨rfl,trivial⟩,⟨⟨rfl,trivial⟩,⟨⟨rfl,trivial⟩,⟨⟨rfl,trivial⟩,⟨⟨rfl,trivial⟩,⟨⟨rfl,trivial⟩,⟨⟨rfl,trivial⟩,⟨⟨rfl,trivial⟩,trivial⟩⟩⟩⟩⟩⟩⟩⟩ rfl)<|?_
 refine dk<|sr<|o7 (.agg [(.str [110,97,109,101]),(.int .i64 2),(.int .i64 1),(.int .i64 1),(.int .i64 0),(.int .i64 0),(.str []),(.bool false)]) rfl nle rfl<|o7 (.agg [(.str [97,98,111,117,116]),(.int .i64 4),(.int .i64 0),(.int .i64 4),(.int .i64 0),(.int .i64 0),(.str [112,111,114,116]),(.bool false)]) rfl ⟨⟨rfl,nle,trivial⟩,⟨⟨rfl,nle,trivial⟩,⟨⟨rfl,nle,trivial⟩,⟨⟨rfl,nle,trivial⟩,trivial⟩⟩⟩⟩ rfl<|?_;refine x8 (a1z (j:=2) (as':=[(o5 (⟨[110,97,109,101],2,1,1,0,0,[],false⟩:a0m)),(o5 (⟨[97,98,111,117,116],4,0,4,0,0,[112,111,114,116],false⟩:a0m))]) rfl (fun _ => by decide) ⟨rfl,⟨rfl,trivial⟩⟩ (.refl _) rfl rfl rfl) ?_
 refine o7 (.agg [(.str [110,111,116,101]),(.own 2 0 2),.nil,(.bool true)]) rfl ⟨⟨rfl,nle,trivial⟩,⟨⟨rfl,nle,trivial⟩,⟨⟨rfl,nle,trivial⟩,trivial⟩⟩⟩ rfl<|o7 (.agg [(.str [110,97,109,101]),(.int .i64 2),(.int .i64 1),(.int .i64 1),(.int .i64 0),(.int .i64 0),(.str []),(.bool false)]) rfl nle rfl<|o7 (.agg [(.str [116,97,103]),(.int .i64 1),(.int .i64 0),(.int .i64 1),(.int .i64 0),(.int .i64 99),(.str []),(.bool false)]) rfl ⟨⟨rfl,nle,trivial⟩,⟨⟨rfl,nle,trivial⟩,⟨⟨rfl,nle,trivial⟩,⟨⟨rfl,nle,trivial⟩,⟨⟨rfl,nle,trivial⟩,trivial⟩⟩⟩⟩⟩ rfl<|o7 (.agg [(.str [117,112]),(.int .i64 3),(.int .i64 1),(.int .i64 1),(.int .i64 0),(.int .i64 0),(.str []),(.bool false)]) rfl ⟨⟨rfl,nle,trivial⟩,⟨⟨rfl,nle,trivial⟩,⟨⟨rfl,nle,trivial⟩,⟨⟨rfl,nle,trivial⟩,trivial⟩⟩⟩⟩ rfl<|?_
 refine x8 (a1z (j:=3) (as':=[(o5 (⟨[110,97,109,101],2,1,1,0,0,[],false⟩:a0m)),(o5 (⟨[116,97,103],1,0,1,0,99,[],false⟩:a0m)),(o5 (⟨[117,112],3,1,1,0,0,[],false⟩:a0m))]) rfl (fun _ => by decide) ⟨rfl,⟨rfl,⟨rfl,trivial⟩⟩⟩ (.refl _) rfl rfl rfl) ?_;refine x8 (a1z (j:=4) (as':=[(.int .i64 0)]) rfl (fun _ => by decide) ⟨rfl,trivial⟩ (.refl _) rfl rfl rfl) ?_;refine o7 (.agg [(.str [112,111,114,116]),(.own 3 0 3),(.own 4 0 1),(.bool false)]) rfl ⟨⟨rfl,nle,trivial⟩,⟨⟨rfl,nle,trivial⟩,⟨⟨rfl,nle,trivial⟩,trivial⟩⟩⟩ rfl<|o7 (.agg [(.str [110,97,109,101]),(.int .i64 2),(.int .i64 1),(.int .i64 1),(.int .i64 0),(.int .i64 0),(.str []),(.bool false)]) rfl nle rfl<|?_
 refine o7 (.agg [(.str [99,111,117,110,116]),(.int .i64 1),(.int .i64 1),(.int .i64 1),(.int .i64 (-1000)),(.int .i64 1000),(.str []),(.bool false)]) rfl ⟨⟨rfl,nle,trivial⟩,⟨⟨rfl,nle,trivial⟩,⟨⟨rfl,nle,trivial⟩,⟨⟨rfl,nle,trivial⟩,⟨⟨rfl,nle,trivial⟩,⟨⟨rfl,nle,trivial⟩,trivial⟩⟩⟩⟩⟩⟩ rfl<|o7 (.agg [(.str [112,111,114,116,115]),(.int .i64 4),(.int .i64 0),(.int .i64 8),(.int .i64 0),(.int .i64 0),(.str [112,111,114,116]),(.bool true)]) rfl ⟨⟨rfl,nle,trivial⟩,⟨⟨rfl,nle,trivial⟩,⟨⟨rfl,nle,trivial⟩,⟨⟨rfl,nle,trivial⟩,⟨⟨rfl,nle,trivial⟩,trivial⟩⟩⟩⟩⟩ rfl<|?_;refine x8 (a1z (j:=5) (as':=[(o5 (⟨[110,97,109,101],2,1,1,0,0,[],false⟩:a0m)),(o5 (⟨[99,111,117,110,116],1,1,1,(-1000),1000,[],false⟩:a0m)),(o5 (⟨[112,111,114,116,115],4,0,8,0,0,[112,111,114,116],true⟩:a0m))]) rfl (fun _ => by decide) ⟨rfl,⟨rfl,⟨rfl,trivial⟩⟩⟩ (.refl _) rfl rfl rfl) ?_
 refine x8 (a1z (j:=6) (as':=[(.int .i64 0)]) rfl (fun _ => by decide) ⟨rfl,trivial⟩ (.refl _) rfl rfl rfl) ?_;refine o7 (.agg [(.str [115,119,105,116,99,104]),(.own 5 0 3),(.own 6 0 1),(.bool true)]) rfl ⟨⟨rfl,nle,trivial⟩,⟨⟨rfl,nle,trivial⟩,⟨⟨rfl,nle,trivial⟩,⟨⟨rfl,nle,trivial⟩,trivial⟩⟩⟩⟩ rfl ?_;refine x8 (a1z (j:=7) (as':=[(a1b (⟨[110,111,116,101],[(⟨[110,97,109,101],2,1,1,0,0,[],false⟩:a0m),(⟨[97,98,111,117,116],4,0,4,0,0,[112,111,114,116],false⟩:a0m)],[],true⟩:a0w)),(a1b (⟨[112,111,114,116],[(⟨[110,97,109,101],2,1,1,0,0,[],false⟩:a0m),(⟨[116,97,103],1,0,1,0,99,[],false⟩:a0m),(⟨[117,112],3,1,1,0,0,[],false⟩:a0m)],[(0:Int)],false⟩:a0w)),(a1b (⟨[115,119,105,116,99,104],[(⟨[110,97,109,101],2,1,1,0,0,[],false⟩:a0m),(⟨[99,111,117,110,116],1,1,1,(-1000),1000,[],false⟩:a0m),(⟨[112,111,114,116,115],4,0,8,0,0,[112,111,114,116],true⟩:a0m)],[(0:Int)],true⟩:a0w))]) rfl (fun _ => by decide) ⟨rfl,⟨rfl,⟨rfl,trivial⟩⟩⟩ (.cons (.agg (.cons (.refl _) (.cons (.refl _) (.cons (.nil _) (.cons (.refl _) .nil))))) (.cons (.refl _) (.cons (.refl _) .nil))) rfl rfl rfl) ?_
 refine o7 (.agg [(.own 7 0 3)]) rfl ⟨⟨rfl,nle,trivial⟩,trivial⟩ rfl<|a3w (a0v (v:=(.agg [(.own 7 0 3)])) (y':=(.agg [(.own 7 0 3)])) rfl rfl rfl trivial ⟨rfl,nle⟩ ⟨⟨rfl,trivial⟩,trivial⟩ rfl)<|dk<|a0a<|?_;obtain rfl:=os hf;exact a4r ⟨nle,trivial⟩ rfl (by decide) (.refl _)

/- impl.isDigit -/
def e1x:a0n :=
 (.seq (.reg (tm 2 (.c (.bool false)) .done))
 (.seq (.reg (tm 3 (.t 0) (tq 4 (.bin .geq (.t 3) (.c (.int .u8 48))) (tm 5 (.t 4) (tg 6 5 true (.mov (.t 0)) (tg 7 5 true (.bin .leq (.t 6) (.c (.int .u8 57))) (tq 8 (.pick (.t 5) (.t 7) (.c (.bool false))) (tm 2 (.t 8) .done))))))))
 .ret))
theorem e1y:a1c Tryz.prog Tryz.f248 = some (e1x.erase,[.mov (.t 2)],9):=by kernel_rfl
def b1f (b_1:Int):Option Bool :=
    if (decide (b_1 ≥ 48)) then
    some (decide (b_1 ≤ 57))
    else
    some false
theorem c4e (b_1:Int) (r:Bool) (hf:b1f b_1 = some r):y8 Tryz.prog 248 .flat [(.int .u8 b_1)] (.bool r):=by
 refine y8.of_awp mixed Tryz.func248 e1y nle ?_;rw [a0h];unfold b1f at hf;unfold e1x;refine (show awp Tryz.prog false 0 _ (ofL [(0,(.int .u8 b_1))]) [] _ from ?_);refine sr<|l9 (.bool false) rfl<|dk<|sr<|?_
 rcases oi hf with ⟨c2,hf⟩ | ⟨c2,hf⟩
 ·refine l9 (.int .u8 b_1) rfl<|o7 (.bool (decide (b_1 ≥ 48))) rfl rfl rfl<|l9 (.bool (decide (b_1 ≥ 48))) rfl<|a0u (s:=5) (b:=true) rfl c2<|s_on rfl<|l9 (.int .u8 b_1) rfl<|s_on rfl<|o7 (.bool (decide (b_1 ≤ 57))) rfl rfl rfl<|o7 (.bool (decide (b_1 ≤ 57))) rfl trivial rfl<|l9 (.bool (decide (b_1 ≤ 57))) rfl<|dk<|a0a<|?_;obtain rfl:=os hf;exact a0d ⟨trivial,trivial⟩ rfl (.refl _)
 ·refine l9 (.int .u8 b_1) rfl<|o7 (.bool (decide (b_1 ≥ 48))) rfl rfl rfl<|l9 (.bool (decide (b_1 ≥ 48))) rfl<|a0u (s:=5) (b:=false) rfl (bf c2)<|o9 rfl rfl<|o9 rfl rfl<|o7 (.bool false) rfl trivial rfl<|l9 (.bool false) rfl<|dk<|a0a<|?_;obtain rfl:=os hf;exact a0d ⟨trivial,trivial⟩ rfl (.refl _)

/- impl.within -/
def e1z:a0n :=
 (.seq (.reg (tm 6 (.c (.bool false)) .done))
 (.seq (.reg (tm 7 (.t 0) (tm 8 (.t 1) (tq 9 (.bin .geq (.t 7) (.t 8)) (tm 10 (.t 9) (tg 11 10 true (.mov (.t 0)) (tg 12 10 true (.mov (.t 2)) (tg 13 10 true (.bin .leq (.t 11) (.t 12)) (tq 14 (.pick (.t 10) (.t 13) (.c (.bool false))) (tm 6 (.t 14) .done))))))))))
 .ret))
theorem e2a:a1c Tryz.prog Tryz.f114 = some (e1z.erase,[.mov (.t 6)],15):=by kernel_rfl
def a3v (n_1:Int) (low_2:Int) (high_3:Int):Option Bool :=
    if (decide (n_1 ≥ low_2)) then
    some (decide (n_1 ≤ high_3))
    else
    some false
theorem a3y (n_1:Int) (low_2:Int) (high_3:Int) (r:Bool) (hf:a3v n_1 low_2 high_3 = some r):y8 Tryz.prog 114 .flat [(.int .i64 n_1),(.int .i64 low_2),(.int .i64 high_3)] (.bool r):=by
 refine y8.of_awp mixed Tryz.func114 e2a nle ?_;rw [a0h];unfold a3v at hf;unfold e1z;refine (show awp Tryz.prog false 0 _ (ofL [(0,(.int .i64 n_1)),(1,(.int .i64 low_2)),(2,(.int .i64 high_3))]) [] _ from ?_);refine sr<|l9 (.bool false) rfl<|dk<|sr<|?_
 rcases oi hf with ⟨c4,hf⟩ | ⟨c4,hf⟩
 ·refine l9 (.int .i64 n_1) rfl<|l9 (.int .i64 low_2) rfl<|o7 (.bool (decide (n_1 ≥ low_2))) rfl rfl rfl<|l9 (.bool (decide (n_1 ≥ low_2))) rfl<|a0u (s:=10) (b:=true) rfl c4<|s_on rfl<|l9 (.int .i64 n_1) rfl<|s_on rfl<|l9 (.int .i64 high_3) rfl<|s_on rfl<|o7 (.bool (decide (n_1 ≤ high_3))) rfl rfl rfl<|o7 (.bool (decide (n_1 ≤ high_3))) rfl trivial rfl<|l9 (.bool (decide (n_1 ≤ high_3))) rfl<|dk<|a0a<|?_;obtain rfl:=os hf;exact a0d ⟨trivial,trivial⟩ rfl (.refl _)
 ·refine l9 (.int .i64 n_1) rfl<|l9 (.int .i64 low_2) rfl<|o7 (.bool (decide (n_1 ≥ low_2))) rfl rfl rfl<|l9 (.bool (decide (n_1 ≥ low_2))) rfl<|a0u (s:=10) (b:=false) rfl (bf c4)<|o9 rfl rfl<|o9 rfl rfl<|o9 rfl rfl<|o7 (.bool false) rfl trivial rfl<|l9 (.bool false) rfl<|dk<|a0a<|?_;obtain rfl:=os hf;exact a0d ⟨trivial,trivial⟩ rfl (.refl _)

/- impl.NameOK -/
def c117:a0n :=
 (.seq (.reg (tm 2 (.c (.bool false)) .done))
 (.seq (.seq (.reg (tm 6 (.t 0) (tq 7 (.lenS (.t 6)) (tm 8 (.c (.int .i64 0)) .done))))
 (.block 0 (.loop (.seq (.reg (tq 9 (.bin .lss (.t 8) (.t 7)) .done))
 (.seq (.cond (.t 9) .skip
 (.exit 0))
 (.seq (.block 1 (.seq (.reg (tm 10 (.t 8) (tm 3 (.t 10) .done)))
 (.seq (.reg (tm 11 (.t 0) (tm 12 (.t 3) (tq 13 (.idxs (.t 11) (.t 12)) (tm 4 (.t 13) .done)))))
 (.seq (.reg (tm 14 (.t 4) (tq 15 (.bin .geq (.t 14) (.c (.int .u8 97))) (tm 16 (.t 15) (tg 17 16 true (.mov (.t 4)) (tg 18 16 true (.bin .leq (.t 17) (.c (.int .u8 122))) (tq 19 (.pick (.t 16) (.t 18) (.c (.bool false))) (tm 20 (.t 19) (tg 21 20 false (.mov (.t 4)) (tg 22 20 false (.bin .geq (.t 21) (.c (.int .u8 65))) (tg 23 20 false (.mov (.t 22)) (tg 24 23 true (.mov (.t 4)) (tg 25 23 true (.bin .leq (.t 24) (.c (.int .u8 90))) (tg 26 20 false (.pick (.t 23) (.t 25) (.c (.bool false))) (tq 27 (.pick (.t 20) (.c (.bool true)) (.t 26)) (tm 28 (.t 27) (tg 29 28 false (.mov (.t 4)) (tg 30 28 false (.bin .eql (.t 29) (.c (.int .u8 95))) (tq 31 (.pick (.t 28) (.c (.bool true)) (.t 30)) (tm 5 (.t 31) .done))))))))))))))))))))
 (.cut (.seq (.reg (tm 32 (.t 5) (tq 33 (.not (.t 32)) (tm 34 (.t 33) (tg 35 34 true (.mov (.t 3)) (tg 36 34 true (.bin .eql (.t 35) (.c (.int .i64 0))) (tg 37 34 true (.mov (.t 36)) (tg 38 37 false (.mov (.t 4)) (tg 39 37 false (.call 248 [(.t 38)]) (tg 40 37 false (.not (.t 39)) (tg 41 34 true (.pick (.t 37) (.c (.bool true)) (.t 40)) (tq 42 (.pick (.t 34) (.t 41) (.c (.bool false))) .done))))))))))))
 (.cut (.cond (.t 42) (.seq (.reg (tm 2 (.c (.bool false)) .done))
 .ret)
 .skip))))))))
 (.reg (tq 43 (.bin .add (.t 8) (.c (.int .i64 1))) (tm 8 (.t 43) .done)))))))))
 (.cut (.seq (.reg (tm 44 (.t 0) (tq 45 (.lenS (.t 44)) (tq 46 (.call 114 [(.t 45),(.c (.int .i64 1)),(.c (.int .i64 40))]) (tm 2 (.t 46) .done)))))
 .ret))))
theorem e2c:a1c Tryz.prog Tryz.f117 = some (c117.erase,[.mov (.t 2)],47):=by kernel_rfl
def a5r :List UInt8 → Nat → Option (Fl Bool Unit)
  | [],s8_34 =>
    some (.go ())
  | x_57 :: xs,s8_34 =>
    ((some ():Option Unit)).bind fun _ =>
    ((if (!(bif (bif (bif (decide ((x_57.toNat:Int) ≥ 97)) then (decide ((x_57.toNat:Int) ≤ 122)) else false) then true else (bif (decide ((x_57.toNat:Int) ≥ 65)) then (decide ((x_57.toNat:Int) ≤ 90)) else false)) then true else ((x_57.toNat:Int) == 95))) then
    if ((s8_34:Int) == 0) then
    some true
    else
    (b1f (x_57.toNat:Int)).bind fun r_67 =>
    some (!r_67)
    else
    some false:Option Bool)).bind fun s42_63 =>
    if s42_63 then
    some (.ret false)
    else
    a5r xs (s8_34 + 1)

def a8t (t_1:Str):Option Bool :=
    (a5r t_1 0).bind fun q => (match q with
    | .ret r => some r
    | .go _ =>
    (a3v (t_1.length:Int) 1 40).bind fun r_71 =>
    some r_71)
theorem b4j (t_1:Str) (r:Bool) (hf:a8t t_1 = some r):y8 Tryz.prog 117 .flat [(.str t_1)] (.bool r):=by
 refine y8.of_awp mixed Tryz.func117 e2c nle ?_;rw [a0h];unfold a8t at hf;unfold c117;refine (show awp Tryz.prog false 0 _ (ofL [(0,(.str t_1))]) [] _ from ?_);refine sr<|l9 (.bool false) rfl<|dk<|o6<|sr<|l9 (.str t_1) rfl<|a1e (b3o rfl) fun hl2 => l9 (.int .i64 0) rfl<|dk<|?_
 obtain ⟨p50,hb1,hf⟩:=ob hf
 refine a2i (X:={q:Unit // p50 = .go q}) (fun q => ([(0,(.str t_1))],[])) ?_ ?_
 ·refine a1m (X:={q:Nat // a5r (t_1.drop q) q = some p50}) (fun q => ([(0,(.str t_1)),(7,(.int .i64 (t_1.length:Int))),(8,(.int .i64 (q.1:Int)))],[])) (fun q => t_1.length - q.1) ⟨0,hb1⟩ ⟨[],[],_,_,rfl,rfl,⟨.refl _,⟨.refl _,⟨.refl _,trivial⟩⟩⟩,(.refl _)⟩ ?_
  rintro ⟨s8_34,hc1⟩
  have hc1:a5r (t_1.drop s8_34) s8_34 = some p50:=hc1
  refine (show awp Tryz.prog false 0 _ (ofL [(0,(.str t_1)),(7,(.int .i64 (t_1.length:Int))),(8,(.int .i64 (s8_34:Int)))]) [] _ from ?_)
  rcases a5p t_1 s8_34 with ⟨hie53,hd56⟩ | ⟨hlt51,x_57,hx52,hd56⟩
  ·rw [hd56,a5r.eq_1] at hc1
   have hq55:=dlf hie53
   refine sr<|o7 (.bool (decide ((s8_34:Int) < (t_1.length:Int)))) rfl rfl rfl<|dk<|o6<|y5 rfl hq55<|a2u<|a2t<|a1x<|a2s<|?_;obtain rfl:=os hc1;exact a3h ⟨_,rfl⟩ ⟨[],[],_,_,rfl,rfl,⟨.refl _,trivial⟩,(.refl _)⟩
  ·rw [hd56,a5r.eq_2] at hc1
   have hq55:=dlt hlt51
   refine sr<|o7 (.bool (decide ((s8_34:Int) < (t_1.length:Int)))) rfl rfl rfl<|dk<|o6<|x9 rfl hq55<|a0e<|a0f<|o6<|a3c<|sr<|l9 (.int .i64 (s8_34:Int)) rfl<|l9 (.int .i64 (s8_34:Int)) rfl<|dk<|sr<|l9 (.str t_1) rfl<|l9 (.int .i64 (s8_34:Int)) rfl<|x8 (b2d rfl rfl hx52)<|l9 (.int .u8 (x_57.toNat:Int)) rfl<|dk<|o6<|?_
   obtain ⟨p58,hb2,hc1⟩:=ob hc1
   refine a1k ([(0,(.str t_1)),(3,(.int .i64 (s8_34:Int))),(4,(.int .u8 (x_57.toNat:Int))),(5,(.bool (bif (bif (bif (decide ((x_57.toNat:Int) ≥ 97)) then (decide ((x_57.toNat:Int) ≤ 122)) else false) then true else (bif (decide ((x_57.toNat:Int) ≥ 65)) then (decide ((x_57.toNat:Int) ≤ 90)) else false)) then true else ((x_57.toNat:Int) == 95)))),(7,(.int .i64 (t_1.length:Int))),(8,(.int .i64 (s8_34:Int)))],[]) ?_ ?_
   ·refine a0k<|l9 (.int .u8 (x_57.toNat:Int)) rfl<|o7 (.bool (decide ((x_57.toNat:Int) ≥ 97))) rfl rfl rfl<|l9 (.bool (decide ((x_57.toNat:Int) ≥ 97))) rfl<|?_;refine s_g (v:=(decide ((x_57.toNat:Int) ≥ 97))) (.int .u8 (x_57.toNat:Int)) rfl (fun hv => by (try simp only [a0i hv]);exact ⟨rfl,trivial,rfl⟩) ?_;refine s_g (v:=(decide ((x_57.toNat:Int) ≥ 97))) (.bool (decide ((x_57.toNat:Int) ≤ 122))) rfl (fun hv => by (try simp only [a0i hv]);exact ⟨rfl,rfl,rfl⟩) ?_;refine a6l (x:=(decide ((x_57.toNat:Int) ≤ 122))) (y:=false) rfl (fun hv => by (try simp only [a0i hv]);rfl) (fun hv => by (try simp only [a0i hv]);rfl) ?_;refine l9 (.bool (bif (decide ((x_57.toNat:Int) ≥ 97)) then (decide ((x_57.toNat:Int) ≤ 122)) else false)) rfl ?_
    refine s_g (v:=(bif (decide ((x_57.toNat:Int) ≥ 97)) then (decide ((x_57.toNat:Int) ≤ 122)) else false)) (.int .u8 (x_57.toNat:Int)) rfl (fun hv => by (try simp only [a0i hv]);exact ⟨rfl,trivial,rfl⟩) ?_;refine s_g (v:=(bif (decide ((x_57.toNat:Int) ≥ 97)) then (decide ((x_57.toNat:Int) ≤ 122)) else false)) (.bool (decide ((x_57.toNat:Int) ≥ 65))) rfl (fun hv => by (try simp only [a0i hv]);exact ⟨rfl,rfl,rfl⟩) ?_;refine s_g (v:=(bif (decide ((x_57.toNat:Int) ≥ 97)) then (decide ((x_57.toNat:Int) ≤ 122)) else false)) (.bool (decide ((x_57.toNat:Int) ≥ 65))) rfl (fun hv => by (try simp only [a0i hv]);exact ⟨rfl,trivial,rfl⟩) ?_;refine c1s (v1:=(bif (decide ((x_57.toNat:Int) ≥ 97)) then (decide ((x_57.toNat:Int) ≤ 122)) else false)) (b1:=false) (v2:=(decide ((x_57.toNat:Int) ≥ 65))) (.int .u8 (x_57.toNat:Int)) rfl (fun hv hw => by (try simp only [a0i hv,a0i hw]);exact ⟨rfl,trivial,rfl⟩) ?_
    refine c1s (v1:=(bif (decide ((x_57.toNat:Int) ≥ 97)) then (decide ((x_57.toNat:Int) ≤ 122)) else false)) (b1:=false) (v2:=(decide ((x_57.toNat:Int) ≥ 65))) (.bool (decide ((x_57.toNat:Int) ≤ 90))) rfl (fun hv hw => by (try simp only [a0i hv,a0i hw]);exact ⟨rfl,rfl,rfl⟩) ?_;refine d9i (v1:=(bif (decide ((x_57.toNat:Int) ≥ 97)) then (decide ((x_57.toNat:Int) ≤ 122)) else false)) (b1:=false) (v2:=(decide ((x_57.toNat:Int) ≥ 65))) (x:=(decide ((x_57.toNat:Int) ≤ 90))) (y:=false) rfl (fun hv => by (try simp only [a0i hv]);rfl) (fun hv hw => by (try simp only [a0i hv,a0i hw]);rfl) (fun hv hw => by (try simp only [a0i hv,a0i hw]);rfl) ?_;refine a6l (x:=true) (y:=(bif (decide ((x_57.toNat:Int) ≥ 65)) then (decide ((x_57.toNat:Int) ≤ 90)) else false)) rfl (fun hv => by (try simp only [a0i hv]);rfl) (fun hv => by (try simp only [a0i hv]);rfl) ?_
    refine l9 (.bool (bif (bif (decide ((x_57.toNat:Int) ≥ 97)) then (decide ((x_57.toNat:Int) ≤ 122)) else false) then true else (bif (decide ((x_57.toNat:Int) ≥ 65)) then (decide ((x_57.toNat:Int) ≤ 90)) else false))) rfl ?_;refine s_g (v:=(bif (bif (decide ((x_57.toNat:Int) ≥ 97)) then (decide ((x_57.toNat:Int) ≤ 122)) else false) then true else (bif (decide ((x_57.toNat:Int) ≥ 65)) then (decide ((x_57.toNat:Int) ≤ 90)) else false))) (.int .u8 (x_57.toNat:Int)) rfl (fun hv => by (try simp only [a0i hv]);exact ⟨rfl,trivial,rfl⟩) ?_;refine s_g (v:=(bif (bif (decide ((x_57.toNat:Int) ≥ 97)) then (decide ((x_57.toNat:Int) ≤ 122)) else false) then true else (bif (decide ((x_57.toNat:Int) ≥ 65)) then (decide ((x_57.toNat:Int) ≤ 90)) else false))) (.bool ((x_57.toNat:Int) == 95)) rfl (fun hv => by (try simp only [a0i hv]);exact ⟨rfl,rfl,rfl⟩) ?_
    refine a6l (x:=true) (y:=((x_57.toNat:Int) == 95)) rfl (fun hv => by (try simp only [a0i hv]);rfl) (fun hv => by (try simp only [a0i hv]);rfl) ?_;refine l9 (.bool (bif (bif (bif (decide ((x_57.toNat:Int) ≥ 97)) then (decide ((x_57.toNat:Int) ≤ 122)) else false) then true else (bif (decide ((x_57.toNat:Int) ≥ 65)) then (decide ((x_57.toNat:Int) ≤ 90)) else false)) then true else ((x_57.toNat:Int) == 95))) rfl<|y7<|?_;obtain rfl:=os hb2;exact ⟨[],[],_,_,rfl,rfl,⟨.refl _,⟨.refl _,⟨.refl _,⟨.refl _,⟨.refl _,⟨.refl _,trivial⟩⟩⟩⟩⟩⟩,(.refl _)⟩
   ·refine o6 ?_
    obtain ⟨s42_63,hb2,hc1⟩:=ob hc1
    refine a1k ([(0,(.str t_1)),(7,(.int .i64 (t_1.length:Int))),(8,(.int .i64 (s8_34:Int))),(42,(.bool s42_63))],[]) ?_ ?_
    ·refine a0k ?_
     rcases oi hb2 with ⟨c65,hb2⟩ | ⟨c65,hb2⟩
     ·rcases oi hb2 with ⟨c66,hb2⟩ | ⟨c66,hb2⟩
      ·refine l9 (.bool (bif (bif (bif (decide ((x_57.toNat:Int) ≥ 97)) then (decide ((x_57.toNat:Int) ≤ 122)) else false) then true else (bif (decide ((x_57.toNat:Int) ≥ 65)) then (decide ((x_57.toNat:Int) ≤ 90)) else false)) then true else ((x_57.toNat:Int) == 95))) rfl<|o7 (.bool (!(bif (bif (bif (decide ((x_57.toNat:Int) ≥ 97)) then (decide ((x_57.toNat:Int) ≤ 122)) else false) then true else (bif (decide ((x_57.toNat:Int) ≥ 65)) then (decide ((x_57.toNat:Int) ≤ 90)) else false)) then true else ((x_57.toNat:Int) == 95)))) rfl trivial rfl<|l9 (.bool (!(bif (bif (bif (decide ((x_57.toNat:Int) ≥ 97)) then (decide ((x_57.toNat:Int) ≤ 122)) else false) then true else (bif (decide ((x_57.toNat:Int) ≥ 65)) then (decide ((x_57.toNat:Int) ≤ 90)) else false)) then true else ((x_57.toNat:Int) == 95)))) rfl<|?_
       refine a0u (s:=34) (b:=true) rfl c65<|s_on rfl<|l9 (.int .i64 (s8_34:Int)) rfl<|s_on rfl<|o7 (.bool ((s8_34:Int) == 0)) rfl rfl rfl<|s_on rfl<|l9 (.bool ((s8_34:Int) == 0)) rfl<|a0u (s:=37) (b:=true) rfl c66<|o9 rfl rfl<|o9 rfl rfl<|o9 rfl rfl<|s_on rfl<|o7 (.bool true) rfl trivial rfl<|o7 (.bool true) rfl trivial rfl<|y7<|?_;obtain rfl:=os hb2;exact ⟨[],[],_,_,rfl,rfl,⟨.refl _,⟨.refl _,⟨.refl _,⟨.refl _,trivial⟩⟩⟩⟩,(.refl _)⟩
      ·obtain ⟨r_67,er68,hb2⟩:=ob hb2
       refine l9 (.bool (bif (bif (bif (decide ((x_57.toNat:Int) ≥ 97)) then (decide ((x_57.toNat:Int) ≤ 122)) else false) then true else (bif (decide ((x_57.toNat:Int) ≥ 65)) then (decide ((x_57.toNat:Int) ≤ 90)) else false)) then true else ((x_57.toNat:Int) == 95))) rfl<|o7 (.bool (!(bif (bif (bif (decide ((x_57.toNat:Int) ≥ 97)) then (decide ((x_57.toNat:Int) ≤ 122)) else false) then true else (bif (decide ((x_57.toNat:Int) ≥ 65)) then (decide ((x_57.toNat:Int) ≤ 90)) else false)) then true else ((x_57.toNat:Int) == 95)))) rfl trivial rfl<|l9 (.bool (!(bif (bif (bif (decide ((x_57.toNat:Int) ≥ 97)) then (decide ((x_57.toNat:Int) ≤ 122)) else false) then true else (bif (decide ((x_57.toNat:Int) ≥ 65)) then (decide ((x_57.toNat:Int) ≤ 90)) else false)) then true else ((x_57.toNat:Int) == 95)))) rfl<|?_
       refine a0u (s:=34) (b:=true) rfl c65<|s_on rfl<|l9 (.int .i64 (s8_34:Int)) rfl<|s_on rfl<|o7 (.bool ((s8_34:Int) == 0)) rfl rfl rfl<|s_on rfl<|l9 (.bool ((s8_34:Int) == 0)) rfl<|a0u (s:=37) (b:=false) rfl (bf c66)<|s_on rfl<|l9 (.int .u8 (x_57.toNat:Int)) rfl<|s_on rfl<|x8 (a0g (c4e _ _ er68) rfl (.refl _) rfl)<|s_on rfl<|o7 (.bool (!r_67)) rfl trivial rfl<|s_on rfl<|o7 (.bool (!r_67)) rfl trivial rfl<|o7 (.bool (!r_67)) rfl trivial rfl<|y7<|?_;obtain rfl:=os hb2;exact ⟨[],[],_,_,rfl,rfl,⟨.refl _,⟨.refl _,⟨.refl _,⟨.refl _,trivial⟩⟩⟩⟩,(.refl _)⟩
     ·refine l9 (.bool (bif (bif (bif (decide ((x_57.toNat:Int) ≥ 97)) then (decide ((x_57.toNat:Int) ≤ 122)) else false) then true else (bif (decide ((x_57.toNat:Int) ≥ 65)) then (decide ((x_57.toNat:Int) ≤ 90)) else false)) then true else ((x_57.toNat:Int) == 95))) rfl<|o7 (.bool (!(bif (bif (bif (decide ((x_57.toNat:Int) ≥ 97)) then (decide ((x_57.toNat:Int) ≤ 122)) else false) then true else (bif (decide ((x_57.toNat:Int) ≥ 65)) then (decide ((x_57.toNat:Int) ≤ 90)) else false)) then true else ((x_57.toNat:Int) == 95)))) rfl trivial rfl<|l9 (.bool (!(bif (bif (bif (decide ((x_57.toNat:Int) ≥ 97)) then (decide ((x_57.toNat:Int) ≤ 122)) else false) then true else (bif (decide ((x_57.toNat:Int) ≥ 65)) then (decide ((x_57.toNat:Int) ≤ 90)) else false)) then true else ((x_57.toNat:Int) == 95)))) rfl<|?_
      refine a0u (s:=34) (b:=false) rfl (bf c65)<|o9 rfl rfl<|o9 rfl rfl<|o9 rfl rfl<|a1y rfl<|a1y rfl<|a1y rfl<|o9 rfl rfl<|o7 (.bool false) rfl trivial rfl<|y7<|?_;obtain rfl:=os hb2;exact ⟨[],[],_,_,rfl,rfl,⟨.refl _,⟨.refl _,⟨.refl _,⟨.refl _,trivial⟩⟩⟩⟩,(.refl _)⟩
    ·rcases oi hc1 with ⟨c69,hc1⟩ | ⟨c69,hc1⟩
     ·refine x9 rfl c69<|sr<|l9 (.bool false) rfl<|dk<|a0a<|?_;obtain rfl:=os hc1;obtain rfl:=os hf;exact a0d ⟨trivial,trivial⟩ rfl (.refl _)
     ·refine y5 rfl (bf c69)<|a0e<|a2c<|a0f<|a0k<|o7 (.int .i64 (w64 ((s8_34:Int) + 1))) rfl rfl rfl<|l9 (.int .i64 (w64 ((s8_34:Int) + 1))) rfl<|y7<|?_;exact a1t ⟨(s8_34 + 1),hc1⟩ (mul hlt51) ⟨[],[],_,_,rfl,rfl,⟨.refl _,⟨.refl _,⟨.of_eq (congrArg (AV.int _) (a1w hlt51 hl2)),trivial⟩⟩⟩,(.refl _)⟩
 ·rintro ⟨_,rfl⟩
  refine sr<|?_
  obtain ⟨r_71,er72,hf⟩:=ob hf
  refine l9 (.str t_1) rfl<|a1e (b3o rfl) fun hl70 => x8 (a0g (a3y _ _ _ _ er72) rfl (.refl _) rfl)<|l9 (.bool r_71) rfl<|dk<|a0a<|?_;obtain rfl:=os hf;exact a0d ⟨trivial,trivial⟩ rfl (.refl _)

/- impl.isNumber -/
def e2d:a0n :=
 (.seq (.reg (tm 2 (.c (.bool false)) .done))
 (.seq (.reg (tm 3 (.t 0) (tq 4 (.call 114 [(.t 3),(.c (.int .i64 (-1000000000))),(.c (.int .i64 1000000000))]) (tm 2 (.t 4) .done))))
 .ret))
theorem e2e:a1c Tryz.prog Tryz.f252 = some (e2d.erase,[.mov (.t 2)],5):=by kernel_rfl
def a6f (n_1:Int):Option Bool :=
    (a3v n_1 (-1000000000) 1000000000).bind fun r_2 =>
    some r_2
theorem a7z (n_1:Int) (r:Bool) (hf:a6f n_1 = some r):y8 Tryz.prog 252 .flat [(.int .i64 n_1)] (.bool r):=by
  refine y8.of_awp mixed Tryz.func252 e2e nle ?_
  rw [a0h]
  unfold a6f at hf
  unfold e2d
  refine (show awp Tryz.prog false 0 _ (ofL [(0,(.int .i64 n_1))]) [] _ from ?_)
  refine o6 ?_
  refine a0k ?_
  refine x8 (a2r (.bool false) rfl) ?_
  refine y7 ?_
  refine a0f ?_
  refine o6 ?_
  refine a0k ?_
  obtain ⟨r_2,er3,hf⟩:=ob hf
  refine x8 (a2r (.int .i64 n_1) rfl) ?_
  refine x8 (a0g (a3y _ _ _ _ er3) rfl (.refl _) rfl) ?_
  refine x8 (a2r (.bool r_2) rfl) ?_
  refine y7 ?_
  refine a0f ?_
  refine a0a ?_
  obtain rfl:=os hf
  exact a0d ⟨trivial,trivial⟩ rfl (.refl _)

/- impl.ColumnOK -/
def d4q:a0n :=
 (.seq (.reg (tq 1 (.box 8 (.t 0)) (tm 2 (.c (.bool false)) .done)))
 (.seq (.seq (.reg (tq 3 (.faddr 0 (.t 1)) (tq 4 (.load 1 false (.t 3)) (tq 5 (.call 117 [(.t 4)]) (tq 6 (.not (.t 5)) (tm 7 (.t 6) (tg 8 7 false (.faddr 2 (.t 1)) (tg 9 7 false (.load 1 false (.t 8)) (tg 10 7 false (.call 114 [(.t 9),(.c (.int .i64 0)),(.c (.int .i64 1))]) (tg 11 7 false (.not (.t 10)) (tq 12 (.pick (.t 7) (.c (.bool true)) (.t 11)) (tm 13 (.t 12) (tg 14 13 false (.faddr 3 (.t 1)) (tg 15 13 false (.load 1 false (.t 14)) (tg 16 13 false (.call 114 [(.t 15),(.c (.int .i64 1)),(.c (.int .i64 8))]) (tg 17 13 false (.not (.t 16)) (tq 18 (.pick (.t 13) (.c (.bool true)) (.t 17)) .done)))))))))))))))))
 (.cut (.cond (.t 18) (.seq (.reg (tm 2 (.c (.bool false)) .done))
 .ret)
 .skip)))
 (.seq (.seq (.reg (tq 19 (.faddr 1 (.t 1)) (tq 20 (.load 1 false (.t 19)) .done)))
 (.block 0 (.seq (.reg (tq 22 (.bin .eql (.t 20) (.c (.int .i64 1))) (tm 21 (.t 22) .done)))
 (.cond (.t 21) (.seq (.reg (tq 23 (.faddr 4 (.t 1)) (tq 24 (.load 1 false (.t 23)) (tq 25 (.call 252 [(.t 24)]) (tm 26 (.t 25) (tg 27 26 true (.faddr 5 (.t 1)) (tg 28 26 true (.load 1 false (.t 27)) (tg 29 26 true (.call 252 [(.t 28)]) (tq 30 (.pick (.t 26) (.t 29) (.c (.bool false))) (tm 31 (.t 30) (tg 32 31 true (.faddr 4 (.t 1)) (tg 33 31 true (.load 1 false (.t 32)) (tg 34 31 true (.faddr 5 (.t 1)) (tg 35 31 true (.load 1 false (.t 34)) (tg 36 31 true (.bin .leq (.t 33) (.t 35)) (tq 37 (.pick (.t 31) (.t 36) (.c (.bool false))) (tm 38 (.t 37) (tg 39 38 true (.faddr 6 (.t 1)) (tg 40 38 true (.load 1 false (.t 39)) (tg 41 38 true (.bin .eql (.t 40) (.c (.str []))) (tq 42 (.pick (.t 38) (.t 41) (.c (.bool false))) (tm 43 (.t 42) (tg 44 43 true (.faddr 7 (.t 1)) (tg 45 43 true (.load 1 false (.t 44)) (tg 46 43 true (.not (.t 45)) (tq 47 (.pick (.t 43) (.t 46) (.c (.bool false))) (tm 2 (.t 47) .done)))))))))))))))))))))))))))
 .ret)
 (.seq (.seq (.reg (tq 49 (.bin .eql (.t 20) (.c (.int .i64 2))) (tm 48 (.t 49) .done)))
 (.cond (.t 48) .skip
 (.reg (tq 50 (.bin .eql (.t 20) (.c (.int .i64 3))) (tm 48 (.t 50) .done)))))
 (.cut (.cond (.t 48) (.seq (.reg (tq 51 (.faddr 4 (.t 1)) (tq 52 (.load 1 false (.t 51)) (tq 53 (.bin .eql (.t 52) (.c (.int .i64 0))) (tm 54 (.t 53) (tg 55 54 true (.faddr 5 (.t 1)) (tg 56 54 true (.load 1 false (.t 55)) (tg 57 54 true (.bin .eql (.t 56) (.c (.int .i64 0))) (tq 58 (.pick (.t 54) (.t 57) (.c (.bool false))) (tm 59 (.t 58) (tg 60 59 true (.faddr 6 (.t 1)) (tg 61 59 true (.load 1 false (.t 60)) (tg 62 59 true (.bin .eql (.t 61) (.c (.str []))) (tq 63 (.pick (.t 59) (.t 62) (.c (.bool false))) (tm 64 (.t 63) (tg 65 64 true (.faddr 7 (.t 1)) (tg 66 64 true (.load 1 false (.t 65)) (tg 67 64 true (.not (.t 66)) (tq 68 (.pick (.t 64) (.t 67) (.c (.bool false))) (tm 2 (.t 68) .done))))))))))))))))))))
 .ret)
 (.seq (.reg (tq 70 (.bin .eql (.t 20) (.c (.int .i64 4))) (tm 69 (.t 70) .done)))
 (.cond (.t 69) (.seq (.reg (tq 71 (.faddr 4 (.t 1)) (tq 72 (.load 1 false (.t 71)) (tq 73 (.bin .eql (.t 72) (.c (.int .i64 0))) (tm 74 (.t 73) (tg 75 74 true (.faddr 5 (.t 1)) (tg 76 74 true (.load 1 false (.t 75)) (tg 77 74 true (.bin .eql (.t 76) (.c (.int .i64 0))) (tq 78 (.pick (.t 74) (.t 77) (.c (.bool false))) (tm 79 (.t 78) (tg 80 79 true (.faddr 6 (.t 1)) (tg 81 79 true (.load 1 false (.t 80)) (tg 82 79 true (.call 117 [(.t 81)]) (tq 83 (.pick (.t 79) (.t 82) (.c (.bool false))) (tm 84 (.t 83) (tg 85 84 true (.faddr 2 (.t 1)) (tg 86 84 true (.load 1 false (.t 85)) (tg 87 84 true (.bin .eql (.t 86) (.c (.int .i64 0))) (tq 88 (.pick (.t 84) (.t 87) (.c (.bool false))) (tm 2 (.t 88) .done))))))))))))))))))))
 .ret)
 .skip)))))))))
 (.seq (.reg (tm 2 (.c (.bool false)) .done))
 .ret))))
theorem e2f:a1c Tryz.prog Tryz.f121 = some (d4q.erase,[.mov (.t 2)],89):=by kernel_rfl
def a8e (c_1:a0m):Option Bool :=
    (((a8t c_1.Name).bind fun r_12 =>
    if (!r_12) then
    some true
    else
    (a3v c_1.Min 0 1).bind fun r_15 =>
    if (!r_15) then
    some true
    else
    (a3v c_1.Max 1 8).bind fun r_18 =>
    some (!r_18):Option Bool)).bind fun s18_10 =>
    if s18_10 then
    some false
    else
    if (c_1.Kind == 1) then
    (a6f c_1.Low).bind fun r_22 =>
    if r_22 then
    (a6f c_1.High).bind fun r_25 =>
    some (bif (bif (bif r_25 then (decide (c_1.Low ≤ c_1.High)) else false) then (c_1.Ref == []) else false) then (!c_1.Strong) else false)
    else
    some false
    else
    ((if (c_1.Kind == 2) then
    some true
    else
    some (c_1.Kind == 3):Option Bool)).bind fun s48_28 =>
    if s48_28 then
    some (bif (bif (bif (c_1.Low == 0) then (c_1.High == 0) else false) then (c_1.Ref == []) else false) then (!c_1.Strong) else false)
    else
    if (c_1.Kind == 4) then
    if (bif (c_1.Low == 0) then (c_1.High == 0) else false) then
    (a8t c_1.Ref).bind fun r_34 =>
    some (bif r_34 then (c_1.Min == 0) else false)
    else
    some false
    else
    some false
theorem b2t (c_1:a0m) (r:Bool) (hf:a8e c_1 = some r):y8 Tryz.prog 121 .flat [(o5 c_1)] (.bool r):=by
 refine y8.of_awp mixed Tryz.func121 e2f nle ?_;rw [a0h];unfold a8e at hf;unfold d4q;refine (show awp Tryz.prog false 0 _ (ofL [(0,(o5 c_1))]) [] _ from ?_);refine sr<|x8 (a1o (j:=0) (c:=(.agg [(.str c_1.Name),(.int .i64 c_1.Kind),(.int .i64 c_1.Min),(.int .i64 c_1.Max),(.int .i64 c_1.Low),(.int .i64 c_1.High),(.str c_1.Ref),(.bool c_1.Strong)])) rfl trivial rfl rfl)<|l9 (.bool false) rfl<|dk<|o6<|o6<|?_
 obtain ⟨s18_10,hb1,hf⟩:=ob hf
 refine a1k ([(1,(.ptr 0 0 0)),(18,(.bool s18_10))],[.box 8 (.agg [(.str c_1.Name),(.int .i64 c_1.Kind),(.int .i64 c_1.Min),(.int .i64 c_1.Max),(.int .i64 c_1.Low),(.int .i64 c_1.High),(.str c_1.Ref),(.bool c_1.Strong)])]) ?_ ?_
 ·refine a0k<|o7 (.ptr 0 0 0) rfl trivial rfl<|o7 (.str c_1.Name) rfl nle rfl<|?_
  obtain ⟨r_12,er13,hb1⟩:=ob hb1
  refine x8 (a0g (b4j _ _ er13) rfl (.refl _) rfl)<|o7 (.bool (!r_12)) rfl trivial rfl<|l9 (.bool (!r_12)) rfl<|?_
  rcases oi hb1 with ⟨c14,hb1⟩ | ⟨c14,hb1⟩
  ·refine a0u (s:=7) (b:=true) rfl c14<|o9 rfl rfl<|o9 rfl rfl<|o9 rfl rfl<|o9 rfl rfl<|o7 (.bool true) rfl trivial rfl<|l9 (.bool true) rfl<|o9 rfl rfl<|o9 rfl rfl<|o9 rfl rfl<|o9 rfl rfl<|o7 (.bool true) rfl trivial rfl<|y7<|?_;obtain rfl:=os hb1;exact ⟨[],[0],_,_,rfl,rfl,⟨.refl _,⟨.refl _,trivial⟩⟩,(.refl _)⟩
  ·refine a0u (s:=7) (b:=false) rfl (bf c14)<|s_on rfl<|o7 (.ptr 0 0 2) rfl trivial rfl<|s_on rfl<|o7 (.int .i64 c_1.Min) rfl nle rfl<|s_on rfl<|?_
   obtain ⟨r_15,er16,hb1⟩:=ob hb1
   refine x8 (a0g (a3y _ _ _ _ er16) rfl (.refl _) rfl)<|s_on rfl<|o7 (.bool (!r_15)) rfl trivial rfl<|o7 (.bool (!r_15)) rfl trivial rfl<|l9 (.bool (!r_15)) rfl<|?_
   rcases oi hb1 with ⟨c17,hb1⟩ | ⟨c17,hb1⟩
   ·refine a0u (s:=13) (b:=true) rfl c17<|o9 rfl rfl<|o9 rfl rfl<|o9 rfl rfl<|o9 rfl rfl<|o7 (.bool true) rfl trivial rfl<|y7<|?_;obtain rfl:=os hb1;exact ⟨[],[0],_,_,rfl,rfl,⟨.refl _,⟨.refl _,trivial⟩⟩,(.refl _)⟩
   ·refine a0u (s:=13) (b:=false) rfl (bf c17)<|s_on rfl<|o7 (.ptr 0 0 3) rfl trivial rfl<|s_on rfl<|o7 (.int .i64 c_1.Max) rfl nle rfl<|s_on rfl<|?_
    obtain ⟨r_18,er19,hb1⟩:=ob hb1
    refine x8 (a0g (a3y _ _ _ _ er19) rfl (.refl _) rfl)<|s_on rfl<|o7 (.bool (!r_18)) rfl trivial rfl<|o7 (.bool (!r_18)) rfl trivial rfl<|y7<|?_;obtain rfl:=os hb1;exact ⟨[],[0],_,_,rfl,rfl,⟨.refl _,⟨.refl _,trivial⟩⟩,(.refl _)⟩
 ·rcases oi hf with ⟨c20,hf⟩ | ⟨c20,hf⟩
  ·refine x9 rfl c20<|sr<|l9 (.bool false) rfl<|dk<|a0a<|?_;obtain rfl:=os hf;exact a0d ⟨trivial,trivial⟩ rfl (.refl _)
  ·refine y5 rfl (bf c20)<|a0e<|a0f<|o6<|sr<|o7 (.ptr 0 0 1) rfl trivial rfl<|o7 (.int .i64 c_1.Kind) rfl nle rfl<|dk<|a3c<|sr<|o7 (.bool (c_1.Kind == 1)) rfl rfl rfl<|l9 (.bool (c_1.Kind == 1)) rfl<|dk<|?_
   rcases oi hf with ⟨c21,hf⟩ | ⟨c21,hf⟩
   ·refine x9 rfl c21<|sr<|o7 (.ptr 0 0 4) rfl trivial rfl<|o7 (.int .i64 c_1.Low) rfl nle rfl<|?_
    obtain ⟨r_22,er23,hf⟩:=ob hf
    refine x8 (a0g (a7z _ _ er23) rfl (.refl _) rfl)<|l9 (.bool r_22) rfl<|?_
    rcases oi hf with ⟨c24,hf⟩ | ⟨c24,hf⟩
    ·refine a0u (s:=26) (b:=true) rfl c24<|s_on rfl<|o7 (.ptr 0 0 5) rfl trivial rfl<|s_on rfl<|o7 (.int .i64 c_1.High) rfl nle rfl<|s_on rfl<|?_
     obtain ⟨r_25,er26,hf⟩:=ob hf
     refine x8 (a0g (a7z _ _ er26) rfl (.refl _) rfl)<|o7 (.bool r_25) rfl trivial rfl<|l9 (.bool r_25) rfl<|?_;refine s_g (v:=r_25) (.ptr 0 0 4) rfl (fun hv => by (try simp only [a0i hv]);exact ⟨rfl,trivial,rfl⟩) ?_;refine s_g (v:=r_25) (.int .i64 c_1.Low) rfl (fun hv => by (try simp only [a0i hv]);exact ⟨rfl,nle,rfl⟩) ?_;refine s_g (v:=r_25) (.ptr 0 0 5) rfl (fun hv => by (try simp only [a0i hv]);exact ⟨rfl,trivial,rfl⟩) ?_;refine s_g (v:=r_25) (.int .i64 c_1.High) rfl (fun hv => by (try simp only [a0i hv]);exact ⟨rfl,nle,rfl⟩) ?_;refine s_g (v:=r_25) (.bool (decide (c_1.Low ≤ c_1.High))) rfl (fun hv => by (try simp only [a0i hv]);exact ⟨rfl,rfl,rfl⟩) ?_
     refine a6l (x:=(decide (c_1.Low ≤ c_1.High))) (y:=false) rfl (fun hv => by (try simp only [a0i hv]);rfl) (fun hv => by (try simp only [a0i hv]);rfl) ?_;refine l9 (.bool (bif r_25 then (decide (c_1.Low ≤ c_1.High)) else false)) rfl ?_;refine s_g (v:=(bif r_25 then (decide (c_1.Low ≤ c_1.High)) else false)) (.ptr 0 0 6) rfl (fun hv => by (try simp only [a0i hv]);exact ⟨rfl,trivial,rfl⟩) ?_;refine s_g (v:=(bif r_25 then (decide (c_1.Low ≤ c_1.High)) else false)) (.str c_1.Ref) rfl (fun hv => by (try simp only [a0i hv]);exact ⟨rfl,nle,rfl⟩) ?_;refine s_g (v:=(bif r_25 then (decide (c_1.Low ≤ c_1.High)) else false)) (.bool (c_1.Ref == [])) rfl (fun hv => by (try simp only [a0i hv]);exact ⟨rfl,trivial,rfl⟩) ?_
     refine a6l (x:=(c_1.Ref == [])) (y:=false) rfl (fun hv => by (try simp only [a0i hv]);rfl) (fun hv => by (try simp only [a0i hv]);rfl) ?_;refine l9 (.bool (bif (bif r_25 then (decide (c_1.Low ≤ c_1.High)) else false) then (c_1.Ref == []) else false)) rfl ?_;refine s_g (v:=(bif (bif r_25 then (decide (c_1.Low ≤ c_1.High)) else false) then (c_1.Ref == []) else false)) (.ptr 0 0 7) rfl (fun hv => by (try simp only [a0i hv]);exact ⟨rfl,trivial,rfl⟩) ?_;refine s_g (v:=(bif (bif r_25 then (decide (c_1.Low ≤ c_1.High)) else false) then (c_1.Ref == []) else false)) (.bool c_1.Strong) rfl (fun hv => by (try simp only [a0i hv]);exact ⟨rfl,nle,rfl⟩) ?_;refine s_g (v:=(bif (bif r_25 then (decide (c_1.Low ≤ c_1.High)) else false) then (c_1.Ref == []) else false)) (.bool (!c_1.Strong)) rfl (fun hv => by (try simp only [a0i hv]);exact ⟨rfl,trivial,rfl⟩) ?_
     refine a6l (x:=(!c_1.Strong)) (y:=false) rfl (fun hv => by (try simp only [a0i hv]);rfl) (fun hv => by (try simp only [a0i hv]);rfl) ?_;refine l9 (.bool (bif (bif (bif r_25 then (decide (c_1.Low ≤ c_1.High)) else false) then (c_1.Ref == []) else false) then (!c_1.Strong) else false)) rfl<|dk<|a0a<|?_;obtain rfl:=os hf;exact a0d ⟨trivial,trivial⟩ rfl (.refl _)
    ·refine a0u (s:=26) (b:=false) rfl (bf c24)<|o9 rfl rfl<|o9 rfl rfl<|o9 rfl rfl<|o7 (.bool false) rfl trivial rfl<|l9 (.bool false) rfl<|o9 rfl rfl<|o9 rfl rfl<|o9 rfl rfl<|o9 rfl rfl<|o9 rfl rfl<|o7 (.bool false) rfl trivial rfl<|l9 (.bool false) rfl<|o9 rfl rfl<|o9 rfl rfl<|o9 rfl rfl<|o7 (.bool false) rfl trivial rfl<|l9 (.bool false) rfl<|o9 rfl rfl<|o9 rfl rfl<|o9 rfl rfl<|o7 (.bool false) rfl trivial rfl<|l9 (.bool false) rfl<|dk<|a0a<|?_;obtain rfl:=os hf;exact a0d ⟨trivial,trivial⟩ rfl (.refl _)
   ·refine y5 rfl (bf c21)<|o6<|?_
    obtain ⟨s48_28,hb1,hf⟩:=ob hf
    refine a1k ([(1,(.ptr 0 0 0)),(20,(.int .i64 c_1.Kind)),(48,(.bool s48_28))],[.box 8 (.agg [(.str c_1.Name),(.int .i64 c_1.Kind),(.int .i64 c_1.Min),(.int .i64 c_1.Max),(.int .i64 c_1.Low),(.int .i64 c_1.High),(.str c_1.Ref),(.bool c_1.Strong)])]) ?_ ?_
    ·refine sr<|o7 (.bool (c_1.Kind == 2)) rfl rfl rfl<|l9 (.bool (c_1.Kind == 2)) rfl<|dk<|?_
     rcases oi hb1 with ⟨c30,hb1⟩ | ⟨c30,hb1⟩
     ·refine x9 rfl c30<|a0e<|?_;obtain rfl:=os hb1;exact ⟨[],[0],_,_,rfl,rfl,⟨.refl _,⟨.refl _,⟨.refl _,trivial⟩⟩⟩,(.refl _)⟩
     ·refine y5 rfl (bf c30)<|a0k<|o7 (.bool (c_1.Kind == 3)) rfl rfl rfl<|l9 (.bool (c_1.Kind == 3)) rfl<|y7<|?_;obtain rfl:=os hb1;exact ⟨[],[0],_,_,rfl,rfl,⟨.refl _,⟨.refl _,⟨.refl _,trivial⟩⟩⟩,(.refl _)⟩
    ·rcases oi hf with ⟨c31,hf⟩ | ⟨c31,hf⟩
     ·refine x9 rfl c31<|sr<|o7 (.ptr 0 0 4) rfl trivial rfl<|o7 (.int .i64 c_1.Low) rfl nle rfl<|o7 (.bool (c_1.Low == 0)) rfl rfl rfl<|l9 (.bool (c_1.Low == 0)) rfl<|?_;refine s_g (v:=(c_1.Low == 0)) (.ptr 0 0 5) rfl (fun hv => by (try simp only [a0i hv]);exact ⟨rfl,trivial,rfl⟩) ?_;refine s_g (v:=(c_1.Low == 0)) (.int .i64 c_1.High) rfl (fun hv => by (try simp only [a0i hv]);exact ⟨rfl,nle,rfl⟩) ?_;refine s_g (v:=(c_1.Low == 0)) (.bool (c_1.High == 0)) rfl (fun hv => by (try simp only [a0i hv]);exact ⟨rfl,rfl,rfl⟩) ?_;refine a6l (x:=(c_1.High == 0)) (y:=false) rfl (fun hv => by (try simp only [a0i hv]);rfl) (fun hv => by (try simp only [a0i hv]);rfl) ?_
      refine l9 (.bool (bif (c_1.Low == 0) then (c_1.High == 0) else false)) rfl ?_;refine s_g (v:=(bif (c_1.Low == 0) then (c_1.High == 0) else false)) (.ptr 0 0 6) rfl (fun hv => by (try simp only [a0i hv]);exact ⟨rfl,trivial,rfl⟩) ?_;refine s_g (v:=(bif (c_1.Low == 0) then (c_1.High == 0) else false)) (.str c_1.Ref) rfl (fun hv => by (try simp only [a0i hv]);exact ⟨rfl,nle,rfl⟩) ?_;refine s_g (v:=(bif (c_1.Low == 0) then (c_1.High == 0) else false)) (.bool (c_1.Ref == [])) rfl (fun hv => by (try simp only [a0i hv]);exact ⟨rfl,trivial,rfl⟩) ?_;refine a6l (x:=(c_1.Ref == [])) (y:=false) rfl (fun hv => by (try simp only [a0i hv]);rfl) (fun hv => by (try simp only [a0i hv]);rfl) ?_
      refine l9 (.bool (bif (bif (c_1.Low == 0) then (c_1.High == 0) else false) then (c_1.Ref == []) else false)) rfl ?_;refine s_g (v:=(bif (bif (c_1.Low == 0) then (c_1.High == 0) else false) then (c_1.Ref == []) else false)) (.ptr 0 0 7) rfl (fun hv => by (try simp only [a0i hv]);exact ⟨rfl,trivial,rfl⟩) ?_;refine s_g (v:=(bif (bif (c_1.Low == 0) then (c_1.High == 0) else false) then (c_1.Ref == []) else false)) (.bool c_1.Strong) rfl (fun hv => by (try simp only [a0i hv]);exact ⟨rfl,nle,rfl⟩) ?_;refine s_g (v:=(bif (bif (c_1.Low == 0) then (c_1.High == 0) else false) then (c_1.Ref == []) else false)) (.bool (!c_1.Strong)) rfl (fun hv => by (try simp only [a0i hv]);exact ⟨rfl,trivial,rfl⟩) ?_
      refine a6l (x:=(!c_1.Strong)) (y:=false) rfl (fun hv => by (try simp only [a0i hv]);rfl) (fun hv => by (try simp only [a0i hv]);rfl) ?_;refine l9 (.bool (bif (bif (bif (c_1.Low == 0) then (c_1.High == 0) else false) then (c_1.Ref == []) else false) then (!c_1.Strong) else false)) rfl<|dk<|a0a<|?_;obtain rfl:=os hf;exact a0d ⟨trivial,trivial⟩ rfl (.refl _)
     ·refine y5 rfl (bf c31)<|sr<|o7 (.bool (c_1.Kind == 4)) rfl rfl rfl<|l9 (.bool (c_1.Kind == 4)) rfl<|dk<|?_
      rcases oi hf with ⟨c32,hf⟩ | ⟨c32,hf⟩
      ·refine x9 rfl c32<|sr<|o7 (.ptr 0 0 4) rfl trivial rfl<|o7 (.int .i64 c_1.Low) rfl nle rfl<|o7 (.bool (c_1.Low == 0)) rfl rfl rfl<|l9 (.bool (c_1.Low == 0)) rfl<|?_;refine s_g (v:=(c_1.Low == 0)) (.ptr 0 0 5) rfl (fun hv => by (try simp only [a0i hv]);exact ⟨rfl,trivial,rfl⟩) ?_;refine s_g (v:=(c_1.Low == 0)) (.int .i64 c_1.High) rfl (fun hv => by (try simp only [a0i hv]);exact ⟨rfl,nle,rfl⟩) ?_;refine s_g (v:=(c_1.Low == 0)) (.bool (c_1.High == 0)) rfl (fun hv => by (try simp only [a0i hv]);exact ⟨rfl,rfl,rfl⟩) ?_;refine a6l (x:=(c_1.High == 0)) (y:=false) rfl (fun hv => by (try simp only [a0i hv]);rfl) (fun hv => by (try simp only [a0i hv]);rfl) ?_
       refine l9 (.bool (bif (c_1.Low == 0) then (c_1.High == 0) else false)) rfl ?_
       rcases oi hf with ⟨c33,hf⟩ | ⟨c33,hf⟩
       ·refine a0u (s:=79) (b:=true) rfl c33<|s_on rfl<|o7 (.ptr 0 0 6) rfl trivial rfl<|s_on rfl<|o7 (.str c_1.Ref) rfl nle rfl<|s_on rfl<|?_
        obtain ⟨r_34,er35,hf⟩:=ob hf
        refine x8 (a0g (b4j _ _ er35) rfl (.refl _) rfl)<|o7 (.bool r_34) rfl trivial rfl<|l9 (.bool r_34) rfl<|?_;refine s_g (v:=r_34) (.ptr 0 0 2) rfl (fun hv => by (try simp only [a0i hv]);exact ⟨rfl,trivial,rfl⟩) ?_;refine s_g (v:=r_34) (.int .i64 c_1.Min) rfl (fun hv => by (try simp only [a0i hv]);exact ⟨rfl,nle,rfl⟩) ?_;refine s_g (v:=r_34) (.bool (c_1.Min == 0)) rfl (fun hv => by (try simp only [a0i hv]);exact ⟨rfl,rfl,rfl⟩) ?_;refine a6l (x:=(c_1.Min == 0)) (y:=false) rfl (fun hv => by (try simp only [a0i hv]);rfl) (fun hv => by (try simp only [a0i hv]);rfl) ?_;refine l9 (.bool (bif r_34 then (c_1.Min == 0) else false)) rfl<|dk<|a0a<|?_;obtain rfl:=os hf
        exact a0d ⟨trivial,trivial⟩ rfl (.refl _)
       ·refine a0u (s:=79) (b:=false) rfl (bf c33)<|o9 rfl rfl<|o9 rfl rfl<|o9 rfl rfl<|o7 (.bool false) rfl trivial rfl<|l9 (.bool false) rfl<|o9 rfl rfl<|o9 rfl rfl<|o9 rfl rfl<|o7 (.bool false) rfl trivial rfl<|l9 (.bool false) rfl<|dk<|a0a<|?_;obtain rfl:=os hf;exact a0d ⟨trivial,trivial⟩ rfl (.refl _)
      ·refine y5 rfl (bf c32)<|a0e<|a2c<|a0f<|sr<|l9 (.bool false) rfl<|dk<|a0a<|?_;obtain rfl:=os hf;exact a0d ⟨trivial,trivial⟩ rfl (.refl _)

/- (impl.Column).start -/
def d4r:a0n :=
 (.seq (.reg (tq 1 (.box 8 (.t 0)) (tm 2 (.c .nil) .done)))
 (.seq (.seq (.reg (tq 4 (.faddr 2 (.t 1)) (tq 5 (.load 1 false (.t 4)) (tq 6 (.bin .eql (.t 5) (.c (.int .i64 0))) .done))))
 (.cond (.t 6) (.seq (.reg (tm 2 (.c .nil) .done))
 .ret)
 .skip))
 (.seq (.reg (tq 7 (.faddr 1 (.t 1)) (tq 8 (.load 1 false (.t 7)) (tq 9 (.build [(.int .i64 0),(.int .i64 0),(.str [])] [(0,1,(.t 8))]) (tq 3 (.box 3 (.c (.agg [(.int .i64 0),(.int .i64 0),(.str [])]))) (.q ⟨none,none,.store 3 (.t 3) (.t 9)⟩
 .done))))))
 (.seq (.seq (.reg (tq 10 (.faddr 1 (.t 1)) (tq 11 (.load 1 false (.t 10)) (tq 12 (.bin .eql (.t 11) (.c (.int .i64 1))) .done))))
 (.cond (.t 12) (.reg (tq 13 (.faddr 4 (.t 1)) (tq 14 (.load 1 false (.t 13)) (tq 15 (.faddr 5 (.t 1)) (tq 16 (.load 1 false (.t 15)) (tq 17 (.mnmx false (.t 16) (.c (.int .i64 0))) (tq 18 (.mnmx true (.t 14) (.t 17)) (tq 19 (.faddr 1 (.t 3)) (.q ⟨none,none,.store 1 (.t 19) (.t 18)⟩
 .done)))))))))
 .skip))
 (.cut (.seq (.reg (tq 20 (.load 3 true (.t 3)) (tq 21 (.bslice 3 [(.t 20)]) (tm 2 (.t 21) .done))))
 .ret))))))
theorem e2g:a1c Tryz.prog Tryz.f122 = some (d4r.erase,[.mov (.t 2)],22):=by kernel_rfl
def a7e (c_1:a0m):Option (List o8) :=
    if (c_1.Min == 0) then
    some []
    else
    ((if (c_1.Kind == 1) then
    some (if (if 0 < c_1.High then 0 else c_1.High) > c_1.Low then (if 0 < c_1.High then 0 else c_1.High) else c_1.Low)
    else
    some 0:Option Int)).bind fun x_4 =>
    some [(⟨c_1.Kind,x_4,[]⟩:o8)]
theorem b7f (c_1:a0m) (r:(List o8)) (hf:a7e c_1 = some r):y8 Tryz.prog 122 .fresh [(o5 c_1)] (.lst 3 (r.map l7)):=by
 refine y8.of_awp mixed Tryz.func122 e2g nle ?_;rw [a0h];unfold a7e at hf;unfold d4r;refine (show awp Tryz.prog true 0 _ (ofL [(0,(o5 c_1))]) [] _ from ?_);refine sr<|x8 (a1o (j:=0) (c:=(.agg [(.str c_1.Name),(.int .i64 c_1.Kind),(.int .i64 c_1.Min),(.int .i64 c_1.Max),(.int .i64 c_1.Low),(.int .i64 c_1.High),(.str c_1.Ref),(.bool c_1.Strong)])) rfl trivial rfl rfl)<|l9 .nil rfl<|dk<|o6<|sr<|o7 (.ptr 0 0 2) rfl trivial rfl<|o7 (.int .i64 c_1.Min) rfl nle rfl<|o7 (.bool (c_1.Min == 0)) rfl rfl rfl<|dk<|?_
 rcases oi hf with ⟨c2,hf⟩ | ⟨c2,hf⟩
 ·refine x9 rfl c2<|sr<|l9 .nil rfl<|dk<|a0a<|?_;obtain rfl:=os hf;exact a4r ⟨trivial,trivial⟩ rfl (by decide) (.nil _)
 ·refine y5 rfl (bf c2)<|a0e<|a0f<|sr<|o7 (.ptr 0 0 1) rfl trivial rfl<|o7 (.int .i64 c_1.Kind) rfl nle rfl<|o7 (.agg [(.int .i64 c_1.Kind),(.int .i64 0),(.str [])]) rfl ⟨⟨rfl,nle,trivial⟩,trivial⟩ rfl<|x8 (a1o (j:=1) (c:=(.agg [(.int .i64 0),(.int .i64 0),(.str [])])) rfl trivial rfl rfl)<|a3w (a0v (v:=(.agg [(.int .i64 c_1.Kind),(.int .i64 0),(.str [])])) (y':=(.agg [(.int .i64 c_1.Kind),(.int .i64 0),(.str [])])) rfl rfl rfl trivial ⟨rfl,nle⟩ ⟨⟨rfl,trivial⟩,⟨⟨rfl,trivial⟩,⟨⟨rfl,trivial⟩,trivial⟩⟩⟩ rfl)<|dk<|o6<|?_
  obtain ⟨x_4,hb1,hf⟩:=ob hf
  refine a1k ([(3,(.ptr 0 0 0))],[.box 3 (.agg [(.int .i64 c_1.Kind),(.int .i64 x_4),(.str [])])]) ?_ ?_
  ·refine sr<|o7 (.ptr 0 0 1) rfl trivial rfl<|o7 (.int .i64 c_1.Kind) rfl nle rfl<|o7 (.bool (c_1.Kind == 1)) rfl rfl rfl<|dk<|?_
   rcases oi hb1 with ⟨c6,hb1⟩ | ⟨c6,hb1⟩
   ·refine x9 rfl c6<|a0k<|o7 (.ptr 0 0 4) rfl trivial rfl<|o7 (.int .i64 c_1.Low) rfl nle rfl<|o7 (.ptr 0 0 5) rfl trivial rfl<|o7 (.int .i64 c_1.High) rfl nle rfl<|o7 (.int .i64 (if 0 < c_1.High then 0 else c_1.High)) rfl rfl rfl<|o7 (.int .i64 (if (if 0 < c_1.High then 0 else c_1.High) > c_1.Low then (if 0 < c_1.High then 0 else c_1.High) else c_1.Low)) rfl rfl rfl<|o7 (.ptr 1 0 1) rfl trivial rfl<|a3w (a0v (v:=(.int .i64 (if (if 0 < c_1.High then 0 else c_1.High) > c_1.Low then (if 0 < c_1.High then 0 else c_1.High) else c_1.Low))) (y':=(.agg [(.int .i64 c_1.Kind),(.int .i64 (if (if 0 < c_1.High then 0 else c_1.High) > c_1.Low then (if 0 < c_1.High then 0 else c_1.High) else c_1.Low)),(.str [])])) rfl rfl rfl trivial ⟨rfl,nle⟩ ⟨⟨rfl,trivial⟩,trivial⟩ rfl)<|?_
    refine y7 ?_;obtain rfl:=os hb1;exact ⟨[],[1],_,_,rfl,rfl,⟨.refl _,trivial⟩,(.refl _)⟩
   ·refine y5 rfl (bf c6)<|a0e<|?_;obtain rfl:=os hb1;exact ⟨[],[1],_,_,rfl,rfl,⟨.refl _,trivial⟩,(.refl _)⟩
  ·refine sr<|o7 (.agg [(.int .i64 c_1.Kind),(.int .i64 x_4),(.str [])]) rfl nle rfl<|?_;refine x8 (a1z (j:=1) (as':=[(l7 (⟨c_1.Kind,x_4,[]⟩:o8))]) rfl (fun _ => by decide) ⟨rfl,trivial⟩ (.refl _) rfl rfl rfl) ?_;refine l9 (.own 1 0 1) rfl<|dk<|a0a<|?_;obtain rfl:=os hf;exact a4r ⟨trivial,trivial⟩ rfl (by decide) (.refl _)

/- impl.DefaultOf -/
def c32:a0n :=
 (.seq (.reg (tq 1 (.box 8 (.t 0)) (tm 2 (.c .nil) (tm 3 (.c (.int .i64 0)) .done))))
 (.seq (.seq (.reg (tq 4 (.load 8 true (.t 1)) (tq 5 (.call 121 [(.t 4)]) (tq 6 (.not (.t 5)) .done))))
 (.cond (.t 6) (.seq (.reg (tm 2 (.c .nil) (tm 3 (.c (.int .i64 1)) .done)))
 .ret)
 .skip))
 (.seq (.reg (tq 7 (.load 8 true (.t 1)) (tq 8 (.call 122 [(.t 7)]) (tm 2 (.t 8) (tm 3 (.c (.int .i64 0)) .done)))))
 .ret)))
theorem e8d:a1c Tryz.prog Tryz.f32 = some (c32.erase,[.mov (.t 2),.mov (.t 3)],9):=by kernel_rfl
def a8u (c_1:a0m):Option ((List o8) × Int) :=
    (a8e c_1).bind fun r_2 =>
    if (!r_2) then
    some ([],1)
    else
    (a7e c_1).bind fun r_5 =>
    some (r_5,0)
theorem c0k (c_1:a0m) (r:((List o8) × Int)) (hf:a8u c_1 = some r):y8 Tryz.prog 32 .fresh [(o5 c_1)] (.tup [(.lst 3 (r.1.map l7)),(.int .i64 r.2)]):=by
 refine y8.of_awp mixed Tryz.func32 e8d nle ?_;rw [a0h];unfold a8u at hf;unfold c32;refine (show awp Tryz.prog true 0 _ (ofL [(0,(o5 c_1))]) [] _ from ?_);refine sr<|x8 (a1o (j:=0) (c:=(.agg [(.str c_1.Name),(.int .i64 c_1.Kind),(.int .i64 c_1.Min),(.int .i64 c_1.Max),(.int .i64 c_1.Low),(.int .i64 c_1.High),(.str c_1.Ref),(.bool c_1.Strong)])) rfl trivial rfl rfl)<|l9 .nil rfl<|l9 (.int .i64 0) rfl<|dk<|o6<|sr<|?_
 obtain ⟨r_2,er3,hf⟩:=ob hf
 refine o7 (.agg [(.str c_1.Name),(.int .i64 c_1.Kind),(.int .i64 c_1.Min),(.int .i64 c_1.Max),(.int .i64 c_1.Low),(.int .i64 c_1.High),(.str c_1.Ref),(.bool c_1.Strong)]) rfl nle rfl<|x8 (a0g (b2t _ _ er3) rfl (.refl _) rfl)<|o7 (.bool (!r_2)) rfl trivial rfl<|dk<|?_
 rcases oi hf with ⟨c4,hf⟩ | ⟨c4,hf⟩
 ·refine x9 rfl c4<|sr<|l9 .nil rfl<|l9 (.int .i64 1) rfl<|dk<|a0a<|?_;obtain rfl:=os hf;exact a4r ⟨trivial,⟨trivial,trivial⟩⟩ rfl (by decide) (.tup (.cons (.nil _) (.cons (.refl _) .nil)))
 ·refine y5 rfl (bf c4)<|a0e<|a0f<|sr<|?_
  obtain ⟨r_5,er6,hf⟩:=ob hf
  refine o7 (.agg [(.str c_1.Name),(.int .i64 c_1.Kind),(.int .i64 c_1.Min),(.int .i64 c_1.Max),(.int .i64 c_1.Low),(.int .i64 c_1.High),(.str c_1.Ref),(.bool c_1.Strong)]) rfl nle rfl<|x8 (b1e (v:=(.own 1 0 r_5.length)) (h':=[.row 3 (r_5.map l7)]) (b7f _ _ er6) rfl (.refl _) (by simp only [a4h,a5o,List.length_map,List.nil_append,List.append_nil,List.cons_append];rfl))<|l9 (.own 1 0 r_5.length) rfl<|l9 (.int .i64 0) rfl<|dk<|a0a<|?_;obtain rfl:=os hf;exact a4r ⟨trivial,⟨trivial,trivial⟩⟩ rfl (by decide) (.tup (.cons (.of_eq (congrArg (AV.lst _) (tk (enc:=l7) r_5))) (.cons (.refl _) .nil)))

/- spec.l00Source -/
def d2v:a0n :=
 (.seq (.reg (tm 2 (.c .undef) .done))
 (.seq (.reg (tm 3 (.t 0) (tm 4 (.t 0) (tq 5 (.len (.t 4)) (tq 6 (.bin .rem (.t 5) (.c (.int .i64 1000))) (tq 7 (.build [.nil,(.int .i64 0),(.int .i64 0)] [(0,1,(.t 3)),(2,1,(.t 6))]) (tq 8 (.box 3 (.t 7)) (tm 2 (.t 8) .done))))))))
 .ret))
theorem d6z:a1c Tryz.prog Tryz.f102 = some (d2v.erase,[.mov (.t 2)],9):=by kernel_rfl
def b1g (code_1:(List Int)):Option a1j :=
    some (⟨code_1,0,(code_1.length:Int).tmod 1000⟩:a1j)
theorem c0l (code_1:(List Int)) (r:a1j) (hf:b1g code_1 = some r):a1q Tryz.prog true 102 [(.lst 1 (code_1.map a0p))] [] (.ptr 0 0 0) [.box 3 (.agg [(.lst 1 (r.Code.map a0p)),(.int .i64 r.At),(.int .i64 r.Seed)])]:=by
  refine a1q.of_awp mixed Tryz.func102 d6z nle ?_
  rw [a0h]
  unfold b1g at hf
  unfold d2v
  refine (show awp Tryz.prog true 0 _ (ofL [(0,(.lst 1 (code_1.map a0p)))]) [] _ from ?_)
  refine o6 ?_
  refine a0k ?_
  refine x8 (a2r .undef rfl) ?_
  refine y7 ?_
  refine a0f ?_
  refine o6 ?_
  refine a0k ?_
  refine x8 (a2r (.lst 1 (code_1.map a0p)) rfl) ?_
  refine x8 (a2r (.lst 1 (code_1.map a0p)) rfl) ?_
  refine a1e (a1p (enc:=a0p) rfl) fun hl2 => ?_
  refine x8 (o_q (.int .i64 ((code_1.length:Int).tmod 1000)) rfl ⟨rfl,by decide⟩ rfl) ?_
  refine x8 (o_q (.agg [(.lst 1 (code_1.map a0p)),(.int .i64 0),(.int .i64 ((code_1.length:Int).tmod 1000))]) rfl ⟨⟨rfl,nle,trivial⟩,⟨⟨rfl,nle,trivial⟩,trivial⟩⟩ rfl) ?_
  refine x8 (a1o (j:=0) (c:=(.agg [(.lst 1 (code_1.map a0p)),(.int .i64 0),(.int .i64 ((code_1.length:Int).tmod 1000))])) rfl trivial rfl rfl) ?_
  refine x8 (a2r (.ptr 0 0 0) rfl) ?_
  refine y7 ?_
  refine a0f ?_
  refine a0a ?_
  obtain rfl:=os hf
  exact a5j [] [0] rfl ⟨trivial,trivial⟩ rfl (.refl _) (.refl _)

/- (*spec.l00Src).byte -/
def d2w:a0n :=
 (.seq (.reg (tm 2 (.c (.int .i64 0)) .done))
 (.seq (.reg (tm 3 (.t 0) (tq 4 (.nilck (.t 3)) (tq 5 (.faddr 1 (.t 4)) (tq 6 (.load 1 false (.t 5)) (tq 7 (.bin .add (.t 6) (.c (.int .i64 1))) (tq 8 (.nilck (.t 3)) (tq 9 (.faddr 1 (.t 8)) (.q ⟨none,none,.store 1 (.t 9) (.t 7)⟩
 .done)))))))))
 (.seq (.seq (.reg (tm 10 (.t 0) (tq 11 (.nilck (.t 10)) (tq 12 (.faddr 1 (.t 11)) (tq 13 (.load 1 false (.t 12)) (tm 14 (.t 0) (tq 15 (.nilck (.t 14)) (tq 16 (.faddr 0 (.t 15)) (tq 17 (.load 1 false (.t 16)) (tq 18 (.len (.t 17)) (tq 19 (.bin .leq (.t 13) (.t 18)) .done)))))))))))
 (.cond (.t 19) (.seq (.reg (tm 20 (.t 0) (tm 21 (.t 0) (tq 22 (.nilck (.t 21)) (tq 23 (.faddr 2 (.t 22)) (tq 24 (.load 1 false (.t 23)) (tq 25 (.bin .mul (.t 24) (.c (.int .i64 31))) (tm 26 (.t 0) (tq 27 (.nilck (.t 26)) (tq 28 (.faddr 0 (.t 27)) (tq 29 (.load 1 false (.t 28)) (tm 30 (.t 0) (tq 31 (.nilck (.t 30)) (tq 32 (.faddr 1 (.t 31)) (tq 33 (.load 1 false (.t 32)) (tq 34 (.bin .sub (.t 33) (.c (.int .i64 1))) (tq 35 (.iaddr 1 (.t 29) (.t 34)) (tq 36 (.load 1 false (.t 35)) (tq 37 (.convI .i64 (.t 36)) (tq 38 (.bin .add (.t 25) (.t 37)) (tq 39 (.bin .add (.t 38) (.c (.int .i64 7))) (tq 40 (.bin .rem (.t 39) (.c (.int .i64 2147483648))) (tq 41 (.nilck (.t 20)) (tq 42 (.faddr 2 (.t 41)) (.l ⟨none,none,.store 1 (.t 42) (.t 40)⟩ []
 .done .non)))))))))))))))))))))))))
 (.seq (.reg (tm 43 (.t 0) (tq 44 (.nilck (.t 43)) (tq 45 (.faddr 0 (.t 44)) (tq 46 (.load 1 false (.t 45)) (tm 47 (.t 0) (tq 48 (.nilck (.t 47)) (tq 49 (.faddr 1 (.t 48)) (tq 50 (.load 1 false (.t 49)) (tq 51 (.bin .sub (.t 50) (.c (.int .i64 1))) (tq 52 (.iaddr 1 (.t 46) (.t 51)) (tq 53 (.load 1 false (.t 52)) (tq 54 (.convI .i64 (.t 53)) (tm 2 (.t 54) .done))))))))))))))
 .ret))
 .skip))
 (.seq (.seq (.reg (tm 55 (.t 0) (tq 56 (.nilck (.t 55)) (tq 57 (.faddr 1 (.t 56)) (tq 58 (.load 1 false (.t 57)) (tq 59 (.bin .gtr (.t 58) (.c (.int .i64 3000))) .done))))))
 (.cond (.t 59) (.seq (.reg (tm 2 (.c (.int .i64 0)) .done))
 .ret)
 .skip))
 (.seq (.reg (tm 60 (.t 0) (tm 61 (.t 0) (tq 62 (.nilck (.t 61)) (tq 63 (.faddr 2 (.t 62)) (tq 64 (.load 1 false (.t 63)) (tq 65 (.bin .mul (.t 64) (.c (.int .i64 1103515245))) (tq 66 (.bin .add (.t 65) (.c (.int .i64 12345))) (tq 67 (.bin .rem (.t 66) (.c (.int .i64 2147483648))) (tq 68 (.nilck (.t 60)) (tq 69 (.faddr 2 (.t 68)) (.q ⟨none,none,.store 1 (.t 69) (.t 67)⟩
 .done))))))))))))
 (.seq (.reg (tm 70 (.t 0) (tq 71 (.nilck (.t 70)) (tq 72 (.faddr 2 (.t 71)) (tq 73 (.load 1 false (.t 72)) (tq 74 (.bin .quo (.t 73) (.c (.int .i64 65536))) (tq 75 (.bin .rem (.t 74) (.c (.int .i64 256))) (tm 2 (.t 75) .done))))))))
 .ret))))))
theorem d7a:a1c Tryz.prog Tryz.f253 = some (d2w.erase,[.mov (.t 2)],76):=by kernel_rfl
def a3i (s_1:a1j):Option (Int × a1j) :=
    if (decide (w64 (s_1.At + 1) ≤ (s_1.Code.length:Int))) then
    (idx s_1.Code (w64 ((w64 (s_1.At + 1)) - 1))).bind fun x_4 =>
    (idx s_1.Code (w64 ((w64 (s_1.At + 1)) - 1))).bind fun x_6 =>
    some (w64 x_6,(⟨s_1.Code,w64 (s_1.At + 1),(w64 ((w64 ((w64 (s_1.Seed * 31)) + (w64 x_4))) + 7)).tmod 2147483648⟩:a1j))
    else
    if (decide (w64 (s_1.At + 1) > 3000)) then
    some (0,(⟨s_1.Code,w64 (s_1.At + 1),s_1.Seed⟩:a1j))
    else
    some ((w64 (((w64 ((w64 (s_1.Seed * 1103515245)) + 12345)).tmod 2147483648).tdiv 65536)).tmod 256,(⟨s_1.Code,w64 (s_1.At + 1),(w64 ((w64 (s_1.Seed * 1103515245)) + 12345)).tmod 2147483648⟩:a1j))
theorem a7u (s_1:a1j) (r:(Int × a1j)) (hf:a3i s_1 = some r):a1q Tryz.prog true 253 [(.ptr 0 0 0)] [.box 3 (.agg [(.lst 1 (s_1.Code.map a0p)),(.int .i64 s_1.At),(.int .i64 s_1.Seed)])] (.int .i64 r.1) [.box 3 (.agg [(.lst 1 (r.2.Code.map a0p)),(.int .i64 r.2.At),(.int .i64 r.2.Seed)])]:=by
 refine a1q.of_awp mixed Tryz.func253 d7a nle ?_;rw [a0h];unfold a3i at hf;unfold d2w;refine (show awp Tryz.prog true 1 _ (ofL [(0,(.ptr 0 0 0))]) [.box 3 (.agg [(.lst 1 (s_1.Code.map a0p)),(.int .i64 s_1.At),(.int .i64 s_1.Seed)])] _ from ?_);refine sr<|l9 (.int .i64 0) rfl<|dk<|sr<|l9 (.ptr 0 0 0) rfl<|o7 (.ptr 0 0 0) rfl trivial rfl<|o7 (.ptr 0 0 1) rfl trivial rfl<|o7 (.int .i64 s_1.At) rfl nle rfl<|o7 (.int .i64 (w64 (s_1.At + 1))) rfl rfl rfl<|o7 (.ptr 0 0 0) rfl trivial rfl<|o7 (.ptr 0 0 1) rfl trivial rfl<|a3w (a0v (v:=(.int .i64 (w64 (s_1.At + 1)))) (y':=(.agg [(.lst 1 (s_1.Code.map a0p)),(.int .i64 (w64 (s_1.At + 1))),(.int .i64 s_1.Seed)])) rfl rfl rfl trivial ⟨rfl,nle⟩ ⟨⟨rfl,trivial⟩,trivial⟩ rfl)<|?_
 refine dk<|o6<|sr<|l9 (.ptr 0 0 0) rfl<|o7 (.ptr 0 0 0) rfl trivial rfl<|o7 (.ptr 0 0 1) rfl trivial rfl<|o7 (.int .i64 (w64 (s_1.At + 1))) rfl nle rfl<|l9 (.ptr 0 0 0) rfl<|o7 (.ptr 0 0 0) rfl trivial rfl<|o7 (.ptr 0 0 0) rfl trivial rfl<|o7 (.lst 1 (s_1.Code.map a0p)) rfl nle rfl<|a1e (a1p (enc:=a0p) rfl) fun hl2 => o7 (.bool (decide (w64 (s_1.At + 1) ≤ (s_1.Code.length:Int)))) rfl rfl rfl<|dk<|?_
 rcases oi hf with ⟨c3,hf⟩ | ⟨c3,hf⟩
 ·refine x9 rfl c3<|sr<|l9 (.ptr 0 0 0) rfl<|l9 (.ptr 0 0 0) rfl<|o7 (.ptr 0 0 0) rfl trivial rfl<|o7 (.ptr 0 0 2) rfl trivial rfl<|o7 (.int .i64 s_1.Seed) rfl nle rfl<|o7 (.int .i64 (w64 (s_1.Seed * 31))) rfl rfl rfl<|l9 (.ptr 0 0 0) rfl<|o7 (.ptr 0 0 0) rfl trivial rfl<|o7 (.ptr 0 0 0) rfl trivial rfl<|o7 (.lst 1 (s_1.Code.map a0p)) rfl nle rfl<|l9 (.ptr 0 0 0) rfl<|o7 (.ptr 0 0 0) rfl trivial rfl<|o7 (.ptr 0 0 1) rfl trivial rfl<|o7 (.int .i64 (w64 (s_1.At + 1))) rfl nle rfl<|o7 (.int .i64 (w64 ((w64 (s_1.At + 1)) - 1))) rfl rfl rfl<|?_
  obtain ⟨x_4,ex5,hf⟩:=ob hf
  refine x8 (a3l (enc:=a0p) rfl rfl (a8m ex5) (a8n ex5))<|o7 (.int .u8 x_4) rfl ⟨rfl,rfl⟩ rfl<|o7 (.int .i64 (w64 x_4)) rfl trivial rfl<|o7 (.int .i64 (w64 ((w64 (s_1.Seed * 31)) + (w64 x_4)))) rfl rfl rfl<|o7 (.int .i64 (w64 ((w64 ((w64 (s_1.Seed * 31)) + (w64 x_4))) + 7))) rfl rfl rfl<|o7 (.int .i64 ((w64 ((w64 ((w64 (s_1.Seed * 31)) + (w64 x_4))) + 7)).tmod 2147483648)) rfl ⟨rfl,by decide⟩ rfl<|o7 (.ptr 0 0 0) rfl trivial rfl<|o7 (.ptr 0 0 2) rfl trivial rfl<|b4i (a0v (v:=(.int .i64 ((w64 ((w64 ((w64 (s_1.Seed * 31)) + (w64 x_4))) + 7)).tmod 2147483648))) (y':=(.agg [(.lst 1 (s_1.Code.map a0p)),(.int .i64 (w64 (s_1.At + 1))),(.int .i64 ((w64 ((w64 ((w64 (s_1.Seed * 31)) + (w64 x_4))) + 7)).tmod 2147483648))])) rfl rfl rfl trivial ⟨rfl,nle⟩ ⟨⟨rfl,trivial⟩,trivial⟩ rfl) trivial trivial<|?_
  refine dk<|sr<|l9 (.ptr 0 0 0) rfl<|o7 (.ptr 0 0 0) rfl trivial rfl<|o7 (.ptr 0 0 0) rfl trivial rfl<|o7 (.lst 1 (s_1.Code.map a0p)) rfl nle rfl<|l9 (.ptr 0 0 0) rfl<|o7 (.ptr 0 0 0) rfl trivial rfl<|o7 (.ptr 0 0 1) rfl trivial rfl<|o7 (.int .i64 (w64 (s_1.At + 1))) rfl nle rfl<|o7 (.int .i64 (w64 ((w64 (s_1.At + 1)) - 1))) rfl rfl rfl<|?_
  obtain ⟨x_6,ex7,hf⟩:=ob hf
  refine x8 (a3l (enc:=a0p) rfl rfl (a8m ex7) (a8n ex7))<|o7 (.int .u8 x_6) rfl ⟨rfl,rfl⟩ rfl<|o7 (.int .i64 (w64 x_6)) rfl trivial rfl<|l9 (.int .i64 (w64 x_6)) rfl<|dk<|a0a<|?_;obtain rfl:=os hf;exact a5j [] [0] rfl ⟨trivial,trivial⟩ rfl (.refl _) (.refl _)
 ·refine y5 rfl (bf c3)<|a0e<|a0f<|o6<|sr<|l9 (.ptr 0 0 0) rfl<|o7 (.ptr 0 0 0) rfl trivial rfl<|o7 (.ptr 0 0 1) rfl trivial rfl<|o7 (.int .i64 (w64 (s_1.At + 1))) rfl nle rfl<|o7 (.bool (decide (w64 (s_1.At + 1) > 3000))) rfl rfl rfl<|dk<|?_
  rcases oi hf with ⟨c8,hf⟩ | ⟨c8,hf⟩
  ·refine x9 rfl c8<|sr<|l9 (.int .i64 0) rfl<|dk<|a0a<|?_;obtain rfl:=os hf;exact a5j [] [0] rfl ⟨trivial,trivial⟩ rfl (.refl _) (.refl _)
  ·refine y5 rfl (bf c8)<|a0e<|a0f<|sr<|l9 (.ptr 0 0 0) rfl<|l9 (.ptr 0 0 0) rfl<|o7 (.ptr 0 0 0) rfl trivial rfl<|o7 (.ptr 0 0 2) rfl trivial rfl<|o7 (.int .i64 s_1.Seed) rfl nle rfl<|o7 (.int .i64 (w64 (s_1.Seed * 1103515245))) rfl rfl rfl<|o7 (.int .i64 (w64 ((w64 (s_1.Seed * 1103515245)) + 12345))) rfl rfl rfl<|o7 (.int .i64 ((w64 ((w64 (s_1.Seed * 1103515245)) + 12345)).tmod 2147483648)) rfl ⟨rfl,by decide⟩ rfl<|o7 (.ptr 0 0 0) rfl trivial rfl<|o7 (.ptr 0 0 2) rfl trivial rfl<|a3w (a0v (v:=(.int .i64 ((w64 ((w64 (s_1.Seed * 1103515245)) + 12345)).tmod 2147483648))) (y':=(.agg [(.lst 1 (s_1.Code.map a0p)),(.int .i64 (w64 (s_1.At + 1))),(.int .i64 ((w64 ((w64 (s_1.Seed * 1103515245)) + 12345)).tmod 2147483648))])) rfl rfl rfl trivial ⟨rfl,nle⟩ ⟨⟨rfl,trivial⟩,trivial⟩ rfl)<|?_
   refine dk<|sr<|l9 (.ptr 0 0 0) rfl<|o7 (.ptr 0 0 0) rfl trivial rfl<|o7 (.ptr 0 0 2) rfl trivial rfl<|o7 (.int .i64 ((w64 ((w64 (s_1.Seed * 1103515245)) + 12345)).tmod 2147483648)) rfl nle rfl<|o7 (.int .i64 (w64 (((w64 ((w64 (s_1.Seed * 1103515245)) + 12345)).tmod 2147483648).tdiv 65536))) rfl ⟨rfl,by decide⟩ rfl<|o7 (.int .i64 ((w64 (((w64 ((w64 (s_1.Seed * 1103515245)) + 12345)).tmod 2147483648).tdiv 65536)).tmod 256)) rfl ⟨rfl,by decide⟩ rfl<|l9 (.int .i64 ((w64 (((w64 ((w64 (s_1.Seed * 1103515245)) + 12345)).tmod 2147483648).tdiv 65536)).tmod 256)) rfl<|dk<|a0a<|?_;obtain rfl:=os hf;exact a5j [] [0] rfl ⟨trivial,trivial⟩ rfl (.refl _) (.refl _)

/- (*spec.l00Src).next -/
def d2x:a0n :=
 (.seq (.reg (tm 4 (.c (.int .i64 0)) .done))
 (.seq (.seq (.reg (tm 8 (.t 1) (tq 9 (.bin .leq (.t 8) (.c (.int .i64 1))) .done)))
 (.cond (.t 9) (.seq (.reg (tm 4 (.c (.int .i64 0)) .done))
 .ret)
 .skip))
 (.seq (.seq (.reg (tm 10 (.t 1) (tq 11 (.bin .leq (.t 10) (.c (.int .i64 256))) .done)))
 (.cond (.t 11) (.seq (.reg (tm 12 (.t 0) (tq 13 (.call 253 [(.t 12)]) (tm 14 (.t 1) (tq 15 (.bin .rem (.t 13) (.t 14)) (tm 4 (.t 15) .done))))))
 .ret)
 .skip))
 (.seq (.reg (tm 16 (.t 0) (tq 17 (.call 253 [(.t 16)]) (tm 5 (.t 17) .done))))
 (.seq (.reg (tm 18 (.t 0) (tq 19 (.call 253 [(.t 18)]) (tm 6 (.t 19) .done))))
 (.seq (.reg (tm 20 (.t 0) (tq 21 (.call 253 [(.t 20)]) (tm 7 (.t 21) .done))))
 (.seq (.reg (tm 22 (.t 5) (tq 23 (.bin .mul (.t 22) (.c (.int .i64 65536))) (tm 24 (.t 6) (tq 25 (.bin .mul (.t 24) (.c (.int .i64 256))) (tq 26 (.bin .add (.t 23) (.t 25)) (tm 27 (.t 7) (tq 28 (.bin .add (.t 26) (.t 27)) (tm 29 (.t 1) (tq 30 (.bin .rem (.t 28) (.t 29)) (tm 4 (.t 30) .done)))))))))))
 .ret)))))))
theorem d7b:a1c Tryz.prog Tryz.f123 = some (d2x.erase,[.mov (.t 4)],31):=by kernel_rfl
def a1i (n_1:Int) (s_2:a1j):Option (Int × a1j) :=
    if (decide (n_1 ≤ 1)) then
    some (0,s_2)
    else
    if (decide (n_1 ≤ 256)) then
    (a3i s_2).bind fun r_5 =>
    if n_1 ≠ 0 then
    some (r_5.1.tmod n_1,r_5.2)
    else none
    else
    (a3i s_2).bind fun r_8 =>
    (a3i r_8.2).bind fun r_10 =>
    (a3i r_10.2).bind fun r_12 =>
    if n_1 ≠ 0 then
    some ((w64 ((w64 ((w64 (r_8.1 * 65536)) + (w64 (r_10.1 * 256)))) + r_12.1)).tmod n_1,r_12.2)
    else none
theorem a2a (n_1:Int) (s_2:a1j) (r:(Int × a1j)) (hf:a1i n_1 s_2 = some r):a1q Tryz.prog true 123 [(.ptr 0 0 0),(.int .i64 n_1)] [.box 3 (.agg [(.lst 1 (s_2.Code.map a0p)),(.int .i64 s_2.At),(.int .i64 s_2.Seed)])] (.int .i64 r.1) [.box 3 (.agg [(.lst 1 (r.2.Code.map a0p)),(.int .i64 r.2.At),(.int .i64 r.2.Seed)])]:=by
 refine a1q.of_awp mixed Tryz.func123 d7b nle ?_;rw [a0h];unfold a1i at hf;unfold d2x;refine (show awp Tryz.prog true 1 _ (ofL [(0,(.ptr 0 0 0)),(1,(.int .i64 n_1))]) [.box 3 (.agg [(.lst 1 (s_2.Code.map a0p)),(.int .i64 s_2.At),(.int .i64 s_2.Seed)])] _ from ?_);refine sr<|l9 (.int .i64 0) rfl<|dk<|o6<|sr<|l9 (.int .i64 n_1) rfl<|o7 (.bool (decide (n_1 ≤ 1))) rfl rfl rfl<|dk<|?_
 rcases oi hf with ⟨c3,hf⟩ | ⟨c3,hf⟩
 ·refine x9 rfl c3<|sr<|l9 (.int .i64 0) rfl<|dk<|a0a<|?_;obtain rfl:=os hf;exact a5j [] [0] rfl ⟨trivial,trivial⟩ rfl (.refl _) (.refl _)
 ·refine y5 rfl (bf c3)<|a0e<|a0f<|o6<|sr<|l9 (.int .i64 n_1) rfl<|o7 (.bool (decide (n_1 ≤ 256))) rfl rfl rfl<|dk<|?_
  rcases oi hf with ⟨c4,hf⟩ | ⟨c4,hf⟩
  ·refine x9 rfl c4<|sr<|?_
   obtain ⟨r_5,er6,hf⟩:=ob hf
   obtain ⟨g7,hf⟩:=og hf
   refine l9 (.ptr 0 0 0) rfl ?_;refine x8 (a3m (v:=(.int .i64 r_5.1)) (h2:=[.box 3 (.agg [(.lst 1 (r_5.2.Code.map a0p)),(.int .i64 r_5.2.At),(.int .i64 r_5.2.Seed)])]) [] [0] (fun _ => rfl) (a7u _ _ er6) rfl (.refl _) (.refl _) rfl rfl) ?_;refine l9 (.int .i64 n_1) rfl<|o7 (.int .i64 (r_5.1.tmod n_1)) rfl ⟨rfl,g7⟩ rfl<|l9 (.int .i64 (r_5.1.tmod n_1)) rfl<|dk<|a0a<|?_;obtain rfl:=os hf;exact a5j [] [0] rfl ⟨trivial,trivial⟩ rfl (.refl _) (.refl _)
  ·refine y5 rfl (bf c4)<|a0e<|a0f<|sr<|?_
   obtain ⟨r_8,er9,hf⟩:=ob hf
   refine l9 (.ptr 0 0 0) rfl ?_;refine x8 (a3m (v:=(.int .i64 r_8.1)) (h2:=[.box 3 (.agg [(.lst 1 (r_8.2.Code.map a0p)),(.int .i64 r_8.2.At),(.int .i64 r_8.2.Seed)])]) [] [0] (fun _ => rfl) (a7u _ _ er9) rfl (.refl _) (.refl _) rfl rfl) ?_;refine l9 (.int .i64 r_8.1) rfl<|dk<|sr<|?_
   obtain ⟨r_10,er11,hf⟩:=ob hf
   refine l9 (.ptr 0 0 0) rfl ?_;refine x8 (a3m (v:=(.int .i64 r_10.1)) (h2:=[.box 3 (.agg [(.lst 1 (r_10.2.Code.map a0p)),(.int .i64 r_10.2.At),(.int .i64 r_10.2.Seed)])]) [] [0] (fun _ => rfl) (a7u _ _ er11) rfl (.refl _) (.refl _) rfl rfl) ?_;refine l9 (.int .i64 r_10.1) rfl<|dk<|sr<|?_
   obtain ⟨r_12,er13,hf⟩:=ob hf
   refine l9 (.ptr 0 0 0) rfl ?_;refine x8 (a3m (v:=(.int .i64 r_12.1)) (h2:=[.box 3 (.agg [(.lst 1 (r_12.2.Code.map a0p)),(.int .i64 r_12.2.At),(.int .i64 r_12.2.Seed)])]) [] [0] (fun _ => rfl) (a7u _ _ er13) rfl (.refl _) (.refl _) rfl rfl) ?_;refine l9 (.int .i64 r_12.1) rfl<|dk<|sr<|?_
   obtain ⟨g14,hf⟩:=og hf
   refine l9 (.int .i64 r_8.1) rfl<|o7 (.int .i64 (w64 (r_8.1 * 65536))) rfl rfl rfl<|l9 (.int .i64 r_10.1) rfl<|o7 (.int .i64 (w64 (r_10.1 * 256))) rfl rfl rfl<|o7 (.int .i64 (w64 ((w64 (r_8.1 * 65536)) + (w64 (r_10.1 * 256))))) rfl rfl rfl<|l9 (.int .i64 r_12.1) rfl<|o7 (.int .i64 (w64 ((w64 ((w64 (r_8.1 * 65536)) + (w64 (r_10.1 * 256)))) + r_12.1))) rfl rfl rfl<|l9 (.int .i64 n_1) rfl<|o7 (.int .i64 ((w64 ((w64 ((w64 (r_8.1 * 65536)) + (w64 (r_10.1 * 256)))) + r_12.1)).tmod n_1)) rfl ⟨rfl,g14⟩ rfl<|l9 (.int .i64 ((w64 ((w64 ((w64 (r_8.1 * 65536)) + (w64 (r_10.1 * 256)))) + r_12.1)).tmod n_1)) rfl<|dk<|a0a<|?_;obtain rfl:=os hf;exact a5j [] [0] rfl ⟨trivial,trivial⟩ rfl (.refl _) (.refl _)

/- (*spec.l00Src).chance -/
def d2y:a0n :=
 (.seq (.reg (tm 4 (.c (.bool false)) .done))
 (.seq (.reg (tm 5 (.t 0) (tm 6 (.t 1) (tq 7 (.call 123 [(.t 5),(.t 6)]) (tm 8 (.t 1) (tq 9 (.bin .sub (.t 8) (.c (.int .i64 1))) (tq 10 (.bin .eql (.t 7) (.t 9)) (tm 4 (.t 10) .done))))))))
 .ret))
theorem d7c:a1c Tryz.prog Tryz.f220 = some (d2y.erase,[.mov (.t 4)],11):=by kernel_rfl
def a5k (n_1:Int) (s_2:a1j):Option (Bool × a1j) :=
    (a1i n_1 s_2).bind fun r_3 =>
    some ((r_3.1 == w64 (n_1 - 1)),r_3.2)
theorem b2m (n_1:Int) (s_2:a1j) (r:(Bool × a1j)) (hf:a5k n_1 s_2 = some r):a1q Tryz.prog true 220 [(.ptr 0 0 0),(.int .i64 n_1)] [.box 3 (.agg [(.lst 1 (s_2.Code.map a0p)),(.int .i64 s_2.At),(.int .i64 s_2.Seed)])] (.bool r.1) [.box 3 (.agg [(.lst 1 (r.2.Code.map a0p)),(.int .i64 r.2.At),(.int .i64 r.2.Seed)])]:=by
 refine a1q.of_awp mixed Tryz.func220 d7c nle ?_;rw [a0h];unfold a5k at hf;unfold d2y;refine (show awp Tryz.prog true 1 _ (ofL [(0,(.ptr 0 0 0)),(1,(.int .i64 n_1))]) [.box 3 (.agg [(.lst 1 (s_2.Code.map a0p)),(.int .i64 s_2.At),(.int .i64 s_2.Seed)])] _ from ?_);refine sr<|l9 (.bool false) rfl<|dk<|sr<|?_
 obtain ⟨r_3,er4,hf⟩:=ob hf
 refine l9 (.ptr 0 0 0) rfl<|l9 (.int .i64 n_1) rfl<|?_;refine x8 (a3m (v:=(.int .i64 r_3.1)) (h2:=[.box 3 (.agg [(.lst 1 (r_3.2.Code.map a0p)),(.int .i64 r_3.2.At),(.int .i64 r_3.2.Seed)])]) [] [0] (fun _ => rfl) (a2a _ _ _ er4) rfl (.refl _) (.refl _) rfl rfl) ?_;refine l9 (.int .i64 n_1) rfl<|o7 (.int .i64 (w64 (n_1 - 1))) rfl rfl rfl<|o7 (.bool (r_3.1 == w64 (n_1 - 1))) rfl rfl rfl<|l9 (.bool (r_3.1 == w64 (n_1 - 1))) rfl<|dk<|a0a<|?_;obtain rfl:=os hf;exact a5j [] [0] rfl ⟨trivial,trivial⟩ rfl (.refl _) (.refl _)

/- (*spec.l00Src).pick -/
def d2z:a0n :=
 (.seq (.reg (tm 4 (.c (.str [])) .done))
 (.seq (.seq (.reg (tm 5 (.t 1) (tq 6 (.len (.t 5)) (tq 7 (.bin .eql (.t 6) (.c (.int .i64 0))) .done))))
 (.cond (.t 7) (.seq (.reg (tm 4 (.c (.str [])) .done))
 .ret)
 .skip))
 (.seq (.reg (tm 8 (.t 1) (tm 9 (.t 0) (tm 10 (.t 1) (tq 11 (.len (.t 10)) (tq 12 (.call 123 [(.t 9),(.t 11)]) (tq 13 (.iaddr 1 (.t 8) (.t 12)) (tq 14 (.load 1 false (.t 13)) (tm 4 (.t 14) .done)))))))))
 .ret)))
theorem d7d:a1c Tryz.prog Tryz.f334 = some (d2z.erase,[.mov (.t 4)],15):=by kernel_rfl
def a4j (list_1:(List Str)) (s_2:a1j):Option (Str × a1j) :=
    if ((list_1.length:Int) == 0) then
    some ([],s_2)
    else
    (a1i (list_1.length:Int) s_2).bind fun r_6 =>
    (idx list_1 r_6.1).bind fun x_8 =>
    some (x_8,r_6.2)
theorem b8f (list_1:(List Str)) (s_2:a1j) (r:(Str × a1j)) (hf:a4j list_1 s_2 = some r):a1q Tryz.prog true 334 [(.ptr 0 0 0),(.lst 1 (list_1.map AV.str))] [.box 3 (.agg [(.lst 1 (s_2.Code.map a0p)),(.int .i64 s_2.At),(.int .i64 s_2.Seed)])] (.str r.1) [.box 3 (.agg [(.lst 1 (r.2.Code.map a0p)),(.int .i64 r.2.At),(.int .i64 r.2.Seed)])]:=by
 refine a1q.of_awp mixed Tryz.func334 d7d nle ?_;rw [a0h];unfold a4j at hf;unfold d2z;refine (show awp Tryz.prog true 1 _ (ofL [(0,(.ptr 0 0 0)),(1,(.lst 1 (list_1.map AV.str)))]) [.box 3 (.agg [(.lst 1 (s_2.Code.map a0p)),(.int .i64 s_2.At),(.int .i64 s_2.Seed)])] _ from ?_);refine sr<|l9 (.str []) rfl<|dk<|o6<|sr<|l9 (.lst 1 (list_1.map AV.str)) rfl<|a1e (a1p (enc:=AV.str) rfl) fun hl3 => o7 (.bool ((list_1.length:Int) == 0)) rfl rfl rfl<|dk<|?_
 rcases oi hf with ⟨c4,hf⟩ | ⟨c4,hf⟩
 ·refine x9 rfl c4<|sr<|l9 (.str []) rfl<|dk<|a0a<|?_;obtain rfl:=os hf;exact a5j [] [0] rfl ⟨trivial,trivial⟩ rfl (.refl _) (.refl _)
 ·refine y5 rfl (bf c4)<|a0e<|a0f<|sr<|?_
  obtain ⟨r_6,er7,hf⟩:=ob hf
  obtain ⟨x_8,ex9,hf⟩:=ob hf
  refine l9 (.lst 1 (list_1.map AV.str)) rfl<|l9 (.ptr 0 0 0) rfl<|l9 (.lst 1 (list_1.map AV.str)) rfl<|a1e (a1p (enc:=AV.str) rfl) fun hl5 => ?_;refine x8 (a3m (v:=(.int .i64 r_6.1)) (h2:=[.box 3 (.agg [(.lst 1 (r_6.2.Code.map a0p)),(.int .i64 r_6.2.At),(.int .i64 r_6.2.Seed)])]) [] [0] (fun _ => rfl) (a2a _ _ _ er7) rfl (.refl _) (.refl _) rfl rfl) ?_;refine x8 (a3l (enc:=AV.str) rfl rfl (a8m ex9) (a8n ex9))<|o7 (.str x_8) rfl ⟨rfl,rfl⟩ rfl<|l9 (.str x_8) rfl<|dk<|a0a<|?_;obtain rfl:=os hf;exact a5j [] [0] rfl ⟨trivial,trivial⟩ rfl (.refl _) (.refl _)

/- (*spec.l00Src).atom -/
def d3a:a0n :=
 (.seq (.reg (tq 4 (.box 3 (.c (.agg [(.int .i64 0),(.int .i64 0),(.str [])]))) .done))
 (.seq (.seq (.reg (tm 5 (.t 1) .done))
 (.block 0 (.seq (.reg (tq 7 (.bin .eql (.t 5) (.c (.int .i64 1))) (tm 6 (.t 7) .done)))
 (.cond (.t 6) (.seq (.reg (tm 8 (.t 1) (tm 9 (.t 0) (tq 10 (.call 123 [(.t 9),(.c (.int .i64 12))]) (tq 11 (.bin .sub (.t 10) (.c (.int .i64 4))) (tq 12 (.build [(.int .i64 0),(.int .i64 0),(.str [])] [(0,1,(.t 8)),(1,1,(.t 11))]) (.q ⟨none,none,.store 3 (.t 4) (.t 12)⟩
 .done)))))))
 .ret)
 (.seq (.reg (tq 14 (.bin .eql (.t 5) (.c (.int .i64 2))) (tm 13 (.t 14) .done)))
 (.cond (.t 13) (.seq (.reg (tm 15 (.t 1) (tm 16 (.t 0) (tq 17 (.bslice 1 [(.c (.str [])),(.c (.str [97])),(.c (.str [98])),(.c (.str [99])),(.c (.str [110,101,116]))]) (tq 18 (.call 334 [(.t 16),(.t 17)]) (tq 19 (.build [(.int .i64 0),(.int .i64 0),(.str [])] [(0,1,(.t 15)),(2,1,(.t 18))]) (.q ⟨none,none,.store 3 (.t 4) (.t 19)⟩
 .done)))))))
 .ret)
 (.seq (.reg (tq 21 (.bin .eql (.t 5) (.c (.int .i64 3))) (tm 20 (.t 21) .done)))
 (.cond (.t 20) (.seq (.reg (tm 22 (.t 1) (tm 23 (.t 0) (tq 24 (.call 123 [(.t 23),(.c (.int .i64 2))]) (tq 25 (.build [(.int .i64 0),(.int .i64 0),(.str [])] [(0,1,(.t 22)),(1,1,(.t 24))]) (.q ⟨none,none,.store 3 (.t 4) (.t 25)⟩
 .done))))))
 .ret)
 .skip))))))))
 (.seq (.reg (tm 26 (.t 0) (tq 27 (.call 123 [(.t 26),(.c (.int .i64 6))]) (tq 28 (.bin .add (.c (.int .i64 1)) (.t 27)) (tq 29 (.build [(.int .i64 0),(.int .i64 0),(.str [])] [(0,1,(.c (.int .i64 4))),(1,1,(.t 28))]) (.q ⟨none,none,.store 3 (.t 4) (.t 29)⟩
 .done))))))
 .ret)))
theorem d7e:a1c Tryz.prog Tryz.f285 = some (d3a.erase,[.load 3 true (.t 4)],30):=by kernel_rfl
def a6s (kind_1:Int) (s_2:a1j):Option (o8 × a1j) :=
    if (kind_1 == 1) then
    (a1i 12 s_2).bind fun r_4 =>
    some ((⟨kind_1,w64 (r_4.1 - 4),[]⟩:o8),r_4.2)
    else
    if (kind_1 == 2) then
    (a4j [[],[97],[98],[99],[110,101,116]] s_2).bind fun r_7 =>
    some ((⟨kind_1,0,r_7.1⟩:o8),r_7.2)
    else
    if (kind_1 == 3) then
    (a1i 2 s_2).bind fun r_10 =>
    some ((⟨kind_1,r_10.1,[]⟩:o8),r_10.2)
    else
    (a1i 6 s_2).bind fun r_12 =>
    some ((⟨4,w64 (1 + r_12.1),[]⟩:o8),r_12.2)
theorem b8g (kind_1:Int) (s_2:a1j) (r:(o8 × a1j)) (hf:a6s kind_1 s_2 = some r):a1q Tryz.prog true 285 [(.ptr 0 0 0),(.int .i64 kind_1)] [.box 3 (.agg [(.lst 1 (s_2.Code.map a0p)),(.int .i64 s_2.At),(.int .i64 s_2.Seed)])] (l7 r.1) [.box 3 (.agg [(.lst 1 (r.2.Code.map a0p)),(.int .i64 r.2.At),(.int .i64 r.2.Seed)])]:=by
 refine a1q.of_awp mixed Tryz.func285 d7e nle ?_;rw [a0h];unfold a6s at hf;unfold d3a;refine (show awp Tryz.prog true 1 _ (ofL [(0,(.ptr 0 0 0)),(1,(.int .i64 kind_1))]) [.box 3 (.agg [(.lst 1 (s_2.Code.map a0p)),(.int .i64 s_2.At),(.int .i64 s_2.Seed)])] _ from ?_);refine sr<|x8 (a1o (j:=1) (c:=(.agg [(.int .i64 0),(.int .i64 0),(.str [])])) rfl trivial rfl rfl)<|dk<|o6<|sr<|l9 (.int .i64 kind_1) rfl<|dk<|a3c<|sr<|o7 (.bool (kind_1 == 1)) rfl rfl rfl<|l9 (.bool (kind_1 == 1)) rfl<|dk<|?_
 rcases oi hf with ⟨c3,hf⟩ | ⟨c3,hf⟩
 ·refine x9 rfl c3<|sr<|?_
  obtain ⟨r_4,er5,hf⟩:=ob hf
  refine l9 (.int .i64 kind_1) rfl<|l9 (.ptr 0 0 0) rfl<|?_;refine x8 (a3m (v:=(.int .i64 r_4.1)) (h2:=[.box 3 (.agg [(.lst 1 (r_4.2.Code.map a0p)),(.int .i64 r_4.2.At),(.int .i64 r_4.2.Seed)]),.box 3 (.agg [(.int .i64 0),(.int .i64 0),(.str [])])]) [] [0] (fun _ => rfl) (a2a _ _ _ er5) rfl (.refl _) (.refl _) rfl rfl) ?_;refine o7 (.int .i64 (w64 (r_4.1 - 4))) rfl rfl rfl<|o7 (.agg [(.int .i64 kind_1),(.int .i64 (w64 (r_4.1 - 4))),(.str [])]) rfl ⟨⟨rfl,nle,trivial⟩,⟨⟨rfl,nle,trivial⟩,trivial⟩⟩ rfl<|a3w (a0v (v:=(.agg [(.int .i64 kind_1),(.int .i64 (w64 (r_4.1 - 4))),(.str [])])) (y':=(.agg [(.int .i64 kind_1),(.int .i64 (w64 (r_4.1 - 4))),(.str [])])) rfl rfl rfl trivial ⟨rfl,nle⟩ ⟨⟨rfl,trivial⟩,⟨⟨rfl,trivial⟩,⟨⟨rfl,trivial⟩,trivial⟩⟩⟩ rfl)<|?_
  refine dk<|a0a<|?_;obtain rfl:=os hf;exact a5j [] [0] rfl ⟨nle,trivial⟩ rfl (.refl _) (.refl _)
 ·refine y5 rfl (bf c3)<|sr<|o7 (.bool (kind_1 == 2)) rfl rfl rfl<|l9 (.bool (kind_1 == 2)) rfl<|dk<|?_
  rcases oi hf with ⟨c6,hf⟩ | ⟨c6,hf⟩
  ·refine x9 rfl c6<|sr<|?_
   obtain ⟨r_7,er8,hf⟩:=ob hf
   refine l9 (.int .i64 kind_1) rfl<|l9 (.ptr 0 0 0) rfl<|?_;refine x8 (a1z (j:=2) (as':=[(.str []),(.str [97]),(.str [98]),(.str [99]),(.str [110,101,116])]) rfl (fun _ => by decide) ⟨rfl,⟨rfl,⟨rfl,⟨rfl,⟨rfl,trivial⟩⟩⟩⟩⟩ (.refl _) rfl rfl rfl) ?_;refine x8 (a3m (v:=(.str r_7.1)) (h2:=[.box 3 (.agg [(.lst 1 (r_7.2.Code.map a0p)),(.int .i64 r_7.2.At),(.int .i64 r_7.2.Seed)]),.box 3 (.agg [(.int .i64 0),(.int .i64 0),(.str [])]),.dead]) [false,true] [0] (fun h => absurd (show false = true from h) (by decide)) (b8f _ _ _ er8) rfl (.cons (.refl _) (.cons (.of_eq (congrArg (AV.lst _) (tko [[],[97],[98],[99],[110,101,116]]))) .nil)) (.refl _) rfl rfl) ?_
   refine o7 (.agg [(.int .i64 kind_1),(.int .i64 0),(.str r_7.1)]) rfl ⟨⟨rfl,nle,trivial⟩,⟨⟨rfl,nle,trivial⟩,trivial⟩⟩ rfl<|a3w (a0v (v:=(.agg [(.int .i64 kind_1),(.int .i64 0),(.str r_7.1)])) (y':=(.agg [(.int .i64 kind_1),(.int .i64 0),(.str r_7.1)])) rfl rfl rfl trivial ⟨rfl,nle⟩ ⟨⟨rfl,trivial⟩,⟨⟨rfl,trivial⟩,⟨⟨rfl,trivial⟩,trivial⟩⟩⟩ rfl)<|dk<|a0a<|?_;obtain rfl:=os hf;exact a5j [] [0] rfl ⟨nle,trivial⟩ rfl (.refl _) (.refl _)
  ·refine y5 rfl (bf c6)<|sr<|o7 (.bool (kind_1 == 3)) rfl rfl rfl<|l9 (.bool (kind_1 == 3)) rfl<|dk<|?_
   rcases oi hf with ⟨c9,hf⟩ | ⟨c9,hf⟩
   ·refine x9 rfl c9<|sr<|?_
    obtain ⟨r_10,er11,hf⟩:=ob hf
    refine l9 (.int .i64 kind_1) rfl<|l9 (.ptr 0 0 0) rfl<|?_;refine x8 (a3m (v:=(.int .i64 r_10.1)) (h2:=[.box 3 (.agg [(.lst 1 (r_10.2.Code.map a0p)),(.int .i64 r_10.2.At),(.int .i64 r_10.2.Seed)]),.box 3 (.agg [(.int .i64 0),(.int .i64 0),(.str [])])]) [] [0] (fun _ => rfl) (a2a _ _ _ er11) rfl (.refl _) (.refl _) rfl rfl) ?_;refine o7 (.agg [(.int .i64 kind_1),(.int .i64 r_10.1),(.str [])]) rfl ⟨⟨rfl,nle,trivial⟩,⟨⟨rfl,nle,trivial⟩,trivial⟩⟩ rfl<|a3w (a0v (v:=(.agg [(.int .i64 kind_1),(.int .i64 r_10.1),(.str [])])) (y':=(.agg [(.int .i64 kind_1),(.int .i64 r_10.1),(.str [])])) rfl rfl rfl trivial ⟨rfl,nle⟩ ⟨⟨rfl,trivial⟩,⟨⟨rfl,trivial⟩,⟨⟨rfl,trivial⟩,trivial⟩⟩⟩ rfl)<|?_
    refine dk<|a0a<|?_;obtain rfl:=os hf;exact a5j [] [0] rfl ⟨nle,trivial⟩ rfl (.refl _) (.refl _)
   ·refine y5 rfl (bf c9)<|a0e<|a2c<|a0f<|sr<|?_
    obtain ⟨r_12,er13,hf⟩:=ob hf
    refine l9 (.ptr 0 0 0) rfl ?_;refine x8 (a3m (v:=(.int .i64 r_12.1)) (h2:=[.box 3 (.agg [(.lst 1 (r_12.2.Code.map a0p)),(.int .i64 r_12.2.At),(.int .i64 r_12.2.Seed)]),.box 3 (.agg [(.int .i64 0),(.int .i64 0),(.str [])])]) [] [0] (fun _ => rfl) (a2a _ _ _ er13) rfl (.refl _) (.refl _) rfl rfl) ?_;refine o7 (.int .i64 (w64 (1 + r_12.1))) rfl rfl rfl<|o7 (.agg [(.int .i64 4),(.int .i64 (w64 (1 + r_12.1))),(.str [])]) rfl ⟨⟨rfl,nle,trivial⟩,⟨⟨rfl,nle,trivial⟩,trivial⟩⟩ rfl<|a3w (a0v (v:=(.agg [(.int .i64 4),(.int .i64 (w64 (1 + r_12.1))),(.str [])])) (y':=(.agg [(.int .i64 4),(.int .i64 (w64 (1 + r_12.1))),(.str [])])) rfl rfl rfl trivial ⟨rfl,nle⟩ ⟨⟨rfl,trivial⟩,⟨⟨rfl,trivial⟩,⟨⟨rfl,trivial⟩,trivial⟩⟩⟩ rfl)<|?_
    refine dk<|a0a<|?_;obtain rfl:=os hf;exact a5j [] [0] rfl ⟨nle,trivial⟩ rfl (.refl _) (.refl _)

/- spec.l03Has -/
def e2h:a0n :=
 (.seq (.reg (tq 3 (.box 3 (.t 1)) (tm 4 (.c (.bool false)) .done)))
 (.seq (.seq (.reg (tm 5 (.c (.int .i64 0)) .done))
 (.block 0 (.loop (.seq (.seq (.reg (tm 6 (.t 5) (tm 7 (.t 0) (tq 8 (.len (.t 7)) (tq 9 (.bin .lss (.t 6) (.t 8)) .done)))))
 (.cond (.t 9) .skip
 (.exit 0)))
 (.seq (.block 1 (.seq (.reg (tm 12 (.t 0) (tm 13 (.t 5) (tq 14 (.iaddr 3 (.t 12) (.t 13)) (tq 15 (.load 3 true (.t 14)) (tq 16 (.load 3 true (.t 3)) (tq 17 (.eqs false [0,0,2] (.t 15) (.t 16)) .done)))))))
 (.cond (.t 17) (.seq (.reg (tm 4 (.c (.bool true)) .done))
 .ret)
 .skip)))
 (.reg (tm 10 (.t 5) (tq 11 (.bin .add (.t 10) (.c (.int .i64 1))) (tm 5 (.t 11) .done)))))))))
 (.cut (.seq (.reg (tm 4 (.c (.bool false)) .done))
 .ret))))
theorem e2i:a1c Tryz.prog Tryz.f327 = some (e2h.erase,[.mov (.t 4)],18):=by kernel_rfl
def a5s (a_2:o8):List o8 → Option (Fl Bool Unit)
  | [] =>
    some (.go ())
  | x_28 :: xs =>
    if (x_28.Kind == a_2.Kind && (x_28.N == a_2.N && (x_28.T == a_2.T && true))) then
    some (.ret true)
    else
    a5s a_2 xs 

def a8v (d_1:(List o8)) (a_2:o8):Option Bool :=
    (a5s a_2 d_1 ).bind fun q => (match q with
    | .ret r => some r
    | .go _ =>
    some false)
theorem b4k (d_1:(List o8)) (a_2:o8) (r:Bool) (hf:a8v d_1 a_2 = some r):y8 Tryz.prog 327 .flat [(.lst 3 (d_1.map l7)),(l7 a_2)] (.bool r):=by
 refine y8.of_awp mixed Tryz.func327 e2i nle ?_;rw [a0h];unfold a8v at hf;unfold e2h;refine (show awp Tryz.prog false 0 _ (ofL [(0,(.lst 3 (d_1.map l7))),(1,(l7 a_2))]) [] _ from ?_);refine sr<|x8 (a1o (j:=0) (c:=(.agg [(.int .i64 a_2.Kind),(.int .i64 a_2.N),(.str a_2.T)])) rfl trivial rfl rfl)<|l9 (.bool false) rfl<|dk<|o6<|sr<|l9 (.int .i64 0) rfl<|dk<|?_
 obtain ⟨p21,hb1,hf⟩:=ob hf
 refine a2i (X:={q:Unit // p21 = .go q}) (fun q => ([],[])) ?_ ?_
 ·refine a1m (X:={q:Nat // a5s a_2 (d_1.drop q)  = some p21}) (fun q => ([(0,(.lst 3 (d_1.map l7))),(3,(.ptr 0 0 0)),(5,(.int .i64 (q.1:Int)))],[.box 3 (.agg [(.int .i64 a_2.Kind),(.int .i64 a_2.N),(.str a_2.T)])])) (fun q => d_1.length - q.1) ⟨0,hb1⟩ ⟨[],[0],_,_,rfl,rfl,⟨.refl _,⟨.refl _,⟨.refl _,trivial⟩⟩⟩,(.refl _)⟩ ?_
  rintro ⟨i_14,hc1⟩
  have hc1:a5s a_2 (d_1.drop i_14)  = some p21:=hc1
  refine (show awp Tryz.prog false 0 _ (ofL [(0,(.lst 3 (d_1.map l7))),(3,(.ptr 0 0 0)),(5,(.int .i64 (i_14:Int)))]) [.box 3 (.agg [(.int .i64 a_2.Kind),(.int .i64 a_2.N),(.str a_2.T)])] _ from ?_)
  rcases a5p d_1 i_14 with ⟨hie24,hd27⟩ | ⟨hlt22,x_28,hx23,hd27⟩
  ·rw [hd27,a5s.eq_1] at hc1
   have hq26:=dlf hie24
   refine o6<|sr<|l9 (.int .i64 (i_14:Int)) rfl<|l9 (.lst 3 (d_1.map l7)) rfl<|a1e (a1p (enc:=l7) rfl) fun hl29 => o7 (.bool (decide ((i_14:Int) < (d_1.length:Int)))) rfl rfl rfl<|dk<|y5 rfl hq26<|a2u<|a2t<|a1x<|a2s<|?_;obtain rfl:=os hc1;exact a3h ⟨_,rfl⟩ ⟨[],[],_,_,rfl,rfl,trivial,(.refl _)⟩
  ·rw [hd27,a5s.eq_2] at hc1
   have hq26:=dlt hlt22
   refine o6<|sr<|l9 (.int .i64 (i_14:Int)) rfl<|l9 (.lst 3 (d_1.map l7)) rfl<|a1e (a1p (enc:=l7) rfl) fun hl30 => o7 (.bool (decide ((i_14:Int) < (d_1.length:Int)))) rfl rfl rfl<|dk<|x9 rfl hq26<|a0e<|a0f<|o6<|a3c<|sr<|l9 (.lst 3 (d_1.map l7)) rfl<|l9 (.int .i64 (i_14:Int)) rfl<|x8 (a1r (enc:=l7) rfl rfl hx23)<|o7 (l7 x_28) rfl nle rfl<|o7 (.agg [(.int .i64 a_2.Kind),(.int .i64 a_2.N),(.str a_2.T)]) rfl nle rfl<|o7 (.bool (x_28.Kind == a_2.Kind && (x_28.N == a_2.N && (x_28.T == a_2.T && true)))) rfl ⟨⟨rfl,rfl⟩,⟨⟨rfl,rfl⟩,⟨rfl,trivial⟩⟩⟩ rfl<|?_
   refine dk<|?_
   rcases oi hc1 with ⟨c31,hc1⟩ | ⟨c31,hc1⟩
   ·refine x9 rfl c31<|sr<|l9 (.bool true) rfl<|dk<|a0a<|?_;obtain rfl:=os hc1;obtain rfl:=os hf;exact a0d ⟨trivial,trivial⟩ rfl (.refl _)
   ·refine y5 rfl (bf c31)<|a0e<|a2c<|a0f<|a0k<|l9 (.int .i64 (i_14:Int)) rfl<|o7 (.int .i64 (w64 ((i_14:Int) + 1))) rfl rfl rfl<|l9 (.int .i64 (w64 ((i_14:Int) + 1))) rfl<|y7<|?_;exact a1t ⟨(i_14 + 1),hc1⟩ (mul hlt22) ⟨[],[0],_,_,rfl,rfl,⟨.refl _,⟨.refl _,⟨.of_eq (congrArg (AV.int _) (a1w hlt22 hl30)),trivial⟩⟩⟩,(.refl _)⟩
 ·rintro ⟨_,rfl⟩
  refine sr<|l9 (.bool false) rfl<|dk<|a0a<|?_;obtain rfl:=os hf;exact a0d ⟨trivial,trivial⟩ rfl (.refl _)

/- spec.l01Bit -/
def e2j:a0n :=
 (.seq (.reg (tm 2 (.c (.int .i64 0)) .done))
 (.seq (.seq (.reg (tm 3 (.t 0) .done))
 (.cond (.t 3) (.seq (.reg (tm 2 (.c (.int .i64 1)) .done))
 .ret)
 .skip))
 (.seq (.reg (tm 2 (.c (.int .i64 0)) .done))
 .ret)))
theorem e2k:a1c Tryz.prog Tryz.f326 = some (e2j.erase,[.mov (.t 2)],4):=by kernel_rfl
def b0r (b_1:Bool):Option Int :=
    if b_1 then
    some 1
    else
    some 0
theorem b4l (b_1:Bool) (r:Int) (hf:b0r b_1 = some r):y8 Tryz.prog 326 .flat [(.bool b_1)] (.int .i64 r):=by
  refine y8.of_awp mixed Tryz.func326 e2k nle ?_
  rw [a0h]
  unfold b0r at hf
  unfold e2j
  refine (show awp Tryz.prog false 0 _ (ofL [(0,(.bool b_1))]) [] _ from ?_)
  refine o6 ?_
  refine a0k ?_
  refine x8 (a2r (.int .i64 0) rfl) ?_
  refine y7 ?_
  refine a0f ?_
  refine o6 ?_
  refine o6 ?_
  refine a0k ?_
  refine x8 (a2r (.bool b_1) rfl) ?_
  refine y7 ?_
  refine a0f ?_
  rcases oi hf with ⟨c2,hf⟩ | ⟨c2,hf⟩
  · refine x9 rfl c2 ?_
    refine o6 ?_
    refine a0k ?_
    refine x8 (a2r (.int .i64 1) rfl) ?_
    refine y7 ?_
    refine a0f ?_
    refine a0a ?_
    obtain rfl:=os hf
    exact a0d ⟨trivial,trivial⟩ rfl (.refl _)
  · refine y5 rfl (bf c2) ?_
    refine a0e ?_
    refine a0f ?_
    refine o6 ?_
    refine a0k ?_
    refine x8 (a2r (.int .i64 0) rfl) ?_
    refine y7 ?_
    refine a0f ?_
    refine a0a ?_
    obtain rfl:=os hf
    exact a0d ⟨trivial,trivial⟩ rfl (.refl _)

/- spec.l03Order -/
def e2l:a0n :=
 (.seq (.reg (tq 2 (.box 3 (.t 0)) (tq 3 (.box 3 (.t 1)) (tm 4 (.c (.int .i64 0)) .done))))
 (.seq (.block 0 (.seq (.reg (tq 6 (.faddr 0 (.t 2)) (tq 7 (.load 1 false (.t 6)) (tq 8 (.faddr 0 (.t 3)) (tq 9 (.load 1 false (.t 8)) (tq 10 (.bin .neq (.t 7) (.t 9)) (tm 5 (.t 10) .done)))))))
 (.cond (.t 5) (.seq (.reg (tq 11 (.faddr 0 (.t 2)) (tq 12 (.load 1 false (.t 11)) (tq 13 (.faddr 0 (.t 3)) (tq 14 (.load 1 false (.t 13)) (tq 15 (.bin .lss (.t 12) (.t 14)) (tq 16 (.call 326 [(.t 15)]) (tq 17 (.bin .mul (.c (.int .i64 2)) (.t 16)) (tq 18 (.bin .sub (.c (.int .i64 1)) (.t 17)) (tm 4 (.t 18) .done))))))))))
 .ret)
 (.seq (.reg (tq 20 (.faddr 1 (.t 2)) (tq 21 (.load 1 false (.t 20)) (tq 22 (.faddr 1 (.t 3)) (tq 23 (.load 1 false (.t 22)) (tq 24 (.bin .neq (.t 21) (.t 23)) (tm 19 (.t 24) .done)))))))
 (.cond (.t 19) (.seq (.reg (tq 25 (.faddr 1 (.t 2)) (tq 26 (.load 1 false (.t 25)) (tq 27 (.faddr 1 (.t 3)) (tq 28 (.load 1 false (.t 27)) (tq 29 (.bin .lss (.t 26) (.t 28)) (tq 30 (.call 326 [(.t 29)]) (tq 31 (.bin .mul (.c (.int .i64 2)) (.t 30)) (tq 32 (.bin .sub (.c (.int .i64 1)) (.t 31)) (tm 4 (.t 32) .done))))))))))
 .ret)
 (.seq (.reg (tq 34 (.faddr 2 (.t 2)) (tq 35 (.load 1 false (.t 34)) (tq 36 (.faddr 2 (.t 3)) (tq 37 (.load 1 false (.t 36)) (tq 38 (.bin .neq (.t 35) (.t 37)) (tm 33 (.t 38) .done)))))))
 (.cond (.t 33) (.seq (.reg (tq 39 (.faddr 2 (.t 2)) (tq 40 (.load 1 false (.t 39)) (tq 41 (.faddr 2 (.t 3)) (tq 42 (.load 1 false (.t 41)) (tq 43 (.bin .lss (.t 40) (.t 42)) (tq 44 (.call 326 [(.t 43)]) (tq 45 (.bin .mul (.c (.int .i64 2)) (.t 44)) (tq 46 (.bin .sub (.c (.int .i64 1)) (.t 45)) (tm 4 (.t 46) .done))))))))))
 .ret)
 .skip)))))))
 (.seq (.reg (tm 4 (.c (.int .i64 0)) .done))
 .ret)))
theorem e2m:a1c Tryz.prog Tryz.f288 = some (e2l.erase,[.mov (.t 4)],47):=by kernel_rfl
def a6p (a_1:o8) (b_2:o8):Option Int :=
    if (a_1.Kind != b_2.Kind) then
    (b0r (decide (a_1.Kind < b_2.Kind))).bind fun r_4 =>
    some (w64 (1 - (w64 (2 * r_4))))
    else
    if (a_1.N != b_2.N) then
    (b0r (decide (a_1.N < b_2.N))).bind fun r_7 =>
    some (w64 (1 - (w64 (2 * r_7))))
    else
    if (!(a_1.T == b_2.T)) then
    (b0r (Op.bytesLess a_1.T b_2.T)).bind fun r_10 =>
    some (w64 (1 - (w64 (2 * r_10))))
    else
    some 0
theorem b2u (a_1:o8) (b_2:o8) (r:Int) (hf:a6p a_1 b_2 = some r):y8 Tryz.prog 288 .flat [(l7 a_1),(l7 b_2)] (.int .i64 r):=by
 refine y8.of_awp mixed Tryz.func288 e2m nle ?_;rw [a0h];unfold a6p at hf;unfold e2l;refine (show awp Tryz.prog false 0 _ (ofL [(0,(l7 a_1)),(1,(l7 b_2))]) [] _ from ?_);refine sr<|x8 (a1o (j:=0) (c:=(.agg [(.int .i64 a_1.Kind),(.int .i64 a_1.N),(.str a_1.T)])) rfl trivial rfl rfl)<|x8 (a1o (j:=1) (c:=(.agg [(.int .i64 b_2.Kind),(.int .i64 b_2.N),(.str b_2.T)])) rfl trivial rfl rfl)<|l9 (.int .i64 0) rfl<|dk<|o6<|a3c<|sr<|o7 (.ptr 0 0 0) rfl trivial rfl<|o7 (.int .i64 a_1.Kind) rfl nle rfl<|o7 (.ptr 1 0 0) rfl trivial rfl<|o7 (.int .i64 b_2.Kind) rfl nle rfl<|o7 (.bool (a_1.Kind != b_2.Kind)) rfl rfl rfl<|?_
 refine l9 (.bool (a_1.Kind != b_2.Kind)) rfl<|dk<|?_
 rcases oi hf with ⟨c3,hf⟩ | ⟨c3,hf⟩
 ·refine x9 rfl c3<|sr<|?_
  obtain ⟨r_4,er5,hf⟩:=ob hf
  refine o7 (.ptr 0 0 0) rfl trivial rfl<|o7 (.int .i64 a_1.Kind) rfl nle rfl<|o7 (.ptr 1 0 0) rfl trivial rfl<|o7 (.int .i64 b_2.Kind) rfl nle rfl<|o7 (.bool (decide (a_1.Kind < b_2.Kind))) rfl rfl rfl<|x8 (a0g (b4l _ _ er5) rfl (.refl _) rfl)<|o7 (.int .i64 (w64 (2 * r_4))) rfl rfl rfl<|o7 (.int .i64 (w64 (1 - (w64 (2 * r_4))))) rfl rfl rfl<|l9 (.int .i64 (w64 (1 - (w64 (2 * r_4))))) rfl<|dk<|a0a<|?_;obtain rfl:=os hf;exact a0d ⟨trivial,trivial⟩ rfl (.refl _)
 ·refine y5 rfl (bf c3)<|sr<|o7 (.ptr 0 0 1) rfl trivial rfl<|o7 (.int .i64 a_1.N) rfl nle rfl<|o7 (.ptr 1 0 1) rfl trivial rfl<|o7 (.int .i64 b_2.N) rfl nle rfl<|o7 (.bool (a_1.N != b_2.N)) rfl rfl rfl<|l9 (.bool (a_1.N != b_2.N)) rfl<|dk<|?_
  rcases oi hf with ⟨c6,hf⟩ | ⟨c6,hf⟩
  ·refine x9 rfl c6<|sr<|?_
   obtain ⟨r_7,er8,hf⟩:=ob hf
   refine o7 (.ptr 0 0 1) rfl trivial rfl<|o7 (.int .i64 a_1.N) rfl nle rfl<|o7 (.ptr 1 0 1) rfl trivial rfl<|o7 (.int .i64 b_2.N) rfl nle rfl<|o7 (.bool (decide (a_1.N < b_2.N))) rfl rfl rfl<|x8 (a0g (b4l _ _ er8) rfl (.refl _) rfl)<|o7 (.int .i64 (w64 (2 * r_7))) rfl rfl rfl<|o7 (.int .i64 (w64 (1 - (w64 (2 * r_7))))) rfl rfl rfl<|l9 (.int .i64 (w64 (1 - (w64 (2 * r_7))))) rfl<|dk<|a0a<|?_;obtain rfl:=os hf;exact a0d ⟨trivial,trivial⟩ rfl (.refl _)
  ·refine y5 rfl (bf c6)<|sr<|o7 (.ptr 0 0 2) rfl trivial rfl<|o7 (.str a_1.T) rfl nle rfl<|o7 (.ptr 1 0 2) rfl trivial rfl<|o7 (.str b_2.T) rfl nle rfl<|o7 (.bool (!(a_1.T == b_2.T))) rfl trivial rfl<|l9 (.bool (!(a_1.T == b_2.T))) rfl<|dk<|?_
   rcases oi hf with ⟨c9,hf⟩ | ⟨c9,hf⟩
   ·refine x9 rfl c9<|sr<|?_
    obtain ⟨r_10,er11,hf⟩:=ob hf
    refine o7 (.ptr 0 0 2) rfl trivial rfl<|o7 (.str a_1.T) rfl nle rfl<|o7 (.ptr 1 0 2) rfl trivial rfl<|o7 (.str b_2.T) rfl nle rfl<|o7 (.bool (Op.bytesLess a_1.T b_2.T)) rfl trivial rfl<|x8 (a0g (b4l _ _ er11) rfl (.refl _) rfl)<|o7 (.int .i64 (w64 (2 * r_10))) rfl rfl rfl<|o7 (.int .i64 (w64 (1 - (w64 (2 * r_10))))) rfl rfl rfl<|l9 (.int .i64 (w64 (1 - (w64 (2 * r_10))))) rfl<|dk<|a0a<|?_;obtain rfl:=os hf;exact a0d ⟨trivial,trivial⟩ rfl (.refl _)
   ·refine y5 rfl (bf c9)<|a0e<|a2c<|a0f<|sr<|l9 (.int .i64 0) rfl<|dk<|a0a<|?_;obtain rfl:=os hf;exact a0d ⟨trivial,trivial⟩ rfl (.refl _)

/- spec.l03Put -/
def e2n:a0n :=
 (.seq (.reg (tq 3 (.box 3 (.t 1)) (tm 4 (.c .nil) .done)))
 (.seq (.seq (.reg (tm 6 (.t 0) (tq 7 (.load 3 true (.t 3)) (tq 8 (.call 327 [(.t 6),(.t 7)]) .done))))
 (.cond (.t 8) (.seq (.reg (tm 9 (.t 0) (tm 4 (.t 9) .done)))
 .ret)
 .skip))
 (.seq (.reg (tm 10 (.t 0) (tq 11 (.len (.t 10)) (tm 5 (.t 11) .done))))
 (.seq (.block 0 (.loop (.seq (.seq (.reg (tm 12 (.t 5) (tq 13 (.bin .gtr (.t 12) (.c (.int .i64 0))) (tm 14 (.t 13) (tg 15 14 true (.mov (.t 0)) (tg 16 14 true (.mov (.t 5)) (tg 17 14 true (.bin .sub (.t 16) (.c (.int .i64 1))) (tg 18 14 true (.iaddr 3 (.t 15) (.t 17)) (tg 19 14 true (.load 3 true (.t 18)) (tg 20 14 true (.load 3 true (.t 3)) (.l ⟨(some 21),(some (14,true)),.call 288 [(.t 19),(.t 20)]⟩ []
 (tg 22 14 true (.bin .gtr (.t 21) (.c (.int .i64 0))) (tq 23 (.pick (.t 14) (.t 22) (.c (.bool false))) .done)) .non)))))))))))
 (.cut (.cond (.t 23) .skip
 (.exit 0))))
 (.block 1 (.reg (tm 24 (.t 5) (tq 25 (.bin .sub (.t 24) (.c (.int .i64 1))) (tm 5 (.t 25) .done))))))))
 (.cut (.seq (.reg (tm 27 (.t 0) (tm 28 (.t 5) (tq 29 (.slice 3 (.t 27) none (some (.t 28))) (tq 31 (.load 3 true (.t 3)) (tm 34 (.t 0) (tm 35 (.t 5) (tq 36 (.slice 3 (.t 34) (some (.t 35)) none) (.l ⟨(some 26),none,.bslice 3 []⟩ [⟨(some 36),none,.slice 3 (.t 34) (some (.t 35)) none⟩,⟨(some 31),none,.load 3 true (.t 3)⟩,⟨(some 29),none,.slice 3 (.t 27) none (some (.t 28))⟩]
 (.l ⟨(some 30),none,.append 3 32 (.t 26) (.t 29)⟩ [⟨(some 36),none,.slice 3 (.t 34) (some (.t 35)) none⟩,⟨(some 31),none,.load 3 true (.t 3)⟩]
 (.l ⟨(some 32),none,.bslice 3 [(.t 31)]⟩ [⟨(some 36),none,.slice 3 (.t 34) (some (.t 35)) none⟩,⟨(some 29),none,.slice 3 (.t 27) none (some (.t 28))⟩]
 (.l ⟨(some 33),none,.append 3 32 (.t 30) (.t 32)⟩ [⟨(some 36),none,.slice 3 (.t 34) (some (.t 35)) none⟩]
 (.l ⟨(some 37),none,.append 3 32 (.t 33) (.t 36)⟩ []
 (tm 4 (.t 37) .done) .non) .non) .non) (.l ⟨(some 32),none,.bslice 3 [(.t 31)]⟩ [⟨(some 36),none,.slice 3 (.t 34) (some (.t 35)) none⟩,⟨(some 29),none,.slice 3 (.t 27) none (some (.t 28))⟩]
 (.l ⟨(some 30),none,.append 3 32 (.t 26) (.t 29)⟩ [⟨(some 36),none,.slice 3 (.t 34) (some (.t 35)) none⟩,⟨(some 31),none,.load 3 true (.t 3)⟩]
 (.l ⟨(some 33),none,.append 3 32 (.t 30) (.t 32)⟩ [⟨(some 36),none,.slice 3 (.t 34) (some (.t 35)) none⟩]
 (.l ⟨(some 37),none,.append 3 32 (.t 33) (.t 36)⟩ []
 (tm 4 (.t 37) .done) .non) .non) .non) .non)) (.l ⟨(some 32),none,.bslice 3 [(.t 31)]⟩ [⟨(some 36),none,.slice 3 (.t 34) (some (.t 35)) none⟩,⟨(some 29),none,.slice 3 (.t 27) none (some (.t 28))⟩]
 (.l ⟨(some 26),none,.bslice 3 []⟩ [⟨(some 36),none,.slice 3 (.t 34) (some (.t 35)) none⟩,⟨(some 31),none,.load 3 true (.t 3)⟩,⟨(some 29),none,.slice 3 (.t 27) none (some (.t 28))⟩]
 (.l ⟨(some 30),none,.append 3 32 (.t 26) (.t 29)⟩ [⟨(some 36),none,.slice 3 (.t 34) (some (.t 35)) none⟩,⟨(some 31),none,.load 3 true (.t 3)⟩]
 (.l ⟨(some 33),none,.append 3 32 (.t 30) (.t 32)⟩ [⟨(some 36),none,.slice 3 (.t 34) (some (.t 35)) none⟩]
 (.l ⟨(some 37),none,.append 3 32 (.t 33) (.t 36)⟩ []
 (tm 4 (.t 37) .done) .non) .non) .non) .non) .non))))))))))
 .ret))))))
theorem e2o:a1c Tryz.prog Tryz.f284 = some (e2n.erase,[.mov (.t 4)],38):=by kernel_rfl
def a3p (d_1:(List o8)) (a_2:o8):Nat → Int → Option Int
  | 0,_ => none
  | k + 1,k_34 =>
    ((if (decide (k_34 > 0)) then
    (idx d_1 (w64 (k_34 - 1))).bind fun x_58 =>
    (a6p x_58 a_2).bind fun r_60 =>
    some (decide (r_60 > 0))
    else
    some false:Option Bool)).bind fun s23_55 =>
    if s23_55 then
    a3p d_1 a_2 k (w64 (k_34 - 1))
    else
    some k_34

def b0s (d_1:(List o8)) (a_2:o8):Option (List o8) :=
    (a8v d_1 a_2).bind fun r_3 =>
    if r_3 then
    some d_1
    else
    (a3p d_1 a_2 FUEL (d_1.length:Int)).bind fun k_48 =>
    if (0:Int) ≤ k_48 ∧ k_48 ≤ (d_1.length:Int) then
    if (0:Int) ≤ k_48 ∧ k_48 ≤ (d_1.length:Int) then
    if ([] ++ (d_1.take k_48.toNat)).length ≤ 2 ^ 30 then
    if (([] ++ (d_1.take k_48.toNat)) ++ [a_2]).length ≤ 2 ^ 30 then
    if ((([] ++ (d_1.take k_48.toNat)) ++ [a_2]) ++ (d_1.drop k_48.toNat)).length ≤ 2 ^ 30 then
    some ((([] ++ (d_1.take k_48.toNat)) ++ [a_2]) ++ (d_1.drop k_48.toNat))
    else none
    else none
    else none
    else none
    else none
theorem w_spec_l03Put (d_1:(List o8)) (a_2:o8) (r:(List o8)) (hf:b0s d_1 a_2 = some r):y8 Tryz.prog 284 .weak [(.lst 3 (d_1.map l7)),(l7 a_2)] (.lst 3 (r.map l7)):=by
 refine y8.of_awp mixed Tryz.func284 e2o nle ?_;rw [a0h];unfold b0s at hf;unfold e2n;refine (show awp Tryz.prog false 0 _ (ofL [(0,(.lst 3 (d_1.map l7))),(1,(l7 a_2))]) [] _ from ?_);refine sr<|x8 (a1o (j:=0) (c:=(.agg [(.int .i64 a_2.Kind),(.int .i64 a_2.N),(.str a_2.T)])) rfl trivial rfl rfl)<|l9 .nil rfl<|dk<|o6<|sr<|?_
 obtain ⟨r_3,er4,hf⟩:=ob hf
 refine l9 (.lst 3 (d_1.map l7)) rfl<|o7 (.agg [(.int .i64 a_2.Kind),(.int .i64 a_2.N),(.str a_2.T)]) rfl nle rfl<|x8 (a0g (b4k _ _ _ er4) rfl (.refl _) rfl)<|dk<|?_
 rcases oi hf with ⟨c5,hf⟩ | ⟨c5,hf⟩
 ·refine x9 rfl c5<|sr<|l9 (.lst 3 (d_1.map l7)) rfl<|l9 (.lst 3 (d_1.map l7)) rfl<|dk<|a0a<|?_;obtain rfl:=os hf;exact b1u ⟨trivial,trivial⟩ rfl (.refl _)
 ·refine y5 rfl (bf c5)<|a0e<|a0f<|sr<|l9 (.lst 3 (d_1.map l7)) rfl<|a1e (a1p (enc:=l7) rfl) fun hl6 => l9 (.int .i64 (d_1.length:Int)) rfl<|dk<|o6<|?_
  obtain ⟨k_48,hb1,hf⟩:=ob hf
  refine a1k ([(0,(.lst 3 (d_1.map l7))),(3,(.ptr 0 0 0)),(5,(.int .i64 k_48))],[.box 3 (.agg [(.int .i64 a_2.Kind),(.int .i64 a_2.N),(.str a_2.T)])]) ?_ ?_
  ·refine a1m (X:={q:(Nat × Int) // a3p d_1 a_2 q.1 q.2 = some k_48}) (fun q => ([(0,(.lst 3 (d_1.map l7))),(3,(.ptr 0 0 0)),(5,(.int .i64 q.1.2))],[.box 3 (.agg [(.int .i64 a_2.Kind),(.int .i64 a_2.N),(.str a_2.T)])])) (fun q => q.1.1) ⟨(FUEL,(d_1.length:Int)),hb1⟩ ⟨[],[0],_,_,rfl,rfl,⟨.refl _,⟨.refl _,⟨.refl _,trivial⟩⟩⟩,(.refl _)⟩ ?_
   rintro ⟨⟨k,k_34⟩,hc1⟩
   have hc1:a3p d_1 a_2 k k_34 = some k_48:=hc1
   refine (show awp Tryz.prog false 0 _ (ofL [(0,(.lst 3 (d_1.map l7))),(3,(.ptr 0 0 0)),(5,(.int .i64 k_34))]) [.box 3 (.agg [(.int .i64 a_2.Kind),(.int .i64 a_2.N),(.str a_2.T)])] _ from ?_)
   rcases k with _ | k
   ·rw [a3p.eq_1] at hc1
    cases hc1
   ·rw [a3p.eq_2] at hc1;refine o6<|o6<|?_
    obtain ⟨s23_55,hb2,hc1⟩:=ob hc1
    refine a1k ([(0,(.lst 3 (d_1.map l7))),(3,(.ptr 0 0 0)),(5,(.int .i64 k_34)),(23,(.bool s23_55))],[.box 3 (.agg [(.int .i64 a_2.Kind),(.int .i64 a_2.N),(.str a_2.T)])]) ?_ ?_
    ·refine a0k ?_
     rcases oi hb2 with ⟨c57,hb2⟩ | ⟨c57,hb2⟩
     ·obtain ⟨x_58,ex59,hb2⟩:=ob hb2
      obtain ⟨r_60,er61,hb2⟩:=ob hb2
      refine l9 (.int .i64 k_34) rfl<|o7 (.bool (decide (k_34 > 0))) rfl rfl rfl<|l9 (.bool (decide (k_34 > 0))) rfl<|a0u (s:=14) (b:=true) rfl c57<|s_on rfl<|l9 (.lst 3 (d_1.map l7)) rfl<|s_on rfl<|l9 (.int .i64 k_34) rfl<|s_on rfl<|o7 (.int .i64 (w64 (k_34 - 1))) rfl rfl rfl<|s_on rfl<|x8 (a3l (enc:=l7) rfl rfl (a8m ex59) (a8n ex59))<|s_on rfl<|o7 (l7 x_58) rfl nle rfl<|s_on rfl<|o7 (.agg [(.int .i64 a_2.Kind),(.int .i64 a_2.N),(.str a_2.T)]) rfl nle rfl<|b8x rfl<|a2j (a0g (b2u _ _ _ er61) rfl (.refl _) rfl) a6a trivial<|s_on rfl<|o7 (.bool (decide (r_60 > 0))) rfl rfl rfl<|o7 (.bool (decide (r_60 > 0))) rfl trivial rfl<|?_
      refine y7 ?_;obtain rfl:=os hb2;exact ⟨[],[0],_,_,rfl,rfl,⟨.refl _,⟨.refl _,⟨.refl _,⟨.refl _,trivial⟩⟩⟩⟩,(.refl _)⟩
     ·refine l9 (.int .i64 k_34) rfl<|o7 (.bool (decide (k_34 > 0))) rfl rfl rfl<|l9 (.bool (decide (k_34 > 0))) rfl<|a0u (s:=14) (b:=false) rfl (bf c57)<|o9 rfl rfl<|o9 rfl rfl<|o9 rfl rfl<|o9 rfl rfl<|o9 rfl rfl<|o9 rfl rfl<|b5e rfl rfl trivial<|o9 rfl rfl<|o7 (.bool false) rfl trivial rfl<|y7<|?_;obtain rfl:=os hb2;exact ⟨[],[0],_,_,rfl,rfl,⟨.refl _,⟨.refl _,⟨.refl _,⟨.refl _,trivial⟩⟩⟩⟩,(.refl _)⟩
    ·rcases oi hc1 with ⟨c62,hc1⟩ | ⟨c62,hc1⟩
     ·refine x9 rfl c62<|a0e<|a0f<|a3c<|a0k<|l9 (.int .i64 k_34) rfl<|o7 (.int .i64 (w64 (k_34 - 1))) rfl rfl rfl<|l9 (.int .i64 (w64 (k_34 - 1))) rfl<|y7<|a2c<|?_;exact a1t ⟨(k,w64 (k_34 - 1)),hc1⟩ (Nat.lt_succ_self _) ⟨[],[0],_,_,rfl,rfl,⟨.refl _,⟨.refl _,⟨.refl _,trivial⟩⟩⟩,(.refl _)⟩
     ·refine y5 rfl (bf c62)<|a2u<|a2t<|a1x<|a2s<|?_;obtain rfl:=os hc1;exact ⟨[],[0],_,_,rfl,rfl,⟨.refl _,⟨.refl _,⟨.refl _,trivial⟩⟩⟩,(.refl _)⟩
  ·refine sr<|?_
   obtain ⟨g63,hf⟩:=og hf
   obtain ⟨g64,hf⟩:=og hf
   obtain ⟨g65,hf⟩:=og hf
   obtain ⟨g66,hf⟩:=og hf
   obtain ⟨g67,hf⟩:=og hf
   refine l9 (.lst 3 (d_1.map l7)) rfl<|l9 (.int .i64 k_48) rfl<|x8 (e0b (enc:=l7) rfl rfl g63.1 g63.2)<|o7 (.agg [(.int .i64 a_2.Kind),(.int .i64 a_2.N),(.str a_2.T)]) rfl nle rfl<|l9 (.lst 3 (d_1.map l7)) rfl<|l9 (.int .i64 k_48) rfl<|x8 (e0c (enc:=l7) rfl rfl g64.1 g64.2)<|?_;refine a2j (a1z (j:=1) (as':=[]) rfl (fun _ => by decide) trivial (.refl _) rfl rfl rfl) (.inr ⟨(b3p (enc:=l7) rfl rfl g64.1 g64.2),⟨⟨nle,rfl⟩,⟨(c3z (enc:=l7) rfl rfl g63.1 g63.2),trivial⟩⟩⟩) ?_ ?_
   ·refine a2j (a1z (j:=1) (as':=[(l7 a_2)]) rfl (fun _ => by decide) ⟨rfl,trivial⟩ (.refl _) rfl rfl rfl) (.inr ⟨(b3p (enc:=l7) rfl rfl g64.1 g64.2),⟨(c3z (enc:=l7) rfl rfl g63.1 g63.2),trivial⟩⟩) trivial ?_;refine a2j (a1z (j:=2) (as':=[]) rfl (fun _ => by decide) trivial (.refl _) rfl rfl rfl) (.inr ⟨(b3p (enc:=l7) rfl rfl g64.1 g64.2),⟨⟨nle,rfl⟩,⟨(c3z (enc:=l7) rfl rfl g63.1 g63.2),trivial⟩⟩⟩) trivial ?_
    refine a2j (a8d (j:=3) (L:=(([] ++ (d_1.take k_48.toNat)).map l7)) (len:=([] ++ (d_1.take k_48.toNat)).length) rfl rfl ((by simp)) (by simp <;> omega) g65 rfl rfl) (.inr ⟨(b3p (enc:=l7) rfl rfl g64.1 g64.2),⟨⟨nle,rfl⟩,trivial⟩⟩) trivial ?_
    refine a2j (a8d (j:=4) (L:=((([] ++ (d_1.take k_48.toNat)) ++ [a_2]).map l7)) (len:=(([] ++ (d_1.take k_48.toNat)) ++ [a_2]).length) rfl rfl (c4b (enc:=l7) ([] ++ (d_1.take k_48.toNat)) [a_2] _ (by rfl)) (by simp <;> omega) g66 rfl rfl) (.inr ⟨(b3p (enc:=l7) rfl rfl g64.1 g64.2),trivial⟩) trivial ?_
    refine a2j (a8d (j:=5) (L:=(((([] ++ (d_1.take k_48.toNat)) ++ [a_2]) ++ (d_1.drop k_48.toNat)).map l7)) (len:=((([] ++ (d_1.take k_48.toNat)) ++ [a_2]) ++ (d_1.drop k_48.toNat)).length) rfl rfl (apl (enc:=l7) (([] ++ (d_1.take k_48.toNat)) ++ [a_2]) (d_1.drop k_48.toNat)) (by simp <;> omega) g67 rfl rfl) trivial trivial ?_
    refine l9 (.own 5 0 (((([] ++ (d_1.take k_48.toNat)) ++ [a_2]) ++ (d_1.drop k_48.toNat)).length)) rfl<|dk<|a0a<|?_;obtain rfl:=os hf;exact b1u ⟨trivial,trivial⟩ rfl (.of_eq (congrArg (AV.lst _) (tko (enc:=l7) ((([] ++ (d_1.take k_48.toNat)) ++ [a_2]) ++ (d_1.drop k_48.toNat)))))
   ·refine a2j (a8d (j:=2) (L:=(([] ++ (d_1.take k_48.toNat)).map l7)) (len:=([] ++ (d_1.take k_48.toNat)).length) rfl rfl ((by simp)) (by simp <;> omega) g65 rfl rfl) (.inr ⟨(b3p (enc:=l7) rfl rfl g64.1 g64.2),⟨⟨nle,rfl⟩,trivial⟩⟩) ?_ ?_
    ·refine a2j (a1z (j:=2) (as':=[(l7 a_2)]) rfl (fun _ => by decide) ⟨rfl,trivial⟩ (.refl _) rfl rfl rfl) (.inr ⟨(b3p (enc:=l7) rfl rfl g64.1 g64.2),⟨(c3z (enc:=l7) rfl rfl g63.1 g63.2),trivial⟩⟩) trivial ?_
     refine a2j (a8d (j:=3) (L:=(([] ++ (d_1.take k_48.toNat)).map l7)) (len:=([] ++ (d_1.take k_48.toNat)).length) rfl rfl ((by simp)) (by simp <;> omega) g65 rfl rfl) (.inr ⟨(b3p (enc:=l7) rfl rfl g64.1 g64.2),⟨⟨nle,rfl⟩,trivial⟩⟩) trivial ?_
     refine a2j (a8d (j:=4) (L:=((([] ++ (d_1.take k_48.toNat)) ++ [a_2]).map l7)) (len:=(([] ++ (d_1.take k_48.toNat)) ++ [a_2]).length) rfl rfl (c4b (enc:=l7) ([] ++ (d_1.take k_48.toNat)) [a_2] _ (by rfl)) (by simp <;> omega) g66 rfl rfl) (.inr ⟨(b3p (enc:=l7) rfl rfl g64.1 g64.2),trivial⟩) trivial ?_
     refine a2j (a8d (j:=5) (L:=(((([] ++ (d_1.take k_48.toNat)) ++ [a_2]) ++ (d_1.drop k_48.toNat)).map l7)) (len:=((([] ++ (d_1.take k_48.toNat)) ++ [a_2]) ++ (d_1.drop k_48.toNat)).length) rfl rfl (apl (enc:=l7) (([] ++ (d_1.take k_48.toNat)) ++ [a_2]) (d_1.drop k_48.toNat)) (by simp <;> omega) g67 rfl rfl) trivial trivial ?_
     refine l9 (.own 5 0 (((([] ++ (d_1.take k_48.toNat)) ++ [a_2]) ++ (d_1.drop k_48.toNat)).length)) rfl<|dk<|a0a<|?_;obtain rfl:=os hf;exact b1u ⟨trivial,trivial⟩ rfl (.of_eq (congrArg (AV.lst _) (tko (enc:=l7) ((([] ++ (d_1.take k_48.toNat)) ++ [a_2]) ++ (d_1.drop k_48.toNat)))))
    ·refine a2j (a1z (j:=3) (as':=[(l7 a_2)]) rfl (fun _ => by decide) ⟨rfl,trivial⟩ (.refl _) rfl rfl rfl) (.inr ⟨(b3p (enc:=l7) rfl rfl g64.1 g64.2),⟨(c3z (enc:=l7) rfl rfl g63.1 g63.2),trivial⟩⟩) trivial ?_
     refine a2j (a8d (j:=4) (L:=((([] ++ (d_1.take k_48.toNat)) ++ [a_2]).map l7)) (len:=(([] ++ (d_1.take k_48.toNat)) ++ [a_2]).length) rfl rfl (c4b (enc:=l7) ([] ++ (d_1.take k_48.toNat)) [a_2] _ (by rfl)) (by simp <;> omega) g66 rfl rfl) (.inr ⟨(b3p (enc:=l7) rfl rfl g64.1 g64.2),trivial⟩) trivial ?_
     refine a2j (a8d (j:=5) (L:=(((([] ++ (d_1.take k_48.toNat)) ++ [a_2]) ++ (d_1.drop k_48.toNat)).map l7)) (len:=((([] ++ (d_1.take k_48.toNat)) ++ [a_2]) ++ (d_1.drop k_48.toNat)).length) rfl rfl (apl (enc:=l7) (([] ++ (d_1.take k_48.toNat)) ++ [a_2]) (d_1.drop k_48.toNat)) (by simp <;> omega) g67 rfl rfl) trivial trivial ?_
     refine l9 (.own 5 0 (((([] ++ (d_1.take k_48.toNat)) ++ [a_2]) ++ (d_1.drop k_48.toNat)).length)) rfl<|dk<|a0a<|?_;obtain rfl:=os hf;exact b1u ⟨trivial,trivial⟩ rfl (.of_eq (congrArg (AV.lst _) (tko (enc:=l7) ((([] ++ (d_1.take k_48.toNat)) ++ [a_2]) ++ (d_1.drop k_48.toNat)))))

/- spec.l03Put -/
def d3b:a0n :=
 (.seq (.reg (tq 3 (.box 3 (.t 1)) (tm 4 (.c .nil) .done)))
 (.seq (.seq (.reg (tm 6 (.t 0) (tq 7 (.load 3 true (.t 3)) (tq 8 (.call 327 [(.t 6),(.t 7)]) .done))))
 (.cond (.t 8) (.seq (.reg (tm 9 (.t 0) (tm 4 (.t 9) .done)))
 .ret)
 .skip))
 (.seq (.reg (tm 10 (.t 0) (tq 11 (.len (.t 10)) (tm 5 (.t 11) .done))))
 (.seq (.block 0 (.loop (.seq (.seq (.reg (tm 12 (.t 5) (tq 13 (.bin .gtr (.t 12) (.c (.int .i64 0))) (tm 14 (.t 13) (tg 15 14 true (.mov (.t 0)) (tg 16 14 true (.mov (.t 5)) (tg 17 14 true (.bin .sub (.t 16) (.c (.int .i64 1))) (tg 18 14 true (.iaddr 3 (.t 15) (.t 17)) (tg 19 14 true (.load 3 true (.t 18)) (tg 20 14 true (.load 3 true (.t 3)) (.l ⟨(some 21),(some (14,true)),.call 288 [(.t 19),(.t 20)]⟩ []
 (tg 22 14 true (.bin .gtr (.t 21) (.c (.int .i64 0))) (tq 23 (.pick (.t 14) (.t 22) (.c (.bool false))) .done)) .non)))))))))))
 (.cut (.cond (.t 23) .skip
 (.exit 0))))
 (.block 1 (.reg (tm 24 (.t 5) (tq 25 (.bin .sub (.t 24) (.c (.int .i64 1))) (tm 5 (.t 25) .done))))))))
 (.cut (.seq (.reg (tm 27 (.t 0) (tm 28 (.t 5) (tq 29 (.slice 3 (.t 27) none (some (.t 28))) (tq 31 (.load 3 true (.t 3)) (tm 34 (.t 0) (tm 35 (.t 5) (tq 36 (.slice 3 (.t 34) (some (.t 35)) none) (.l ⟨(some 26),none,.bslice 3 []⟩ [⟨(some 36),none,.slice 3 (.t 34) (some (.t 35)) none⟩,⟨(some 31),none,.load 3 true (.t 3)⟩,⟨(some 29),none,.slice 3 (.t 27) none (some (.t 28))⟩]
 (.l ⟨(some 30),none,.append 3 32 (.t 26) (.t 29)⟩ [⟨(some 36),none,.slice 3 (.t 34) (some (.t 35)) none⟩,⟨(some 31),none,.load 3 true (.t 3)⟩]
 (.l ⟨(some 32),none,.bslice 3 [(.t 31)]⟩ [⟨(some 36),none,.slice 3 (.t 34) (some (.t 35)) none⟩,⟨(some 29),none,.slice 3 (.t 27) none (some (.t 28))⟩]
 (.l ⟨(some 33),none,.append 3 32 (.t 30) (.t 32)⟩ [⟨(some 36),none,.slice 3 (.t 34) (some (.t 35)) none⟩]
 (.l ⟨(some 37),none,.append 3 32 (.t 33) (.t 36)⟩ []
 (tm 4 (.t 37) .done) .non) .non) .non) (.l ⟨(some 32),none,.bslice 3 [(.t 31)]⟩ [⟨(some 36),none,.slice 3 (.t 34) (some (.t 35)) none⟩,⟨(some 29),none,.slice 3 (.t 27) none (some (.t 28))⟩]
 (.l ⟨(some 30),none,.append 3 32 (.t 26) (.t 29)⟩ [⟨(some 36),none,.slice 3 (.t 34) (some (.t 35)) none⟩,⟨(some 31),none,.load 3 true (.t 3)⟩]
 (.l ⟨(some 33),none,.append 3 32 (.t 30) (.t 32)⟩ [⟨(some 36),none,.slice 3 (.t 34) (some (.t 35)) none⟩]
 (.l ⟨(some 37),none,.append 3 32 (.t 33) (.t 36)⟩ []
 (tm 4 (.t 37) .done) .non) .non) .non) .non)) (.l ⟨(some 32),none,.bslice 3 [(.t 31)]⟩ [⟨(some 36),none,.slice 3 (.t 34) (some (.t 35)) none⟩,⟨(some 29),none,.slice 3 (.t 27) none (some (.t 28))⟩]
 (.l ⟨(some 26),none,.bslice 3 []⟩ [⟨(some 36),none,.slice 3 (.t 34) (some (.t 35)) none⟩,⟨(some 31),none,.load 3 true (.t 3)⟩,⟨(some 29),none,.slice 3 (.t 27) none (some (.t 28))⟩]
 (.l ⟨(some 30),none,.append 3 32 (.t 26) (.t 29)⟩ [⟨(some 36),none,.slice 3 (.t 34) (some (.t 35)) none⟩,⟨(some 31),none,.load 3 true (.t 3)⟩]
 (.l ⟨(some 33),none,.append 3 32 (.t 30) (.t 32)⟩ [⟨(some 36),none,.slice 3 (.t 34) (some (.t 35)) none⟩]
 (.l ⟨(some 37),none,.append 3 32 (.t 33) (.t 36)⟩ []
 (tm 4 (.t 37) .done) .non) .non) .non) .non) .non))))))))))
 .ret))))))
theorem d7f:a1c Tryz.prog Tryz.f284 = some (d3b.erase,[.mov (.t 4)],38):=by kernel_rfl
def a3s (d_1:(List o8)) (a_2:o8):Nat → Int → Option Int
  | 0,_ => none
  | k + 1,k_38 =>
    ((if (decide (k_38 > 0)) then
    if (0:Int) ≤ w64 (k_38 - 1) ∧ w64 (k_38 - 1) < (d_1.length:Int) then
    (d_1[(0 + (w64 (k_38 - 1)).toNat)]?).bind fun x_66 =>
    (a6p x_66 a_2).bind fun r_68 =>
    some (decide (r_68 > 0))
    else none
    else
    some false:Option Bool)).bind fun s23_62 =>
    if s23_62 then
    a3s d_1 a_2 k (w64 (k_38 - 1))
    else
    some k_38

def a6h (d_1:(List o8)) (a_2:o8):Option (List o8) :=
    (a8v d_1 a_2).bind fun r_3 =>
    if r_3 then
    some d_1
    else
    (a3s d_1 a_2 FUEL (d_1.length:Int)).bind fun k_54 =>
    if (0:Int) ≤ k_54 ∧ k_54 ≤ (d_1.length:Int) then
    if (0:Int) ≤ k_54 ∧ k_54 ≤ (d_1.length:Int) then
    if ([] ++ (d_1.take k_54.toNat)).length ≤ 2 ^ 30 then
    if (([] ++ (d_1.take k_54.toNat)) ++ [a_2]).length ≤ 2 ^ 30 then
    if ((([] ++ (d_1.take k_54.toNat)) ++ [a_2]) ++ ((d_1.drop k_54.toNat).take (d_1.length - k_54.toNat))).length ≤ 2 ^ 30 then
    some ((([] ++ (d_1.take k_54.toNat)) ++ [a_2]) ++ ((d_1.drop k_54.toNat).take (d_1.length - k_54.toNat)))
    else none
    else none
    else none
    else none
    else none
theorem b1v (d_1:(List o8)) (a_2:o8) (r:(List o8)) (hf:a6h d_1 a_2 = some r):a1q Tryz.prog true 284 [(.own 0 0 d_1.length),(l7 a_2)] [.row 3 (d_1.map l7)] (.own 1 0 r.length) [.dead,.row 3 (r.map l7)]:=by
 refine a1q.of_awp mixed Tryz.func284 d7f nle ?_;rw [a0h];unfold a6h at hf;unfold d3b;refine (show awp Tryz.prog true 1 _ (ofL [(0,(.own 0 0 d_1.length)),(1,(l7 a_2))]) [.row 3 (d_1.map l7)] _ from ?_);refine sr<|x8 (a1o (j:=1) (c:=(.agg [(.int .i64 a_2.Kind),(.int .i64 a_2.N),(.str a_2.T)])) rfl trivial rfl rfl)<|l9 .nil rfl<|dk<|o6<|sr<|?_
 obtain ⟨r_3,er4,hf⟩:=ob hf
 refine l9 (.own 0 0 d_1.length) rfl<|o7 (.agg [(.int .i64 a_2.Kind),(.int .i64 a_2.N),(.str a_2.T)]) rfl nle rfl<|x8 (a0g (b4k _ _ _ er4) rfl (.cons (.of_eq (congrArg (AV.lst _) (tko d_1))) (.cons (.refl _) .nil)) rfl)<|dk<|?_
 rcases oi hf with ⟨c5,hf⟩ | ⟨c5,hf⟩
 ·refine x9 rfl c5<|sr<|l9 (.own 0 0 d_1.length) rfl<|l9 (.own 0 0 d_1.length) rfl<|dk<|a0a<|?_;obtain rfl:=os hf;exact a5j [.mv 0] [0,2] rfl ⟨trivial,trivial⟩ rfl (.refl _) (.refl _)
 ·refine y5 rfl (bf c5)<|a0e<|a0f<|sr<|l9 (.own 0 0 d_1.length) rfl<|a1e (b2l rfl rfl) fun hl6 => l9 (.int .i64 (d_1.length:Int)) rfl<|dk<|o6<|?_
  obtain ⟨k_54,hb1,hf⟩:=ob hf
  refine a1k ([(0,(.own 0 0 d_1.length)),(3,(.ptr 1 0 0)),(5,(.int .i64 k_54))],[.row 3 (d_1.map l7),.box 3 (.agg [(.int .i64 a_2.Kind),(.int .i64 a_2.N),(.str a_2.T)])]) ?_ ?_
  ·refine a1m (X:={q:(Nat × Int) // a3s d_1 a_2 q.1 q.2 = some k_54}) (fun q => ([(0,(.own 0 0 d_1.length)),(3,(.ptr 1 0 0)),(5,(.int .i64 q.1.2))],[.row 3 (d_1.map l7),.box 3 (.agg [(.int .i64 a_2.Kind),(.int .i64 a_2.N),(.str a_2.T)])])) (fun q => q.1.1) ⟨(FUEL,(d_1.length:Int)),hb1⟩ ⟨[],[0,1],_,_,rfl,rfl,⟨.refl _,⟨.refl _,⟨.refl _,trivial⟩⟩⟩,(.refl _)⟩ ?_
   rintro ⟨⟨k,k_38⟩,hc1⟩
   have hc1:a3s d_1 a_2 k k_38 = some k_54:=hc1
   refine (show awp Tryz.prog true 1 _ (ofL [(0,(.own 0 0 d_1.length)),(3,(.ptr 1 0 0)),(5,(.int .i64 k_38))]) [.row 3 (d_1.map l7),.box 3 (.agg [(.int .i64 a_2.Kind),(.int .i64 a_2.N),(.str a_2.T)])] _ from ?_)
   rcases k with _ | k
   ·rw [a3s.eq_1] at hc1
    cases hc1
   ·rw [a3s.eq_2] at hc1;refine o6<|o6<|?_
    obtain ⟨s23_62,hb2,hc1⟩:=ob hc1
    refine a1k ([(0,(.own 0 0 d_1.length)),(3,(.ptr 1 0 0)),(5,(.int .i64 k_38)),(23,(.bool s23_62))],[.row 3 (d_1.map l7),.box 3 (.agg [(.int .i64 a_2.Kind),(.int .i64 a_2.N),(.str a_2.T)])]) ?_ ?_
    ·refine a0k ?_
     rcases oi hb2 with ⟨c64,hb2⟩ | ⟨c64,hb2⟩
     ·obtain ⟨g65,hb2⟩:=og hb2
      obtain ⟨x_66,ex67,hb2⟩:=ob hb2
      obtain ⟨r_68,er69,hb2⟩:=ob hb2
      refine l9 (.int .i64 k_38) rfl<|o7 (.bool (decide (k_38 > 0))) rfl rfl rfl<|l9 (.bool (decide (k_38 > 0))) rfl<|a0u (s:=14) (b:=true) rfl c64<|s_on rfl<|l9 (.own 0 0 d_1.length) rfl<|s_on rfl<|l9 (.int .i64 k_38) rfl<|s_on rfl<|o7 (.int .i64 (w64 (k_38 - 1))) rfl rfl rfl<|s_on rfl<|x8 (a3o rfl rfl g65.1 g65.2 rfl rfl)<|s_on rfl<|x8 (a6j (enc:=l7) (v:=(l7 x_66)) rfl rfl ex67 nle rfl)<|s_on rfl<|o7 (.agg [(.int .i64 a_2.Kind),(.int .i64 a_2.N),(.str a_2.T)]) rfl nle rfl<|b8x rfl<|a2j (a0g (b2u _ _ _ er69) rfl (.refl _) rfl) a6a trivial<|s_on rfl<|o7 (.bool (decide (r_68 > 0))) rfl rfl rfl<|?_
      refine o7 (.bool (decide (r_68 > 0))) rfl trivial rfl<|y7<|?_;obtain rfl:=os hb2;exact ⟨[],[0,1],_,_,rfl,rfl,⟨.refl _,⟨.refl _,⟨.refl _,⟨.refl _,trivial⟩⟩⟩⟩,(.refl _)⟩
     ·refine l9 (.int .i64 k_38) rfl<|o7 (.bool (decide (k_38 > 0))) rfl rfl rfl<|l9 (.bool (decide (k_38 > 0))) rfl<|a0u (s:=14) (b:=false) rfl (bf c64)<|o9 rfl rfl<|o9 rfl rfl<|o9 rfl rfl<|o9 rfl rfl<|o9 rfl rfl<|o9 rfl rfl<|b5e rfl rfl trivial<|o9 rfl rfl<|o7 (.bool false) rfl trivial rfl<|y7<|?_;obtain rfl:=os hb2;exact ⟨[],[0,1],_,_,rfl,rfl,⟨.refl _,⟨.refl _,⟨.refl _,⟨.refl _,trivial⟩⟩⟩⟩,(.refl _)⟩
    ·rcases oi hc1 with ⟨c70,hc1⟩ | ⟨c70,hc1⟩
     ·refine x9 rfl c70<|a0e<|a0f<|a3c<|a0k<|l9 (.int .i64 k_38) rfl<|o7 (.int .i64 (w64 (k_38 - 1))) rfl rfl rfl<|l9 (.int .i64 (w64 (k_38 - 1))) rfl<|y7<|a2c<|?_;exact a1t ⟨(k,w64 (k_38 - 1)),hc1⟩ (Nat.lt_succ_self _) ⟨[],[0,1],_,_,rfl,rfl,⟨.refl _,⟨.refl _,⟨.refl _,trivial⟩⟩⟩,(.refl _)⟩
     ·refine y5 rfl (bf c70)<|a2u<|a2t<|a1x<|a2s<|?_;obtain rfl:=os hc1;exact ⟨[],[0,1],_,_,rfl,rfl,⟨.refl _,⟨.refl _,⟨.refl _,trivial⟩⟩⟩,(.refl _)⟩
  ·refine sr<|?_
   obtain ⟨g71,hf⟩:=og hf
   obtain ⟨g72,hf⟩:=og hf
   obtain ⟨g73,hf⟩:=og hf
   obtain ⟨g74,hf⟩:=og hf
   obtain ⟨g75,hf⟩:=og hf
   refine l9 (.own 0 0 d_1.length) rfl<|l9 (.int .i64 k_54) rfl<|x8 (c3x rfl rfl rfl g71.1 g71.2)<|o7 (.agg [(.int .i64 a_2.Kind),(.int .i64 a_2.N),(.str a_2.T)]) rfl nle rfl<|l9 (.own 0 0 d_1.length) rfl<|l9 (.int .i64 k_54) rfl<|x8 (c3y rfl rfl rfl g72.1 g72.2)<|?_;refine a2j (a1z (j:=2) (as':=[]) rfl (fun _ => by decide) trivial (.refl _) rfl rfl rfl) (.inr ⟨(b1d rfl rfl rfl g72.1 g72.2),⟨⟨nle,rfl⟩,⟨(b8y rfl rfl rfl g71.1 g71.2),trivial⟩⟩⟩) ?_ ?_
   ·refine a2j (a1z (j:=2) (as':=[(l7 a_2)]) rfl (fun _ => by decide) ⟨rfl,trivial⟩ (.refl _) rfl rfl rfl) (.inr ⟨(b1d rfl rfl rfl g72.1 g72.2),⟨(b8y rfl rfl rfl g71.1 g71.2),trivial⟩⟩) trivial ?_;refine a2j (a1z (j:=3) (as':=[]) rfl (fun _ => by decide) trivial (.refl _) rfl rfl rfl) (.inr ⟨(b1d rfl rfl rfl g72.1 g72.2),⟨⟨nle,rfl⟩,⟨(b8y rfl rfl rfl g71.1 g71.2),trivial⟩⟩⟩) trivial ?_
    refine a2j (a5n (j:=4) (L:=(([] ++ (d_1.take k_54.toNat)).map l7)) (len:=([] ++ (d_1.take k_54.toNat)).length) rfl false rfl rfl (fun _ => flw (enc:=l7) (fun _ => rfl) d_1 _ _) (fun _ _ h => (c0j (show AV.own _ _ _ = AV.lst _ _ from h)).elim) (by decide) ((by simp)) (by simp <;> omega) g73 rfl rfl) (.inr ⟨(b1d rfl rfl rfl g72.1 g72.2),⟨⟨nle,rfl⟩,trivial⟩⟩) trivial ?_
    refine a2j (a5n (j:=5) (L:=((([] ++ (d_1.take k_54.toNat)) ++ [a_2]).map l7)) (len:=(([] ++ (d_1.take k_54.toNat)) ++ [a_2]).length) rfl false rfl rfl (fun _ => flo (enc:=l7) (fun _ => rfl) [a_2] _) (fun _ _ h => (c0j (show AV.own _ _ _ = AV.lst _ _ from h)).elim) (by decide) (c4b (enc:=l7) ([] ++ (d_1.take k_54.toNat)) [a_2] _ (by rfl)) (by simp <;> omega) g74 rfl rfl) (.inr ⟨(b1d rfl rfl rfl g72.1 g72.2),trivial⟩) trivial ?_
    refine a2j (a5n (j:=6) (L:=(((([] ++ (d_1.take k_54.toNat)) ++ [a_2]) ++ ((d_1.drop k_54.toNat).take (d_1.length - k_54.toNat))).map l7)) (len:=((([] ++ (d_1.take k_54.toNat)) ++ [a_2]) ++ ((d_1.drop k_54.toNat).take (d_1.length - k_54.toNat))).length) rfl false rfl rfl (fun _ => flw (enc:=l7) (fun _ => rfl) d_1 _ _) (fun _ _ h => (c0j (show AV.own _ _ _ = AV.lst _ _ from h)).elim) (by decide) ((apg (enc:=l7) (([] ++ (d_1.take k_54.toNat)) ++ [a_2]) ((d_1.drop k_54.toNat).take (d_1.length - k_54.toNat)) (tkw _ _ _))) (by simp <;> omega) g75 rfl rfl) trivial trivial ?_
    refine l9 (.own 6 0 (((([] ++ (d_1.take k_54.toNat)) ++ [a_2]) ++ ((d_1.drop k_54.toNat).take (d_1.length - k_54.toNat))).length)) rfl<|dk<|a0a<|?_;obtain rfl:=os hf;exact a5j [.kill 0] [0,6] rfl ⟨trivial,trivial⟩ rfl (.refl _) (.refl _)
   ·refine a2j (a5n (j:=3) (L:=(([] ++ (d_1.take k_54.toNat)).map l7)) (len:=([] ++ (d_1.take k_54.toNat)).length) rfl false rfl rfl (fun _ => flw (enc:=l7) (fun _ => rfl) d_1 _ _) (fun _ _ h => (c0j (show AV.own _ _ _ = AV.lst _ _ from h)).elim) (by decide) ((by simp)) (by simp <;> omega) g73 rfl rfl) (.inr ⟨(b1d rfl rfl rfl g72.1 g72.2),⟨⟨nle,rfl⟩,trivial⟩⟩) ?_ ?_
    ·refine a2j (a1z (j:=3) (as':=[(l7 a_2)]) rfl (fun _ => by decide) ⟨rfl,trivial⟩ (.refl _) rfl rfl rfl) (.inr ⟨(b1d rfl rfl rfl g72.1 g72.2),⟨(b8y rfl rfl rfl g71.1 g71.2),trivial⟩⟩) trivial ?_
     refine a2j (a5n (j:=4) (L:=(([] ++ (d_1.take k_54.toNat)).map l7)) (len:=([] ++ (d_1.take k_54.toNat)).length) rfl false rfl rfl (fun _ => flw (enc:=l7) (fun _ => rfl) d_1 _ _) (fun _ _ h => (c0j (show AV.own _ _ _ = AV.lst _ _ from h)).elim) (by decide) ((by simp)) (by simp <;> omega) g73 rfl rfl) (.inr ⟨(b1d rfl rfl rfl g72.1 g72.2),⟨⟨nle,rfl⟩,trivial⟩⟩) trivial ?_
     refine a2j (a5n (j:=5) (L:=((([] ++ (d_1.take k_54.toNat)) ++ [a_2]).map l7)) (len:=(([] ++ (d_1.take k_54.toNat)) ++ [a_2]).length) rfl false rfl rfl (fun _ => flo (enc:=l7) (fun _ => rfl) [a_2] _) (fun _ _ h => (c0j (show AV.own _ _ _ = AV.lst _ _ from h)).elim) (by decide) (c4b (enc:=l7) ([] ++ (d_1.take k_54.toNat)) [a_2] _ (by rfl)) (by simp <;> omega) g74 rfl rfl) (.inr ⟨(b1d rfl rfl rfl g72.1 g72.2),trivial⟩) trivial ?_
     refine a2j (a5n (j:=6) (L:=(((([] ++ (d_1.take k_54.toNat)) ++ [a_2]) ++ ((d_1.drop k_54.toNat).take (d_1.length - k_54.toNat))).map l7)) (len:=((([] ++ (d_1.take k_54.toNat)) ++ [a_2]) ++ ((d_1.drop k_54.toNat).take (d_1.length - k_54.toNat))).length) rfl false rfl rfl (fun _ => flw (enc:=l7) (fun _ => rfl) d_1 _ _) (fun _ _ h => (c0j (show AV.own _ _ _ = AV.lst _ _ from h)).elim) (by decide) ((apg (enc:=l7) (([] ++ (d_1.take k_54.toNat)) ++ [a_2]) ((d_1.drop k_54.toNat).take (d_1.length - k_54.toNat)) (tkw _ _ _))) (by simp <;> omega) g75 rfl rfl) trivial trivial ?_
     refine l9 (.own 6 0 (((([] ++ (d_1.take k_54.toNat)) ++ [a_2]) ++ ((d_1.drop k_54.toNat).take (d_1.length - k_54.toNat))).length)) rfl<|dk<|a0a<|?_;obtain rfl:=os hf;exact a5j [.kill 0] [0,6] rfl ⟨trivial,trivial⟩ rfl (.refl _) (.refl _)
    ·refine a2j (a1z (j:=4) (as':=[(l7 a_2)]) rfl (fun _ => by decide) ⟨rfl,trivial⟩ (.refl _) rfl rfl rfl) (.inr ⟨(b1d rfl rfl rfl g72.1 g72.2),⟨(b8y rfl rfl rfl g71.1 g71.2),trivial⟩⟩) trivial ?_
     refine a2j (a5n (j:=5) (L:=((([] ++ (d_1.take k_54.toNat)) ++ [a_2]).map l7)) (len:=(([] ++ (d_1.take k_54.toNat)) ++ [a_2]).length) rfl false rfl rfl (fun _ => flo (enc:=l7) (fun _ => rfl) [a_2] _) (fun _ _ h => (c0j (show AV.own _ _ _ = AV.lst _ _ from h)).elim) (by decide) (c4b (enc:=l7) ([] ++ (d_1.take k_54.toNat)) [a_2] _ (by rfl)) (by simp <;> omega) g74 rfl rfl) (.inr ⟨(b1d rfl rfl rfl g72.1 g72.2),trivial⟩) trivial ?_
     refine a2j (a5n (j:=6) (L:=(((([] ++ (d_1.take k_54.toNat)) ++ [a_2]) ++ ((d_1.drop k_54.toNat).take (d_1.length - k_54.toNat))).map l7)) (len:=((([] ++ (d_1.take k_54.toNat)) ++ [a_2]) ++ ((d_1.drop k_54.toNat).take (d_1.length - k_54.toNat))).length) rfl false rfl rfl (fun _ => flw (enc:=l7) (fun _ => rfl) d_1 _ _) (fun _ _ h => (c0j (show AV.own _ _ _ = AV.lst _ _ from h)).elim) (by decide) ((apg (enc:=l7) (([] ++ (d_1.take k_54.toNat)) ++ [a_2]) ((d_1.drop k_54.toNat).take (d_1.length - k_54.toNat)) (tkw _ _ _))) (by simp <;> omega) g75 rfl rfl) trivial trivial ?_
     refine l9 (.own 6 0 (((([] ++ (d_1.take k_54.toNat)) ++ [a_2]) ++ ((d_1.drop k_54.toNat).take (d_1.length - k_54.toNat))).length)) rfl<|dk<|a0a<|?_;obtain rfl:=os hf;exact a5j [.kill 0] [0,6] rfl ⟨trivial,trivial⟩ rfl (.refl _) (.refl _)

/- (*spec.l00Src).datum -/
def d3c:a0n :=
 (.seq (.reg (tm 4 (.c .nil) .done))
 (.seq (.reg (tq 7 (.bslice 3 []) (tm 5 (.t 7) .done)))
 (.seq (.seq (.reg (tm 8 (.t 0) (tq 9 (.call 123 [(.t 8),(.c (.int .i64 5))]) (tm 6 (.t 9) .done))))
 (.block 0 (.loop (.seq (.seq (.reg (tm 10 (.t 6) (tq 11 (.bin .gtr (.t 10) (.c (.int .i64 0))) .done)))
 (.cond (.t 11) .skip
 (.exit 0)))
 (.seq (.block 1 (.reg (tm 14 (.t 5) (tm 15 (.t 0) (tm 16 (.t 1) (tq 17 (.call 285 [(.t 15),(.t 16)]) (tq 18 (.call 284 [(.t 14),(.t 17)]) (tm 5 (.t 18) .done))))))))
 (.reg (tm 12 (.t 6) (tq 13 (.bin .sub (.t 12) (.c (.int .i64 1))) (tm 6 (.t 13) .done)))))))))
 (.cut (.seq (.reg (tm 19 (.t 5) (tm 4 (.t 19) .done)))
 .ret)))))
theorem d7g:a1c Tryz.prog Tryz.f166 = some (d3c.erase,[.mov (.t 4)],20):=by kernel_rfl
def a3k (kind_1:Int):Nat → Int → (List Int) → Int → Int → (List o8) → Option ((List Int) × Int × Int × (List o8))
  | 0,_,_,_,_,_ => none
  | k + 1,i_20,x_21,x_22,x_23,out_24 =>
    if (decide (i_20 > 0)) then
    (a6s kind_1 (⟨x_21,x_22,x_23⟩:a1j)).bind fun r_36 =>
    (a6h out_24 r_36.1).bind fun r_38 =>
    a3k kind_1 k (w64 (i_20 - 1)) r_36.2.Code r_36.2.At r_36.2.Seed r_38
    else
    some (x_21,x_22,x_23,out_24)

def a7f (kind_1:Int) (s_2:a1j):Option ((List o8) × a1j) :=
    (a1i 5 s_2).bind fun r_3 =>
    (a3k kind_1 FUEL r_3.1 r_3.2.Code r_3.2.At r_3.2.Seed []).bind fun p34 =>
    (match p34 with
    | (x_30,x_31,x_32,out_33) =>
    some (out_33,(⟨x_30,x_31,x_32⟩:a1j)))
theorem a9r (kind_1:Int) (s_2:a1j) (r:((List o8) × a1j)) (hf:a7f kind_1 s_2 = some r):a1q Tryz.prog true 166 [(.ptr 0 0 0),(.int .i64 kind_1)] [.box 3 (.agg [(.lst 1 (s_2.Code.map a0p)),(.int .i64 s_2.At),(.int .i64 s_2.Seed)])] (.own 1 0 r.1.length) [.box 3 (.agg [(.lst 1 (r.2.Code.map a0p)),(.int .i64 r.2.At),(.int .i64 r.2.Seed)]),.row 3 (r.1.map l7)]:=by
 refine a1q.of_awp mixed Tryz.func166 d7g nle ?_;rw [a0h];unfold a7f at hf;unfold d3c;refine (show awp Tryz.prog true 1 _ (ofL [(0,(.ptr 0 0 0)),(1,(.int .i64 kind_1))]) [.box 3 (.agg [(.lst 1 (s_2.Code.map a0p)),(.int .i64 s_2.At),(.int .i64 s_2.Seed)])] _ from ?_);refine sr<|l9 .nil rfl<|dk<|sr<|?_;refine x8 (a1z (j:=1) (as':=[]) rfl (fun _ => by decide) trivial (.refl _) rfl rfl rfl) ?_;refine l9 (.own 1 0 0) rfl<|dk<|o6<|sr<|?_
 obtain ⟨r_3,er4,hf⟩:=ob hf
 refine l9 (.ptr 0 0 0) rfl ?_;refine x8 (a3m (v:=(.int .i64 r_3.1)) (h2:=[.box 3 (.agg [(.lst 1 (r_3.2.Code.map a0p)),(.int .i64 r_3.2.At),(.int .i64 r_3.2.Seed)]),.row 3 ([].map l7)]) [] [0] (fun _ => rfl) (a2a _ _ _ er4) rfl (.refl _) (.refl _) rfl rfl) ?_;refine l9 (.int .i64 r_3.1) rfl<|dk<|?_
 obtain ⟨p34,hb1,hf⟩:=ob hf
 refine a1k ([(5,(.own 1 0 p34.2.2.2.length))],[.box 3 (.agg [(.lst 1 (p34.1.map a0p)),(.int .i64 p34.2.1),(.int .i64 p34.2.2.1)]),.row 3 (p34.2.2.2.map l7)]) ?_ ?_
 ·refine a1m (X:={q:(Nat × Int × (List Int) × Int × Int × (List o8)) // a3k kind_1 q.1 q.2.1 q.2.2.1 q.2.2.2.1 q.2.2.2.2.1 q.2.2.2.2.2 = some p34}) (fun q => ([(0,(.ptr 0 0 0)),(1,(.int .i64 kind_1)),(5,(.own 1 0 q.1.2.2.2.2.2.length)),(6,(.int .i64 q.1.2.1))],[.box 3 (.agg [(.lst 1 (q.1.2.2.1.map a0p)),(.int .i64 q.1.2.2.2.1),(.int .i64 q.1.2.2.2.2.1)]),.row 3 (q.1.2.2.2.2.2.map l7)])) (fun q => q.1.1) ⟨(FUEL,r_3.1,r_3.2.Code,r_3.2.At,r_3.2.Seed,[]),hb1⟩ ⟨[],[0,1],_,_,rfl,rfl,⟨.refl _,⟨.refl _,⟨.of_eq (congrArg (AV.own _ 0) (by simp)),⟨.refl _,trivial⟩⟩⟩⟩,(.refl _)⟩ ?_
  rintro ⟨⟨k,i_20,x_21,x_22,x_23,out_24⟩,hc1⟩
  have hc1:a3k kind_1 k i_20 x_21 x_22 x_23 out_24 = some p34:=hc1
  refine (show awp Tryz.prog true 1 _ (ofL [(0,(.ptr 0 0 0)),(1,(.int .i64 kind_1)),(5,(.own 1 0 out_24.length)),(6,(.int .i64 i_20))]) [.box 3 (.agg [(.lst 1 (x_21.map a0p)),(.int .i64 x_22),(.int .i64 x_23)]),.row 3 (out_24.map l7)] _ from ?_)
  rcases k with _ | k
  ·rw [a3k.eq_1] at hc1
   cases hc1
  ·rw [a3k.eq_2] at hc1;refine o6<|sr<|l9 (.int .i64 i_20) rfl<|o7 (.bool (decide (i_20 > 0))) rfl rfl rfl<|dk<|?_
   rcases oi hc1 with ⟨c35,hc1⟩ | ⟨c35,hc1⟩
   ·refine x9 rfl c35<|a0e<|a0f<|o6<|a3c<|a0k<|?_
    obtain ⟨r_36,er37,hc1⟩:=ob hc1
    obtain ⟨r_38,er39,hc1⟩:=ob hc1
    refine l9 (.own 1 0 out_24.length) rfl<|l9 (.ptr 0 0 0) rfl<|l9 (.int .i64 kind_1) rfl<|?_;refine x8 (a3m (v:=(l7 r_36.1)) (h2:=[.box 3 (.agg [(.lst 1 (r_36.2.Code.map a0p)),(.int .i64 r_36.2.At),(.int .i64 r_36.2.Seed)]),.row 3 (out_24.map l7)]) [] [0] (fun _ => rfl) (b8g _ _ _ er37) rfl (.refl _) (.refl _) rfl rfl) ?_;refine x8 (a3m (v:=(.own 2 0 r_38.length)) (h2:=[.box 3 (.agg [(.lst 1 (r_36.2.Code.map a0p)),(.int .i64 r_36.2.At),(.int .i64 r_36.2.Seed)]),.dead,.row 3 (r_38.map l7)]) [] [1] (fun _ => rfl) (b1v _ _ _ er39) rfl (.refl _) (.refl _) rfl rfl) ?_;refine l9 (.own 2 0 r_38.length) rfl<|y7<|a2c<|a0f<|?_
    refine a0k<|l9 (.int .i64 i_20) rfl<|o7 (.int .i64 (w64 (i_20 - 1))) rfl rfl rfl<|l9 (.int .i64 (w64 (i_20 - 1))) rfl<|y7<|?_;exact a1t ⟨(k,w64 (i_20 - 1),r_36.2.Code,r_36.2.At,r_36.2.Seed,r_38),hc1⟩ (Nat.lt_succ_self _) ⟨[],[0,2],_,_,rfl,rfl,⟨.refl _,⟨.refl _,⟨.refl _,⟨.refl _,trivial⟩⟩⟩⟩,(.refl _)⟩
   ·refine y5 rfl (bf c35)<|a2u<|a2t<|a1x<|a2s<|?_;obtain rfl:=os hc1;exact ⟨[],[0,1],_,_,rfl,rfl,⟨.refl _,trivial⟩,(.refl _)⟩
 ·obtain ⟨x_30,x_31,x_32,out_33⟩:=p34
  refine sr<|l9 (.own 1 0 out_33.length) rfl<|l9 (.own 1 0 out_33.length) rfl<|dk<|a0a<|?_;obtain rfl:=os hf;exact a5j [] [0,1] rfl ⟨trivial,trivial⟩ rfl (.refl _) (.refl _)

/- (*spec.l00Src).mut -/
def d3d:a0n :=
 (.seq (.reg (tq 4 (.box 3 (.c (.agg [(.str []),(.int .i64 0),.nil]))) .done))
 (.seq (.reg (tq 8 (.call 25 []) (tq 9 (.field 0 1 false (.t 8)) (tm 10 (.t 1) (tq 11 (.iaddr 4 (.t 9) (.t 10)) (tq 12 (.load 4 true (.t 11)) (tq 5 (.box 4 (.c (.agg [(.str []),.nil,.nil,(.bool false)]))) (.q ⟨none,none,.store 4 (.t 5) (.t 12)⟩
 .done))))))))
 (.seq (.reg (tq 13 (.faddr 1 (.t 5)) (tq 14 (.load 1 false (.t 13)) (tm 15 (.t 0) (tq 16 (.faddr 1 (.t 5)) (tq 17 (.load 1 false (.t 16)) (tq 18 (.len (.t 17)) (.l ⟨(some 19),none,.call 123 [(.t 15),(.t 18)]⟩ [⟨(some 14),none,.load 1 false (.t 13)⟩,⟨(some 13),none,.faddr 1 (.t 5)⟩]
 (tq 20 (.iaddr 8 (.t 14) (.t 19)) (tq 21 (.load 8 true (.t 20)) (.l ⟨(some 6),none,.box 8 (.c (.agg [(.str []),(.int .i64 0),(.int .i64 0),(.int .i64 0),(.int .i64 0),(.int .i64 0),(.str []),(.bool false)]))⟩ [⟨(some 21),none,.load 8 true (.t 20)⟩,⟨(some 20),none,.iaddr 8 (.t 14) (.t 19)⟩,⟨(some 18),none,.len (.t 17)⟩,⟨(some 17),none,.load 1 false (.t 16)⟩,⟨(some 16),none,.faddr 1 (.t 5)⟩,⟨(some 14),none,.load 1 false (.t 13)⟩,⟨(some 13),none,.faddr 1 (.t 5)⟩]
 (.l ⟨none,none,.store 8 (.t 6) (.t 21)⟩ []
 .done .non) .non))) (.l ⟨(some 6),none,.box 8 (.c (.agg [(.str []),(.int .i64 0),(.int .i64 0),(.int .i64 0),(.int .i64 0),(.int .i64 0),(.str []),(.bool false)]))⟩ [⟨(some 18),none,.len (.t 17)⟩,⟨(some 17),none,.load 1 false (.t 16)⟩,⟨(some 16),none,.faddr 1 (.t 5)⟩,⟨(some 14),none,.load 1 false (.t 13)⟩,⟨(some 13),none,.faddr 1 (.t 5)⟩]
 (.l ⟨(some 19),none,.call 123 [(.t 15),(.t 18)]⟩ [⟨(some 14),none,.load 1 false (.t 13)⟩,⟨(some 13),none,.faddr 1 (.t 5)⟩]
 (tq 20 (.iaddr 8 (.t 14) (.t 19)) (tq 21 (.load 8 true (.t 20)) (.l ⟨none,none,.store 8 (.t 6) (.t 21)⟩ []
 .done .non))) .non) .non)))))))))
 (.cut (.seq (.seq (.reg (tm 22 (.t 0) (tq 23 (.call 220 [(.t 22),(.c (.int .i64 2))]) .done)))
 (.cond (.t 23) (.reg (tq 24 (.faddr 1 (.t 5)) (tq 25 (.load 1 false (.t 24)) (tq 26 (.faddr 1 (.t 5)) (tq 27 (.load 1 false (.t 26)) (tq 28 (.len (.t 27)) (tq 29 (.bin .sub (.t 28) (.c (.int .i64 1))) (tm 30 (.t 0) (.l ⟨(some 31),none,.call 123 [(.t 30),(.c (.int .i64 2))]⟩ [⟨(some 28),none,.len (.t 27)⟩,⟨(some 27),none,.load 1 false (.t 26)⟩,⟨(some 26),none,.faddr 1 (.t 5)⟩,⟨(some 25),none,.load 1 false (.t 24)⟩,⟨(some 24),none,.faddr 1 (.t 5)⟩]
 (tq 32 (.bin .sub (.t 29) (.t 31)) (tq 33 (.iaddr 8 (.t 25) (.t 32)) (tq 34 (.load 8 true (.t 33)) (.l ⟨none,none,.store 8 (.t 6) (.t 34)⟩ []
 .done .non)))) .non)))))))))
 .skip))
 (.cut (.seq (.reg (tq 35 (.faddr 0 (.t 6)) (tq 36 (.load 1 false (.t 35)) (tm 37 (.t 0) (tm 40 (.t 0) (tq 41 (.faddr 1 (.t 6)) (tq 42 (.load 1 false (.t 41)) (.l ⟨(some 38),none,.call 123 [(.t 37),(.c (.int .i64 2))]⟩ [⟨(some 42),none,.load 1 false (.t 41)⟩,⟨(some 41),none,.faddr 1 (.t 6)⟩,⟨(some 36),none,.load 1 false (.t 35)⟩,⟨(some 35),none,.faddr 0 (.t 6)⟩]
 (tq 39 (.bin .add (.c (.int .i64 6)) (.t 38)) (.l ⟨(some 43),none,.call 166 [(.t 40),(.t 42)]⟩ [⟨(some 36),none,.load 1 false (.t 35)⟩,⟨(some 35),none,.faddr 0 (.t 6)⟩]
 (tq 44 (.build [(.str []),(.int .i64 0),.nil] [(0,1,(.t 36)),(1,1,(.t 39)),(2,1,(.t 43))]) (.l ⟨(some 7),none,.box 3 (.c (.agg [(.str []),(.int .i64 0),.nil]))⟩ [⟨(some 44),none,.build [(.str []),(.int .i64 0),.nil] [(0,1,(.t 36)),(1,1,(.t 39)),(2,1,(.t 43))]⟩,⟨(some 42),none,.load 1 false (.t 41)⟩,⟨(some 41),none,.faddr 1 (.t 6)⟩,⟨(some 36),none,.load 1 false (.t 35)⟩,⟨(some 35),none,.faddr 0 (.t 6)⟩]
 (.l ⟨none,none,.store 3 (.t 7) (.t 44)⟩ []
 .done .non) .non)) (.l ⟨(some 7),none,.box 3 (.c (.agg [(.str []),(.int .i64 0),.nil]))⟩ [⟨(some 42),none,.load 1 false (.t 41)⟩,⟨(some 41),none,.faddr 1 (.t 6)⟩,⟨(some 36),none,.load 1 false (.t 35)⟩,⟨(some 35),none,.faddr 0 (.t 6)⟩]
 (.l ⟨(some 43),none,.call 166 [(.t 40),(.t 42)]⟩ [⟨(some 36),none,.load 1 false (.t 35)⟩,⟨(some 35),none,.faddr 0 (.t 6)⟩]
 (tq 44 (.build [(.str []),(.int .i64 0),.nil] [(0,1,(.t 36)),(1,1,(.t 39)),(2,1,(.t 43))]) (.l ⟨none,none,.store 3 (.t 7) (.t 44)⟩ []
 .done .non)) .non) .non))) (.l ⟨(some 7),none,.box 3 (.c (.agg [(.str []),(.int .i64 0),.nil]))⟩ [⟨(some 42),none,.load 1 false (.t 41)⟩,⟨(some 41),none,.faddr 1 (.t 6)⟩,⟨(some 36),none,.load 1 false (.t 35)⟩,⟨(some 35),none,.faddr 0 (.t 6)⟩]
 (.l ⟨(some 38),none,.call 123 [(.t 37),(.c (.int .i64 2))]⟩ [⟨(some 42),none,.load 1 false (.t 41)⟩,⟨(some 41),none,.faddr 1 (.t 6)⟩,⟨(some 36),none,.load 1 false (.t 35)⟩,⟨(some 35),none,.faddr 0 (.t 6)⟩]
 (tq 39 (.bin .add (.c (.int .i64 6)) (.t 38)) (.l ⟨(some 43),none,.call 166 [(.t 40),(.t 42)]⟩ [⟨(some 36),none,.load 1 false (.t 35)⟩,⟨(some 35),none,.faddr 0 (.t 6)⟩]
 (tq 44 (.build [(.str []),(.int .i64 0),.nil] [(0,1,(.t 36)),(1,1,(.t 39)),(2,1,(.t 43))]) (.l ⟨none,none,.store 3 (.t 7) (.t 44)⟩ []
 .done .non)) .non)) .non) .non)))))))))
 (.cut (.seq (.seq (.reg (tq 45 (.faddr 1 (.t 6)) (tq 46 (.load 1 false (.t 45)) (tq 47 (.bin .eql (.t 46) (.c (.int .i64 1))) (tm 48 (.t 47) (tg 49 48 true (.mov (.t 0)) (tg 50 48 true (.call 220 [(.t 49),(.c (.int .i64 4))]) (tg 51 48 true (.not (.t 50)) (tq 52 (.pick (.t 48) (.t 51) (.c (.bool false))) .done)))))))))
 (.cut (.cond (.t 52) (.seq (.reg (tm 53 (.t 0) (tq 54 (.call 123 [(.t 53),(.c (.int .i64 5))]) (tq 55 (.bin .add (.c (.int .i64 1)) (.t 54)) (tq 56 (.faddr 1 (.t 7)) (.q ⟨none,none,.store 1 (.t 56) (.t 55)⟩
 .done))))))
 (.reg (tm 57 (.t 0) (tq 58 (.call 123 [(.t 57),(.c (.int .i64 9))]) (tq 59 (.bin .sub (.t 58) (.c (.int .i64 3))) (tq 60 (.build [(.int .i64 0),(.int .i64 0),(.str [])] [(0,1,(.c (.int .i64 1))),(1,1,(.t 59))]) (tq 61 (.bslice 3 [(.t 60)]) (tq 62 (.faddr 2 (.t 7)) (.q ⟨none,none,.store 1 (.t 62) (.t 61)⟩
 .done)))))))))
 .skip)))
 (.seq (.reg (tq 63 (.load 3 true (.t 7)) (.q ⟨none,none,.store 3 (.t 4) (.t 63)⟩
 .done)))
 .ret))))))))))
theorem d7h:a1c Tryz.prog Tryz.f124 = some (d3d.erase,[.load 3 true (.t 4)],64):=by kernel_rfl
def a8a (table_1:Int) (s_2:a1j):Option (a2w × a1j) :=
    (a7o).bind fun r_3 =>
    if (0:Int) ≤ table_1 ∧ table_1 < (r_3.Tables.length:Int) then
    (r_3.Tables[(0 + table_1.toNat)]?).bind fun x_6 =>
    (((a1i (x_6.Columns.length:Int) s_2).bind fun r_26 =>
    (idx x_6.Columns r_26.1).bind fun x_28 =>
    some (r_26.2.Code,r_26.2.At,r_26.2.Seed,x_28.Name,x_28.Kind,x_28.Min,x_28.Max,x_28.Low,x_28.High,x_28.Ref,x_28.Strong):Option ((List Int) × Int × Int × Str × Int × Int × Int × Int × Int × Str × Bool))).bind fun p24 =>
    (match p24 with
    | (x_13,x_14,x_15,x_16,x_17,x_18,x_19,x_20,x_21,x_22,x_23) =>
    (((a5k 2 (⟨x_13,x_14,x_15⟩:a1j)).bind fun r_50 =>
    if r_50.1 then
    (a1i 2 r_50.2).bind fun r_54 =>
    (idx x_6.Columns (w64 ((w64 ((x_6.Columns.length:Int) - 1)) - r_54.1))).bind fun x_56 =>
    some (r_54.2.Code,r_54.2.At,r_54.2.Seed,x_56.Name,x_56.Kind,x_56.Min,x_56.Max,x_56.Low,x_56.High,x_56.Ref,x_56.Strong)
    else
    some (r_50.2.Code,r_50.2.At,r_50.2.Seed,x_16,x_17,x_18,x_19,x_20,x_21,x_22,x_23):Option ((List Int) × Int × Int × Str × Int × Int × Int × Int × Int × Str × Bool))).bind fun p49 =>
    (match p49 with
    | (x_38,x_39,x_40,x_41,x_42,x_43,x_44,x_45,x_46,x_47,x_48) =>
    (((a1i 2 (⟨x_38,x_39,x_40⟩:a1j)).bind fun r_68 =>
    (a7f x_42 r_68.2).bind fun r_70 =>
    some (r_70.2.Code,r_70.2.At,r_70.2.Seed,w64 (6 + r_68.1),r_70.1):Option ((List Int) × Int × Int × Int × (List o8)))).bind fun p67 =>
    (match p67 with
    | (x_62,x_63,x_64,x_65,x_66) =>
    ((if (x_42 == 1) then
    (a5k 4 (⟨x_62,x_63,x_64⟩:a1j)).bind fun r_81 =>
    some ((!r_81.1),r_81.2.Code,r_81.2.At,r_81.2.Seed)
    else
    some (false,x_62,x_63,x_64):Option (Bool × (List Int) × Int × Int))).bind fun p79 =>
    (match p79 with
    | (s52_75,x_76,x_77,x_78) =>
    if s52_75 then
    (a1i 5 (⟨x_76,x_77,x_78⟩:a1j)).bind fun r_84 =>
    (a1i 9 r_84.2).bind fun r_86 =>
    some ((⟨x_41,w64 (1 + r_84.1),[(⟨1,w64 (r_86.1 - 3),[]⟩:o8)]⟩:a2w),r_86.2)
    else
    some ((⟨x_41,x_65,x_66⟩:a2w),(⟨x_76,x_77,x_78⟩:a1j))))))
    else none
theorem b9b (table_1:Int) (s_2:a1j) (r:(a2w × a1j)) (hf:a8a table_1 s_2 = some r):a1q Tryz.prog true 124 [(.ptr 0 0 0),(.int .i64 table_1)] [.box 3 (.agg [(.lst 1 (s_2.Code.map a0p)),(.int .i64 s_2.At),(.int .i64 s_2.Seed)])] (.agg [(.str r.1.Column),(.int .i64 r.1.Func),(.own 1 0 r.1.Value.length)]) [.box 3 (.agg [(.lst 1 (r.2.Code.map a0p)),(.int .i64 r.2.At),(.int .i64 r.2.Seed)]),.row 3 (r.1.Value.map l7)]:=by
 refine a1q.of_awp mixed Tryz.func124 d7h nle ?_;rw [a0h];unfold a8a at hf;unfold d3d;refine (show awp Tryz.prog true 1 _ (ofL [(0,(.ptr 0 0 0)),(1,(.int .i64 table_1))]) [.box 3 (.agg [(.lst 1 (s_2.Code.map a0p)),(.int .i64 s_2.At),(.int .i64 s_2.Seed)])] _ from ?_);refine sr<|x8 (a1o (j:=1) (c:=(.agg [(.str []),(.int .i64 0),.nil])) rfl trivial rfl rfl)<|dk<|sr<|?_
 obtain ⟨r_3,er4,hf⟩:=ob hf
 obtain ⟨g5,hf⟩:=og hf
 obtain ⟨x_6,ex7,hf⟩:=ob hf
 refine x8 (b1e (v:=(.agg [(.own 2 0 r_3.Tables.length)])) (h':=[.row 4 (r_3.Tables.map a1b)]) (b3q _ er4) rfl (.refl _) (by simp only [a4h,a5o,List.length_map,c5n,List.nil_append,List.append_nil,List.cons_append];rfl))<|o7 (.own 2 0 r_3.Tables.length) rfl nle rfl<|l9 (.int .i64 table_1) rfl<|x8 (a3o rfl rfl g5.1 g5.2 rfl rfl)<|x8 (a6j (enc:=a1b) (v:=(a1b x_6)) rfl rfl ex7 nle rfl)<|x8 (a1o (j:=3) (c:=(.agg [(.str []),.nil,.nil,(.bool false)])) rfl trivial rfl rfl)<|a3w (a0v (v:=(.agg [(.str x_6.Name),(.lst 8 (x_6.Columns.map o5)),(.lst 1 (x_6.Unique.map encI)),(.bool x_6.Root)])) (y':=(.agg [(.str x_6.Name),(.lst 8 (x_6.Columns.map o5)),(.lst 1 (x_6.Unique.map encI)),(.bool x_6.Root)])) rfl rfl rfl trivial ⟨rfl,nle⟩ ⟨⟨rfl,trivial⟩,⟨⟨rfl,trivial⟩,⟨⟨rfl,trivial⟩,⟨⟨rfl,trivial⟩,trivial⟩⟩⟩⟩ rfl)<|?_
 refine dk<|o6<|?_
 obtain ⟨p24,hb1,hf⟩:=ob hf
 refine a1k ([(0,(.ptr 0 0 0)),(4,(.ptr 1 0 0)),(5,(.ptr 2 0 0)),(6,(.ptr 3 0 0))],[.box 3 (.agg [(.lst 1 (p24.1.map a0p)),(.int .i64 p24.2.1),(.int .i64 p24.2.2.1)]),.box 3 (.agg [(.str []),(.int .i64 0),.nil]),.box 4 (.agg [(.str x_6.Name),(.lst 8 (x_6.Columns.map o5)),(.lst 1 (x_6.Unique.map encI)),(.bool x_6.Root)]),.box 8 (.agg [(.str p24.2.2.2.1),(.int .i64 p24.2.2.2.2.1),(.int .i64 p24.2.2.2.2.2.1),(.int .i64 p24.2.2.2.2.2.2.1),(.int .i64 p24.2.2.2.2.2.2.2.1),(.int .i64 p24.2.2.2.2.2.2.2.2.1),(.str p24.2.2.2.2.2.2.2.2.2.1),(.bool p24.2.2.2.2.2.2.2.2.2.2)])]) ?_ ?_
 ·refine a0k ?_
  obtain ⟨r_26,er27,hb1⟩:=ob hb1
  obtain ⟨x_28,ex29,hb1⟩:=ob hb1
  refine o7 (.ptr 3 0 1) rfl trivial rfl<|o7 (.lst 8 (x_6.Columns.map o5)) rfl nle rfl<|l9 (.ptr 0 0 0) rfl<|o7 (.ptr 3 0 1) rfl trivial rfl<|o7 (.lst 8 (x_6.Columns.map o5)) rfl nle rfl<|a1e (a1p (enc:=o5) rfl) fun hl25 => ?_;refine a2j (a3m (v:=(.int .i64 r_26.1)) (h2:=[.box 3 (.agg [(.lst 1 (r_26.2.Code.map a0p)),(.int .i64 r_26.2.At),(.int .i64 r_26.2.Seed)]),.box 3 (.agg [(.str []),(.int .i64 0),.nil]),.row 4 (r_3.Tables.map a1b),.box 4 (.agg [(.str x_6.Name),(.lst 8 (x_6.Columns.map o5)),(.lst 1 (x_6.Unique.map encI)),(.bool x_6.Root)])]) [] [0] (fun _ => rfl) (a2a _ _ _ er27) rfl (.refl _) (.refl _) rfl rfl) (.inr ⟨⟨nle,rfl⟩,⟨⟨trivial,rfl⟩,trivial⟩⟩) ?_ ?_
  ·refine a2j (a1o (j:=4) (c:=(.agg [(.str []),(.int .i64 0),(.int .i64 0),(.int .i64 0),(.int .i64 0),(.int .i64 0),(.str []),(.bool false)])) rfl trivial rfl rfl) (.inr ⟨(d1x (enc:=o5) rfl),⟨⟨nle,rfl⟩,⟨⟨trivial,rfl⟩,⟨⟨nle,rfl⟩,⟨⟨trivial,rfl⟩,trivial⟩⟩⟩⟩⟩) trivial ?_;refine a2j (a3m (v:=(.int .i64 r_26.1)) (h2:=[.box 3 (.agg [(.lst 1 (r_26.2.Code.map a0p)),(.int .i64 r_26.2.At),(.int .i64 r_26.2.Seed)]),.box 3 (.agg [(.str []),(.int .i64 0),.nil]),.row 4 (r_3.Tables.map a1b),.box 4 (.agg [(.str x_6.Name),(.lst 8 (x_6.Columns.map o5)),(.lst 1 (x_6.Unique.map encI)),(.bool x_6.Root)]),.box 8 (.agg [(.str []),(.int .i64 0),(.int .i64 0),(.int .i64 0),(.int .i64 0),(.int .i64 0),(.str []),(.bool false)])]) [] [0] (fun _ => rfl) (a2a _ _ _ er27) rfl (.refl _) (.refl _) rfl rfl) (.inr ⟨⟨nle,rfl⟩,⟨⟨trivial,rfl⟩,trivial⟩⟩) trivial ?_
   refine x8 (a3l (enc:=o5) rfl rfl (a8m ex29) (a8n ex29))<|o7 (o5 x_28) rfl nle rfl<|b4i (a0v (v:=(.agg [(.str x_28.Name),(.int .i64 x_28.Kind),(.int .i64 x_28.Min),(.int .i64 x_28.Max),(.int .i64 x_28.Low),(.int .i64 x_28.High),(.str x_28.Ref),(.bool x_28.Strong)])) (y':=(.agg [(.str x_28.Name),(.int .i64 x_28.Kind),(.int .i64 x_28.Min),(.int .i64 x_28.Max),(.int .i64 x_28.Low),(.int .i64 x_28.High),(.str x_28.Ref),(.bool x_28.Strong)])) rfl rfl rfl trivial ⟨rfl,nle⟩ ⟨⟨rfl,trivial⟩,⟨⟨rfl,trivial⟩,⟨⟨rfl,trivial⟩,⟨⟨rfl,trivial⟩,⟨⟨rfl,trivial⟩,⟨⟨rfl,trivial⟩,⟨⟨rfl,trivial⟩,⟨⟨rfl,trivial⟩,trivial⟩⟩⟩⟩⟩⟩⟩⟩ rfl) trivial trivial<|y7<|?_
   obtain rfl:=os hb1;exact ⟨[],[0,1,3,4],_,_,rfl,rfl,⟨.refl _,⟨.refl _,⟨.refl _,⟨.refl _,trivial⟩⟩⟩⟩,(.refl _)⟩
  ·refine x8 (a3l (enc:=o5) rfl rfl (a8m ex29) (a8n ex29))<|o7 (o5 x_28) rfl nle rfl<|a2j (a1o (j:=4) (c:=(.agg [(.str []),(.int .i64 0),(.int .i64 0),(.int .i64 0),(.int .i64 0),(.int .i64 0),(.str []),(.bool false)])) rfl trivial rfl rfl) (.inr ⟨⟨nle,rfl⟩,⟨(d0e (enc:=o5) rfl rfl (a8m ex29) (a8n ex29)),⟨(d1x (enc:=o5) rfl),⟨⟨nle,rfl⟩,⟨⟨trivial,rfl⟩,⟨⟨nle,rfl⟩,⟨⟨trivial,rfl⟩,trivial⟩⟩⟩⟩⟩⟩⟩) trivial<|b4i (a0v (v:=(.agg [(.str x_28.Name),(.int .i64 x_28.Kind),(.int .i64 x_28.Min),(.int .i64 x_28.Max),(.int .i64 x_28.Low),(.int .i64 x_28.High),(.str x_28.Ref),(.bool x_28.Strong)])) (y':=(.agg [(.str x_28.Name),(.int .i64 x_28.Kind),(.int .i64 x_28.Min),(.int .i64 x_28.Max),(.int .i64 x_28.Low),(.int .i64 x_28.High),(.str x_28.Ref),(.bool x_28.Strong)])) rfl rfl rfl trivial ⟨rfl,nle⟩ ⟨⟨rfl,trivial⟩,⟨⟨rfl,trivial⟩,⟨⟨rfl,trivial⟩,⟨⟨rfl,trivial⟩,⟨⟨rfl,trivial⟩,⟨⟨rfl,trivial⟩,⟨⟨rfl,trivial⟩,⟨⟨rfl,trivial⟩,trivial⟩⟩⟩⟩⟩⟩⟩⟩ rfl) trivial trivial<|?_
   refine y7 ?_;obtain rfl:=os hb1;exact ⟨[],[0,1,3,4],_,_,rfl,rfl,⟨.refl _,⟨.refl _,⟨.refl _,⟨.refl _,trivial⟩⟩⟩⟩,(.refl _)⟩
 ·obtain ⟨x_13,x_14,x_15,x_16,x_17,x_18,x_19,x_20,x_21,x_22,x_23⟩:=p24
  refine o6 ?_
  obtain ⟨p49,hb1,hf⟩:=ob hf
  refine a1k ([(0,(.ptr 0 0 0)),(4,(.ptr 1 0 0)),(6,(.ptr 2 0 0))],[.box 3 (.agg [(.lst 1 (p49.1.map a0p)),(.int .i64 p49.2.1),(.int .i64 p49.2.2.1)]),.box 3 (.agg [(.str []),(.int .i64 0),.nil]),.box 8 (.agg [(.str p49.2.2.2.1),(.int .i64 p49.2.2.2.2.1),(.int .i64 p49.2.2.2.2.2.1),(.int .i64 p49.2.2.2.2.2.2.1),(.int .i64 p49.2.2.2.2.2.2.2.1),(.int .i64 p49.2.2.2.2.2.2.2.2.1),(.str p49.2.2.2.2.2.2.2.2.2.1),(.bool p49.2.2.2.2.2.2.2.2.2.2)])]) ?_ ?_
  ·refine sr<|?_
   obtain ⟨r_50,er51,hb1⟩:=ob hb1
   refine l9 (.ptr 0 0 0) rfl ?_;refine x8 (a3m (v:=(.bool r_50.1)) (h2:=[.box 3 (.agg [(.lst 1 (r_50.2.Code.map a0p)),(.int .i64 r_50.2.At),(.int .i64 r_50.2.Seed)]),.box 3 (.agg [(.str []),(.int .i64 0),.nil]),.box 4 (.agg [(.str x_6.Name),(.lst 8 (x_6.Columns.map o5)),(.lst 1 (x_6.Unique.map encI)),(.bool x_6.Root)]),.box 8 (.agg [(.str x_16),(.int .i64 x_17),(.int .i64 x_18),(.int .i64 x_19),(.int .i64 x_20),(.int .i64 x_21),(.str x_22),(.bool x_23)])]) [] [0] (fun _ => rfl) (b2m _ _ _ er51) rfl (.refl _) (.refl _) rfl rfl) ?_;refine dk<|?_
   rcases oi hb1 with ⟨c52,hb1⟩ | ⟨c52,hb1⟩
   ·refine x9 rfl c52<|a0k<|?_
    obtain ⟨r_54,er55,hb1⟩:=ob hb1
    obtain ⟨x_56,ex57,hb1⟩:=ob hb1
    refine o7 (.ptr 2 0 1) rfl trivial rfl<|o7 (.lst 8 (x_6.Columns.map o5)) rfl nle rfl<|o7 (.ptr 2 0 1) rfl trivial rfl<|o7 (.lst 8 (x_6.Columns.map o5)) rfl nle rfl<|a1e (a1p (enc:=o5) rfl) fun hl53 => o7 (.int .i64 (w64 ((x_6.Columns.length:Int) - 1))) rfl rfl rfl<|l9 (.ptr 0 0 0) rfl<|?_;refine a2j (a3m (v:=(.int .i64 r_54.1)) (h2:=[.box 3 (.agg [(.lst 1 (r_54.2.Code.map a0p)),(.int .i64 r_54.2.At),(.int .i64 r_54.2.Seed)]),.box 3 (.agg [(.str []),(.int .i64 0),.nil]),.box 4 (.agg [(.str x_6.Name),(.lst 8 (x_6.Columns.map o5)),(.lst 1 (x_6.Unique.map encI)),(.bool x_6.Root)]),.box 8 (.agg [(.str x_16),(.int .i64 x_17),(.int .i64 x_18),(.int .i64 x_19),(.int .i64 x_20),(.int .i64 x_21),(.str x_22),(.bool x_23)])]) [] [0] (fun _ => rfl) (a2a _ _ _ er55) rfl (.refl _) (.refl _) rfl rfl) (.inr ⟨(d1x (enc:=o5) rfl),⟨⟨nle,rfl⟩,⟨⟨trivial,rfl⟩,⟨⟨nle,rfl⟩,⟨⟨trivial,rfl⟩,trivial⟩⟩⟩⟩⟩) trivial ?_
    refine o7 (.int .i64 (w64 ((w64 ((x_6.Columns.length:Int) - 1)) - r_54.1))) rfl rfl rfl<|x8 (a3l (enc:=o5) rfl rfl (a8m ex57) (a8n ex57))<|o7 (o5 x_56) rfl nle rfl<|b4i (a0v (v:=(.agg [(.str x_56.Name),(.int .i64 x_56.Kind),(.int .i64 x_56.Min),(.int .i64 x_56.Max),(.int .i64 x_56.Low),(.int .i64 x_56.High),(.str x_56.Ref),(.bool x_56.Strong)])) (y':=(.agg [(.str x_56.Name),(.int .i64 x_56.Kind),(.int .i64 x_56.Min),(.int .i64 x_56.Max),(.int .i64 x_56.Low),(.int .i64 x_56.High),(.str x_56.Ref),(.bool x_56.Strong)])) rfl rfl rfl trivial ⟨rfl,nle⟩ ⟨⟨rfl,trivial⟩,⟨⟨rfl,trivial⟩,⟨⟨rfl,trivial⟩,⟨⟨rfl,trivial⟩,⟨⟨rfl,trivial⟩,⟨⟨rfl,trivial⟩,⟨⟨rfl,trivial⟩,⟨⟨rfl,trivial⟩,trivial⟩⟩⟩⟩⟩⟩⟩⟩ rfl) trivial trivial<|?_
    refine y7 ?_;obtain rfl:=os hb1;exact ⟨[],[0,1,3],_,_,rfl,rfl,⟨.refl _,⟨.refl _,⟨.refl _,trivial⟩⟩⟩,(.refl _)⟩
   ·refine y5 rfl (bf c52)<|a0e<|?_;obtain rfl:=os hb1;exact ⟨[],[0,1,3],_,_,rfl,rfl,⟨.refl _,⟨.refl _,⟨.refl _,trivial⟩⟩⟩,(.refl _)⟩
  ·obtain ⟨x_38,x_39,x_40,x_41,x_42,x_43,x_44,x_45,x_46,x_47,x_48⟩:=p49
   refine o6 ?_
   obtain ⟨p67,hb1,hf⟩:=ob hf
   refine a1k ([(0,(.ptr 0 0 0)),(4,(.ptr 1 0 0)),(6,(.ptr 2 0 0)),(7,(.ptr 3 0 0))],[.box 3 (.agg [(.lst 1 (p67.1.map a0p)),(.int .i64 p67.2.1),(.int .i64 p67.2.2.1)]),.box 3 (.agg [(.str []),(.int .i64 0),.nil]),.box 8 (.agg [(.str x_41),(.int .i64 x_42),(.int .i64 x_43),(.int .i64 x_44),(.int .i64 x_45),(.int .i64 x_46),(.str x_47),(.bool x_48)]),.box 3 (.agg [(.str x_41),(.int .i64 p67.2.2.2.1),(.own 4 0 p67.2.2.2.2.length)]),.row 3 (p67.2.2.2.2.map l7)]) ?_ ?_
   ·refine a0k ?_
    obtain ⟨r_68,er69,hb1⟩:=ob hb1
    obtain ⟨r_70,er71,hb1⟩:=ob hb1
    refine o7 (.ptr 2 0 0) rfl trivial rfl<|o7 (.str x_41) rfl nle rfl<|l9 (.ptr 0 0 0) rfl<|l9 (.ptr 0 0 0) rfl<|o7 (.ptr 2 0 1) rfl trivial rfl<|o7 (.int .i64 x_42) rfl nle rfl<|?_;refine a2j (a3m (v:=(.int .i64 r_68.1)) (h2:=[.box 3 (.agg [(.lst 1 (r_68.2.Code.map a0p)),(.int .i64 r_68.2.At),(.int .i64 r_68.2.Seed)]),.box 3 (.agg [(.str []),(.int .i64 0),.nil]),.box 8 (.agg [(.str x_41),(.int .i64 x_42),(.int .i64 x_43),(.int .i64 x_44),(.int .i64 x_45),(.int .i64 x_46),(.str x_47),(.bool x_48)])]) [] [0] (fun _ => rfl) (a2a _ _ _ er69) rfl (.refl _) (.refl _) rfl rfl) (.inr ⟨⟨nle,rfl⟩,⟨⟨trivial,rfl⟩,⟨⟨nle,rfl⟩,⟨⟨trivial,rfl⟩,trivial⟩⟩⟩⟩) ?_ ?_
    ·refine a2j (a1o (j:=3) (c:=(.agg [(.str []),(.int .i64 0),.nil])) rfl trivial rfl rfl) (.inr ⟨⟨nle,rfl⟩,⟨⟨trivial,rfl⟩,⟨⟨nle,rfl⟩,⟨⟨trivial,rfl⟩,trivial⟩⟩⟩⟩) trivial ?_;refine a2j (a3m (v:=(.int .i64 r_68.1)) (h2:=[.box 3 (.agg [(.lst 1 (r_68.2.Code.map a0p)),(.int .i64 r_68.2.At),(.int .i64 r_68.2.Seed)]),.box 3 (.agg [(.str []),(.int .i64 0),.nil]),.box 8 (.agg [(.str x_41),(.int .i64 x_42),(.int .i64 x_43),(.int .i64 x_44),(.int .i64 x_45),(.int .i64 x_46),(.str x_47),(.bool x_48)]),.box 3 (.agg [(.str []),(.int .i64 0),.nil])]) [] [0] (fun _ => rfl) (a2a _ _ _ er69) rfl (.refl _) (.refl _) rfl rfl) (.inr ⟨⟨nle,rfl⟩,⟨⟨trivial,rfl⟩,⟨⟨nle,rfl⟩,⟨⟨trivial,rfl⟩,trivial⟩⟩⟩⟩) trivial ?_
     refine o7 (.int .i64 (w64 (6 + r_68.1))) rfl rfl rfl ?_;refine a2j (a3m (v:=(.own 4 0 r_70.1.length)) (h2:=[.box 3 (.agg [(.lst 1 (r_70.2.Code.map a0p)),(.int .i64 r_70.2.At),(.int .i64 r_70.2.Seed)]),.box 3 (.agg [(.str []),(.int .i64 0),.nil]),.box 8 (.agg [(.str x_41),(.int .i64 x_42),(.int .i64 x_43),(.int .i64 x_44),(.int .i64 x_45),(.int .i64 x_46),(.str x_47),(.bool x_48)]),.box 3 (.agg [(.str []),(.int .i64 0),.nil]),.row 3 (r_70.1.map l7)]) [] [0] (fun _ => rfl) (a9r _ _ _ er71) rfl (.refl _) (.refl _) rfl rfl) (.inr ⟨⟨nle,rfl⟩,⟨⟨trivial,rfl⟩,trivial⟩⟩) trivial ?_;refine o7 (.agg [(.str x_41),(.int .i64 (w64 (6 + r_68.1))),(.own 4 0 r_70.1.length)]) rfl ⟨⟨rfl,nle,trivial⟩,⟨⟨rfl,nle,trivial⟩,⟨⟨rfl,nle,trivial⟩,trivial⟩⟩⟩ rfl ?_
     refine b4i (a0v (v:=(.agg [(.str x_41),(.int .i64 (w64 (6 + r_68.1))),(.own 4 0 r_70.1.length)])) (y':=(.agg [(.str x_41),(.int .i64 (w64 (6 + r_68.1))),(.own 4 0 r_70.1.length)])) rfl rfl rfl trivial ⟨rfl,nle⟩ ⟨⟨rfl,trivial⟩,⟨⟨rfl,trivial⟩,⟨⟨rfl,trivial⟩,trivial⟩⟩⟩ rfl) trivial trivial<|y7<|?_;obtain rfl:=os hb1;exact ⟨[],[0,1,2,3,4],_,_,rfl,rfl,⟨.refl _,⟨.refl _,⟨.refl _,⟨.refl _,trivial⟩⟩⟩⟩,(.refl _)⟩
    ·refine o7 (.int .i64 (w64 (6 + r_68.1))) rfl rfl rfl ?_;refine a2j (a3m (v:=(.own 3 0 r_70.1.length)) (h2:=[.box 3 (.agg [(.lst 1 (r_70.2.Code.map a0p)),(.int .i64 r_70.2.At),(.int .i64 r_70.2.Seed)]),.box 3 (.agg [(.str []),(.int .i64 0),.nil]),.box 8 (.agg [(.str x_41),(.int .i64 x_42),(.int .i64 x_43),(.int .i64 x_44),(.int .i64 x_45),(.int .i64 x_46),(.str x_47),(.bool x_48)]),.row 3 (r_70.1.map l7)]) [] [0] (fun _ => rfl) (a9r _ _ _ er71) rfl (.refl _) (.refl _) rfl rfl) (.inr ⟨⟨nle,rfl⟩,⟨⟨trivial,rfl⟩,trivial⟩⟩) ?_ ?_
     ·refine a2j (a1o (j:=3) (c:=(.agg [(.str []),(.int .i64 0),.nil])) rfl trivial rfl rfl) (.inr ⟨⟨nle,rfl⟩,⟨⟨trivial,rfl⟩,⟨⟨nle,rfl⟩,⟨⟨trivial,rfl⟩,trivial⟩⟩⟩⟩) trivial ?_;refine a2j (a3m (v:=(.own 4 0 r_70.1.length)) (h2:=[.box 3 (.agg [(.lst 1 (r_70.2.Code.map a0p)),(.int .i64 r_70.2.At),(.int .i64 r_70.2.Seed)]),.box 3 (.agg [(.str []),(.int .i64 0),.nil]),.box 8 (.agg [(.str x_41),(.int .i64 x_42),(.int .i64 x_43),(.int .i64 x_44),(.int .i64 x_45),(.int .i64 x_46),(.str x_47),(.bool x_48)]),.box 3 (.agg [(.str []),(.int .i64 0),.nil]),.row 3 (r_70.1.map l7)]) [] [0] (fun _ => rfl) (a9r _ _ _ er71) rfl (.refl _) (.refl _) rfl rfl) (.inr ⟨⟨nle,rfl⟩,⟨⟨trivial,rfl⟩,trivial⟩⟩) trivial ?_
      refine o7 (.agg [(.str x_41),(.int .i64 (w64 (6 + r_68.1))),(.own 4 0 r_70.1.length)]) rfl ⟨⟨rfl,nle,trivial⟩,⟨⟨rfl,nle,trivial⟩,⟨⟨rfl,nle,trivial⟩,trivial⟩⟩⟩ rfl<|b4i (a0v (v:=(.agg [(.str x_41),(.int .i64 (w64 (6 + r_68.1))),(.own 4 0 r_70.1.length)])) (y':=(.agg [(.str x_41),(.int .i64 (w64 (6 + r_68.1))),(.own 4 0 r_70.1.length)])) rfl rfl rfl trivial ⟨rfl,nle⟩ ⟨⟨rfl,trivial⟩,⟨⟨rfl,trivial⟩,⟨⟨rfl,trivial⟩,trivial⟩⟩⟩ rfl) trivial trivial<|y7<|?_;obtain rfl:=os hb1;exact ⟨[],[0,1,2,3,4],_,_,rfl,rfl,⟨.refl _,⟨.refl _,⟨.refl _,⟨.refl _,trivial⟩⟩⟩⟩,(.refl _)⟩
     ·refine o7 (.agg [(.str x_41),(.int .i64 (w64 (6 + r_68.1))),(.own 3 0 r_70.1.length)]) rfl ⟨⟨rfl,nle,trivial⟩,⟨⟨rfl,nle,trivial⟩,⟨⟨rfl,nle,trivial⟩,trivial⟩⟩⟩ rfl<|a2j (a1o (j:=4) (c:=(.agg [(.str []),(.int .i64 0),.nil])) rfl trivial rfl rfl) (.inr ⟨⟨⟨⟨rfl,nle,trivial⟩,⟨⟨rfl,nle,trivial⟩,⟨⟨rfl,nle,trivial⟩,trivial⟩⟩⟩,rfl⟩,⟨⟨nle,rfl⟩,⟨⟨trivial,rfl⟩,⟨⟨nle,rfl⟩,⟨⟨trivial,rfl⟩,trivial⟩⟩⟩⟩⟩) trivial<|b4i (a0v (v:=(.agg [(.str x_41),(.int .i64 (w64 (6 + r_68.1))),(.own 3 0 r_70.1.length)])) (y':=(.agg [(.str x_41),(.int .i64 (w64 (6 + r_68.1))),(.own 3 0 r_70.1.length)])) rfl rfl rfl trivial ⟨rfl,nle⟩ ⟨⟨rfl,trivial⟩,⟨⟨rfl,trivial⟩,⟨⟨rfl,trivial⟩,trivial⟩⟩⟩ rfl) trivial trivial<|?_
      refine y7 ?_;obtain rfl:=os hb1;exact ⟨[],[0,1,2,4,3],_,_,rfl,rfl,⟨.refl _,⟨.refl _,⟨.refl _,⟨.refl _,trivial⟩⟩⟩⟩,(.refl _)⟩
   ·obtain ⟨x_62,x_63,x_64,x_65,x_66⟩:=p67
    refine o6<|o6<|?_
    obtain ⟨p79,hb1,hf⟩:=ob hf
    refine a1k ([(0,(.ptr 0 0 0)),(4,(.ptr 1 0 0)),(7,(.ptr 2 0 0)),(52,(.bool p79.1))],[.box 3 (.agg [(.lst 1 (p79.2.1.map a0p)),(.int .i64 p79.2.2.1),(.int .i64 p79.2.2.2)]),.box 3 (.agg [(.str []),(.int .i64 0),.nil]),.box 3 (.agg [(.str x_41),(.int .i64 x_65),(.own 3 0 x_66.length)]),.row 3 (x_66.map l7)]) ?_ ?_
    ·refine a0k ?_
     rcases oi hb1 with ⟨c80,hb1⟩ | ⟨c80,hb1⟩
     ·obtain ⟨r_81,er82,hb1⟩:=ob hb1
      refine o7 (.ptr 2 0 1) rfl trivial rfl<|o7 (.int .i64 x_42) rfl nle rfl<|o7 (.bool (x_42 == 1)) rfl rfl rfl<|l9 (.bool (x_42 == 1)) rfl<|a0u (s:=48) (b:=true) rfl c80<|s_on rfl<|l9 (.ptr 0 0 0) rfl<|s_on rfl<|?_;refine x8 (a3m (v:=(.bool r_81.1)) (h2:=[.box 3 (.agg [(.lst 1 (r_81.2.Code.map a0p)),(.int .i64 r_81.2.At),(.int .i64 r_81.2.Seed)]),.box 3 (.agg [(.str []),(.int .i64 0),.nil]),.box 8 (.agg [(.str x_41),(.int .i64 x_42),(.int .i64 x_43),(.int .i64 x_44),(.int .i64 x_45),(.int .i64 x_46),(.str x_47),(.bool x_48)]),.box 3 (.agg [(.str x_41),(.int .i64 x_65),(.own 4 0 x_66.length)]),.row 3 (x_66.map l7)]) [] [0] (fun _ => rfl) (b2m _ _ _ er82) rfl (.refl _) (.refl _) rfl rfl) ?_
      refine s_on rfl<|o7 (.bool (!r_81.1)) rfl trivial rfl<|o7 (.bool (!r_81.1)) rfl trivial rfl<|y7<|?_;obtain rfl:=os hb1;exact ⟨[],[0,1,3,4],_,_,rfl,rfl,⟨.refl _,⟨.refl _,⟨.refl _,⟨.refl _,trivial⟩⟩⟩⟩,(.refl _)⟩
     ·refine o7 (.ptr 2 0 1) rfl trivial rfl<|o7 (.int .i64 x_42) rfl nle rfl<|o7 (.bool (x_42 == 1)) rfl rfl rfl<|l9 (.bool (x_42 == 1)) rfl<|a0u (s:=48) (b:=false) rfl (bf c80)<|o9 rfl rfl<|o9 rfl rfl<|o9 rfl rfl<|o7 (.bool false) rfl trivial rfl<|y7<|?_;obtain rfl:=os hb1;exact ⟨[],[0,1,3,4],_,_,rfl,rfl,⟨.refl _,⟨.refl _,⟨.refl _,⟨.refl _,trivial⟩⟩⟩⟩,(.refl _)⟩
    ·obtain ⟨s52_75,x_76,x_77,x_78⟩:=p79
     rcases oi hf with ⟨c83,hf⟩ | ⟨c83,hf⟩
     ·refine x9 rfl c83<|sr<|?_
      obtain ⟨r_84,er85,hf⟩:=ob hf
      refine l9 (.ptr 0 0 0) rfl ?_;refine x8 (a3m (v:=(.int .i64 r_84.1)) (h2:=[.box 3 (.agg [(.lst 1 (r_84.2.Code.map a0p)),(.int .i64 r_84.2.At),(.int .i64 r_84.2.Seed)]),.box 3 (.agg [(.str []),(.int .i64 0),.nil]),.box 3 (.agg [(.str x_41),(.int .i64 x_65),(.own 3 0 x_66.length)]),.row 3 (x_66.map l7)]) [] [0] (fun _ => rfl) (a2a _ _ _ er85) rfl (.refl _) (.refl _) rfl rfl) ?_;refine o7 (.int .i64 (w64 (1 + r_84.1))) rfl rfl rfl<|o7 (.ptr 2 0 1) rfl trivial rfl<|a3w (a0v (v:=(.int .i64 (w64 (1 + r_84.1)))) (y':=(.agg [(.str x_41),(.int .i64 (w64 (1 + r_84.1))),(.own 3 0 x_66.length)])) rfl rfl rfl trivial ⟨rfl,nle⟩ ⟨⟨rfl,trivial⟩,trivial⟩ rfl)<|?_
      refine dk<|a0k<|?_
      obtain ⟨r_86,er87,hf⟩:=ob hf
      refine l9 (.ptr 0 0 0) rfl ?_;refine x8 (a3m (v:=(.int .i64 r_86.1)) (h2:=[.box 3 (.agg [(.lst 1 (r_86.2.Code.map a0p)),(.int .i64 r_86.2.At),(.int .i64 r_86.2.Seed)]),.box 3 (.agg [(.str []),(.int .i64 0),.nil]),.box 3 (.agg [(.str x_41),(.int .i64 (w64 (1 + r_84.1))),(.own 3 0 x_66.length)]),.row 3 (x_66.map l7)]) [] [0] (fun _ => rfl) (a2a _ _ _ er87) rfl (.refl _) (.refl _) rfl rfl) ?_;refine o7 (.int .i64 (w64 (r_86.1 - 3))) rfl rfl rfl<|o7 (.agg [(.int .i64 1),(.int .i64 (w64 (r_86.1 - 3))),(.str [])]) rfl ⟨⟨rfl,nle,trivial⟩,⟨⟨rfl,nle,trivial⟩,trivial⟩⟩ rfl<|?_;refine x8 (a1z (j:=4) (as':=[(l7 (⟨1,w64 (r_86.1 - 3),[]⟩:o8))]) rfl (fun _ => by decide) ⟨rfl,trivial⟩ (.refl _) rfl rfl rfl) ?_
      refine o7 (.ptr 2 0 2) rfl trivial rfl<|a3w (a0v (v:=(.own 4 0 1)) (y':=(.agg [(.str x_41),(.int .i64 (w64 (1 + r_84.1))),(.own 4 0 1)])) rfl rfl rfl trivial ⟨rfl,nle⟩ ⟨⟨rfl,trivial⟩,trivial⟩ rfl)<|dk<|sr<|o7 (.agg [(.str x_41),(.int .i64 (w64 (1 + r_84.1))),(.own 4 0 1)]) rfl nle rfl<|a3w (a0v (v:=(.agg [(.str x_41),(.int .i64 (w64 (1 + r_84.1))),(.own 4 0 1)])) (y':=(.agg [(.str x_41),(.int .i64 (w64 (1 + r_84.1))),(.own 4 0 1)])) rfl rfl rfl trivial ⟨rfl,nle⟩ ⟨⟨rfl,trivial⟩,⟨⟨rfl,trivial⟩,⟨⟨rfl,trivial⟩,trivial⟩⟩⟩ rfl)<|dk<|a0a<|?_;obtain rfl:=os hf;exact a5j [] [0,4] rfl ⟨nle,trivial⟩ rfl (.refl _) (.refl _)
     ·refine y5 rfl (bf c83)<|a0e<|a0f<|sr<|o7 (.agg [(.str x_41),(.int .i64 x_65),(.own 3 0 x_66.length)]) rfl nle rfl<|a3w (a0v (v:=(.agg [(.str x_41),(.int .i64 x_65),(.own 3 0 x_66.length)])) (y':=(.agg [(.str x_41),(.int .i64 x_65),(.own 3 0 x_66.length)])) rfl rfl rfl trivial ⟨rfl,nle⟩ ⟨⟨rfl,trivial⟩,⟨⟨rfl,trivial⟩,⟨⟨rfl,trivial⟩,trivial⟩⟩⟩ rfl)<|dk<|a0a<|?_;obtain rfl:=os hf;exact a5j [] [0,3] rfl ⟨nle,trivial⟩ rfl (.refl _) (.refl _)

/- spec.MutsOf -/
def c33:a0n :=
 (.seq (.reg (tm 4 (.c .nil) .done))
 (.seq (.reg (tm 8 (.t 0) (tq 9 (.call 102 [(.t 8)]) (tm 5 (.t 9) .done))))
 (.seq (.reg (tq 10 (.bslice 3 []) (tm 6 (.t 10) .done)))
 (.seq (.seq (.reg (tm 11 (.t 5) (tq 12 (.call 123 [(.t 11),(.c (.int .i64 4))]) (tm 7 (.t 12) .done))))
 (.block 0 (.loop (.seq (.seq (.reg (tm 13 (.t 7) (tq 14 (.bin .gtr (.t 13) (.c (.int .i64 0))) .done)))
 (.cond (.t 14) .skip
 (.exit 0)))
 (.seq (.block 1 (.reg (tm 17 (.t 6) (tm 18 (.t 5) (tm 19 (.t 1) (tq 20 (.call 124 [(.t 18),(.t 19)]) (tq 21 (.bslice 3 [(.t 20)]) (tq 22 (.append 3 48 (.t 17) (.t 21)) (tm 6 (.t 22) .done)))))))))
 (.reg (tm 15 (.t 7) (tq 16 (.bin .sub (.t 15) (.c (.int .i64 1))) (tm 7 (.t 16) .done)))))))))
 (.cut (.seq (.reg (tm 23 (.t 6) (tm 4 (.t 23) .done)))
 .ret))))))
theorem e8e:a1c Tryz.prog Tryz.f33 = some (c33.erase,[.mov (.t 4)],24):=by kernel_rfl
def a5t (table_2:Int):Nat → Int → (List Int) → Int → Int → (List a2w) → Option (List a2w)
  | 0,_,_,_,_,_ => none
  | k + 1,i_20,x_21,x_22,x_23,out_24 =>
    if (decide (i_20 > 0)) then
    (a8a table_2 (⟨x_21,x_22,x_23⟩:a1j)).bind fun r_32 =>
    if (out_24 ++ [r_32.1]).length ≤ 2 ^ 30 then
    a5t table_2 k (w64 (i_20 - 1)) r_32.2.Code r_32.2.At r_32.2.Seed (out_24 ++ [r_32.1])
    else none
    else
    some out_24

def b2n (code_1:(List Int)) (table_2:Int):Option (List a2w) :=
    (b1g code_1).bind fun r_3 =>
    (a1i 4 r_3).bind fun r_5 =>
    (a5t table_2 FUEL r_5.1 r_5.2.Code r_5.2.At r_5.2.Seed []).bind fun out_29 =>
    some out_29
theorem c5o (code_1:(List Int)) (table_2:Int) (r:(List a2w)) (hf:b2n code_1 table_2 = some r):y8 Tryz.prog 33 .fresh [(.lst 1 (code_1.map a0p)),(.int .i64 table_2)] (.lst 3 (r.map a0c)):=by
 refine y8.of_awp mixed Tryz.func33 e8e nle ?_;rw [a0h];unfold b2n at hf;unfold c33;refine (show awp Tryz.prog true 0 _ (ofL [(0,(.lst 1 (code_1.map a0p))),(1,(.int .i64 table_2))]) [] _ from ?_);refine sr<|l9 .nil rfl<|dk<|sr<|?_
 obtain ⟨r_3,er4,hf⟩:=ob hf
 refine l9 (.lst 1 (code_1.map a0p)) rfl ?_;refine x8 (a3m (v:=(.ptr 0 0 0)) (h2:=[.box 3 (.agg [(.lst 1 (r_3.Code.map a0p)),(.int .i64 r_3.At),(.int .i64 r_3.Seed)])]) [] [] (fun _ => rfl) (c0l _ _ er4) rfl (.refl _) (.refl _) rfl rfl) ?_;refine l9 (.ptr 0 0 0) rfl<|dk<|sr<|?_;refine x8 (a1z (j:=1) (as':=[]) rfl (fun _ => by decide) trivial (.refl _) rfl rfl rfl) ?_;refine l9 (.own 1 0 0) rfl<|dk<|o6<|sr<|?_
 obtain ⟨r_5,er6,hf⟩:=ob hf
 refine l9 (.ptr 0 0 0) rfl ?_;refine x8 (a3m (v:=(.int .i64 r_5.1)) (h2:=[.box 3 (.agg [(.lst 1 (r_5.2.Code.map a0p)),(.int .i64 r_5.2.At),(.int .i64 r_5.2.Seed)]),.row 3 ([].map a0c)]) [] [0] (fun _ => rfl) (a2a _ _ _ er6) rfl (.refl _) (.refl _) rfl rfl) ?_;refine l9 (.int .i64 r_5.1) rfl<|dk<|?_
 obtain ⟨out_29,hb1,hf⟩:=ob hf
 refine a1k ([(6,(.own 0 0 out_29.length))],[.row 3 (out_29.map a0c)]) ?_ ?_
 ·refine a1m (X:={q:(Nat × Int × (List Int) × Int × Int × (List a2w)) // a5t table_2 q.1 q.2.1 q.2.2.1 q.2.2.2.1 q.2.2.2.2.1 q.2.2.2.2.2 = some out_29}) (fun q => ([(1,(.int .i64 table_2)),(5,(.ptr 0 0 0)),(6,(.own 1 0 q.1.2.2.2.2.2.length)),(7,(.int .i64 q.1.2.1))],[.box 3 (.agg [(.lst 1 (q.1.2.2.1.map a0p)),(.int .i64 q.1.2.2.2.1),(.int .i64 q.1.2.2.2.2.1)]),.row 3 (q.1.2.2.2.2.2.map a0c)])) (fun q => q.1.1) ⟨(FUEL,r_5.1,r_5.2.Code,r_5.2.At,r_5.2.Seed,[]),hb1⟩ ⟨[],[0,1],_,_,rfl,rfl,⟨.refl _,⟨.refl _,⟨.of_eq (congrArg (AV.own _ 0) (by simp)),⟨.refl _,trivial⟩⟩⟩⟩,(.refl _)⟩ ?_
  rintro ⟨⟨k,i_20,x_21,x_22,x_23,out_24⟩,hc1⟩
  have hc1:a5t table_2 k i_20 x_21 x_22 x_23 out_24 = some out_29:=hc1
  refine (show awp Tryz.prog true 0 _ (ofL [(1,(.int .i64 table_2)),(5,(.ptr 0 0 0)),(6,(.own 1 0 out_24.length)),(7,(.int .i64 i_20))]) [.box 3 (.agg [(.lst 1 (x_21.map a0p)),(.int .i64 x_22),(.int .i64 x_23)]),.row 3 (out_24.map a0c)] _ from ?_)
  rcases k with _ | k
  ·rw [a5t.eq_1] at hc1
   cases hc1
  ·rw [a5t.eq_2] at hc1;refine o6<|sr<|l9 (.int .i64 i_20) rfl<|o7 (.bool (decide (i_20 > 0))) rfl rfl rfl<|dk<|?_
   rcases oi hc1 with ⟨c31,hc1⟩ | ⟨c31,hc1⟩
   ·refine x9 rfl c31<|a0e<|a0f<|o6<|a3c<|a0k<|?_
    obtain ⟨r_32,er33,hc1⟩:=ob hc1
    obtain ⟨g34,hc1⟩:=og hc1
    refine l9 (.own 1 0 out_24.length) rfl<|l9 (.ptr 0 0 0) rfl<|l9 (.int .i64 table_2) rfl<|?_;refine x8 (a3m (v:=(.agg [(.str r_32.1.Column),(.int .i64 r_32.1.Func),(.own 2 0 r_32.1.Value.length)])) (h2:=[.box 3 (.agg [(.lst 1 (r_32.2.Code.map a0p)),(.int .i64 r_32.2.At),(.int .i64 r_32.2.Seed)]),.row 3 (out_24.map a0c),.row 3 (r_32.1.Value.map l7)]) [] [0] (fun _ => rfl) (b9b _ _ _ er33) rfl (.refl _) (.refl _) rfl rfl) ?_;refine x8 (a1z (j:=3) (as':=[(a0c r_32.1)]) rfl (fun _ => by decide) ⟨rfl,trivial⟩ (.cons (.agg (.cons (.refl _) (.cons (.refl _) (.cons (.of_eq (congrArg (AV.lst _) (tk (enc:=l7) r_32.1.Value))) .nil)))) .nil) rfl rfl rfl) ?_
    refine x8 (a5n (j:=4) (L:=((out_24 ++ [r_32.1]).map a0c)) (len:=(out_24 ++ [r_32.1]).length) rfl true rfl rfl (fun h => Bool.noConfusion h) (fun _ _ h => (c0j (show AV.own _ _ _ = AV.lst _ _ from h)).elim) (by decide) (c4b (enc:=a0c) out_24 [r_32.1] _ (by rfl)) (by simp <;> omega) g34 rfl rfl) ?_
    refine l9 (.own 4 0 ((out_24 ++ [r_32.1]).length)) rfl<|y7<|a2c<|a0f<|a0k<|l9 (.int .i64 i_20) rfl<|o7 (.int .i64 (w64 (i_20 - 1))) rfl rfl rfl<|l9 (.int .i64 (w64 (i_20 - 1))) rfl<|y7<|?_;exact a1t ⟨(k,w64 (i_20 - 1),r_32.2.Code,r_32.2.At,r_32.2.Seed,out_24 ++ [r_32.1]),hc1⟩ (Nat.lt_succ_self _) ⟨[],[0,4],_,_,rfl,rfl,⟨.refl _,⟨.refl _,⟨.refl _,⟨.refl _,trivial⟩⟩⟩⟩,(.refl _)⟩
   ·refine y5 rfl (bf c31)<|a2u<|a2t<|a1x<|a2s<|?_;obtain rfl:=os hc1;exact ⟨[],[1],_,_,rfl,rfl,⟨.refl _,trivial⟩,(.refl _)⟩
 ·refine sr<|l9 (.own 0 0 out_29.length) rfl<|l9 (.own 0 0 out_29.length) rfl<|dk<|a0a<|?_;obtain rfl:=os hf;exact a4r ⟨trivial,trivial⟩ rfl (by decide) (.of_eq (congrArg (AV.lst _) (tk (enc:=a0c) out_29)))

/- impl.isList[impl.Mut] -/
def d4s:a0n :=
 (.seq (.reg (tm 2 (.c (.bool false)) .done))
 (.seq (.reg (tm 3 (.t 0) (tq 4 (.len (.t 3)) (tq 5 (.bin .leq (.t 4) (.c (.int .i64 4096))) (tm 2 (.t 5) .done)))))
 .ret))
theorem e2p:a1c Tryz.prog Tryz.f125 = some (d4s.erase,[.mov (.t 2)],6):=by kernel_rfl
def a7g (list_1:(List a2w)):Option Bool :=
    some (decide ((list_1.length:Int) ≤ 4096))
theorem b5f (list_1:(List a2w)) (r:Bool) (hf:a7g list_1 = some r):y8 Tryz.prog 125 .flat [(.lst 3 (list_1.map a0c))] (.bool r):=by
  refine y8.of_awp mixed Tryz.func125 e2p nle ?_
  rw [a0h]
  unfold a7g at hf
  unfold d4s
  refine (show awp Tryz.prog false 0 _ (ofL [(0,(.lst 3 (list_1.map a0c)))]) [] _ from ?_)
  refine o6 ?_
  refine a0k ?_
  refine x8 (a2r (.bool false) rfl) ?_
  refine y7 ?_
  refine a0f ?_
  refine o6 ?_
  refine a0k ?_
  refine x8 (a2r (.lst 3 (list_1.map a0c)) rfl) ?_
  refine a1e (a1p (enc:=a0c) rfl) fun hl2 => ?_
  refine x8 (o_q (.bool (decide ((list_1.length:Int) ≤ 4096))) rfl rfl rfl) ?_
  refine x8 (a2r (.bool (decide ((list_1.length:Int) ≤ 4096))) rfl) ?_
  refine y7 ?_
  refine a0f ?_
  refine a0a ?_
  obtain rfl:=os hf
  exact a0d ⟨trivial,trivial⟩ rfl (.refl _)

/- slices.IndexFunc[[]impl.Mut,impl.Mut] -/
def e2q:a0n :=
 (.seq (.reg (tm 4 (.c (.int .i64 0)) .done))
 (.seq (.seq (.reg (tm 6 (.t 0) (tq 7 (.len (.t 6)) (tm 8 (.c (.int .i64 0)) .done))))
 (.block 0 (.loop (.seq (.reg (tq 9 (.bin .lss (.t 8) (.t 7)) .done))
 (.seq (.cond (.t 9) .skip
 (.exit 0))
 (.seq (.block 1 (.seq (.reg (tm 10 (.t 8) (tm 5 (.t 10) .done)))
 (.seq (.reg (tm 11 (.t 1) (tm 12 (.t 0) (tm 13 (.t 5) (tq 14 (.iaddr 3 (.t 12) (.t 13)) (tq 15 (.load 3 true (.t 14)) (tq 16 (.calv (.t 11) [(.t 15)]) .done)))))))
 (.cond (.t 16) (.seq (.reg (tm 17 (.t 5) (tm 4 (.t 17) .done)))
 .ret)
 .skip))))
 (.reg (tq 18 (.bin .add (.t 8) (.c (.int .i64 1))) (tm 8 (.t 18) .done)))))))))
 (.cut (.seq (.reg (tq 4 (.mov (.c (.int .i64 (-1)))) .done))
 .ret))))
theorem e2r:a1c Tryz.prog Tryz.f347 = some (e2q.erase,[.mov (.t 4)],19):=by kernel_rfl
def a1d (f_2:(a2w → Option Bool)):List a2w → Nat → Option (Fl Int Unit)
  | [],s8_17 =>
    some (.go ())
  | x_31 :: xs,s8_17 =>
    (f_2 x_31).bind fun r_32 =>
    if r_32 then
    some (.ret (s8_17:Int))
    else
    a1d f_2 xs (s8_17 + 1)

def a2z (s_1:(List a2w)) (f_2:(a2w → Option Bool)):Option Int :=
    (a1d f_2 s_1 0).bind fun q => (match q with
    | .ret r => some r
    | .go _ =>
    some (-1))
theorem a9s (s_1:(List a2w)) (f_2:(a2w → Option Bool)) (r:Int) (hf:a2z s_1 f_2 = some r) (kf_f_2:Nat) (cf_f_2:List AV) (okf_f_2:c3o Tryz.prog kf_f_2 = true) (hcf_f_2:∀ h p,a3x h p cf_f_2 = some cf_f_2) (hrf_f_2:∀ f,a7n f cf_f_2 = cf_f_2) (hpf_f_2:∀ a0 r,f_2 a0 = some r → y8 Tryz.prog kf_f_2 .flat ([(a0c a0)] ++ cf_f_2) (.bool r)):y8 Tryz.prog 347 .flat [(.lst 3 (s_1.map a0c)),(.fn kf_f_2 cf_f_2)] (.int .i64 r):=by
 refine y8.of_awp mixed Tryz.func347 e2r nle ?_;rw [a0h];unfold a2z at hf;unfold e2q;refine (show awp Tryz.prog false 0 _ (ofL [(0,(.lst 3 (s_1.map a0c))),(1,(.fn kf_f_2 cf_f_2))]) [] _ from ?_);refine sr<|l9 (.int .i64 0) rfl<|dk<|o6<|sr<|l9 (.lst 3 (s_1.map a0c)) rfl<|a1e (a1p (enc:=a0c) rfl) fun hl3 => l9 (.int .i64 0) rfl<|dk<|?_
 obtain ⟨p24,hb1,hf⟩:=ob hf
 refine a2i (X:={q:Unit // p24 = .go q}) (fun q => ([],[])) ?_ ?_
 ·refine a1m (X:={q:Nat // a1d f_2 (s_1.drop q) q = some p24}) (fun q => ([(0,(.lst 3 (s_1.map a0c))),(1,(.fn kf_f_2 cf_f_2)),(7,(.int .i64 (s_1.length:Int))),(8,(.int .i64 (q.1:Int)))],[])) (fun q => s_1.length - q.1) ⟨0,hb1⟩ ⟨[],[],_,_,rfl,rfl,⟨.refl _,⟨.of_eq (congrArg (AV.fn _) (hrf_f_2 _)),⟨.refl _,⟨.refl _,trivial⟩⟩⟩⟩,(.refl _)⟩ ?_
  rintro ⟨s8_17,hc1⟩
  have hc1:a1d f_2 (s_1.drop s8_17) s8_17 = some p24:=hc1
  refine (show awp Tryz.prog false 0 _ (ofL [(0,(.lst 3 (s_1.map a0c))),(1,(.fn kf_f_2 cf_f_2)),(7,(.int .i64 (s_1.length:Int))),(8,(.int .i64 (s8_17:Int)))]) [] _ from ?_)
  rcases a5p s_1 s8_17 with ⟨hie27,hd30⟩ | ⟨hlt25,x_31,hx26,hd30⟩
  ·rw [hd30,a1d.eq_1] at hc1
   have hq29:=dlf hie27
   refine sr<|o7 (.bool (decide ((s8_17:Int) < (s_1.length:Int)))) rfl rfl rfl<|dk<|o6<|y5 rfl hq29<|a2u<|a2t<|a1x<|a2s<|?_;obtain rfl:=os hc1;exact a3h ⟨_,rfl⟩ ⟨[],[],_,_,rfl,rfl,trivial,(.refl _)⟩
  ·rw [hd30,a1d.eq_2] at hc1
   have hq29:=dlt hlt25
   refine sr<|o7 (.bool (decide ((s8_17:Int) < (s_1.length:Int)))) rfl rfl rfl<|dk<|o6<|x9 rfl hq29<|a0e<|a0f<|o6<|a3c<|sr<|l9 (.int .i64 (s8_17:Int)) rfl<|l9 (.int .i64 (s8_17:Int)) rfl<|dk<|sr<|?_
   obtain ⟨r_32,er33,hc1⟩:=ob hc1
   refine l9 (.fn kf_f_2 cf_f_2) rfl<|l9 (.lst 3 (s_1.map a0c)) rfl<|l9 (.int .i64 (s8_17:Int)) rfl<|x8 (a1r (enc:=a0c) rfl rfl hx26)<|o7 (a0c x_31) rfl nle rfl<|x8 (c2k (v:=(.bool r_32)) rfl okf_f_2 hcf_f_2 (hpf_f_2 _ _ er33) rfl (.refl _) rfl)<|dk<|?_
   rcases oi hc1 with ⟨c34,hc1⟩ | ⟨c34,hc1⟩
   ·refine x9 rfl c34<|sr<|l9 (.int .i64 (s8_17:Int)) rfl<|l9 (.int .i64 (s8_17:Int)) rfl<|dk<|a0a<|?_;obtain rfl:=os hc1;obtain rfl:=os hf;exact a0d ⟨trivial,trivial⟩ rfl (.refl _)
   ·refine y5 rfl (bf c34)<|a0e<|a2c<|a0f<|a0k<|o7 (.int .i64 (w64 ((s8_17:Int) + 1))) rfl rfl rfl<|l9 (.int .i64 (w64 ((s8_17:Int) + 1))) rfl<|y7<|?_;exact a1t ⟨(s8_17 + 1),hc1⟩ (mul hlt25) ⟨[],[],_,_,rfl,rfl,⟨.refl _,⟨.of_eq (congrArg (AV.fn _) (hrf_f_2 _)),⟨.refl _,⟨.of_eq (congrArg (AV.int _) (a1w hlt25 hl3)),trivial⟩⟩⟩⟩,(.refl _)⟩
 ·rintro ⟨_,rfl⟩
  refine sr<|l9 (.int .i64 (-1)) rfl<|dk<|a0a<|?_;obtain rfl:=os hf;exact a0d ⟨trivial,trivial⟩ rfl (.refl _)

/- slices.ContainsFunc[[]impl.Mut,impl.Mut] -/
def e2s:a0n :=
 (.seq (.reg (tm 4 (.c (.bool false)) .done))
 (.seq (.reg (tm 5 (.t 0) (tm 6 (.t 1) (tq 7 (.call 347 [(.t 5),(.t 6)]) (tq 8 (.bin .geq (.t 7) (.c (.int .i64 0))) (tm 4 (.t 8) .done))))))
 .ret))
theorem e2t:a1c Tryz.prog Tryz.f242 = some (e2s.erase,[.mov (.t 4)],9):=by kernel_rfl
def a2o (s_1:(List a2w)) (f_2:(a2w → Option Bool)):Option Bool :=
    (a2z s_1 f_2).bind fun r_3 =>
    some (decide (r_3 ≥ 0))
theorem a8o (s_1:(List a2w)) (f_2:(a2w → Option Bool)) (r:Bool) (hf:a2o s_1 f_2 = some r) (kf_f_2:Nat) (cf_f_2:List AV) (okf_f_2:c3o Tryz.prog kf_f_2 = true) (hcf_f_2:∀ h p,a3x h p cf_f_2 = some cf_f_2) (hrf_f_2:∀ f,a7n f cf_f_2 = cf_f_2) (hpf_f_2:∀ a0 r,f_2 a0 = some r → y8 Tryz.prog kf_f_2 .flat ([(a0c a0)] ++ cf_f_2) (.bool r)):y8 Tryz.prog 242 .flat [(.lst 3 (s_1.map a0c)),(.fn kf_f_2 cf_f_2)] (.bool r):=by
 refine y8.of_awp mixed Tryz.func242 e2t nle ?_;rw [a0h];unfold a2o at hf;unfold e2s;refine (show awp Tryz.prog false 0 _ (ofL [(0,(.lst 3 (s_1.map a0c))),(1,(.fn kf_f_2 cf_f_2))]) [] _ from ?_);refine sr<|l9 (.bool false) rfl<|dk<|sr<|?_
 obtain ⟨r_3,er4,hf⟩:=ob hf
 refine l9 (.lst 3 (s_1.map a0c)) rfl<|l9 (.fn kf_f_2 cf_f_2) rfl<|x8 (a0g (a9s _ _ _ er4 kf_f_2 cf_f_2 okf_f_2 hcf_f_2 hrf_f_2 hpf_f_2) (b4o rfl (b4o (d1y hcf_f_2) rfl)) (.refl _) rfl)<|o7 (.bool (decide (r_3 ≥ 0))) rfl rfl rfl<|l9 (.bool (decide (r_3 ≥ 0))) rfl<|dk<|a0a<|?_;obtain rfl:=os hf;exact a0d ⟨trivial,trivial⟩ rfl (.refl _)

end Go.R
