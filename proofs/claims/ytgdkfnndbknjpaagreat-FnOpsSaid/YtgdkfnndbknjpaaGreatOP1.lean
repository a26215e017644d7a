/- Walks. -/
import Derived.Test.YtgdkfnndbknjpaaGreatOPT
set_option linter.all false
namespace Go.R
open Go Go.Proofs
set_option linter.unusedVariables false
set_option linter.unusedSimpArgs false
set_option maxHeartbeats 8000000
/- spec.PlainSchema -/
def c25:a0s :=
 (.seq (.reg (tq 0 (.box 1 (.c (.agg [.nil]))) .done))
 (.seq (.reg (tq 2 (.build [(.str []),(.int .i64 0),(.int .i64 0),(.int .i64 0),(.int .i64 0),(.int .i64 0),(.str []),(.bool false)] [(0,1,(.c (.str [110,97,109,101]))),(1,1,(.c (.int .i64 2))),(2,1,(.c (.int .i64 1))),(3,1,(.c (.int .i64 1)))]) (tq 1 (.box 8 (.c (.agg [(.str []),(.int .i64 0),(.int .i64 0),(.int .i64 0),(.int .i64 0),(.int .i64 0),(.str []),(.bool false)]))) (.q ⟨none,none,.store 8 (.t 1) (.t 2)⟩
 .done))))
 (.seq (.reg (tq 3 (.load 8 true (.t 1)) (tq 4 (.build [(.str []),(.int .i64 0),(.int .i64 0),(.int .i64 0),(.int .i64 0),(.int .i64 0),(.str []),(.bool false)] [(0,1,(.c (.str [97,98,111,117,116]))),(1,1,(.c (.int .i64 4))),(3,1,(.c (.int .i64 4))),(6,1,(.c (.str [112,111,114,116])))]) (tq 5 (.bslice 8 [(.t 3),(.t 4)]) (tq 6 (.build [(.str []),.nil,.nil,(.bool false)] [(0,1,(.c (.str [110,111,116,101]))),(1,1,(.t 5)),(3,1,(.c (.bool true)))]) (tq 7 (.load 8 true (.t 1)) (tq 8 (.build [(.str []),(.int .i64 0),(.int .i64 0),(.int .i64 0),(.int .i64 0),(.int .i64 0),(.str []),(.bool false)] [(0,1,(.c (.str [116,97,103]))),(1,1,(.c (.int .i64 1))),(3,1,(.c (.int .i64 1))),(4,1,(.c (.int .i64 0))),(5,1,(.c (.int .i64 99)))]) (tq 9 (.build [(.str []),(.int .i64 0),(.int .i64 0),(.int .i64 0),(.int .i64 0),(.int .i64 0),(.str []),(.bool false)] [(0,1,(.c (.str [117,112]))),(1,1,(.c (.int .i64 3))),(2,1,(.c (.int .i64 1))),(3,1,(.c (.int .i64 1)))]) (tq 10 (.bslice 8 [(.t 7),(.t 8),(.t 9)]) (tq 11 (.bslice 1 [(.c (.int .i64 0))]) (tq 12 (.build [(.str []),.nil,.nil,(.bool false)] [(0,1,(.c (.str [112,111,114,116]))),(1,1,(.t 10)),(2,1,(.t 11))]) (tq 13 (.load 8 true (.t 1)) (tq 14 (.build [(.str []),(.int .i64 0),(.int .i64 0),(.int .i64 0),(.int .i64 0),(.int .i64 0),(.str []),(.bool false)] [(0,1,(.c (.str [99,111,117,110,116]))),(1,1,(.c (.int .i64 1))),(2,1,(.c (.int .i64 1))),(3,1,(.c (.int .i64 1))),(4,1,(.c (.int .i64 (-1000)))),(5,1,(.c (.int .i64 1000)))]) (tq 15 (.build [(.str []),(.int .i64 0),(.int .i64 0),(.int .i64 0),(.int .i64 0),(.int .i64 0),(.str []),(.bool false)] [(0,1,(.c (.str [112,111,114,116,115]))),(1,1,(.c (.int .i64 4))),(3,1,(.c (.int .i64 8))),(6,1,(.c (.str [112,111,114,116]))),(7,1,(.c (.bool true)))]) (tq 16 (.bslice 8 [(.t 13),(.t 14),(.t 15)]) (tq 17 (.bslice 1 [(.c (.int .i64 0))]) (tq 18 (.build [(.str []),.nil,.nil,(.bool false)] [(0,1,(.c (.str [115,119,105,116,99,104]))),(1,1,(.t 16)),(2,1,(.t 17)),(3,1,(.c (.bool true)))]) (tq 19 (.bslice 4 [(.t 6),(.t 12),(.t 18)]) (tq 20 (.build [.nil] [(0,1,(.t 19))]) (.q ⟨none,none,.store 1 (.t 0) (.t 20)⟩
 .done))))))))))))))))))))
 .ret)))
theorem e8s:a1e Tryz.prog Tryz.f25 = some (c25.erase,[.load 1 true (.t 0)],21):=by kernel_rfl
def a6e :Option a2q :=
    some (⟨[(⟨[110,111,116,101],[(⟨[110,97,109,101],2,1,1,0,0,[],false⟩:a0v),(⟨[97,98,111,117,116],4,0,4,0,0,[112,111,114,116],false⟩:a0v)],[],true⟩:a0q),(⟨[112,111,114,116],[(⟨[110,97,109,101],2,1,1,0,0,[],false⟩:a0v),(⟨[116,97,103],1,0,1,0,99,[],false⟩:a0v),(⟨[117,112],3,1,1,0,0,[],false⟩:a0v)],[(0:Int)],false⟩:a0q),(⟨[115,119,105,116,99,104],[(⟨[110,97,109,101],2,1,1,0,0,[],false⟩:a0v),(⟨[99,111,117,110,116],1,1,1,(-1000),1000,[],false⟩:a0v),(⟨[112,111,114,116,115],4,0,8,0,0,[112,111,114,116],true⟩:a0v)],[(0:Int)],true⟩:a0q)]⟩:a2q)
theorem a8b  (r:a2q) (hf:a6e = some r):a0a Tryz.prog 25 .fresh [] (a2x r):=by
 refine a0a.of_awp mixed Tryz.func25 e8s nle ?_;rw [a0n];unfold a6e at hf;unfold c25;refine (show awp Tryz.prog true 0 _ (ofL []) [] _ from ?_);refine sr<|x8 (a1j (j:=0) (c:=(.agg [.nil])) rfl tr rfl rfl)<|dk<|sr<|o8 (.agg [(.str [110,97,109,101]),(.I 2),(.I 1),(.I 1),(.I 0),(.I 0),(.str []),(.bool false)]) rfl ⟨⟨rfl,nle,tr⟩,⟨⟨rfl,nle,tr⟩,⟨⟨rfl,nle,tr⟩,⟨⟨rfl,nle,tr⟩,tr⟩⟩⟩⟩ rfl<|x8 (a1j (j:=1) (c:=(.agg [(.str []),(.I 0),(.I 0),(.I 0),(.I 0),(.I 0),(.str []),(.bool false)])) rfl tr rfl rfl)<|a3o (a0e (v:=(.agg [(.str [110,97,109,101]),(.I 2),(.I 1),(.I 1),(.I 0),(.I 0),(.str []),(.bool false)])) (y':=(.agg [(.str [110,97,109,101]),(.I 2),(.I 1),(.I 1),(.I 0),(.I 0),(.str []),(.bool false)])) rfl rfl rfl tr ⟨rfl,nle⟩ ⟨⟨rfl,tr⟩,⟨⟨rfl,tr⟩,⟨⟨rfl,tr⟩,⟨⟨rfl,tr⟩,⟨⟨rfl,tr⟩,⟨⟨rfl,tr⟩,⟨⟨rfl,tr⟩,⟨⟨rfl,tr⟩,tr⟩⟩⟩⟩⟩⟩⟩⟩ rfl)<|?_
 refine dk<|sr<|o8 (.agg [(.str [110,97,109,101]),(.I 2),(.I 1),(.I 1),(.I 0),(.I 0),(.str []),(.bool false)]) rfl nle rfl<|o8 (.agg [(.str [97,98,111,117,116]),(.I 4),(.I 0),(.I 4),(.I 0),(.I 0),(.str [112,111,114,116]),(.bool false)]) rfl ⟨⟨rfl,nle,tr⟩,⟨⟨rfl,nle,tr⟩,⟨⟨rfl,nle,tr⟩,⟨⟨rfl,nle,tr⟩,tr⟩⟩⟩⟩ rfl<|?_;refine x8 (a0t (j:=2) (as':=[(o5 (⟨[110,97,109,101],2,1,1,0,0,[],false⟩:a0v)),(o5 (⟨[97,98,111,117,116],4,0,4,0,0,[112,111,114,116],false⟩:a0v))]) rfl (fun _ => by decide) ⟨rfl,⟨rfl,tr⟩⟩ .r rfl rfl rfl) ?_
 refine o8 (.agg [(.str [110,111,116,101]),(.own 2 0 2),.nil,(.bool true)]) rfl ⟨⟨rfl,nle,tr⟩,⟨⟨rfl,nle,tr⟩,⟨⟨rfl,nle,tr⟩,tr⟩⟩⟩ rfl<|o8 (.agg [(.str [110,97,109,101]),(.I 2),(.I 1),(.I 1),(.I 0),(.I 0),(.str []),(.bool false)]) rfl nle rfl<|o8 (.agg [(.str [116,97,103]),(.I 1),(.I 0),(.I 1),(.I 0),(.I 99),(.str []),(.bool false)]) rfl ⟨⟨rfl,nle,tr⟩,⟨⟨rfl,nle,tr⟩,⟨⟨rfl,nle,tr⟩,⟨⟨rfl,nle,tr⟩,⟨⟨rfl,nle,tr⟩,tr⟩⟩⟩⟩⟩ rfl<|o8 (.agg [(.str [117,112]),(.I 3),(.I 1),(.I 1),(.I 0),(.I 0),(.str []),(.bool false)]) rfl ⟨⟨rfl,nle,tr⟩,⟨⟨rfl,nle,tr⟩,⟨⟨rfl,nle,tr⟩,⟨⟨rfl,nle,tr⟩,tr⟩⟩⟩⟩ rfl<|?_
 refine x8 (a0t (j:=3) (as':=[(o5 (⟨[110,97,109,101],2,1,1,0,0,[],false⟩:a0v)),(o5 (⟨[116,97,103],1,0,1,0,99,[],false⟩:a0v)),(o5 (⟨[117,112],3,1,1,0,0,[],false⟩:a0v))]) rfl (fun _ => by decide) ⟨rfl,⟨rfl,⟨rfl,tr⟩⟩⟩ .r rfl rfl rfl) ?_;refine x8 (a0t (j:=4) (as':=[(.I 0)]) rfl (fun _ => by decide) ⟨rfl,tr⟩ .r rfl rfl rfl) ?_;refine o8 (.agg [(.str [112,111,114,116]),(.own 3 0 3),(.own 4 0 1),(.bool false)]) rfl ⟨⟨rfl,nle,tr⟩,⟨⟨rfl,nle,tr⟩,⟨⟨rfl,nle,tr⟩,tr⟩⟩⟩ rfl<|o8 (.agg [(.str [110,97,109,101]),(.I 2),(.I 1),(.I 1),(.I 0),(.I 0),(.str []),(.bool false)]) rfl nle rfl<|?_
 refine o8 (.agg [(.str [99,111,117,110,116]),(.I 1),(.I 1),(.I 1),(.I (-1000)),(.I 1000),(.str []),(.bool false)]) rfl ⟨⟨rfl,nle,tr⟩,⟨⟨rfl,nle,tr⟩,⟨⟨rfl,nle,tr⟩,⟨⟨rfl,nle,tr⟩,⟨⟨rfl,nle,tr⟩,⟨⟨rfl,nle,tr⟩,tr⟩⟩⟩⟩⟩⟩ rfl<|o8 (.agg [(.str [112,111,114,116,115]),(.I 4),(.I 0),(.I 8),(.I 0),(.I 0),(.str [112,111,114,116]),(.bool true)]) rfl ⟨⟨rfl,nle,tr⟩,⟨⟨rfl,nle,tr⟩,⟨⟨rfl,nle,tr⟩,⟨⟨rfl,nle,tr⟩,⟨⟨rfl,nle,tr⟩,tr⟩⟩⟩⟩⟩ rfl<|?_;refine x8 (a0t (j:=5) (as':=[(o5 (⟨[110,97,109,101],2,1,1,0,0,[],false⟩:a0v)),(o5 (⟨[99,111,117,110,116],1,1,1,(-1000),1000,[],false⟩:a0v)),(o5 (⟨[112,111,114,116,115],4,0,8,0,0,[112,111,114,116],true⟩:a0v))]) rfl (fun _ => by decide) ⟨rfl,⟨rfl,⟨rfl,tr⟩⟩⟩ .r rfl rfl rfl) ?_
 refine x8 (a0t (j:=6) (as':=[(.I 0)]) rfl (fun _ => by decide) ⟨rfl,tr⟩ .r rfl rfl rfl) ?_;refine o8 (.agg [(.str [115,119,105,116,99,104]),(.own 5 0 3),(.own 6 0 1),(.bool true)]) rfl ⟨⟨rfl,nle,tr⟩,⟨⟨rfl,nle,tr⟩,⟨⟨rfl,nle,tr⟩,⟨⟨rfl,nle,tr⟩,tr⟩⟩⟩⟩ rfl ?_;refine x8 (a0t (j:=7) (as':=[(x9 (⟨[110,111,116,101],[(⟨[110,97,109,101],2,1,1,0,0,[],false⟩:a0v),(⟨[97,98,111,117,116],4,0,4,0,0,[112,111,114,116],false⟩:a0v)],[],true⟩:a0q)),(x9 (⟨[112,111,114,116],[(⟨[110,97,109,101],2,1,1,0,0,[],false⟩:a0v),(⟨[116,97,103],1,0,1,0,99,[],false⟩:a0v),(⟨[117,112],3,1,1,0,0,[],false⟩:a0v)],[(0:Int)],false⟩:a0q)),(x9 (⟨[115,119,105,116,99,104],[(⟨[110,97,109,101],2,1,1,0,0,[],false⟩:a0v),(⟨[99,111,117,110,116],1,1,1,(-1000),1000,[],false⟩:a0v),(⟨[112,111,114,116,115],4,0,8,0,0,[112,111,114,116],true⟩:a0v)],[(0:Int)],true⟩:a0q))]) rfl (fun _ => by decide) ⟨rfl,⟨rfl,⟨rfl,tr⟩⟩⟩ (.cons (.agg (.cons .r (.cons .r (.cons (.nil _) (.cons .r .nil))))) (.cons .r (.cons .r .nil))) rfl rfl rfl) ?_
 refine o8 (.agg [(.own 7 0 3)]) rfl ⟨⟨rfl,nle,tr⟩,tr⟩ rfl<|a3o (a0e (v:=(.agg [(.own 7 0 3)])) (y':=(.agg [(.own 7 0 3)])) rfl rfl rfl tr ⟨rfl,nle⟩ ⟨⟨rfl,tr⟩,tr⟩ rfl)<|dk<|a0b<|?_;obtain rfl:=os hf;exact e0a ⟨nle,tr⟩ rfl (by decide) .r

/- spec.l00Source -/
def d3g:a0s :=
 (.seq (.reg (tm 2 (.c .undef) .done))
 (.seq (.reg (tm 3 (.t 0) (tm 4 (.t 0) (tq 5 (.len (.t 4)) (tq 6 (.bin .rem (.t 5) (.c (.int .i64 1000))) (tq 7 (.build [.nil,(.int .i64 0),(.int .i64 0)] [(0,1,(.t 3)),(2,1,(.t 6))]) (tq 8 (.box 3 (.t 7)) (tm 2 (.t 8) .done))))))))
 .ret))
theorem d7t:a1e Tryz.prog Tryz.f102 = some (d3g.erase,[.mov (.t 2)],9):=by kernel_rfl
def b0l (A:(List Int)):Option a0h :=
    some (⟨A,0,(A.length:Int).tmod 1000⟩:a0h)
theorem w_spec_l00Source (A:(List Int)) (r:a0h) (hf:b0l A = some r):a1u Tryz.prog true 102 [(.lst 1 (A.map a0c))] [] (.ptr 0 0 0) [.box 3 (.agg [(.lst 1 (r.Code.map a0c)),(.I r.At),(.I r.Seed)])]:=by
  refine a1u.of_awp mixed Tryz.func102 d7t nle ?_
  rw [a0n]
  unfold b0l at hf
  unfold d3g
  refine (show awp Tryz.prog true 0 _ (ofL [(0,(.lst 1 (A.map a0c)))]) [] _ from ?_)
  refine o7 ?_
  refine a0r ?_
  refine x8 (a2w .undef rfl) ?_
  refine y5 ?_
  refine a0m ?_
  refine o7 ?_
  refine a0r ?_
  refine x8 (a2w (.lst 1 (A.map a0c)) rfl) ?_
  refine x8 (a2w (.lst 1 (A.map a0c)) rfl) ?_
  refine a1i (a1p (enc:=a0c) rfl) fun hl2 => ?_
  refine x8 (o_q (.I ((A.length:Int).tmod 1000)) rfl ⟨rfl,by decide⟩ rfl) ?_
  refine x8 (o_q (.agg [(.lst 1 (A.map a0c)),(.I 0),(.I ((A.length:Int).tmod 1000))]) rfl ⟨⟨rfl,nle,tr⟩,⟨⟨rfl,nle,tr⟩,tr⟩⟩ rfl) ?_
  refine x8 (a1j (j:=0) (c:=(.agg [(.lst 1 (A.map a0c)),(.I 0),(.I ((A.length:Int).tmod 1000))])) rfl tr rfl rfl) ?_
  refine x8 (a2w (.ptr 0 0 0) rfl) ?_
  refine y5 ?_
  refine a0m ?_
  refine a0b ?_
  obtain rfl:=os hf
  exact a3u [] [0] rfl ⟨tr,tr⟩ rfl .r .r

/- (*spec.l00Src).byte -/
def d3h:a0s :=
 (.seq (.reg (tm 2 (.c (.int .i64 0)) .done))
 (.seq (.reg (tm 3 (.t 0) (tq 4 (.nilck (.t 3)) (tq 5 (.faddr 1 (.t 4)) (tq 6 (.load 1 false (.t 5)) (tq 7 (.bin .add (.t 6) (.c (.int .i64 1))) (tq 8 (.nilck (.t 3)) (tq 9 (.faddr 1 (.t 8)) (.q ⟨none,none,.store 1 (.t 9) (.t 7)⟩
 .done)))))))))
 (.seq (.seq (.reg (tm 10 (.t 0) (tq 11 (.nilck (.t 10)) (tq 12 (.faddr 1 (.t 11)) (tq 13 (.load 1 false (.t 12)) (tm 14 (.t 0) (tq 15 (.nilck (.t 14)) (tq 16 (.faddr 0 (.t 15)) (tq 17 (.load 1 false (.t 16)) (tq 18 (.len (.t 17)) (tq 19 (.bin .leq (.t 13) (.t 18)) .done)))))))))))
 (.cond (.t 19) (.seq (.reg (tm 20 (.t 0) (tm 21 (.t 0) (tq 22 (.nilck (.t 21)) (tq 23 (.faddr 2 (.t 22)) (tq 24 (.load 1 false (.t 23)) (tq 25 (.bin .mul (.t 24) (.c (.int .i64 31))) (tm 26 (.t 0) (tq 27 (.nilck (.t 26)) (tq 28 (.faddr 0 (.t 27)) (tq 29 (.load 1 false (.t 28)) (tm 30 (.t 0) (tq 31 (.nilck (.t 30)) (tq 32 (.faddr 1 (.t 31)) (tq 33 (.load 1 false (.t 32)) (tq 34 (.bin .sub (.t 33) (.c (.int .i64 1))) (tq 35 (.iaddr 1 (.t 29) (.t 34)) (tq 36 (.load 1 false (.t 35)) (tq 37 (.convI .i64 (.t 36)) (tq 38 (.bin .add (.t 25) (.t 37)) (tq 39 (.bin .add (.t 38) (.c (.int .i64 7))) (tq 40 (.bin .rem (.t 39) (.c (.int .i64 2147483648))) (tq 41 (.nilck (.t 20)) (tq 42 (.faddr 2 (.t 41)) (.l ⟨none,none,.store 1 (.t 42) (.t 40)⟩ []
 .done .non)))))))))))))))))))))))))
 (.seq (.reg (tm 43 (.t 0) (tq 44 (.nilck (.t 43)) (tq 45 (.faddr 0 (.t 44)) (tq 46 (.load 1 false (.t 45)) (tm 47 (.t 0) (tq 48 (.nilck (.t 47)) (tq 49 (.faddr 1 (.t 48)) (tq 50 (.load 1 false (.t 49)) (tq 51 (.bin .sub (.t 50) (.c (.int .i64 1))) (tq 52 (.iaddr 1 (.t 46) (.t 51)) (tq 53 (.load 1 false (.t 52)) (tq 54 (.convI .i64 (.t 53)) (tm 2 (.t 54) .done))))))))))))))
 .ret))
 .skip))
 (.seq (.seq (.reg (tm 55 (.t 0) (tq 56 (.nilck (.t 55)) (tq 57 (.faddr 1 (.t 56)) (tq 58 (.load 1 false (.t 57)) (tq 59 (.bin .gtr (.t 58) (.c (.int .i64 3000))) .done))))))
 (.cond (.t 59) (.seq (.reg (tm 2 (.c (.int .i64 0)) .done))
 .ret)
 .skip))
 (.seq (.reg (tm 60 (.t 0) (tm 61 (.t 0) (tq 62 (.nilck (.t 61)) (tq 63 (.faddr 2 (.t 62)) (tq 64 (.load 1 false (.t 63)) (tq 65 (.bin .mul (.t 64) (.c (.int .i64 1103515245))) (tq 66 (.bin .add (.t 65) (.c (.int .i64 12345))) (tq 67 (.bin .rem (.t 66) (.c (.int .i64 2147483648))) (tq 68 (.nilck (.t 60)) (tq 69 (.faddr 2 (.t 68)) (.q ⟨none,none,.store 1 (.t 69) (.t 67)⟩
 .done))))))))))))
 (.seq (.reg (tm 70 (.t 0) (tq 71 (.nilck (.t 70)) (tq 72 (.faddr 2 (.t 71)) (tq 73 (.load 1 false (.t 72)) (tq 74 (.bin .quo (.t 73) (.c (.int .i64 65536))) (tq 75 (.bin .rem (.t 74) (.c (.int .i64 256))) (tm 2 (.t 75) .done))))))))
 .ret))))))
theorem d7u:a1e Tryz.prog Tryz.f253 = some (d3h.erase,[.mov (.t 2)],76):=by kernel_rfl
def a4k (A:a0h):Option (Int × a0h) :=
    if (decide (w64 (A.At + 1) ≤ (A.Code.length:Int))) then
    (idx A.Code (w64 ((w64 (A.At + 1)) - 1))).bind fun B =>
    (idx A.Code (w64 ((w64 (A.At + 1)) - 1))).bind fun D =>
    some (w64 D,(⟨A.Code,w64 (A.At + 1),(w64 ((w64 ((w64 (A.Seed * 31)) + (w64 B))) + 7)).tmod 2147483648⟩:a0h))
    else
    if (decide (w64 (A.At + 1) > 3000)) then
    some (0,(⟨A.Code,w64 (A.At + 1),A.Seed⟩:a0h))
    else
    some ((w64 (((w64 ((w64 (A.Seed * 1103515245)) + 12345)).tmod 2147483648).tdiv 65536)).tmod 256,(⟨A.Code,w64 (A.At + 1),(w64 ((w64 (A.Seed * 1103515245)) + 12345)).tmod 2147483648⟩:a0h))
theorem a9m (A:a0h) (r:(Int × a0h)) (hf:a4k A = some r):a1u Tryz.prog true 253 [(.ptr 0 0 0)] [.box 3 (.agg [(.lst 1 (A.Code.map a0c)),(.I A.At),(.I A.Seed)])] (.I r.1) [.box 3 (.agg [(.lst 1 (r.2.Code.map a0c)),(.I r.2.At),(.I r.2.Seed)])]:=by
 refine a1u.of_awp mixed Tryz.func253 d7u nle ?_;rw [a0n];unfold a4k at hf;unfold d3h;refine (show awp Tryz.prog true 1 _ (ofL [(0,(.ptr 0 0 0))]) [.box 3 (.agg [(.lst 1 (A.Code.map a0c)),(.I A.At),(.I A.Seed)])] _ from ?_);refine sr<|l7 (.I 0) rfl<|dk<|sr<|l7 (.ptr 0 0 0) rfl<|o8 (.ptr 0 0 0) rfl tr rfl<|o8 (.ptr 0 0 1) rfl tr rfl<|o8 (.I A.At) rfl nle rfl<|o8 (.I (w64 (A.At + 1))) rfl rfl rfl<|o8 (.ptr 0 0 0) rfl tr rfl<|o8 (.ptr 0 0 1) rfl tr rfl<|a3o (a0e (v:=(.I (w64 (A.At + 1)))) (y':=(.agg [(.lst 1 (A.Code.map a0c)),(.I (w64 (A.At + 1))),(.I A.Seed)])) rfl rfl rfl tr ⟨rfl,nle⟩ ⟨⟨rfl,tr⟩,tr⟩ rfl)<|?_
 refine dk<|o7<|sr<|l7 (.ptr 0 0 0) rfl<|o8 (.ptr 0 0 0) rfl tr rfl<|o8 (.ptr 0 0 1) rfl tr rfl<|o8 (.I (w64 (A.At + 1))) rfl nle rfl<|l7 (.ptr 0 0 0) rfl<|o8 (.ptr 0 0 0) rfl tr rfl<|o8 (.ptr 0 0 0) rfl tr rfl<|o8 (.lst 1 (A.Code.map a0c)) rfl nle rfl<|a1i (a1p (enc:=a0c) rfl) fun hl2 => o8 (.bool (decide (w64 (A.At + 1) ≤ (A.Code.length:Int)))) rfl rfl rfl<|dk<|?_
 rcases oi hf with ⟨c3,hf⟩ | ⟨c3,hf⟩
 ·refine y8 rfl c3<|sr<|l7 (.ptr 0 0 0) rfl<|l7 (.ptr 0 0 0) rfl<|o8 (.ptr 0 0 0) rfl tr rfl<|o8 (.ptr 0 0 2) rfl tr rfl<|o8 (.I A.Seed) rfl nle rfl<|o8 (.I (w64 (A.Seed * 31))) rfl rfl rfl<|l7 (.ptr 0 0 0) rfl<|o8 (.ptr 0 0 0) rfl tr rfl<|o8 (.ptr 0 0 0) rfl tr rfl<|o8 (.lst 1 (A.Code.map a0c)) rfl nle rfl<|l7 (.ptr 0 0 0) rfl<|o8 (.ptr 0 0 0) rfl tr rfl<|o8 (.ptr 0 0 1) rfl tr rfl<|o8 (.I (w64 (A.At + 1))) rfl nle rfl<|o8 (.I (w64 ((w64 (A.At + 1)) - 1))) rfl rfl rfl<|?_
  obtain ⟨B,ex5,hf⟩:=ob hf
  refine x8 (a2t (enc:=a0c) rfl rfl (a8n ex5) (a8o ex5))<|o8 (.int .u8 B) rfl ⟨rfl,rfl⟩ rfl<|o8 (.I (w64 B)) rfl tr rfl<|o8 (.I (w64 ((w64 (A.Seed * 31)) + (w64 B)))) rfl rfl rfl<|o8 (.I (w64 ((w64 ((w64 (A.Seed * 31)) + (w64 B))) + 7))) rfl rfl rfl<|o8 (.I ((w64 ((w64 ((w64 (A.Seed * 31)) + (w64 B))) + 7)).tmod 2147483648)) rfl ⟨rfl,by decide⟩ rfl<|o8 (.ptr 0 0 0) rfl tr rfl<|o8 (.ptr 0 0 2) rfl tr rfl<|a4h (a0e (v:=(.I ((w64 ((w64 ((w64 (A.Seed * 31)) + (w64 B))) + 7)).tmod 2147483648))) (y':=(.agg [(.lst 1 (A.Code.map a0c)),(.I (w64 (A.At + 1))),(.I ((w64 ((w64 ((w64 (A.Seed * 31)) + (w64 B))) + 7)).tmod 2147483648))])) rfl rfl rfl tr ⟨rfl,nle⟩ ⟨⟨rfl,tr⟩,tr⟩ rfl) tr tr<|?_
  refine dk<|sr<|l7 (.ptr 0 0 0) rfl<|o8 (.ptr 0 0 0) rfl tr rfl<|o8 (.ptr 0 0 0) rfl tr rfl<|o8 (.lst 1 (A.Code.map a0c)) rfl nle rfl<|l7 (.ptr 0 0 0) rfl<|o8 (.ptr 0 0 0) rfl tr rfl<|o8 (.ptr 0 0 1) rfl tr rfl<|o8 (.I (w64 (A.At + 1))) rfl nle rfl<|o8 (.I (w64 ((w64 (A.At + 1)) - 1))) rfl rfl rfl<|?_
  obtain ⟨D,ex7,hf⟩:=ob hf
  refine x8 (a2t (enc:=a0c) rfl rfl (a8n ex7) (a8o ex7))<|o8 (.int .u8 D) rfl ⟨rfl,rfl⟩ rfl<|o8 (.I (w64 D)) rfl tr rfl<|l7 (.I (w64 D)) rfl<|dk<|a0b<|?_;obtain rfl:=os hf;exact a3u [] [0] rfl ⟨tr,tr⟩ rfl .r .r
 ·refine y9 rfl (bf c3)<|a0k<|a0m<|o7<|sr<|l7 (.ptr 0 0 0) rfl<|o8 (.ptr 0 0 0) rfl tr rfl<|o8 (.ptr 0 0 1) rfl tr rfl<|o8 (.I (w64 (A.At + 1))) rfl nle rfl<|o8 (.bool (decide (w64 (A.At + 1) > 3000))) rfl rfl rfl<|dk<|?_
  rcases oi hf with ⟨c8,hf⟩ | ⟨c8,hf⟩
  ·refine y8 rfl c8<|sr<|l7 (.I 0) rfl<|dk<|a0b<|?_;obtain rfl:=os hf;exact a3u [] [0] rfl ⟨tr,tr⟩ rfl .r .r
  ·refine y9 rfl (bf c8)<|a0k<|a0m<|sr<|l7 (.ptr 0 0 0) rfl<|l7 (.ptr 0 0 0) rfl<|o8 (.ptr 0 0 0) rfl tr rfl<|o8 (.ptr 0 0 2) rfl tr rfl<|o8 (.I A.Seed) rfl nle rfl<|o8 (.I (w64 (A.Seed * 1103515245))) rfl rfl rfl<|o8 (.I (w64 ((w64 (A.Seed * 1103515245)) + 12345))) rfl rfl rfl<|o8 (.I ((w64 ((w64 (A.Seed * 1103515245)) + 12345)).tmod 2147483648)) rfl ⟨rfl,by decide⟩ rfl<|o8 (.ptr 0 0 0) rfl tr rfl<|o8 (.ptr 0 0 2) rfl tr rfl<|a3o (a0e (v:=(.I ((w64 ((w64 (A.Seed * 1103515245)) + 12345)).tmod 2147483648))) (y':=(.agg [(.lst 1 (A.Code.map a0c)),(.I (w64 (A.At + 1))),(.I ((w64 ((w64 (A.Seed * 1103515245)) + 12345)).tmod 2147483648))])) rfl rfl rfl tr ⟨rfl,nle⟩ ⟨⟨rfl,tr⟩,tr⟩ rfl)<|?_
   refine dk<|sr<|l7 (.ptr 0 0 0) rfl<|o8 (.ptr 0 0 0) rfl tr rfl<|o8 (.ptr 0 0 2) rfl tr rfl<|o8 (.I ((w64 ((w64 (A.Seed * 1103515245)) + 12345)).tmod 2147483648)) rfl nle rfl<|o8 (.I (w64 (((w64 ((w64 (A.Seed * 1103515245)) + 12345)).tmod 2147483648).tdiv 65536))) rfl ⟨rfl,by decide⟩ rfl<|o8 (.I ((w64 (((w64 ((w64 (A.Seed * 1103515245)) + 12345)).tmod 2147483648).tdiv 65536)).tmod 256)) rfl ⟨rfl,by decide⟩ rfl<|l7 (.I ((w64 (((w64 ((w64 (A.Seed * 1103515245)) + 12345)).tmod 2147483648).tdiv 65536)).tmod 256)) rfl<|dk<|a0b<|?_;obtain rfl:=os hf;exact a3u [] [0] rfl ⟨tr,tr⟩ rfl .r .r

/- (*spec.l00Src).next -/
def d3i:a0s :=
 (.seq (.reg (tm 4 (.c (.int .i64 0)) .done))
 (.seq (.seq (.reg (tm 8 (.t 1) (tq 9 (.bin .leq (.t 8) (.c (.int .i64 1))) .done)))
 (.cond (.t 9) (.seq (.reg (tm 4 (.c (.int .i64 0)) .done))
 .ret)
 .skip))
 (.seq (.seq (.reg (tm 10 (.t 1) (tq 11 (.bin .leq (.t 10) (.c (.int .i64 256))) .done)))
 (.cond (.t 11) (.seq (.reg (tm 12 (.t 0) (tq 13 (.call 253 [(.t 12)]) (tm 14 (.t 1) (tq 15 (.bin .rem (.t 13) (.t 14)) (tm 4 (.t 15) .done))))))
 .ret)
 .skip))
 (.seq (.reg (tm 16 (.t 0) (tq 17 (.call 253 [(.t 16)]) (tm 5 (.t 17) .done))))
 (.seq (.reg (tm 18 (.t 0) (tq 19 (.call 253 [(.t 18)]) (tm 6 (.t 19) .done))))
 (.seq (.reg (tm 20 (.t 0) (tq 21 (.call 253 [(.t 20)]) (tm 7 (.t 21) .done))))
 (.seq (.reg (tm 22 (.t 5) (tq 23 (.bin .mul (.t 22) (.c (.int .i64 65536))) (tm 24 (.t 6) (tq 25 (.bin .mul (.t 24) (.c (.int .i64 256))) (tq 26 (.bin .add (.t 23) (.t 25)) (tm 27 (.t 7) (tq 28 (.bin .add (.t 26) (.t 27)) (tm 29 (.t 1) (tq 30 (.bin .rem (.t 28) (.t 29)) (tm 4 (.t 30) .done)))))))))))
 .ret)))))))
theorem d7v:a1e Tryz.prog Tryz.f123 = some (d3i.erase,[.mov (.t 4)],31):=by kernel_rfl
def a3z (A:Int) (F:a0h):Option (Int × a0h) :=
    if (decide (A ≤ 1)) then
    some (0,F)
    else
    if (decide (A ≤ 256)) then
    (a4k F).bind fun G =>
    if A ≠ 0 then
    some (G.1.tmod A,G.2)
    else none
    else
    (a4k F).bind fun E =>
    (a4k E.2).bind fun B =>
    (a4k B.2).bind fun D =>
    if A ≠ 0 then
    some ((w64 ((w64 ((w64 (E.1 * 65536)) + (w64 (B.1 * 256)))) + D.1)).tmod A,D.2)
    else none
theorem b4v (A:Int) (F:a0h) (r:(Int × a0h)) (hf:a3z A F = some r):a1u Tryz.prog true 123 [(.ptr 0 0 0),(.I A)] [.box 3 (.agg [(.lst 1 (F.Code.map a0c)),(.I F.At),(.I F.Seed)])] (.I r.1) [.box 3 (.agg [(.lst 1 (r.2.Code.map a0c)),(.I r.2.At),(.I r.2.Seed)])]:=by
 refine a1u.of_awp mixed Tryz.func123 d7v nle ?_;rw [a0n];unfold a3z at hf;unfold d3i;refine (show awp Tryz.prog true 1 _ (ofL [(0,(.ptr 0 0 0)),(1,(.I A))]) [.box 3 (.agg [(.lst 1 (F.Code.map a0c)),(.I F.At),(.I F.Seed)])] _ from ?_);refine sr<|l7 (.I 0) rfl<|dk<|o7<|sr<|l7 (.I A) rfl<|o8 (.bool (decide (A ≤ 1))) rfl rfl rfl<|dk<|?_
 rcases oi hf with ⟨c3,hf⟩ | ⟨c3,hf⟩
 ·refine y8 rfl c3<|sr<|l7 (.I 0) rfl<|dk<|a0b<|?_;obtain rfl:=os hf;exact a3u [] [0] rfl ⟨tr,tr⟩ rfl .r .r
 ·refine y9 rfl (bf c3)<|a0k<|a0m<|o7<|sr<|l7 (.I A) rfl<|o8 (.bool (decide (A ≤ 256))) rfl rfl rfl<|dk<|?_
  rcases oi hf with ⟨c4,hf⟩ | ⟨c4,hf⟩
  ·refine y8 rfl c4<|sr<|?_
   obtain ⟨G,er6,hf⟩:=ob hf
   obtain ⟨g7,hf⟩:=og hf
   refine l7 (.ptr 0 0 0) rfl ?_;refine x8 (a0u (v:=(.I G.1)) (h2:=[.box 3 (.agg [(.lst 1 (G.2.Code.map a0c)),(.I G.2.At),(.I G.2.Seed)])]) [] [0] (fun _ => rfl) (a9m _ _ er6) rfl .r .r rfl rfl) ?_;refine l7 (.I A) rfl<|o8 (.I (G.1.tmod A)) rfl ⟨rfl,g7⟩ rfl<|l7 (.I (G.1.tmod A)) rfl<|dk<|a0b<|?_;obtain rfl:=os hf;exact a3u [] [0] rfl ⟨tr,tr⟩ rfl .r .r
  ·refine y9 rfl (bf c4)<|a0k<|a0m<|sr<|?_
   obtain ⟨E,er9,hf⟩:=ob hf
   refine l7 (.ptr 0 0 0) rfl ?_;refine x8 (a0u (v:=(.I E.1)) (h2:=[.box 3 (.agg [(.lst 1 (E.2.Code.map a0c)),(.I E.2.At),(.I E.2.Seed)])]) [] [0] (fun _ => rfl) (a9m _ _ er9) rfl .r .r rfl rfl) ?_;refine l7 (.I E.1) rfl<|dk<|sr<|?_
   obtain ⟨B,er11,hf⟩:=ob hf
   refine l7 (.ptr 0 0 0) rfl ?_;refine x8 (a0u (v:=(.I B.1)) (h2:=[.box 3 (.agg [(.lst 1 (B.2.Code.map a0c)),(.I B.2.At),(.I B.2.Seed)])]) [] [0] (fun _ => rfl) (a9m _ _ er11) rfl .r .r rfl rfl) ?_;refine l7 (.I B.1) rfl<|dk<|sr<|?_
   obtain ⟨D,er13,hf⟩:=ob hf
   refine l7 (.ptr 0 0 0) rfl ?_;refine x8 (a0u (v:=(.I D.1)) (h2:=[.box 3 (.agg [(.lst 1 (D.2.Code.map a0c)),(.I D.2.At),(.I D.2.Seed)])]) [] [0] (fun _ => rfl) (a9m _ _ er13) rfl .r .r rfl rfl) ?_;refine l7 (.I D.1) rfl<|dk<|sr<|?_
   obtain ⟨g14,hf⟩:=og hf
   refine l7 (.I E.1) rfl<|o8 (.I (w64 (E.1 * 65536))) rfl rfl rfl<|l7 (.I B.1) rfl<|o8 (.I (w64 (B.1 * 256))) rfl rfl rfl<|o8 (.I (w64 ((w64 (E.1 * 65536)) + (w64 (B.1 * 256))))) rfl rfl rfl<|l7 (.I D.1) rfl<|o8 (.I (w64 ((w64 ((w64 (E.1 * 65536)) + (w64 (B.1 * 256)))) + D.1))) rfl rfl rfl<|l7 (.I A) rfl<|o8 (.I ((w64 ((w64 ((w64 (E.1 * 65536)) + (w64 (B.1 * 256)))) + D.1)).tmod A)) rfl ⟨rfl,g14⟩ rfl<|l7 (.I ((w64 ((w64 ((w64 (E.1 * 65536)) + (w64 (B.1 * 256)))) + D.1)).tmod A)) rfl<|dk<|a0b<|?_;obtain rfl:=os hf;exact a3u [] [0] rfl ⟨tr,tr⟩ rfl .r .r

/- (*spec.l00Src).chance -/
def d3j:a0s :=
 (.seq (.reg (tm 4 (.c (.bool false)) .done))
 (.seq (.reg (tm 5 (.t 0) (tm 6 (.t 1) (tq 7 (.call 123 [(.t 5),(.t 6)]) (tm 8 (.t 1) (tq 9 (.bin .sub (.t 8) (.c (.int .i64 1))) (tq 10 (.bin .eql (.t 7) (.t 9)) (tm 4 (.t 10) .done))))))))
 .ret))
theorem d7w:a1e Tryz.prog Tryz.f220 = some (d3j.erase,[.mov (.t 4)],11):=by kernel_rfl
def a3e (A:Int) (B:a0h):Option (Bool × a0h) :=
    (a3z A B).bind fun D =>
    some ((D.1 == w64 (A - 1)),D.2)
theorem w_spec_l00Src_chance (A:Int) (B:a0h) (r:(Bool × a0h)) (hf:a3e A B = some r):a1u Tryz.prog true 220 [(.ptr 0 0 0),(.I A)] [.box 3 (.agg [(.lst 1 (B.Code.map a0c)),(.I B.At),(.I B.Seed)])] (.bool r.1) [.box 3 (.agg [(.lst 1 (r.2.Code.map a0c)),(.I r.2.At),(.I r.2.Seed)])]:=by
 refine a1u.of_awp mixed Tryz.func220 d7w nle ?_;rw [a0n];unfold a3e at hf;unfold d3j;refine (show awp Tryz.prog true 1 _ (ofL [(0,(.ptr 0 0 0)),(1,(.I A))]) [.box 3 (.agg [(.lst 1 (B.Code.map a0c)),(.I B.At),(.I B.Seed)])] _ from ?_);refine sr<|l7 (.bool false) rfl<|dk<|sr<|?_
 obtain ⟨D,er4,hf⟩:=ob hf
 refine l7 (.ptr 0 0 0) rfl<|l7 (.I A) rfl<|?_;refine x8 (a0u (v:=(.I D.1)) (h2:=[.box 3 (.agg [(.lst 1 (D.2.Code.map a0c)),(.I D.2.At),(.I D.2.Seed)])]) [] [0] (fun _ => rfl) (b4v _ _ _ er4) rfl .r .r rfl rfl) ?_;refine l7 (.I A) rfl<|o8 (.I (w64 (A - 1))) rfl rfl rfl<|o8 (.bool (D.1 == w64 (A - 1))) rfl rfl rfl<|l7 (.bool (D.1 == w64 (A - 1))) rfl<|dk<|a0b<|?_;obtain rfl:=os hf;exact a3u [] [0] rfl ⟨tr,tr⟩ rfl .r .r

/- (*spec.l00Src).pick -/
def d3k:a0s :=
 (.seq (.reg (tm 4 (.c (.str [])) .done))
 (.seq (.seq (.reg (tm 5 (.t 1) (tq 6 (.len (.t 5)) (tq 7 (.bin .eql (.t 6) (.c (.int .i64 0))) .done))))
 (.cond (.t 7) (.seq (.reg (tm 4 (.c (.str [])) .done))
 .ret)
 .skip))
 (.seq (.reg (tm 8 (.t 1) (tm 9 (.t 0) (tm 10 (.t 1) (tq 11 (.len (.t 10)) (tq 12 (.call 123 [(.t 9),(.t 11)]) (tq 13 (.iaddr 1 (.t 8) (.t 12)) (tq 14 (.load 1 false (.t 13)) (tm 4 (.t 14) .done)))))))))
 .ret)))
theorem d7x:a1e Tryz.prog Tryz.f334 = some (d3k.erase,[.mov (.t 4)],15):=by kernel_rfl
def a6y (A:(List Str)) (B:a0h):Option (Str × a0h) :=
    if ((A.length:Int) == 0) then
    some ([],B)
    else
    (a3z (A.length:Int) B).bind fun D =>
    (idx A D.1).bind fun E =>
    some (E,D.2)
theorem w_spec_l00Src_pick (A:(List Str)) (B:a0h) (r:(Str × a0h)) (hf:a6y A B = some r):a1u Tryz.prog true 334 [(.ptr 0 0 0),(.lst 1 (A.map AV.str))] [.box 3 (.agg [(.lst 1 (B.Code.map a0c)),(.I B.At),(.I B.Seed)])] (.str r.1) [.box 3 (.agg [(.lst 1 (r.2.Code.map a0c)),(.I r.2.At),(.I r.2.Seed)])]:=by
 refine a1u.of_awp mixed Tryz.func334 d7x nle ?_;rw [a0n];unfold a6y at hf;unfold d3k;refine (show awp Tryz.prog true 1 _ (ofL [(0,(.ptr 0 0 0)),(1,(.lst 1 (A.map AV.str)))]) [.box 3 (.agg [(.lst 1 (B.Code.map a0c)),(.I B.At),(.I B.Seed)])] _ from ?_);refine sr<|l7 (.str []) rfl<|dk<|o7<|sr<|l7 (.lst 1 (A.map AV.str)) rfl<|a1i (a1p (enc:=AV.str) rfl) fun hl3 => o8 (.bool ((A.length:Int) == 0)) rfl rfl rfl<|dk<|?_
 rcases oi hf with ⟨c4,hf⟩ | ⟨c4,hf⟩
 ·refine y8 rfl c4<|sr<|l7 (.str []) rfl<|dk<|a0b<|?_;obtain rfl:=os hf;exact a3u [] [0] rfl ⟨tr,tr⟩ rfl .r .r
 ·refine y9 rfl (bf c4)<|a0k<|a0m<|sr<|?_
  obtain ⟨D,er7,hf⟩:=ob hf
  obtain ⟨E,ex9,hf⟩:=ob hf
  refine l7 (.lst 1 (A.map AV.str)) rfl<|l7 (.ptr 0 0 0) rfl<|l7 (.lst 1 (A.map AV.str)) rfl<|a1i (a1p (enc:=AV.str) rfl) fun hl5 => ?_;refine x8 (a0u (v:=(.I D.1)) (h2:=[.box 3 (.agg [(.lst 1 (D.2.Code.map a0c)),(.I D.2.At),(.I D.2.Seed)])]) [] [0] (fun _ => rfl) (b4v _ _ _ er7) rfl .r .r rfl rfl) ?_;refine x8 (a2t (enc:=AV.str) rfl rfl (a8n ex9) (a8o ex9))<|o8 (.str E) rfl ⟨rfl,rfl⟩ rfl<|l7 (.str E) rfl<|dk<|a0b<|?_;obtain rfl:=os hf;exact a3u [] [0] rfl ⟨tr,tr⟩ rfl .r .r

/- spec.l03Has -/
def d4x:a0s :=
 (.seq (.reg (tq 3 (.box 3 (.t 1)) (tm 4 (.c (.bool false)) .done)))
 (.seq (.seq (.reg (tm 5 (.c (.int .i64 0)) .done))
 (.block 0 (.loop (.seq (.seq (.reg (tm 6 (.t 5) (tm 7 (.t 0) (tq 8 (.len (.t 7)) (tq 9 (.bin .lss (.t 6) (.t 8)) .done)))))
 (.cond (.t 9) .skip
 (.exit 0)))
 (.seq (.block 1 (.seq (.reg (tm 12 (.t 0) (tm 13 (.t 5) (tq 14 (.iaddr 3 (.t 12) (.t 13)) (tq 15 (.load 3 true (.t 14)) (tq 16 (.load 3 true (.t 3)) (tq 17 (.eqs false [0,0,2] (.t 15) (.t 16)) .done)))))))
 (.cond (.t 17) (.seq (.reg (tm 4 (.c (.bool true)) .done))
 .ret)
 .skip)))
 (.reg (tm 10 (.t 5) (tq 11 (.bin .add (.t 10) (.c (.int .i64 1))) (tm 5 (.t 11) .done)))))))))
 (.cut (.seq (.reg (tm 4 (.c (.bool false)) .done))
 .ret))))
theorem e2h:a1e Tryz.prog Tryz.f327 = some (d4x.erase,[.mov (.t 4)],18):=by kernel_rfl
def a6j (A:a1c):List a1c → Option (Fl Bool Unit)
  | [] =>
    some (.go ())
  | E :: xs =>
    if (E.Kind == A.Kind && (E.N == A.N && (E.T == A.T && true))) then
    some (.ret true)
    else
    a6j A xs 

def b3u (D:(List a1c)) (A:a1c):Option Bool :=
    (a6j A D ).bind fun q => (match q with
    | .ret r => some r
    | .go _ =>
    some false)
theorem c6h (D:(List a1c)) (A:a1c) (r:Bool) (hf:b3u D A = some r):a0a Tryz.prog 327 .flat [(.lst 3 (D.map l9)),(l9 A)] (.bool r):=by
 refine a0a.of_awp mixed Tryz.func327 e2h nle ?_;rw [a0n];unfold b3u at hf;unfold d4x;refine (show awp Tryz.prog false 0 _ (ofL [(0,(.lst 3 (D.map l9))),(1,(l9 A))]) [] _ from ?_);refine sr<|x8 (a1j (j:=0) (c:=(.agg [(.I A.Kind),(.I A.N),(.str A.T)])) rfl tr rfl rfl)<|l7 (.bool false) rfl<|dk<|o7<|sr<|l7 (.I 0) rfl<|dk<|?_
 obtain ⟨p21,hb1,hf⟩:=ob hf
 refine a2c (X:={q:Unit // p21 = .go q}) (fun q => ([],[])) ?_ ?_
 ·refine a1v (X:={q:Nat // a6j A (D.drop q)  = some p21}) (fun q => ([(0,(.lst 3 (D.map l9))),(3,(.ptr 0 0 0)),(5,(.I (q.1:Int)))],[.box 3 (.agg [(.I A.Kind),(.I A.N),(.str A.T)])])) (fun q => D.length - q.1) ⟨0,hb1⟩ ⟨[],[0],_,_,rfl,rfl,⟨.r,⟨.r,⟨.r,tr⟩⟩⟩,.r⟩ ?_
  rintro ⟨B,hc1⟩
  have hc1:a6j A (D.drop B)  = some p21:=hc1
  refine (show awp Tryz.prog false 0 _ (ofL [(0,(.lst 3 (D.map l9))),(3,(.ptr 0 0 0)),(5,(.I (B:Int)))]) [.box 3 (.agg [(.I A.Kind),(.I A.N),(.str A.T)])] _ from ?_)
  rcases a6c D B with ⟨hie24,hd27⟩ | ⟨hlt22,E,hx23,hd27⟩
  ·rw [hd27,a6j.eq_1] at hc1
   have hq26:=dlf hie24
   refine o7<|sr<|l7 (.I (B:Int)) rfl<|l7 (.lst 3 (D.map l9)) rfl<|a1i (a1p (enc:=l9) rfl) fun hl29 => o8 (.bool (decide ((B:Int) < (D.length:Int)))) rfl rfl rfl<|dk<|y9 rfl hq26<|a3i<|a3h<|a2e<|a3g<|?_;obtain rfl:=os hc1;exact a4b ⟨_,rfl⟩ ⟨[],[],_,_,rfl,rfl,tr,.r⟩
  ·rw [hd27,a6j.eq_2] at hc1
   have hq26:=dlt hlt22
   refine o7<|sr<|l7 (.I (B:Int)) rfl<|l7 (.lst 3 (D.map l9)) rfl<|a1i (a1p (enc:=l9) rfl) fun hl30 => o8 (.bool (decide ((B:Int) < (D.length:Int)))) rfl rfl rfl<|dk<|y8 rfl hq26<|a0k<|a0m<|o7<|a3y<|sr<|l7 (.lst 3 (D.map l9)) rfl<|l7 (.I (B:Int)) rfl<|x8 (a1o (enc:=l9) rfl rfl hx23)<|o8 (l9 E) rfl nle rfl<|o8 (.agg [(.I A.Kind),(.I A.N),(.str A.T)]) rfl nle rfl<|o8 (.bool (E.Kind == A.Kind && (E.N == A.N && (E.T == A.T && true)))) rfl ⟨⟨rfl,rfl⟩,⟨⟨rfl,rfl⟩,⟨rfl,tr⟩⟩⟩ rfl<|?_
   refine dk<|?_
   rcases oi hc1 with ⟨c31,hc1⟩ | ⟨c31,hc1⟩
   ·refine y8 rfl c31<|sr<|l7 (.bool true) rfl<|dk<|a0b<|?_;obtain rfl:=os hc1;obtain rfl:=os hf;exact y7 ⟨tr,tr⟩ rfl .r
   ·refine y9 rfl (bf c31)<|a0k<|a2y<|a0m<|a0r<|l7 (.I (B:Int)) rfl<|o8 (.I (w64 ((B:Int) + 1))) rfl rfl rfl<|l7 (.I (w64 ((B:Int) + 1))) rfl<|y5<|?_;exact a1z ⟨(B + 1),hc1⟩ (mul hlt22) ⟨[],[0],_,_,rfl,rfl,⟨.r,⟨.r,⟨.of_eq (congrArg (AV.int _) (a1x hlt22 hl30)),tr⟩⟩⟩,.r⟩
 ·rintro ⟨_,rfl⟩
  refine sr<|l7 (.bool false) rfl<|dk<|a0b<|?_;obtain rfl:=os hf;exact y7 ⟨tr,tr⟩ rfl .r

/- spec.l01Bit -/
def e2i:a0s :=
 (.seq (.reg (tm 2 (.c (.int .i64 0)) .done))
 (.seq (.seq (.reg (tm 3 (.t 0) .done))
 (.cond (.t 3) (.seq (.reg (tm 2 (.c (.int .i64 1)) .done))
 .ret)
 .skip))
 (.seq (.reg (tm 2 (.c (.int .i64 0)) .done))
 .ret)))
theorem e2j:a1e Tryz.prog Tryz.f326 = some (e2i.erase,[.mov (.t 2)],4):=by kernel_rfl
def b2c (A:Bool):Option Int :=
    if A then
    some 1
    else
    some 0
theorem b6a (A:Bool) (r:Int) (hf:b2c A = some r):a0a Tryz.prog 326 .flat [(.bool A)] (.I r):=by
  refine a0a.of_awp mixed Tryz.func326 e2j nle ?_
  rw [a0n]
  unfold b2c at hf
  unfold e2i
  refine (show awp Tryz.prog false 0 _ (ofL [(0,(.bool A))]) [] _ from ?_)
  refine o7 ?_
  refine a0r ?_
  refine x8 (a2w (.I 0) rfl) ?_
  refine y5 ?_
  refine a0m ?_
  refine o7 ?_
  refine o7 ?_
  refine a0r ?_
  refine x8 (a2w (.bool A) rfl) ?_
  refine y5 ?_
  refine a0m ?_
  rcases oi hf with ⟨c2,hf⟩ | ⟨c2,hf⟩
  · refine y8 rfl c2 ?_
    refine o7 ?_
    refine a0r ?_
    refine x8 (a2w (.I 1) rfl) ?_
    refine y5 ?_
    refine a0m ?_
    refine a0b ?_
    obtain rfl:=os hf
    exact y7 ⟨tr,tr⟩ rfl .r
  · refine y9 rfl (bf c2) ?_
    refine a0k ?_
    refine a0m ?_
    refine o7 ?_
    refine a0r ?_
    refine x8 (a2w (.I 0) rfl) ?_
    refine y5 ?_
    refine a0m ?_
    refine a0b ?_
    obtain rfl:=os hf
    exact y7 ⟨tr,tr⟩ rfl .r

/- spec.l03Order -/
def e2k:a0s :=
 (.seq (.reg (tq 2 (.box 3 (.t 0)) (tq 3 (.box 3 (.t 1)) (tm 4 (.c (.int .i64 0)) .done))))
 (.seq (.block 0 (.seq (.reg (tq 6 (.faddr 0 (.t 2)) (tq 7 (.load 1 false (.t 6)) (tq 8 (.faddr 0 (.t 3)) (tq 9 (.load 1 false (.t 8)) (tq 10 (.bin .neq (.t 7) (.t 9)) (tm 5 (.t 10) .done)))))))
 (.cond (.t 5) (.seq (.reg (tq 11 (.faddr 0 (.t 2)) (tq 12 (.load 1 false (.t 11)) (tq 13 (.faddr 0 (.t 3)) (tq 14 (.load 1 false (.t 13)) (tq 15 (.bin .lss (.t 12) (.t 14)) (tq 16 (.call 326 [(.t 15)]) (tq 17 (.bin .mul (.c (.int .i64 2)) (.t 16)) (tq 18 (.bin .sub (.c (.int .i64 1)) (.t 17)) (tm 4 (.t 18) .done))))))))))
 .ret)
 (.seq (.reg (tq 20 (.faddr 1 (.t 2)) (tq 21 (.load 1 false (.t 20)) (tq 22 (.faddr 1 (.t 3)) (tq 23 (.load 1 false (.t 22)) (tq 24 (.bin .neq (.t 21) (.t 23)) (tm 19 (.t 24) .done)))))))
 (.cond (.t 19) (.seq (.reg (tq 25 (.faddr 1 (.t 2)) (tq 26 (.load 1 false (.t 25)) (tq 27 (.faddr 1 (.t 3)) (tq 28 (.load 1 false (.t 27)) (tq 29 (.bin .lss (.t 26) (.t 28)) (tq 30 (.call 326 [(.t 29)]) (tq 31 (.bin .mul (.c (.int .i64 2)) (.t 30)) (tq 32 (.bin .sub (.c (.int .i64 1)) (.t 31)) (tm 4 (.t 32) .done))))))))))
 .ret)
 (.seq (.reg (tq 34 (.faddr 2 (.t 2)) (tq 35 (.load 1 false (.t 34)) (tq 36 (.faddr 2 (.t 3)) (tq 37 (.load 1 false (.t 36)) (tq 38 (.bin .neq (.t 35) (.t 37)) (tm 33 (.t 38) .done)))))))
 (.cond (.t 33) (.seq (.reg (tq 39 (.faddr 2 (.t 2)) (tq 40 (.load 1 false (.t 39)) (tq 41 (.faddr 2 (.t 3)) (tq 42 (.load 1 false (.t 41)) (tq 43 (.bin .lss (.t 40) (.t 42)) (tq 44 (.call 326 [(.t 43)]) (tq 45 (.bin .mul (.c (.int .i64 2)) (.t 44)) (tq 46 (.bin .sub (.c (.int .i64 1)) (.t 45)) (tm 4 (.t 46) .done))))))))))
 .ret)
 .skip)))))))
 (.seq (.reg (tm 4 (.c (.int .i64 0)) .done))
 .ret)))
theorem e2l:a1e Tryz.prog Tryz.f288 = some (e2k.erase,[.mov (.t 4)],47):=by kernel_rfl
def a8s (A:a1c) (B:a1c):Option Int :=
    if (A.Kind != B.Kind) then
    (b2c (decide (A.Kind < B.Kind))).bind fun E =>
    some (w64 (1 - (w64 (2 * E))))
    else
    if (A.N != B.N) then
    (b2c (decide (A.N < B.N))).bind fun F =>
    some (w64 (1 - (w64 (2 * F))))
    else
    if (!(A.T == B.T)) then
    (b2c (Op.bytesLess A.T B.T)).bind fun D =>
    some (w64 (1 - (w64 (2 * D))))
    else
    some 0
theorem b7c (A:a1c) (B:a1c) (r:Int) (hf:a8s A B = some r):a0a Tryz.prog 288 .flat [(l9 A),(l9 B)] (.I r):=by
 refine a0a.of_awp mixed Tryz.func288 e2l nle ?_;rw [a0n];unfold a8s at hf;unfold e2k;refine (show awp Tryz.prog false 0 _ (ofL [(0,(l9 A)),(1,(l9 B))]) [] _ from ?_);refine sr<|x8 (a1j (j:=0) (c:=(.agg [(.I A.Kind),(.I A.N),(.str A.T)])) rfl tr rfl rfl)<|x8 (a1j (j:=1) (c:=(.agg [(.I B.Kind),(.I B.N),(.str B.T)])) rfl tr rfl rfl)<|l7 (.I 0) rfl<|dk<|o7<|a3y<|sr<|o8 (.ptr 0 0 0) rfl tr rfl<|o8 (.I A.Kind) rfl nle rfl<|o8 (.ptr 1 0 0) rfl tr rfl<|o8 (.I B.Kind) rfl nle rfl<|o8 (.bool (A.Kind != B.Kind)) rfl rfl rfl<|?_
 refine l7 (.bool (A.Kind != B.Kind)) rfl<|dk<|?_
 rcases oi hf with ⟨c3,hf⟩ | ⟨c3,hf⟩
 ·refine y8 rfl c3<|sr<|?_
  obtain ⟨E,er5,hf⟩:=ob hf
  refine o8 (.ptr 0 0 0) rfl tr rfl<|o8 (.I A.Kind) rfl nle rfl<|o8 (.ptr 1 0 0) rfl tr rfl<|o8 (.I B.Kind) rfl nle rfl<|o8 (.bool (decide (A.Kind < B.Kind))) rfl rfl rfl<|x8 (a0j (b6a _ _ er5) rfl .r rfl)<|o8 (.I (w64 (2 * E))) rfl rfl rfl<|o8 (.I (w64 (1 - (w64 (2 * E))))) rfl rfl rfl<|l7 (.I (w64 (1 - (w64 (2 * E))))) rfl<|dk<|a0b<|?_;obtain rfl:=os hf;exact y7 ⟨tr,tr⟩ rfl .r
 ·refine y9 rfl (bf c3)<|sr<|o8 (.ptr 0 0 1) rfl tr rfl<|o8 (.I A.N) rfl nle rfl<|o8 (.ptr 1 0 1) rfl tr rfl<|o8 (.I B.N) rfl nle rfl<|o8 (.bool (A.N != B.N)) rfl rfl rfl<|l7 (.bool (A.N != B.N)) rfl<|dk<|?_
  rcases oi hf with ⟨c6,hf⟩ | ⟨c6,hf⟩
  ·refine y8 rfl c6<|sr<|?_
   obtain ⟨F,er8,hf⟩:=ob hf
   refine o8 (.ptr 0 0 1) rfl tr rfl<|o8 (.I A.N) rfl nle rfl<|o8 (.ptr 1 0 1) rfl tr rfl<|o8 (.I B.N) rfl nle rfl<|o8 (.bool (decide (A.N < B.N))) rfl rfl rfl<|x8 (a0j (b6a _ _ er8) rfl .r rfl)<|o8 (.I (w64 (2 * F))) rfl rfl rfl<|o8 (.I (w64 (1 - (w64 (2 * F))))) rfl rfl rfl<|l7 (.I (w64 (1 - (w64 (2 * F))))) rfl<|dk<|a0b<|?_;obtain rfl:=os hf;exact y7 ⟨tr,tr⟩ rfl .r
  ·refine y9 rfl (bf c6)<|sr<|o8 (.ptr 0 0 2) rfl tr rfl<|o8 (.str A.T) rfl nle rfl<|o8 (.ptr 1 0 2) rfl tr rfl<|o8 (.str B.T) rfl nle rfl<|o8 (.bool (!(A.T == B.T))) rfl tr rfl<|l7 (.bool (!(A.T == B.T))) rfl<|dk<|?_
   rcases oi hf with ⟨c9,hf⟩ | ⟨c9,hf⟩
   ·refine y8 rfl c9<|sr<|?_
    obtain ⟨D,er11,hf⟩:=ob hf
    refine o8 (.ptr 0 0 2) rfl tr rfl<|o8 (.str A.T) rfl nle rfl<|o8 (.ptr 1 0 2) rfl tr rfl<|o8 (.str B.T) rfl nle rfl<|o8 (.bool (Op.bytesLess A.T B.T)) rfl tr rfl<|x8 (a0j (b6a _ _ er11) rfl .r rfl)<|o8 (.I (w64 (2 * D))) rfl rfl rfl<|o8 (.I (w64 (1 - (w64 (2 * D))))) rfl rfl rfl<|l7 (.I (w64 (1 - (w64 (2 * D))))) rfl<|dk<|a0b<|?_;obtain rfl:=os hf;exact y7 ⟨tr,tr⟩ rfl .r
   ·refine y9 rfl (bf c9)<|a0k<|a2y<|a0m<|sr<|l7 (.I 0) rfl<|dk<|a0b<|?_;obtain rfl:=os hf;exact y7 ⟨tr,tr⟩ rfl .r

/- spec.l03Put -/
def e2m:a0s :=
 (.seq (.reg (tq 3 (.box 3 (.t 1)) (tm 4 (.c .nil) .done)))
 (.seq (.seq (.reg (tm 6 (.t 0) (tq 7 (.load 3 true (.t 3)) (tq 8 (.call 327 [(.t 6),(.t 7)]) .done))))
 (.cond (.t 8) (.seq (.reg (tm 9 (.t 0) (tm 4 (.t 9) .done)))
 .ret)
 .skip))
 (.seq (.reg (tm 10 (.t 0) (tq 11 (.len (.t 10)) (tm 5 (.t 11) .done))))
 (.seq (.block 0 (.loop (.seq (.seq (.reg (tm 12 (.t 5) (tq 13 (.bin .gtr (.t 12) (.c (.int .i64 0))) (tm 14 (.t 13) (tg 15 14 true (.mov (.t 0)) (tg 16 14 true (.mov (.t 5)) (tg 17 14 true (.bin .sub (.t 16) (.c (.int .i64 1))) (tg 18 14 true (.iaddr 3 (.t 15) (.t 17)) (tg 19 14 true (.load 3 true (.t 18)) (tg 20 14 true (.load 3 true (.t 3)) (.l ⟨(some 21),(some (14,true)),.call 288 [(.t 19),(.t 20)]⟩ []
 (tg 22 14 true (.bin .gtr (.t 21) (.c (.int .i64 0))) (tq 23 (.pick (.t 14) (.t 22) (.c (.bool false))) .done)) .non)))))))))))
 (.cut (.cond (.t 23) .skip
 (.exit 0))))
 (.block 1 (.reg (tm 24 (.t 5) (tq 25 (.bin .sub (.t 24) (.c (.int .i64 1))) (tm 5 (.t 25) .done))))))))
 (.cut (.seq (.reg (tm 27 (.t 0) (tm 28 (.t 5) (tq 29 (.slice 3 (.t 27) none (some (.t 28))) (tq 31 (.load 3 true (.t 3)) (tm 34 (.t 0) (tm 35 (.t 5) (tq 36 (.slice 3 (.t 34) (some (.t 35)) none) (.l ⟨(some 26),none,.bslice 3 []⟩ [⟨(some 36),none,.slice 3 (.t 34) (some (.t 35)) none⟩,⟨(some 31),none,.load 3 true (.t 3)⟩,⟨(some 29),none,.slice 3 (.t 27) none (some (.t 28))⟩]
 (.l ⟨(some 30),none,.append 3 32 (.t 26) (.t 29)⟩ [⟨(some 36),none,.slice 3 (.t 34) (some (.t 35)) none⟩,⟨(some 31),none,.load 3 true (.t 3)⟩]
 (.l ⟨(some 32),none,.bslice 3 [(.t 31)]⟩ [⟨(some 36),none,.slice 3 (.t 34) (some (.t 35)) none⟩,⟨(some 29),none,.slice 3 (.t 27) none (some (.t 28))⟩]
 (.l ⟨(some 33),none,.append 3 32 (.t 30) (.t 32)⟩ [⟨(some 36),none,.slice 3 (.t 34) (some (.t 35)) none⟩]
 (.l ⟨(some 37),none,.append 3 32 (.t 33) (.t 36)⟩ []
 (tm 4 (.t 37) .done) .non) .non) .non) (.l ⟨(some 32),none,.bslice 3 [(.t 31)]⟩ [⟨(some 36),none,.slice 3 (.t 34) (some (.t 35)) none⟩,⟨(some 29),none,.slice 3 (.t 27) none (some (.t 28))⟩]
 (.l ⟨(some 30),none,.append 3 32 (.t 26) (.t 29)⟩ [⟨(some 36),none,.slice 3 (.t 34) (some (.t 35)) none⟩,⟨(some 31),none,.load 3 true (.t 3)⟩]
 (.l ⟨(some 33),none,.append 3 32 (.t 30) (.t 32)⟩ [⟨(some 36),none,.slice 3 (.t 34) (some (.t 35)) none⟩]
 (.l ⟨(some 37),none,.append 3 32 (.t 33) (.t 36)⟩ []
 (tm 4 (.t 37) .done) .non) .non) .non) .non)) (.l ⟨(some 32),none,.bslice 3 [(.t 31)]⟩ [⟨(some 36),none,.slice 3 (.t 34) (some (.t 35)) none⟩,⟨(some 29),none,.slice 3 (.t 27) none (some (.t 28))⟩]
 (.l ⟨(some 26),none,.bslice 3 []⟩ [⟨(some 36),none,.slice 3 (.t 34) (some (.t 35)) none⟩,⟨(some 31),none,.load 3 true (.t 3)⟩,⟨(some 29),none,.slice 3 (.t 27) none (some (.t 28))⟩]
 (.l ⟨(some 30),none,.append 3 32 (.t 26) (.t 29)⟩ [⟨(some 36),none,.slice 3 (.t 34) (some (.t 35)) none⟩,⟨(some 31),none,.load 3 true (.t 3)⟩]
 (.l ⟨(some 33),none,.append 3 32 (.t 30) (.t 32)⟩ [⟨(some 36),none,.slice 3 (.t 34) (some (.t 35)) none⟩]
 (.l ⟨(some 37),none,.append 3 32 (.t 33) (.t 36)⟩ []
 (tm 4 (.t 37) .done) .non) .non) .non) .non) .non))))))))))
 .ret))))))
theorem e2n:a1e Tryz.prog Tryz.f284 = some (e2m.erase,[.mov (.t 4)],38):=by kernel_rfl
def a6k (B:(List a1c)) (D:a1c):Nat → Int → Option Int
  | 0,_ => none
  | k + 1,E =>
    ((if (decide (E > 0)) then
    (idx B (w64 (E - 1))).bind fun H =>
    (a8s H D).bind fun G =>
    some (decide (G > 0))
    else
    some false:Option Bool)).bind fun F =>
    if F then
    a6k B D k (w64 (E - 1))
    else
    some E

def b3v (B:(List a1c)) (D:a1c):Option (List a1c) :=
    (b3u B D).bind fun J =>
    if J then
    some B
    else
    (a6k B D FUEL (B.length:Int)).bind fun A =>
    if (0:Int) ≤ A ∧ A ≤ (B.length:Int) then
    if (0:Int) ≤ A ∧ A ≤ (B.length:Int) then
    if ([] ++ (B.take A.toNat)).length ≤ 2 ^ 30 then
    if (([] ++ (B.take A.toNat)) ++ [D]).length ≤ 2 ^ 30 then
    if ((([] ++ (B.take A.toNat)) ++ [D]) ++ (B.drop A.toNat)).length ≤ 2 ^ 30 then
    some ((([] ++ (B.take A.toNat)) ++ [D]) ++ (B.drop A.toNat))
    else none
    else none
    else none
    else none
    else none
theorem c6i (B:(List a1c)) (D:a1c) (r:(List a1c)) (hf:b3v B D = some r):a0a Tryz.prog 284 .weak [(.lst 3 (B.map l9)),(l9 D)] (.lst 3 (r.map l9)):=by
 refine a0a.of_awp mixed Tryz.func284 e2n nle ?_;rw [a0n];unfold b3v at hf;unfold e2m;refine (show awp Tryz.prog false 0 _ (ofL [(0,(.lst 3 (B.map l9))),(1,(l9 D))]) [] _ from ?_);refine sr<|x8 (a1j (j:=0) (c:=(.agg [(.I D.Kind),(.I D.N),(.str D.T)])) rfl tr rfl rfl)<|l7 .nil rfl<|dk<|o7<|sr<|?_
 obtain ⟨J,er4,hf⟩:=ob hf
 refine l7 (.lst 3 (B.map l9)) rfl<|o8 (.agg [(.I D.Kind),(.I D.N),(.str D.T)]) rfl nle rfl<|x8 (a0j (c6h _ _ _ er4) rfl .r rfl)<|dk<|?_
 rcases oi hf with ⟨c5,hf⟩ | ⟨c5,hf⟩
 ·refine y8 rfl c5<|sr<|l7 (.lst 3 (B.map l9)) rfl<|l7 (.lst 3 (B.map l9)) rfl<|dk<|a0b<|?_;obtain rfl:=os hf;exact c4v ⟨tr,tr⟩ rfl .r
 ·refine y9 rfl (bf c5)<|a0k<|a0m<|sr<|l7 (.lst 3 (B.map l9)) rfl<|a1i (a1p (enc:=l9) rfl) fun hl6 => l7 (.I (B.length:Int)) rfl<|dk<|o7<|?_
  obtain ⟨A,hb1,hf⟩:=ob hf
  refine a1k ([(0,(.lst 3 (B.map l9))),(3,(.ptr 0 0 0)),(5,(.I A))],[.box 3 (.agg [(.I D.Kind),(.I D.N),(.str D.T)])]) ?_ ?_
  ·refine a1v (X:={q:(Nat × Int) // a6k B D q.1 q.2 = some A}) (fun q => ([(0,(.lst 3 (B.map l9))),(3,(.ptr 0 0 0)),(5,(.I q.1.2))],[.box 3 (.agg [(.I D.Kind),(.I D.N),(.str D.T)])])) (fun q => q.1.1) ⟨(FUEL,(B.length:Int)),hb1⟩ ⟨[],[0],_,_,rfl,rfl,⟨.r,⟨.r,⟨.r,tr⟩⟩⟩,.r⟩ ?_
   rintro ⟨⟨k,E⟩,hc1⟩
   have hc1:a6k B D k E = some A:=hc1
   refine (show awp Tryz.prog false 0 _ (ofL [(0,(.lst 3 (B.map l9))),(3,(.ptr 0 0 0)),(5,(.I E))]) [.box 3 (.agg [(.I D.Kind),(.I D.N),(.str D.T)])] _ from ?_)
   rcases k with _ | k
   ·rw [a6k.eq_1] at hc1
    cases hc1
   ·rw [a6k.eq_2] at hc1;refine o7<|o7<|?_
    obtain ⟨F,hb2,hc1⟩:=ob hc1
    refine a1k ([(0,(.lst 3 (B.map l9))),(3,(.ptr 0 0 0)),(5,(.I E)),(23,(.bool F))],[.box 3 (.agg [(.I D.Kind),(.I D.N),(.str D.T)])]) ?_ ?_
    ·refine a0r ?_
     rcases oi hb2 with ⟨c57,hb2⟩ | ⟨c57,hb2⟩
     ·obtain ⟨H,ex59,hb2⟩:=ob hb2
      obtain ⟨G,er61,hb2⟩:=ob hb2
      refine l7 (.I E) rfl<|o8 (.bool (decide (E > 0))) rfl rfl rfl<|l7 (.bool (decide (E > 0))) rfl<|a0i (s:=14) (b:=true) rfl c57<|s_on rfl<|l7 (.lst 3 (B.map l9)) rfl<|s_on rfl<|l7 (.I E) rfl<|s_on rfl<|o8 (.I (w64 (E - 1))) rfl rfl rfl<|s_on rfl<|x8 (a2t (enc:=l9) rfl rfl (a8n ex59) (a8o ex59))<|s_on rfl<|o8 (l9 H) rfl nle rfl<|s_on rfl<|o8 (.agg [(.I D.Kind),(.I D.N),(.str D.T)]) rfl nle rfl<|d3d rfl<|a1a (a0j (b7c _ _ _ er61) rfl .r rfl) a7h tr<|s_on rfl<|o8 (.bool (decide (G > 0))) rfl rfl rfl<|o8 (.bool (decide (G > 0))) rfl tr rfl<|?_
      refine y5 ?_;obtain rfl:=os hb2;exact ⟨[],[0],_,_,rfl,rfl,⟨.r,⟨.r,⟨.r,⟨.r,tr⟩⟩⟩⟩,.r⟩
     ·refine l7 (.I E) rfl<|o8 (.bool (decide (E > 0))) rfl rfl rfl<|l7 (.bool (decide (E > 0))) rfl<|a0i (s:=14) (b:=false) rfl (bf c57)<|o6 rfl rfl<|o6 rfl rfl<|o6 rfl rfl<|o6 rfl rfl<|o6 rfl rfl<|o6 rfl rfl<|c9c rfl rfl tr<|o6 rfl rfl<|o8 (.bool false) rfl tr rfl<|y5<|?_;obtain rfl:=os hb2;exact ⟨[],[0],_,_,rfl,rfl,⟨.r,⟨.r,⟨.r,⟨.r,tr⟩⟩⟩⟩,.r⟩
    ·rcases oi hc1 with ⟨c62,hc1⟩ | ⟨c62,hc1⟩
     ·refine y8 rfl c62<|a0k<|a0m<|a3y<|a0r<|l7 (.I E) rfl<|o8 (.I (w64 (E - 1))) rfl rfl rfl<|l7 (.I (w64 (E - 1))) rfl<|y5<|a2y<|?_;exact a1z ⟨(k,w64 (E - 1)),hc1⟩ (Nat.lt_succ_self _) ⟨[],[0],_,_,rfl,rfl,⟨.r,⟨.r,⟨.r,tr⟩⟩⟩,.r⟩
     ·refine y9 rfl (bf c62)<|a3i<|a3h<|a2e<|a3g<|?_;obtain rfl:=os hc1;exact ⟨[],[0],_,_,rfl,rfl,⟨.r,⟨.r,⟨.r,tr⟩⟩⟩,.r⟩
  ·refine sr<|?_
   obtain ⟨g63,hf⟩:=og hf
   obtain ⟨g64,hf⟩:=og hf
   obtain ⟨g65,hf⟩:=og hf
   obtain ⟨g66,hf⟩:=og hf
   obtain ⟨g67,hf⟩:=og hf
   refine l7 (.lst 3 (B.map l9)) rfl<|l7 (.I A) rfl<|x8 (d7r (enc:=l9) rfl rfl g63.1 g63.2)<|o8 (.agg [(.I D.Kind),(.I D.N),(.str D.T)]) rfl nle rfl<|l7 (.lst 3 (B.map l9)) rfl<|l7 (.I A) rfl<|x8 (e0v (enc:=l9) rfl rfl g64.1 g64.2)<|?_;refine a1a (a0t (j:=1) (as':=[]) rfl (fun _ => by decide) tr .r rfl rfl rfl) (.inr ⟨(b4u (enc:=l9) rfl rfl g64.1 g64.2),⟨⟨nle,rfl⟩,⟨(c4x (enc:=l9) rfl rfl g63.1 g63.2),tr⟩⟩⟩) ?_ ?_
   ·refine a1a (a0t (j:=1) (as':=[(l9 D)]) rfl (fun _ => by decide) ⟨rfl,tr⟩ .r rfl rfl rfl) (.inr ⟨(b4u (enc:=l9) rfl rfl g64.1 g64.2),⟨(c4x (enc:=l9) rfl rfl g63.1 g63.2),tr⟩⟩) tr ?_;refine a1a (a0t (j:=2) (as':=[]) rfl (fun _ => by decide) tr .r rfl rfl rfl) (.inr ⟨(b4u (enc:=l9) rfl rfl g64.1 g64.2),⟨⟨nle,rfl⟩,⟨(c4x (enc:=l9) rfl rfl g63.1 g63.2),tr⟩⟩⟩) tr ?_
    refine a1a (a5m (j:=3) (L:=(([] ++ (B.take A.toNat)).map l9)) (len:=([] ++ (B.take A.toNat)).length) rfl rfl ((by simp)) (by simp <;> omega) g65 rfl rfl) (.inr ⟨(b4u (enc:=l9) rfl rfl g64.1 g64.2),⟨⟨nle,rfl⟩,tr⟩⟩) tr ?_
    refine a1a (a5m (j:=4) (L:=((([] ++ (B.take A.toNat)) ++ [D]).map l9)) (len:=(([] ++ (B.take A.toNat)) ++ [D]).length) rfl rfl (c6g (enc:=l9) ([] ++ (B.take A.toNat)) [D] _ (by rfl)) (by simp <;> omega) g66 rfl rfl) (.inr ⟨(b4u (enc:=l9) rfl rfl g64.1 g64.2),tr⟩) tr ?_
    refine a1a (a5m (j:=5) (L:=(((([] ++ (B.take A.toNat)) ++ [D]) ++ (B.drop A.toNat)).map l9)) (len:=((([] ++ (B.take A.toNat)) ++ [D]) ++ (B.drop A.toNat)).length) rfl rfl (apl (enc:=l9) (([] ++ (B.take A.toNat)) ++ [D]) (B.drop A.toNat)) (by simp <;> omega) g67 rfl rfl) tr tr ?_
    refine l7 (.own 5 0 (((([] ++ (B.take A.toNat)) ++ [D]) ++ (B.drop A.toNat)).length)) rfl<|dk<|a0b<|?_;obtain rfl:=os hf;exact c4v ⟨tr,tr⟩ rfl (.of_eq (congrArg (AV.lst _) (tko (enc:=l9) ((([] ++ (B.take A.toNat)) ++ [D]) ++ (B.drop A.toNat)))))
   ·refine a1a (a5m (j:=2) (L:=(([] ++ (B.take A.toNat)).map l9)) (len:=([] ++ (B.take A.toNat)).length) rfl rfl ((by simp)) (by simp <;> omega) g65 rfl rfl) (.inr ⟨(b4u (enc:=l9) rfl rfl g64.1 g64.2),⟨⟨nle,rfl⟩,tr⟩⟩) ?_ ?_
    ·refine a1a (a0t (j:=2) (as':=[(l9 D)]) rfl (fun _ => by decide) ⟨rfl,tr⟩ .r rfl rfl rfl) (.inr ⟨(b4u (enc:=l9) rfl rfl g64.1 g64.2),⟨(c4x (enc:=l9) rfl rfl g63.1 g63.2),tr⟩⟩) tr ?_
     refine a1a (a5m (j:=3) (L:=(([] ++ (B.take A.toNat)).map l9)) (len:=([] ++ (B.take A.toNat)).length) rfl rfl ((by simp)) (by simp <;> omega) g65 rfl rfl) (.inr ⟨(b4u (enc:=l9) rfl rfl g64.1 g64.2),⟨⟨nle,rfl⟩,tr⟩⟩) tr ?_
     refine a1a (a5m (j:=4) (L:=((([] ++ (B.take A.toNat)) ++ [D]).map l9)) (len:=(([] ++ (B.take A.toNat)) ++ [D]).length) rfl rfl (c6g (enc:=l9) ([] ++ (B.take A.toNat)) [D] _ (by rfl)) (by simp <;> omega) g66 rfl rfl) (.inr ⟨(b4u (enc:=l9) rfl rfl g64.1 g64.2),tr⟩) tr ?_
     refine a1a (a5m (j:=5) (L:=(((([] ++ (B.take A.toNat)) ++ [D]) ++ (B.drop A.toNat)).map l9)) (len:=((([] ++ (B.take A.toNat)) ++ [D]) ++ (B.drop A.toNat)).length) rfl rfl (apl (enc:=l9) (([] ++ (B.take A.toNat)) ++ [D]) (B.drop A.toNat)) (by simp <;> omega) g67 rfl rfl) tr tr ?_
     refine l7 (.own 5 0 (((([] ++ (B.take A.toNat)) ++ [D]) ++ (B.drop A.toNat)).length)) rfl<|dk<|a0b<|?_;obtain rfl:=os hf;exact c4v ⟨tr,tr⟩ rfl (.of_eq (congrArg (AV.lst _) (tko (enc:=l9) ((([] ++ (B.take A.toNat)) ++ [D]) ++ (B.drop A.toNat)))))
    ·refine a1a (a0t (j:=3) (as':=[(l9 D)]) rfl (fun _ => by decide) ⟨rfl,tr⟩ .r rfl rfl rfl) (.inr ⟨(b4u (enc:=l9) rfl rfl g64.1 g64.2),⟨(c4x (enc:=l9) rfl rfl g63.1 g63.2),tr⟩⟩) tr ?_
     refine a1a (a5m (j:=4) (L:=((([] ++ (B.take A.toNat)) ++ [D]).map l9)) (len:=(([] ++ (B.take A.toNat)) ++ [D]).length) rfl rfl (c6g (enc:=l9) ([] ++ (B.take A.toNat)) [D] _ (by rfl)) (by simp <;> omega) g66 rfl rfl) (.inr ⟨(b4u (enc:=l9) rfl rfl g64.1 g64.2),tr⟩) tr ?_
     refine a1a (a5m (j:=5) (L:=(((([] ++ (B.take A.toNat)) ++ [D]) ++ (B.drop A.toNat)).map l9)) (len:=((([] ++ (B.take A.toNat)) ++ [D]) ++ (B.drop A.toNat)).length) rfl rfl (apl (enc:=l9) (([] ++ (B.take A.toNat)) ++ [D]) (B.drop A.toNat)) (by simp <;> omega) g67 rfl rfl) tr tr ?_
     refine l7 (.own 5 0 (((([] ++ (B.take A.toNat)) ++ [D]) ++ (B.drop A.toNat)).length)) rfl<|dk<|a0b<|?_;obtain rfl:=os hf;exact c4v ⟨tr,tr⟩ rfl (.of_eq (congrArg (AV.lst _) (tko (enc:=l9) ((([] ++ (B.take A.toNat)) ++ [D]) ++ (B.drop A.toNat)))))

/- spec.l00Source -/
def d3l:a0s :=
 (.seq (.reg (tm 2 (.c .undef) .done))
 (.seq (.reg (tm 3 (.t 0) (tm 4 (.t 0) (tq 5 (.len (.t 4)) (tq 6 (.bin .rem (.t 5) (.c (.int .i64 1000))) (tq 7 (.build [.nil,(.int .i64 0),(.int .i64 0)] [(0,1,(.t 3)),(2,1,(.t 6))]) (tq 8 (.box 3 (.t 7)) (tm 2 (.t 8) .done))))))))
 .ret))
theorem d7y:a1e Tryz.prog Tryz.f102 = some (d3l.erase,[.mov (.t 2)],9):=by kernel_rfl
def a7k (A:(List Int)):Option a0h :=
    some (⟨A,0,(A.length:Int).tmod 1000⟩:a0h)
theorem b8n (A:(List Int)) (r:a0h) (hf:a7k A = some r):a1u Tryz.prog false 102 [(.lst 1 (A.map a0c))] [] (.ptr 0 0 0) [.box 3 (.agg [(.lst 1 (r.Code.map a0c)),(.I r.At),(.I r.Seed)])]:=by
  refine a1u.of_awp mixed Tryz.func102 d7y nle ?_
  rw [a0n]
  unfold a7k at hf
  unfold d3l
  refine (show awp Tryz.prog false 0 _ (ofL [(0,(.lst 1 (A.map a0c)))]) [] _ from ?_)
  refine o7 ?_
  refine a0r ?_
  refine x8 (a2w .undef rfl) ?_
  refine y5 ?_
  refine a0m ?_
  refine o7 ?_
  refine a0r ?_
  refine x8 (a2w (.lst 1 (A.map a0c)) rfl) ?_
  refine x8 (a2w (.lst 1 (A.map a0c)) rfl) ?_
  refine a1i (a1p (enc:=a0c) rfl) fun hl2 => ?_
  refine x8 (o_q (.I ((A.length:Int).tmod 1000)) rfl ⟨rfl,by decide⟩ rfl) ?_
  refine x8 (o_q (.agg [(.lst 1 (A.map a0c)),(.I 0),(.I ((A.length:Int).tmod 1000))]) rfl ⟨⟨rfl,nle,tr⟩,⟨⟨rfl,nle,tr⟩,tr⟩⟩ rfl) ?_
  refine x8 (a1j (j:=0) (c:=(.agg [(.lst 1 (A.map a0c)),(.I 0),(.I ((A.length:Int).tmod 1000))])) rfl tr rfl rfl) ?_
  refine x8 (a2w (.ptr 0 0 0) rfl) ?_
  refine y5 ?_
  refine a0m ?_
  refine a0b ?_
  obtain rfl:=os hf
  exact a3u [] [0] rfl ⟨tr,tr⟩ rfl .r .r

/- (*spec.l00Src).byte -/
def d3m:a0s :=
 (.seq (.reg (tm 2 (.c (.int .i64 0)) .done))
 (.seq (.reg (tm 3 (.t 0) (tq 4 (.nilck (.t 3)) (tq 5 (.faddr 1 (.t 4)) (tq 6 (.load 1 false (.t 5)) (tq 7 (.bin .add (.t 6) (.c (.int .i64 1))) (tq 8 (.nilck (.t 3)) (tq 9 (.faddr 1 (.t 8)) (.q ⟨none,none,.store 1 (.t 9) (.t 7)⟩
 .done)))))))))
 (.seq (.seq (.reg (tm 10 (.t 0) (tq 11 (.nilck (.t 10)) (tq 12 (.faddr 1 (.t 11)) (tq 13 (.load 1 false (.t 12)) (tm 14 (.t 0) (tq 15 (.nilck (.t 14)) (tq 16 (.faddr 0 (.t 15)) (tq 17 (.load 1 false (.t 16)) (tq 18 (.len (.t 17)) (tq 19 (.bin .leq (.t 13) (.t 18)) .done)))))))))))
 (.cond (.t 19) (.seq (.reg (tm 20 (.t 0) (tm 21 (.t 0) (tq 22 (.nilck (.t 21)) (tq 23 (.faddr 2 (.t 22)) (tq 24 (.load 1 false (.t 23)) (tq 25 (.bin .mul (.t 24) (.c (.int .i64 31))) (tm 26 (.t 0) (tq 27 (.nilck (.t 26)) (tq 28 (.faddr 0 (.t 27)) (tq 29 (.load 1 false (.t 28)) (tm 30 (.t 0) (tq 31 (.nilck (.t 30)) (tq 32 (.faddr 1 (.t 31)) (tq 33 (.load 1 false (.t 32)) (tq 34 (.bin .sub (.t 33) (.c (.int .i64 1))) (tq 35 (.iaddr 1 (.t 29) (.t 34)) (tq 36 (.load 1 false (.t 35)) (tq 37 (.convI .i64 (.t 36)) (tq 38 (.bin .add (.t 25) (.t 37)) (tq 39 (.bin .add (.t 38) (.c (.int .i64 7))) (tq 40 (.bin .rem (.t 39) (.c (.int .i64 2147483648))) (tq 41 (.nilck (.t 20)) (tq 42 (.faddr 2 (.t 41)) (.l ⟨none,none,.store 1 (.t 42) (.t 40)⟩ []
 .done .non)))))))))))))))))))))))))
 (.seq (.reg (tm 43 (.t 0) (tq 44 (.nilck (.t 43)) (tq 45 (.faddr 0 (.t 44)) (tq 46 (.load 1 false (.t 45)) (tm 47 (.t 0) (tq 48 (.nilck (.t 47)) (tq 49 (.faddr 1 (.t 48)) (tq 50 (.load 1 false (.t 49)) (tq 51 (.bin .sub (.t 50) (.c (.int .i64 1))) (tq 52 (.iaddr 1 (.t 46) (.t 51)) (tq 53 (.load 1 false (.t 52)) (tq 54 (.convI .i64 (.t 53)) (tm 2 (.t 54) .done))))))))))))))
 .ret))
 .skip))
 (.seq (.seq (.reg (tm 55 (.t 0) (tq 56 (.nilck (.t 55)) (tq 57 (.faddr 1 (.t 56)) (tq 58 (.load 1 false (.t 57)) (tq 59 (.bin .gtr (.t 58) (.c (.int .i64 3000))) .done))))))
 (.cond (.t 59) (.seq (.reg (tm 2 (.c (.int .i64 0)) .done))
 .ret)
 .skip))
 (.seq (.reg (tm 60 (.t 0) (tm 61 (.t 0) (tq 62 (.nilck (.t 61)) (tq 63 (.faddr 2 (.t 62)) (tq 64 (.load 1 false (.t 63)) (tq 65 (.bin .mul (.t 64) (.c (.int .i64 1103515245))) (tq 66 (.bin .add (.t 65) (.c (.int .i64 12345))) (tq 67 (.bin .rem (.t 66) (.c (.int .i64 2147483648))) (tq 68 (.nilck (.t 60)) (tq 69 (.faddr 2 (.t 68)) (.q ⟨none,none,.store 1 (.t 69) (.t 67)⟩
 .done))))))))))))
 (.seq (.reg (tm 70 (.t 0) (tq 71 (.nilck (.t 70)) (tq 72 (.faddr 2 (.t 71)) (tq 73 (.load 1 false (.t 72)) (tq 74 (.bin .quo (.t 73) (.c (.int .i64 65536))) (tq 75 (.bin .rem (.t 74) (.c (.int .i64 256))) (tm 2 (.t 75) .done))))))))
 .ret))))))
theorem d7z:a1e Tryz.prog Tryz.f253 = some (d3m.erase,[.mov (.t 2)],76):=by kernel_rfl
def a4m (A:a0h):Option (Int × a0h) :=
    if (decide (w64 (A.At + 1) ≤ (A.Code.length:Int))) then
    (idx A.Code (w64 ((w64 (A.At + 1)) - 1))).bind fun B =>
    (idx A.Code (w64 ((w64 (A.At + 1)) - 1))).bind fun D =>
    some (w64 D,(⟨A.Code,w64 (A.At + 1),(w64 ((w64 ((w64 (A.Seed * 31)) + (w64 B))) + 7)).tmod 2147483648⟩:a0h))
    else
    if (decide (w64 (A.At + 1) > 3000)) then
    some (0,(⟨A.Code,w64 (A.At + 1),A.Seed⟩:a0h))
    else
    some ((w64 (((w64 ((w64 (A.Seed * 1103515245)) + 12345)).tmod 2147483648).tdiv 65536)).tmod 256,(⟨A.Code,w64 (A.At + 1),(w64 ((w64 (A.Seed * 1103515245)) + 12345)).tmod 2147483648⟩:a0h))
theorem a8d (A:a0h) (r:(Int × a0h)) (hf:a4m A = some r):a1u Tryz.prog false 253 [(.ptr 0 0 0)] [.box 3 (.agg [(.lst 1 (A.Code.map a0c)),(.I A.At),(.I A.Seed)])] (.I r.1) [.box 3 (.agg [(.lst 1 (r.2.Code.map a0c)),(.I r.2.At),(.I r.2.Seed)])]:=by
 refine a1u.of_awp mixed Tryz.func253 d7z nle ?_;rw [a0n];unfold a4m at hf;unfold d3m;refine (show awp Tryz.prog false 1 _ (ofL [(0,(.ptr 0 0 0))]) [.box 3 (.agg [(.lst 1 (A.Code.map a0c)),(.I A.At),(.I A.Seed)])] _ from ?_);refine sr<|l7 (.I 0) rfl<|dk<|sr<|l7 (.ptr 0 0 0) rfl<|o8 (.ptr 0 0 0) rfl tr rfl<|o8 (.ptr 0 0 1) rfl tr rfl<|o8 (.I A.At) rfl nle rfl<|o8 (.I (w64 (A.At + 1))) rfl rfl rfl<|o8 (.ptr 0 0 0) rfl tr rfl<|o8 (.ptr 0 0 1) rfl tr rfl<|a3o (a0e (v:=(.I (w64 (A.At + 1)))) (y':=(.agg [(.lst 1 (A.Code.map a0c)),(.I (w64 (A.At + 1))),(.I A.Seed)])) rfl rfl rfl tr ⟨rfl,nle⟩ ⟨⟨rfl,tr⟩,tr⟩ rfl)<|?_
 refine dk<|o7<|sr<|l7 (.ptr 0 0 0) rfl<|o8 (.ptr 0 0 0) rfl tr rfl<|o8 (.ptr 0 0 1) rfl tr rfl<|o8 (.I (w64 (A.At + 1))) rfl nle rfl<|l7 (.ptr 0 0 0) rfl<|o8 (.ptr 0 0 0) rfl tr rfl<|o8 (.ptr 0 0 0) rfl tr rfl<|o8 (.lst 1 (A.Code.map a0c)) rfl nle rfl<|a1i (a1p (enc:=a0c) rfl) fun hl2 => o8 (.bool (decide (w64 (A.At + 1) ≤ (A.Code.length:Int)))) rfl rfl rfl<|dk<|?_
 rcases oi hf with ⟨c3,hf⟩ | ⟨c3,hf⟩
 ·refine y8 rfl c3<|sr<|l7 (.ptr 0 0 0) rfl<|l7 (.ptr 0 0 0) rfl<|o8 (.ptr 0 0 0) rfl tr rfl<|o8 (.ptr 0 0 2) rfl tr rfl<|o8 (.I A.Seed) rfl nle rfl<|o8 (.I (w64 (A.Seed * 31))) rfl rfl rfl<|l7 (.ptr 0 0 0) rfl<|o8 (.ptr 0 0 0) rfl tr rfl<|o8 (.ptr 0 0 0) rfl tr rfl<|o8 (.lst 1 (A.Code.map a0c)) rfl nle rfl<|l7 (.ptr 0 0 0) rfl<|o8 (.ptr 0 0 0) rfl tr rfl<|o8 (.ptr 0 0 1) rfl tr rfl<|o8 (.I (w64 (A.At + 1))) rfl nle rfl<|o8 (.I (w64 ((w64 (A.At + 1)) - 1))) rfl rfl rfl<|?_
  obtain ⟨B,ex5,hf⟩:=ob hf
  refine x8 (a2t (enc:=a0c) rfl rfl (a8n ex5) (a8o ex5))<|o8 (.int .u8 B) rfl ⟨rfl,rfl⟩ rfl<|o8 (.I (w64 B)) rfl tr rfl<|o8 (.I (w64 ((w64 (A.Seed * 31)) + (w64 B)))) rfl rfl rfl<|o8 (.I (w64 ((w64 ((w64 (A.Seed * 31)) + (w64 B))) + 7))) rfl rfl rfl<|o8 (.I ((w64 ((w64 ((w64 (A.Seed * 31)) + (w64 B))) + 7)).tmod 2147483648)) rfl ⟨rfl,by decide⟩ rfl<|o8 (.ptr 0 0 0) rfl tr rfl<|o8 (.ptr 0 0 2) rfl tr rfl<|a4h (a0e (v:=(.I ((w64 ((w64 ((w64 (A.Seed * 31)) + (w64 B))) + 7)).tmod 2147483648))) (y':=(.agg [(.lst 1 (A.Code.map a0c)),(.I (w64 (A.At + 1))),(.I ((w64 ((w64 ((w64 (A.Seed * 31)) + (w64 B))) + 7)).tmod 2147483648))])) rfl rfl rfl tr ⟨rfl,nle⟩ ⟨⟨rfl,tr⟩,tr⟩ rfl) tr tr<|?_
  refine dk<|sr<|l7 (.ptr 0 0 0) rfl<|o8 (.ptr 0 0 0) rfl tr rfl<|o8 (.ptr 0 0 0) rfl tr rfl<|o8 (.lst 1 (A.Code.map a0c)) rfl nle rfl<|l7 (.ptr 0 0 0) rfl<|o8 (.ptr 0 0 0) rfl tr rfl<|o8 (.ptr 0 0 1) rfl tr rfl<|o8 (.I (w64 (A.At + 1))) rfl nle rfl<|o8 (.I (w64 ((w64 (A.At + 1)) - 1))) rfl rfl rfl<|?_
  obtain ⟨D,ex7,hf⟩:=ob hf
  refine x8 (a2t (enc:=a0c) rfl rfl (a8n ex7) (a8o ex7))<|o8 (.int .u8 D) rfl ⟨rfl,rfl⟩ rfl<|o8 (.I (w64 D)) rfl tr rfl<|l7 (.I (w64 D)) rfl<|dk<|a0b<|?_;obtain rfl:=os hf;exact a3u [] [0] rfl ⟨tr,tr⟩ rfl .r .r
 ·refine y9 rfl (bf c3)<|a0k<|a0m<|o7<|sr<|l7 (.ptr 0 0 0) rfl<|o8 (.ptr 0 0 0) rfl tr rfl<|o8 (.ptr 0 0 1) rfl tr rfl<|o8 (.I (w64 (A.At + 1))) rfl nle rfl<|o8 (.bool (decide (w64 (A.At + 1) > 3000))) rfl rfl rfl<|dk<|?_
  rcases oi hf with ⟨c8,hf⟩ | ⟨c8,hf⟩
  ·refine y8 rfl c8<|sr<|l7 (.I 0) rfl<|dk<|a0b<|?_;obtain rfl:=os hf;exact a3u [] [0] rfl ⟨tr,tr⟩ rfl .r .r
  ·refine y9 rfl (bf c8)<|a0k<|a0m<|sr<|l7 (.ptr 0 0 0) rfl<|l7 (.ptr 0 0 0) rfl<|o8 (.ptr 0 0 0) rfl tr rfl<|o8 (.ptr 0 0 2) rfl tr rfl<|o8 (.I A.Seed) rfl nle rfl<|o8 (.I (w64 (A.Seed * 1103515245))) rfl rfl rfl<|o8 (.I (w64 ((w64 (A.Seed * 1103515245)) + 12345))) rfl rfl rfl<|o8 (.I ((w64 ((w64 (A.Seed * 1103515245)) + 12345)).tmod 2147483648)) rfl ⟨rfl,by decide⟩ rfl<|o8 (.ptr 0 0 0) rfl tr rfl<|o8 (.ptr 0 0 2) rfl tr rfl<|a3o (a0e (v:=(.I ((w64 ((w64 (A.Seed * 1103515245)) + 12345)).tmod 2147483648))) (y':=(.agg [(.lst 1 (A.Code.map a0c)),(.I (w64 (A.At + 1))),(.I ((w64 ((w64 (A.Seed * 1103515245)) + 12345)).tmod 2147483648))])) rfl rfl rfl tr ⟨rfl,nle⟩ ⟨⟨rfl,tr⟩,tr⟩ rfl)<|?_
   refine dk<|sr<|l7 (.ptr 0 0 0) rfl<|o8 (.ptr 0 0 0) rfl tr rfl<|o8 (.ptr 0 0 2) rfl tr rfl<|o8 (.I ((w64 ((w64 (A.Seed * 1103515245)) + 12345)).tmod 2147483648)) rfl nle rfl<|o8 (.I (w64 (((w64 ((w64 (A.Seed * 1103515245)) + 12345)).tmod 2147483648).tdiv 65536))) rfl ⟨rfl,by decide⟩ rfl<|o8 (.I ((w64 (((w64 ((w64 (A.Seed * 1103515245)) + 12345)).tmod 2147483648).tdiv 65536)).tmod 256)) rfl ⟨rfl,by decide⟩ rfl<|l7 (.I ((w64 (((w64 ((w64 (A.Seed * 1103515245)) + 12345)).tmod 2147483648).tdiv 65536)).tmod 256)) rfl<|dk<|a0b<|?_;obtain rfl:=os hf;exact a3u [] [0] rfl ⟨tr,tr⟩ rfl .r .r

/- (*spec.l00Src).next -/
def d3n:a0s :=
 (.seq (.reg (tm 4 (.c (.int .i64 0)) .done))
 (.seq (.seq (.reg (tm 8 (.t 1) (tq 9 (.bin .leq (.t 8) (.c (.int .i64 1))) .done)))
 (.cond (.t 9) (.seq (.reg (tm 4 (.c (.int .i64 0)) .done))
 .ret)
 .skip))
 (.seq (.seq (.reg (tm 10 (.t 1) (tq 11 (.bin .leq (.t 10) (.c (.int .i64 256))) .done)))
 (.cond (.t 11) (.seq (.reg (tm 12 (.t 0) (tq 13 (.call 253 [(.t 12)]) (tm 14 (.t 1) (tq 15 (.bin .rem (.t 13) (.t 14)) (tm 4 (.t 15) .done))))))
 .ret)
 .skip))
 (.seq (.reg (tm 16 (.t 0) (tq 17 (.call 253 [(.t 16)]) (tm 5 (.t 17) .done))))
 (.seq (.reg (tm 18 (.t 0) (tq 19 (.call 253 [(.t 18)]) (tm 6 (.t 19) .done))))
 (.seq (.reg (tm 20 (.t 0) (tq 21 (.call 253 [(.t 20)]) (tm 7 (.t 21) .done))))
 (.seq (.reg (tm 22 (.t 5) (tq 23 (.bin .mul (.t 22) (.c (.int .i64 65536))) (tm 24 (.t 6) (tq 25 (.bin .mul (.t 24) (.c (.int .i64 256))) (tq 26 (.bin .add (.t 23) (.t 25)) (tm 27 (.t 7) (tq 28 (.bin .add (.t 26) (.t 27)) (tm 29 (.t 1) (tq 30 (.bin .rem (.t 28) (.t 29)) (tm 4 (.t 30) .done)))))))))))
 .ret)))))))
theorem d8a:a1e Tryz.prog Tryz.f123 = some (d3n.erase,[.mov (.t 4)],31):=by kernel_rfl
def a0z (A:Int) (F:a0h):Option (Int × a0h) :=
    if (decide (A ≤ 1)) then
    some (0,F)
    else
    if (decide (A ≤ 256)) then
    (a4m F).bind fun G =>
    if A ≠ 0 then
    some (G.1.tmod A,G.2)
    else none
    else
    (a4m F).bind fun E =>
    (a4m E.2).bind fun B =>
    (a4m B.2).bind fun D =>
    if A ≠ 0 then
    some ((w64 ((w64 ((w64 (E.1 * 65536)) + (w64 (B.1 * 256)))) + D.1)).tmod A,D.2)
    else none
theorem a0p (A:Int) (F:a0h) (r:(Int × a0h)) (hf:a0z A F = some r):a1u Tryz.prog false 123 [(.ptr 0 0 0),(.I A)] [.box 3 (.agg [(.lst 1 (F.Code.map a0c)),(.I F.At),(.I F.Seed)])] (.I r.1) [.box 3 (.agg [(.lst 1 (r.2.Code.map a0c)),(.I r.2.At),(.I r.2.Seed)])]:=by
 refine a1u.of_awp mixed Tryz.func123 d8a nle ?_;rw [a0n];unfold a0z at hf;unfold d3n;refine (show awp Tryz.prog false 1 _ (ofL [(0,(.ptr 0 0 0)),(1,(.I A))]) [.box 3 (.agg [(.lst 1 (F.Code.map a0c)),(.I F.At),(.I F.Seed)])] _ from ?_);refine sr<|l7 (.I 0) rfl<|dk<|o7<|sr<|l7 (.I A) rfl<|o8 (.bool (decide (A ≤ 1))) rfl rfl rfl<|dk<|?_
 rcases oi hf with ⟨c3,hf⟩ | ⟨c3,hf⟩
 ·refine y8 rfl c3<|sr<|l7 (.I 0) rfl<|dk<|a0b<|?_;obtain rfl:=os hf;exact a3u [] [0] rfl ⟨tr,tr⟩ rfl .r .r
 ·refine y9 rfl (bf c3)<|a0k<|a0m<|o7<|sr<|l7 (.I A) rfl<|o8 (.bool (decide (A ≤ 256))) rfl rfl rfl<|dk<|?_
  rcases oi hf with ⟨c4,hf⟩ | ⟨c4,hf⟩
  ·refine y8 rfl c4<|sr<|?_
   obtain ⟨G,er6,hf⟩:=ob hf
   obtain ⟨g7,hf⟩:=og hf
   refine l7 (.ptr 0 0 0) rfl ?_;refine x8 (a0u (v:=(.I G.1)) (h2:=[.box 3 (.agg [(.lst 1 (G.2.Code.map a0c)),(.I G.2.At),(.I G.2.Seed)])]) [] [0] (fun _ => rfl) (a8d _ _ er6) rfl .r .r rfl rfl) ?_;refine l7 (.I A) rfl<|o8 (.I (G.1.tmod A)) rfl ⟨rfl,g7⟩ rfl<|l7 (.I (G.1.tmod A)) rfl<|dk<|a0b<|?_;obtain rfl:=os hf;exact a3u [] [0] rfl ⟨tr,tr⟩ rfl .r .r
  ·refine y9 rfl (bf c4)<|a0k<|a0m<|sr<|?_
   obtain ⟨E,er9,hf⟩:=ob hf
   refine l7 (.ptr 0 0 0) rfl ?_;refine x8 (a0u (v:=(.I E.1)) (h2:=[.box 3 (.agg [(.lst 1 (E.2.Code.map a0c)),(.I E.2.At),(.I E.2.Seed)])]) [] [0] (fun _ => rfl) (a8d _ _ er9) rfl .r .r rfl rfl) ?_;refine l7 (.I E.1) rfl<|dk<|sr<|?_
   obtain ⟨B,er11,hf⟩:=ob hf
   refine l7 (.ptr 0 0 0) rfl ?_;refine x8 (a0u (v:=(.I B.1)) (h2:=[.box 3 (.agg [(.lst 1 (B.2.Code.map a0c)),(.I B.2.At),(.I B.2.Seed)])]) [] [0] (fun _ => rfl) (a8d _ _ er11) rfl .r .r rfl rfl) ?_;refine l7 (.I B.1) rfl<|dk<|sr<|?_
   obtain ⟨D,er13,hf⟩:=ob hf
   refine l7 (.ptr 0 0 0) rfl ?_;refine x8 (a0u (v:=(.I D.1)) (h2:=[.box 3 (.agg [(.lst 1 (D.2.Code.map a0c)),(.I D.2.At),(.I D.2.Seed)])]) [] [0] (fun _ => rfl) (a8d _ _ er13) rfl .r .r rfl rfl) ?_;refine l7 (.I D.1) rfl<|dk<|sr<|?_
   obtain ⟨g14,hf⟩:=og hf
   refine l7 (.I E.1) rfl<|o8 (.I (w64 (E.1 * 65536))) rfl rfl rfl<|l7 (.I B.1) rfl<|o8 (.I (w64 (B.1 * 256))) rfl rfl rfl<|o8 (.I (w64 ((w64 (E.1 * 65536)) + (w64 (B.1 * 256))))) rfl rfl rfl<|l7 (.I D.1) rfl<|o8 (.I (w64 ((w64 ((w64 (E.1 * 65536)) + (w64 (B.1 * 256)))) + D.1))) rfl rfl rfl<|l7 (.I A) rfl<|o8 (.I ((w64 ((w64 ((w64 (E.1 * 65536)) + (w64 (B.1 * 256)))) + D.1)).tmod A)) rfl ⟨rfl,g14⟩ rfl<|l7 (.I ((w64 ((w64 ((w64 (E.1 * 65536)) + (w64 (B.1 * 256)))) + D.1)).tmod A)) rfl<|dk<|a0b<|?_;obtain rfl:=os hf;exact a3u [] [0] rfl ⟨tr,tr⟩ rfl .r .r

/- (*spec.l00Src).chance -/
def d3o:a0s :=
 (.seq (.reg (tm 4 (.c (.bool false)) .done))
 (.seq (.reg (tm 5 (.t 0) (tm 6 (.t 1) (tq 7 (.call 123 [(.t 5),(.t 6)]) (tm 8 (.t 1) (tq 9 (.bin .sub (.t 8) (.c (.int .i64 1))) (tq 10 (.bin .eql (.t 7) (.t 9)) (tm 4 (.t 10) .done))))))))
 .ret))
theorem d8b:a1e Tryz.prog Tryz.f220 = some (d3o.erase,[.mov (.t 4)],11):=by kernel_rfl
def a1r (A:Int) (B:a0h):Option (Bool × a0h) :=
    (a0z A B).bind fun D =>
    some ((D.1 == w64 (A - 1)),D.2)
theorem a1w (A:Int) (B:a0h) (r:(Bool × a0h)) (hf:a1r A B = some r):a1u Tryz.prog false 220 [(.ptr 0 0 0),(.I A)] [.box 3 (.agg [(.lst 1 (B.Code.map a0c)),(.I B.At),(.I B.Seed)])] (.bool r.1) [.box 3 (.agg [(.lst 1 (r.2.Code.map a0c)),(.I r.2.At),(.I r.2.Seed)])]:=by
 refine a1u.of_awp mixed Tryz.func220 d8b nle ?_;rw [a0n];unfold a1r at hf;unfold d3o;refine (show awp Tryz.prog false 1 _ (ofL [(0,(.ptr 0 0 0)),(1,(.I A))]) [.box 3 (.agg [(.lst 1 (B.Code.map a0c)),(.I B.At),(.I B.Seed)])] _ from ?_);refine sr<|l7 (.bool false) rfl<|dk<|sr<|?_
 obtain ⟨D,er4,hf⟩:=ob hf
 refine l7 (.ptr 0 0 0) rfl<|l7 (.I A) rfl<|?_;refine x8 (a0u (v:=(.I D.1)) (h2:=[.box 3 (.agg [(.lst 1 (D.2.Code.map a0c)),(.I D.2.At),(.I D.2.Seed)])]) [] [0] (fun _ => rfl) (a0p _ _ _ er4) rfl .r .r rfl rfl) ?_;refine l7 (.I A) rfl<|o8 (.I (w64 (A - 1))) rfl rfl rfl<|o8 (.bool (D.1 == w64 (A - 1))) rfl rfl rfl<|l7 (.bool (D.1 == w64 (A - 1))) rfl<|dk<|a0b<|?_;obtain rfl:=os hf;exact a3u [] [0] rfl ⟨tr,tr⟩ rfl .r .r

/- (*spec.l00Src).pick -/
def d3p:a0s :=
 (.seq (.reg (tm 4 (.c (.str [])) .done))
 (.seq (.seq (.reg (tm 5 (.t 1) (tq 6 (.len (.t 5)) (tq 7 (.bin .eql (.t 6) (.c (.int .i64 0))) .done))))
 (.cond (.t 7) (.seq (.reg (tm 4 (.c (.str [])) .done))
 .ret)
 .skip))
 (.seq (.reg (tm 8 (.t 1) (tm 9 (.t 0) (tm 10 (.t 1) (tq 11 (.len (.t 10)) (tq 12 (.call 123 [(.t 9),(.t 11)]) (tq 13 (.iaddr 1 (.t 8) (.t 12)) (tq 14 (.load 1 false (.t 13)) (tm 4 (.t 14) .done)))))))))
 .ret)))
theorem d8c:a1e Tryz.prog Tryz.f334 = some (d3p.erase,[.mov (.t 4)],15):=by kernel_rfl
def a4n (A:(List Str)) (B:a0h):Option (Str × a0h) :=
    if ((A.length:Int) == 0) then
    some ([],B)
    else
    (a0z (A.length:Int) B).bind fun D =>
    (idx A D.1).bind fun E =>
    some (E,D.2)
theorem a8e (A:(List Str)) (B:a0h) (r:(Str × a0h)) (hf:a4n A B = some r):a1u Tryz.prog false 334 [(.ptr 0 0 0),(.lst 1 (A.map AV.str))] [.box 3 (.agg [(.lst 1 (B.Code.map a0c)),(.I B.At),(.I B.Seed)])] (.str r.1) [.box 3 (.agg [(.lst 1 (r.2.Code.map a0c)),(.I r.2.At),(.I r.2.Seed)])]:=by
 refine a1u.of_awp mixed Tryz.func334 d8c nle ?_;rw [a0n];unfold a4n at hf;unfold d3p;refine (show awp Tryz.prog false 1 _ (ofL [(0,(.ptr 0 0 0)),(1,(.lst 1 (A.map AV.str)))]) [.box 3 (.agg [(.lst 1 (B.Code.map a0c)),(.I B.At),(.I B.Seed)])] _ from ?_);refine sr<|l7 (.str []) rfl<|dk<|o7<|sr<|l7 (.lst 1 (A.map AV.str)) rfl<|a1i (a1p (enc:=AV.str) rfl) fun hl3 => o8 (.bool ((A.length:Int) == 0)) rfl rfl rfl<|dk<|?_
 rcases oi hf with ⟨c4,hf⟩ | ⟨c4,hf⟩
 ·refine y8 rfl c4<|sr<|l7 (.str []) rfl<|dk<|a0b<|?_;obtain rfl:=os hf;exact a3u [] [0] rfl ⟨tr,tr⟩ rfl .r .r
 ·refine y9 rfl (bf c4)<|a0k<|a0m<|sr<|?_
  obtain ⟨D,er7,hf⟩:=ob hf
  obtain ⟨E,ex9,hf⟩:=ob hf
  refine l7 (.lst 1 (A.map AV.str)) rfl<|l7 (.ptr 0 0 0) rfl<|l7 (.lst 1 (A.map AV.str)) rfl<|a1i (a1p (enc:=AV.str) rfl) fun hl5 => ?_;refine x8 (a0u (v:=(.I D.1)) (h2:=[.box 3 (.agg [(.lst 1 (D.2.Code.map a0c)),(.I D.2.At),(.I D.2.Seed)])]) [] [0] (fun _ => rfl) (a0p _ _ _ er7) rfl .r .r rfl rfl) ?_;refine x8 (a2t (enc:=AV.str) rfl rfl (a8n ex9) (a8o ex9))<|o8 (.str E) rfl ⟨rfl,rfl⟩ rfl<|l7 (.str E) rfl<|dk<|a0b<|?_;obtain rfl:=os hf;exact a3u [] [0] rfl ⟨tr,tr⟩ rfl .r .r

/- (*spec.l00Src).atom -/
def d3q:a0s :=
 (.seq (.reg (tq 4 (.box 3 (.c (.agg [(.int .i64 0),(.int .i64 0),(.str [])]))) .done))
 (.seq (.seq (.reg (tm 5 (.t 1) .done))
 (.block 0 (.seq (.reg (tq 7 (.bin .eql (.t 5) (.c (.int .i64 1))) (tm 6 (.t 7) .done)))
 (.cond (.t 6) (.seq (.reg (tm 8 (.t 1) (tm 9 (.t 0) (tq 10 (.call 123 [(.t 9),(.c (.int .i64 12))]) (tq 11 (.bin .sub (.t 10) (.c (.int .i64 4))) (tq 12 (.build [(.int .i64 0),(.int .i64 0),(.str [])] [(0,1,(.t 8)),(1,1,(.t 11))]) (.q ⟨none,none,.store 3 (.t 4) (.t 12)⟩
 .done)))))))
 .ret)
 (.seq (.reg (tq 14 (.bin .eql (.t 5) (.c (.int .i64 2))) (tm 13 (.t 14) .done)))
 (.cond (.t 13) (.seq (.reg (tm 15 (.t 1) (tm 16 (.t 0) (tq 17 (.bslice 1 [(.c (.str [])),(.c (.str [97])),(.c (.str [98])),(.c (.str [99])),(.c (.str [110,101,116]))]) (tq 18 (.call 334 [(.t 16),(.t 17)]) (tq 19 (.build [(.int .i64 0),(.int .i64 0),(.str [])] [(0,1,(.t 15)),(2,1,(.t 18))]) (.q ⟨none,none,.store 3 (.t 4) (.t 19)⟩
 .done)))))))
 .ret)
 (.seq (.reg (tq 21 (.bin .eql (.t 5) (.c (.int .i64 3))) (tm 20 (.t 21) .done)))
 (.cond (.t 20) (.seq (.reg (tm 22 (.t 1) (tm 23 (.t 0) (tq 24 (.call 123 [(.t 23),(.c (.int .i64 2))]) (tq 25 (.build [(.int .i64 0),(.int .i64 0),(.str [])] [(0,1,(.t 22)),(1,1,(.t 24))]) (.q ⟨none,none,.store 3 (.t 4) (.t 25)⟩
 .done))))))
 .ret)
 .skip))))))))
 (.seq (.reg (tm 26 (.t 0) (tq 27 (.call 123 [(.t 26),(.c (.int .i64 6))]) (tq 28 (.bin .add (.c (.int .i64 1)) (.t 27)) (tq 29 (.build [(.int .i64 0),(.int .i64 0),(.str [])] [(0,1,(.c (.int .i64 4))),(1,1,(.t 28))]) (.q ⟨none,none,.store 3 (.t 4) (.t 29)⟩
 .done))))))
 .ret)))
theorem d8d:a1e Tryz.prog Tryz.f285 = some (d3q.erase,[.load 3 true (.t 4)],30):=by kernel_rfl
def a2k (A:Int) (E:a0h):Option (a1c × a0h) :=
    if (A == 1) then
    (a0z 12 E).bind fun F =>
    some ((⟨A,w64 (F.1 - 4),[]⟩:a1c),F.2)
    else
    if (A == 2) then
    (a4n [[],[97],[98],[99],[110,101,116]] E).bind fun G =>
    some ((⟨A,0,G.1⟩:a1c),G.2)
    else
    if (A == 3) then
    (a0z 2 E).bind fun D =>
    some ((⟨A,D.1,[]⟩:a1c),D.2)
    else
    (a0z 6 E).bind fun B =>
    some ((⟨4,w64 (1 + B.1),[]⟩:a1c),B.2)
theorem a2n (A:Int) (E:a0h) (r:(a1c × a0h)) (hf:a2k A E = some r):a1u Tryz.prog false 285 [(.ptr 0 0 0),(.I A)] [.box 3 (.agg [(.lst 1 (E.Code.map a0c)),(.I E.At),(.I E.Seed)])] (l9 r.1) [.box 3 (.agg [(.lst 1 (r.2.Code.map a0c)),(.I r.2.At),(.I r.2.Seed)])]:=by
 refine a1u.of_awp mixed Tryz.func285 d8d nle ?_;rw [a0n];unfold a2k at hf;unfold d3q;refine (show awp Tryz.prog false 1 _ (ofL [(0,(.ptr 0 0 0)),(1,(.I A))]) [.box 3 (.agg [(.lst 1 (E.Code.map a0c)),(.I E.At),(.I E.Seed)])] _ from ?_);refine sr<|x8 (a1j (j:=1) (c:=(.agg [(.I 0),(.I 0),(.str [])])) rfl tr rfl rfl)<|dk<|o7<|sr<|l7 (.I A) rfl<|dk<|a3y<|sr<|o8 (.bool (A == 1)) rfl rfl rfl<|l7 (.bool (A == 1)) rfl<|dk<|?_
 rcases oi hf with ⟨c3,hf⟩ | ⟨c3,hf⟩
 ·refine y8 rfl c3<|sr<|?_
  obtain ⟨F,er5,hf⟩:=ob hf
  refine l7 (.I A) rfl<|l7 (.ptr 0 0 0) rfl<|?_;refine x8 (a0u (v:=(.I F.1)) (h2:=[.box 3 (.agg [(.lst 1 (F.2.Code.map a0c)),(.I F.2.At),(.I F.2.Seed)]),.box 3 (.agg [(.I 0),(.I 0),(.str [])])]) [] [0] (fun _ => rfl) (a0p _ _ _ er5) rfl .r .r rfl rfl) ?_;refine o8 (.I (w64 (F.1 - 4))) rfl rfl rfl<|o8 (.agg [(.I A),(.I (w64 (F.1 - 4))),(.str [])]) rfl ⟨⟨rfl,nle,tr⟩,⟨⟨rfl,nle,tr⟩,tr⟩⟩ rfl<|a3o (a0e (v:=(.agg [(.I A),(.I (w64 (F.1 - 4))),(.str [])])) (y':=(.agg [(.I A),(.I (w64 (F.1 - 4))),(.str [])])) rfl rfl rfl tr ⟨rfl,nle⟩ ⟨⟨rfl,tr⟩,⟨⟨rfl,tr⟩,⟨⟨rfl,tr⟩,tr⟩⟩⟩ rfl)<|?_
  refine dk<|a0b<|?_;obtain rfl:=os hf;exact a3u [] [0] rfl ⟨nle,tr⟩ rfl .r .r
 ·refine y9 rfl (bf c3)<|sr<|o8 (.bool (A == 2)) rfl rfl rfl<|l7 (.bool (A == 2)) rfl<|dk<|?_
  rcases oi hf with ⟨c6,hf⟩ | ⟨c6,hf⟩
  ·refine y8 rfl c6<|sr<|?_
   obtain ⟨G,er8,hf⟩:=ob hf
   refine l7 (.I A) rfl<|l7 (.ptr 0 0 0) rfl<|?_;refine x8 (a0t (j:=2) (as':=[(.str []),(.str [97]),(.str [98]),(.str [99]),(.str [110,101,116])]) rfl (fun _ => by decide) ⟨rfl,⟨rfl,⟨rfl,⟨rfl,⟨rfl,tr⟩⟩⟩⟩⟩ .r rfl rfl rfl) ?_;refine x8 (a0u (v:=(.str G.1)) (h2:=[.box 3 (.agg [(.lst 1 (G.2.Code.map a0c)),(.I G.2.At),(.I G.2.Seed)]),.box 3 (.agg [(.I 0),(.I 0),(.str [])]),.dead]) [false,true] [0] (fun h => absurd (show false = true from h) (by decide)) (a8e _ _ _ er8) rfl (.cons .r (.cons (.of_eq (congrArg (AV.lst _) (tko [[],[97],[98],[99],[110,101,116]]))) .nil)) .r rfl rfl) ?_
   refine o8 (.agg [(.I A),(.I 0),(.str G.1)]) rfl ⟨⟨rfl,nle,tr⟩,⟨⟨rfl,nle,tr⟩,tr⟩⟩ rfl<|a3o (a0e (v:=(.agg [(.I A),(.I 0),(.str G.1)])) (y':=(.agg [(.I A),(.I 0),(.str G.1)])) rfl rfl rfl tr ⟨rfl,nle⟩ ⟨⟨rfl,tr⟩,⟨⟨rfl,tr⟩,⟨⟨rfl,tr⟩,tr⟩⟩⟩ rfl)<|dk<|a0b<|?_;obtain rfl:=os hf;exact a3u [] [0] rfl ⟨nle,tr⟩ rfl .r .r
  ·refine y9 rfl (bf c6)<|sr<|o8 (.bool (A == 3)) rfl rfl rfl<|l7 (.bool (A == 3)) rfl<|dk<|?_
   rcases oi hf with ⟨c9,hf⟩ | ⟨c9,hf⟩
   ·refine y8 rfl c9<|sr<|?_
    obtain ⟨D,er11,hf⟩:=ob hf
    refine l7 (.I A) rfl<|l7 (.ptr 0 0 0) rfl<|?_;refine x8 (a0u (v:=(.I D.1)) (h2:=[.box 3 (.agg [(.lst 1 (D.2.Code.map a0c)),(.I D.2.At),(.I D.2.Seed)]),.box 3 (.agg [(.I 0),(.I 0),(.str [])])]) [] [0] (fun _ => rfl) (a0p _ _ _ er11) rfl .r .r rfl rfl) ?_;refine o8 (.agg [(.I A),(.I D.1),(.str [])]) rfl ⟨⟨rfl,nle,tr⟩,⟨⟨rfl,nle,tr⟩,tr⟩⟩ rfl<|a3o (a0e (v:=(.agg [(.I A),(.I D.1),(.str [])])) (y':=(.agg [(.I A),(.I D.1),(.str [])])) rfl rfl rfl tr ⟨rfl,nle⟩ ⟨⟨rfl,tr⟩,⟨⟨rfl,tr⟩,⟨⟨rfl,tr⟩,tr⟩⟩⟩ rfl)<|?_
    refine dk<|a0b<|?_;obtain rfl:=os hf;exact a3u [] [0] rfl ⟨nle,tr⟩ rfl .r .r
   ·refine y9 rfl (bf c9)<|a0k<|a2y<|a0m<|sr<|?_
    obtain ⟨B,er13,hf⟩:=ob hf
    refine l7 (.ptr 0 0 0) rfl ?_;refine x8 (a0u (v:=(.I B.1)) (h2:=[.box 3 (.agg [(.lst 1 (B.2.Code.map a0c)),(.I B.2.At),(.I B.2.Seed)]),.box 3 (.agg [(.I 0),(.I 0),(.str [])])]) [] [0] (fun _ => rfl) (a0p _ _ _ er13) rfl .r .r rfl rfl) ?_;refine o8 (.I (w64 (1 + B.1))) rfl rfl rfl<|o8 (.agg [(.I 4),(.I (w64 (1 + B.1))),(.str [])]) rfl ⟨⟨rfl,nle,tr⟩,⟨⟨rfl,nle,tr⟩,tr⟩⟩ rfl<|a3o (a0e (v:=(.agg [(.I 4),(.I (w64 (1 + B.1))),(.str [])])) (y':=(.agg [(.I 4),(.I (w64 (1 + B.1))),(.str [])])) rfl rfl rfl tr ⟨rfl,nle⟩ ⟨⟨rfl,tr⟩,⟨⟨rfl,tr⟩,⟨⟨rfl,tr⟩,tr⟩⟩⟩ rfl)<|?_
    refine dk<|a0b<|?_;obtain rfl:=os hf;exact a3u [] [0] rfl ⟨nle,tr⟩ rfl .r .r

/- (*spec.l00Src).datum -/
def d3r:a0s :=
 (.seq (.reg (tm 4 (.c .nil) .done))
 (.seq (.reg (tq 7 (.bslice 3 []) (tm 5 (.t 7) .done)))
 (.seq (.seq (.reg (tm 8 (.t 0) (tq 9 (.call 123 [(.t 8),(.c (.int .i64 5))]) (tm 6 (.t 9) .done))))
 (.block 0 (.loop (.seq (.seq (.reg (tm 10 (.t 6) (tq 11 (.bin .gtr (.t 10) (.c (.int .i64 0))) .done)))
 (.cond (.t 11) .skip
 (.exit 0)))
 (.seq (.block 1 (.reg (tm 14 (.t 5) (tm 15 (.t 0) (tm 16 (.t 1) (tq 17 (.call 285 [(.t 15),(.t 16)]) (tq 18 (.call 284 [(.t 14),(.t 17)]) (tm 5 (.t 18) .done))))))))
 (.reg (tm 12 (.t 6) (tq 13 (.bin .sub (.t 12) (.c (.int .i64 1))) (tm 6 (.t 13) .done)))))))))
 (.cut (.seq (.reg (tm 19 (.t 5) (tm 4 (.t 19) .done)))
 .ret)))))
theorem d8e:a1e Tryz.prog Tryz.f166 = some (d3r.erase,[.mov (.t 4)],20):=by kernel_rfl
def a2z (A:Int):Nat → (List a1c) → Int → (List Int) → Int → Int → Option ((List a1c) × (List Int) × Int × Int)
  | 0,_,_,_,_,_ => none
  | k + 1,F,D,J,K,L =>
    if (decide (D > 0)) then
    (a2k A (⟨J,K,L⟩:a0h)).bind fun B =>
    (b3v F B.1).bind fun M =>
    a2z A k M (w64 (D - 1)) B.2.Code B.2.At B.2.Seed
    else
    some (F,J,K,L)

def a4g (A:Int) (G:a0h):Option ((List a1c) × a0h) :=
    (a0z 5 G).bind fun E =>
    (a2z A FUEL [] E.1 E.2.Code E.2.At E.2.Seed).bind fun p34 =>
    (match p34 with
    | (H,N,O,P) =>
    some (H,(⟨N,O,P⟩:a0h)))
theorem a1s (A:Int) (G:a0h) (r:((List a1c) × a0h)) (hf:a4g A G = some r):a1u Tryz.prog false 166 [(.ptr 0 0 0),(.I A)] [.box 3 (.agg [(.lst 1 (G.Code.map a0c)),(.I G.At),(.I G.Seed)])] (.lst 3 (r.1.map l9)) [.box 3 (.agg [(.lst 1 (r.2.Code.map a0c)),(.I r.2.At),(.I r.2.Seed)])]:=by
 refine a1u.of_awp mixed Tryz.func166 d8e nle ?_;rw [a0n];unfold a4g at hf;unfold d3r;refine (show awp Tryz.prog false 1 _ (ofL [(0,(.ptr 0 0 0)),(1,(.I A))]) [.box 3 (.agg [(.lst 1 (G.Code.map a0c)),(.I G.At),(.I G.Seed)])] _ from ?_);refine sr<|l7 .nil rfl<|dk<|sr<|?_;refine x8 (a0t (j:=1) (as':=[]) rfl (fun _ => by decide) tr .r rfl rfl rfl) ?_;refine l7 (.own 1 0 0) rfl<|dk<|o7<|sr<|?_
 obtain ⟨E,er4,hf⟩:=ob hf
 refine l7 (.ptr 0 0 0) rfl ?_;refine x8 (a0u (v:=(.I E.1)) (h2:=[.box 3 (.agg [(.lst 1 (E.2.Code.map a0c)),(.I E.2.At),(.I E.2.Seed)]),.row 3 ([].map l9)]) [] [0] (fun _ => rfl) (a0p _ _ _ er4) rfl .r .r rfl rfl) ?_;refine l7 (.I E.1) rfl<|dk<|?_
 obtain ⟨p34,hb1,hf⟩:=ob hf
 refine a1k ([(5,(.lst 3 (p34.1.map l9)))],[.box 3 (.agg [(.lst 1 (p34.2.1.map a0c)),(.I p34.2.2.1),(.I p34.2.2.2)])]) ?_ ?_
 ·refine a1v (X:={q:(Nat × (List a1c) × Int × (List Int) × Int × Int) // a2z A q.1 q.2.1 q.2.2.1 q.2.2.2.1 q.2.2.2.2.1 q.2.2.2.2.2 = some p34}) (fun q => ([(0,(.ptr 0 0 0)),(1,(.I A)),(5,(.lst 3 (q.1.2.1.map l9))),(6,(.I q.1.2.2.1))],[.box 3 (.agg [(.lst 1 (q.1.2.2.2.1.map a0c)),(.I q.1.2.2.2.2.1),(.I q.1.2.2.2.2.2)])])) (fun q => q.1.1) ⟨(FUEL,[],E.1,E.2.Code,E.2.At,E.2.Seed),hb1⟩ ⟨[.frz 5],[0],_,_,rfl,rfl,⟨.r,⟨.r,⟨.of_eq (congrArg (AV.lst _) (tko [])),⟨.r,tr⟩⟩⟩⟩,.r⟩ ?_
  rintro ⟨⟨k,F,D,J,K,L⟩,hc1⟩
  have hc1:a2z A k F D J K L = some p34:=hc1
  refine (show awp Tryz.prog false 1 _ (ofL [(0,(.ptr 0 0 0)),(1,(.I A)),(5,(.lst 3 (F.map l9))),(6,(.I D))]) [.box 3 (.agg [(.lst 1 (J.map a0c)),(.I K),(.I L)])] _ from ?_)
  rcases k with _ | k
  ·rw [a2z.eq_1] at hc1
   cases hc1
  ·rw [a2z.eq_2] at hc1;refine o7<|sr<|l7 (.I D) rfl<|o8 (.bool (decide (D > 0))) rfl rfl rfl<|dk<|?_
   rcases oi hc1 with ⟨c35,hc1⟩ | ⟨c35,hc1⟩
   ·refine y8 rfl c35<|a0k<|a0m<|o7<|a3y<|a0r<|?_
    obtain ⟨B,er37,hc1⟩:=ob hc1
    obtain ⟨M,er39,hc1⟩:=ob hc1
    refine l7 (.lst 3 (F.map l9)) rfl<|l7 (.ptr 0 0 0) rfl<|l7 (.I A) rfl<|?_;refine x8 (a0u (v:=(l9 B.1)) (h2:=[.box 3 (.agg [(.lst 1 (B.2.Code.map a0c)),(.I B.2.At),(.I B.2.Seed)])]) [] [0] (fun _ => rfl) (a2n _ _ _ er37) rfl .r .r rfl rfl) ?_;refine x8 (d3f rfl (c6i _ _ _ er39) rfl .r rfl rfl)<|l7 (.lst 3 (M.map l9)) rfl<|y5<|a2y<|a0m<|a0r<|l7 (.I D) rfl<|o8 (.I (w64 (D - 1))) rfl rfl rfl<|l7 (.I (w64 (D - 1))) rfl<|y5<|?_;exact a1z ⟨(k,M,w64 (D - 1),B.2.Code,B.2.At,B.2.Seed),hc1⟩ (Nat.lt_succ_self _) ⟨[],[0],_,_,rfl,rfl,⟨.r,⟨.r,⟨.r,⟨.r,tr⟩⟩⟩⟩,.r⟩
   ·refine y9 rfl (bf c35)<|a3i<|a3h<|a2e<|a3g<|?_;obtain rfl:=os hc1;exact ⟨[],[0],_,_,rfl,rfl,⟨.r,tr⟩,.r⟩
 ·obtain ⟨H,N,O,P⟩:=p34
  refine sr<|l7 (.lst 3 (H.map l9)) rfl<|l7 (.lst 3 (H.map l9)) rfl<|dk<|a0b<|?_;obtain rfl:=os hf;exact a3u [] [0] rfl ⟨tr,tr⟩ rfl .r .r

/- (*spec.l00Src).sets -/
def d3s:a0s :=
 (.seq (.reg (tm 4 (.c .nil) .done))
 (.seq (.reg (tq 10 (.call 25 []) (tq 11 (.field 0 1 false (.t 10)) (tm 12 (.t 1) (tq 13 (.iaddr 4 (.t 11) (.t 12)) (tq 14 (.load 4 true (.t 13)) (tq 5 (.box 4 (.c (.agg [(.str []),.nil,.nil,(.bool false)]))) (.q ⟨none,none,.store 4 (.t 5) (.t 14)⟩
 .done))))))))
 (.seq (.reg (tq 15 (.bslice 3 []) (tm 6 (.t 15) .done)))
 (.seq (.seq (.reg (tm 7 (.c (.int .i64 0)) .done))
 (.block 0 (.loop (.seq (.seq (.reg (tm 16 (.t 7) (tq 17 (.faddr 1 (.t 5)) (tq 18 (.load 1 false (.t 17)) (tq 19 (.len (.t 18)) (tq 20 (.bin .lss (.t 16) (.t 19)) .done))))))
 (.cond (.t 20) .skip
 (.exit 0)))
 (.seq (.block 1 (.seq (.seq (.reg (tm 23 (.t 0) (tq 24 (.call 220 [(.t 23),(.c (.int .i64 2))]) (tq 25 (.not (.t 24)) (tm 26 (.t 25) (tg 27 26 true (.mov (.t 7)) (tg 28 26 true (.bin .gtr (.t 27) (.c (.int .i64 0))) (tq 29 (.pick (.t 26) (.t 28) (.c (.bool false))) .done))))))))
 (.cut (.cond (.t 29) (.exit 1)
 .skip)))
 (.seq (.reg (tq 30 (.faddr 1 (.t 5)) (tq 31 (.load 1 false (.t 30)) (tm 32 (.t 7) (tq 33 (.iaddr 8 (.t 31) (.t 32)) (tq 34 (.load 8 true (.t 33)) (tq 8 (.box 8 (.c (.agg [(.str []),(.int .i64 0),(.int .i64 0),(.int .i64 0),(.int .i64 0),(.int .i64 0),(.str []),(.bool false)]))) (.q ⟨none,none,.store 8 (.t 8) (.t 34)⟩
 .done))))))))
 (.seq (.reg (tq 35 (.faddr 0 (.t 8)) (tq 36 (.load 1 false (.t 35)) (tm 37 (.t 0) (tq 38 (.faddr 1 (.t 8)) (tq 39 (.load 1 false (.t 38)) (.l ⟨(some 40),none,.call 285 [(.t 37),(.t 39)]⟩ [⟨(some 36),none,.load 1 false (.t 35)⟩,⟨(some 35),none,.faddr 0 (.t 8)⟩]
 (.l ⟨(some 41),none,.bslice 3 [(.t 40)]⟩ [⟨(some 36),none,.load 1 false (.t 35)⟩,⟨(some 35),none,.faddr 0 (.t 8)⟩]
 (.l ⟨(some 42),none,.bslice 1 []⟩ [⟨(some 39),none,.load 1 false (.t 38)⟩,⟨(some 38),none,.faddr 1 (.t 8)⟩,⟨(some 36),none,.load 1 false (.t 35)⟩,⟨(some 35),none,.faddr 0 (.t 8)⟩]
 (tq 43 (.build [(.str []),.nil,.nil] [(0,1,(.t 36)),(1,1,(.t 41)),(2,1,(.t 42))]) (.l ⟨(some 9),none,.box 3 (.c (.agg [(.str []),.nil,.nil]))⟩ [⟨(some 43),none,.build [(.str []),.nil,.nil] [(0,1,(.t 36)),(1,1,(.t 41)),(2,1,(.t 42))]⟩,⟨(some 39),none,.load 1 false (.t 38)⟩,⟨(some 38),none,.faddr 1 (.t 8)⟩,⟨(some 36),none,.load 1 false (.t 35)⟩,⟨(some 35),none,.faddr 0 (.t 8)⟩]
 (.l ⟨none,none,.store 3 (.t 9) (.t 43)⟩ []
 .done .non) .non)) (.l ⟨(some 9),none,.box 3 (.c (.agg [(.str []),.nil,.nil]))⟩ [⟨(some 39),none,.load 1 false (.t 38)⟩,⟨(some 38),none,.faddr 1 (.t 8)⟩,⟨(some 36),none,.load 1 false (.t 35)⟩,⟨(some 35),none,.faddr 0 (.t 8)⟩]
 (.l ⟨(some 42),none,.bslice 1 []⟩ [⟨(some 39),none,.load 1 false (.t 38)⟩,⟨(some 38),none,.faddr 1 (.t 8)⟩,⟨(some 36),none,.load 1 false (.t 35)⟩,⟨(some 35),none,.faddr 0 (.t 8)⟩]
 (tq 43 (.build [(.str []),.nil,.nil] [(0,1,(.t 36)),(1,1,(.t 41)),(2,1,(.t 42))]) (.l ⟨none,none,.store 3 (.t 9) (.t 43)⟩ []
 .done .non)) .non) .non)) (.l ⟨(some 42),none,.bslice 1 []⟩ [⟨(some 39),none,.load 1 false (.t 38)⟩,⟨(some 38),none,.faddr 1 (.t 8)⟩,⟨(some 36),none,.load 1 false (.t 35)⟩,⟨(some 35),none,.faddr 0 (.t 8)⟩]
 (.l ⟨(some 41),none,.bslice 3 [(.t 40)]⟩ [⟨(some 36),none,.load 1 false (.t 35)⟩,⟨(some 35),none,.faddr 0 (.t 8)⟩]
 (tq 43 (.build [(.str []),.nil,.nil] [(0,1,(.t 36)),(1,1,(.t 41)),(2,1,(.t 42))]) (.l ⟨(some 9),none,.box 3 (.c (.agg [(.str []),.nil,.nil]))⟩ [⟨(some 43),none,.build [(.str []),.nil,.nil] [(0,1,(.t 36)),(1,1,(.t 41)),(2,1,(.t 42))]⟩,⟨(some 39),none,.load 1 false (.t 38)⟩,⟨(some 38),none,.faddr 1 (.t 8)⟩,⟨(some 36),none,.load 1 false (.t 35)⟩,⟨(some 35),none,.faddr 0 (.t 8)⟩]
 (.l ⟨none,none,.store 3 (.t 9) (.t 43)⟩ []
 .done .non) .non)) (.l ⟨(some 9),none,.box 3 (.c (.agg [(.str []),.nil,.nil]))⟩ [⟨(some 39),none,.load 1 false (.t 38)⟩,⟨(some 38),none,.faddr 1 (.t 8)⟩,⟨(some 36),none,.load 1 false (.t 35)⟩,⟨(some 35),none,.faddr 0 (.t 8)⟩]
 (.l ⟨(some 41),none,.bslice 3 [(.t 40)]⟩ [⟨(some 36),none,.load 1 false (.t 35)⟩,⟨(some 35),none,.faddr 0 (.t 8)⟩]
 (tq 43 (.build [(.str []),.nil,.nil] [(0,1,(.t 36)),(1,1,(.t 41)),(2,1,(.t 42))]) (.l ⟨none,none,.store 3 (.t 9) (.t 43)⟩ []
 .done .non)) .non) .non)) (.l ⟨(some 9),none,.box 3 (.c (.agg [(.str []),.nil,.nil]))⟩ [⟨(some 39),none,.load 1 false (.t 38)⟩,⟨(some 38),none,.faddr 1 (.t 8)⟩,⟨(some 36),none,.load 1 false (.t 35)⟩,⟨(some 35),none,.faddr 0 (.t 8)⟩]
 (.l ⟨(some 41),none,.bslice 3 [(.t 40)]⟩ [⟨(some 36),none,.load 1 false (.t 35)⟩,⟨(some 35),none,.faddr 0 (.t 8)⟩]
 (.l ⟨(some 42),none,.bslice 1 []⟩ [⟨(some 39),none,.load 1 false (.t 38)⟩,⟨(some 38),none,.faddr 1 (.t 8)⟩,⟨(some 36),none,.load 1 false (.t 35)⟩,⟨(some 35),none,.faddr 0 (.t 8)⟩]
 (tq 43 (.build [(.str []),.nil,.nil] [(0,1,(.t 36)),(1,1,(.t 41)),(2,1,(.t 42))]) (.l ⟨none,none,.store 3 (.t 9) (.t 43)⟩ []
 .done .non)) .non) (.l ⟨(some 42),none,.bslice 1 []⟩ [⟨(some 39),none,.load 1 false (.t 38)⟩,⟨(some 38),none,.faddr 1 (.t 8)⟩,⟨(some 36),none,.load 1 false (.t 35)⟩,⟨(some 35),none,.faddr 0 (.t 8)⟩]
 (.l ⟨(some 41),none,.bslice 3 [(.t 40)]⟩ [⟨(some 36),none,.load 1 false (.t 35)⟩,⟨(some 35),none,.faddr 0 (.t 8)⟩]
 (tq 43 (.build [(.str []),.nil,.nil] [(0,1,(.t 36)),(1,1,(.t 41)),(2,1,(.t 42))]) (.l ⟨none,none,.store 3 (.t 9) (.t 43)⟩ []
 .done .non)) .non) .non)) .non))) (.l ⟨(some 42),none,.bslice 1 []⟩ [⟨(some 39),none,.load 1 false (.t 38)⟩,⟨(some 38),none,.faddr 1 (.t 8)⟩,⟨(some 36),none,.load 1 false (.t 35)⟩,⟨(some 35),none,.faddr 0 (.t 8)⟩]
 (.l ⟨(some 40),none,.call 285 [(.t 37),(.t 39)]⟩ [⟨(some 36),none,.load 1 false (.t 35)⟩,⟨(some 35),none,.faddr 0 (.t 8)⟩]
 (.l ⟨(some 41),none,.bslice 3 [(.t 40)]⟩ [⟨(some 36),none,.load 1 false (.t 35)⟩,⟨(some 35),none,.faddr 0 (.t 8)⟩]
 (tq 43 (.build [(.str []),.nil,.nil] [(0,1,(.t 36)),(1,1,(.t 41)),(2,1,(.t 42))]) (.l ⟨(some 9),none,.box 3 (.c (.agg [(.str []),.nil,.nil]))⟩ [⟨(some 43),none,.build [(.str []),.nil,.nil] [(0,1,(.t 36)),(1,1,(.t 41)),(2,1,(.t 42))]⟩,⟨(some 39),none,.load 1 false (.t 38)⟩,⟨(some 38),none,.faddr 1 (.t 8)⟩,⟨(some 36),none,.load 1 false (.t 35)⟩,⟨(some 35),none,.faddr 0 (.t 8)⟩]
 (.l ⟨none,none,.store 3 (.t 9) (.t 43)⟩ []
 .done .non) .non)) (.l ⟨(some 9),none,.box 3 (.c (.agg [(.str []),.nil,.nil]))⟩ [⟨(some 39),none,.load 1 false (.t 38)⟩,⟨(some 38),none,.faddr 1 (.t 8)⟩,⟨(some 36),none,.load 1 false (.t 35)⟩,⟨(some 35),none,.faddr 0 (.t 8)⟩]
 (.l ⟨(some 41),none,.bslice 3 [(.t 40)]⟩ [⟨(some 36),none,.load 1 false (.t 35)⟩,⟨(some 35),none,.faddr 0 (.t 8)⟩]
 (tq 43 (.build [(.str []),.nil,.nil] [(0,1,(.t 36)),(1,1,(.t 41)),(2,1,(.t 42))]) (.l ⟨none,none,.store 3 (.t 9) (.t 43)⟩ []
 .done .non)) .non) .non)) (.l ⟨(some 9),none,.box 3 (.c (.agg [(.str []),.nil,.nil]))⟩ [⟨(some 39),none,.load 1 false (.t 38)⟩,⟨(some 38),none,.faddr 1 (.t 8)⟩,⟨(some 36),none,.load 1 false (.t 35)⟩,⟨(some 35),none,.faddr 0 (.t 8)⟩]
 (.l ⟨(some 40),none,.call 285 [(.t 37),(.t 39)]⟩ [⟨(some 36),none,.load 1 false (.t 35)⟩,⟨(some 35),none,.faddr 0 (.t 8)⟩]
 (.l ⟨(some 41),none,.bslice 3 [(.t 40)]⟩ [⟨(some 36),none,.load 1 false (.t 35)⟩,⟨(some 35),none,.faddr 0 (.t 8)⟩]
 (tq 43 (.build [(.str []),.nil,.nil] [(0,1,(.t 36)),(1,1,(.t 41)),(2,1,(.t 42))]) (.l ⟨none,none,.store 3 (.t 9) (.t 43)⟩ []
 .done .non)) .non) .non) .non)) (.l ⟨(some 9),none,.box 3 (.c (.agg [(.str []),.nil,.nil]))⟩ [⟨(some 39),none,.load 1 false (.t 38)⟩,⟨(some 38),none,.faddr 1 (.t 8)⟩,⟨(some 36),none,.load 1 false (.t 35)⟩,⟨(some 35),none,.faddr 0 (.t 8)⟩]
 (.l ⟨(some 40),none,.call 285 [(.t 37),(.t 39)]⟩ [⟨(some 36),none,.load 1 false (.t 35)⟩,⟨(some 35),none,.faddr 0 (.t 8)⟩]
 (.l ⟨(some 41),none,.bslice 3 [(.t 40)]⟩ [⟨(some 36),none,.load 1 false (.t 35)⟩,⟨(some 35),none,.faddr 0 (.t 8)⟩]
 (.l ⟨(some 42),none,.bslice 1 []⟩ [⟨(some 39),none,.load 1 false (.t 38)⟩,⟨(some 38),none,.faddr 1 (.t 8)⟩,⟨(some 36),none,.load 1 false (.t 35)⟩,⟨(some 35),none,.faddr 0 (.t 8)⟩]
 (tq 43 (.build [(.str []),.nil,.nil] [(0,1,(.t 36)),(1,1,(.t 41)),(2,1,(.t 42))]) (.l ⟨none,none,.store 3 (.t 9) (.t 43)⟩ []
 .done .non)) .non) (.l ⟨(some 42),none,.bslice 1 []⟩ [⟨(some 39),none,.load 1 false (.t 38)⟩,⟨(some 38),none,.faddr 1 (.t 8)⟩,⟨(some 36),none,.load 1 false (.t 35)⟩,⟨(some 35),none,.faddr 0 (.t 8)⟩]
 (.l ⟨(some 41),none,.bslice 3 [(.t 40)]⟩ [⟨(some 36),none,.load 1 false (.t 35)⟩,⟨(some 35),none,.faddr 0 (.t 8)⟩]
 (tq 43 (.build [(.str []),.nil,.nil] [(0,1,(.t 36)),(1,1,(.t 41)),(2,1,(.t 42))]) (.l ⟨none,none,.store 3 (.t 9) (.t 43)⟩ []
 .done .non)) .non) .non)) (.l ⟨(some 42),none,.bslice 1 []⟩ [⟨(some 39),none,.load 1 false (.t 38)⟩,⟨(some 38),none,.faddr 1 (.t 8)⟩,⟨(some 36),none,.load 1 false (.t 35)⟩,⟨(some 35),none,.faddr 0 (.t 8)⟩]
 (.l ⟨(some 40),none,.call 285 [(.t 37),(.t 39)]⟩ [⟨(some 36),none,.load 1 false (.t 35)⟩,⟨(some 35),none,.faddr 0 (.t 8)⟩]
 (.l ⟨(some 41),none,.bslice 3 [(.t 40)]⟩ [⟨(some 36),none,.load 1 false (.t 35)⟩,⟨(some 35),none,.faddr 0 (.t 8)⟩]
 (tq 43 (.build [(.str []),.nil,.nil] [(0,1,(.t 36)),(1,1,(.t 41)),(2,1,(.t 42))]) (.l ⟨none,none,.store 3 (.t 9) (.t 43)⟩ []
 .done .non)) .non) .non) .non)) .non)))))))))
 (.cut (.seq (.seq (.reg (tq 44 (.faddr 1 (.t 8)) (tq 45 (.load 1 false (.t 44)) (tq 46 (.bin .eql (.t 45) (.c (.int .i64 4))) .done))))
 (.cond (.t 46) (.seq (.reg (tq 47 (.bslice 3 []) (tq 48 (.faddr 1 (.t 9)) (.q ⟨none,none,.store 1 (.t 48) (.t 47)⟩
 .done))))
 (.seq (.reg (tm 49 (.t 0) (tq 50 (.call 220 [(.t 49),(.c (.int .i64 2))]) .done)))
 (.cond (.t 50) (.reg (tm 51 (.t 0) (tq 52 (.bslice 1 [(.c (.str [112])),(.c (.str [113]))]) (tq 53 (.call 334 [(.t 51),(.t 52)]) (tq 54 (.bslice 1 [(.t 53)]) (tq 55 (.faddr 2 (.t 9)) (.q ⟨none,none,.store 1 (.t 55) (.t 54)⟩
 .done)))))))
 (.seq (.reg (tm 56 (.t 0) (tq 57 (.call 220 [(.t 56),(.c (.int .i64 2))]) .done)))
 (.cond (.t 57) (.reg (tm 58 (.t 0) (tq 59 (.call 166 [(.t 58),(.c (.int .i64 4))]) (tq 60 (.faddr 1 (.t 9)) (.q ⟨none,none,.store 1 (.t 60) (.t 59)⟩
 .done)))))
 .skip)))))
 .skip))
 (.cut (.reg (tm 61 (.t 6) (tq 62 (.load 3 true (.t 9)) (tq 63 (.bslice 3 [(.t 62)]) (tq 64 (.append 3 64 (.t 61) (.t 63)) (tm 6 (.t 64) .done)))))))))))))
 (.reg (tm 21 (.t 7) (tq 22 (.bin .add (.t 21) (.c (.int .i64 1))) (tm 7 (.t 22) .done)))))))))
 (.cut (.seq (.reg (tm 65 (.t 6) (tm 4 (.t 65) .done)))
 .ret))))))
theorem d8f:a1e Tryz.prog Tryz.f221 = some (d3s.erase,[.mov (.t 4)],66):=by kernel_rfl
def a2b :List a0v → Nat → (List Int) → Int → Int → (List a3l) → Option ((List Int) × Int × Int × (List a3l))
  | [],F,T,U,V,D =>
    some (T,U,V,D)
  | A :: xs,F,T,U,V,D =>
    (((a1r 2 (⟨T,U,V⟩:a0h)).bind fun G =>
    if (!G.1) then
    some ((decide ((F:Int) > 0)),G.2.Code,G.2.At,G.2.Seed)
    else
    some (false,G.2.Code,G.2.At,G.2.Seed):Option (Bool × (List Int) × Int × Int))).bind fun p202 =>
    (match p202 with
    | (Ab,Y,Z,Aa) =>
    if Ab then
    a2b xs (F + 1) Y Z Aa D
    else
    (((a2k A.Kind (⟨Y,Z,Aa⟩:a0h)).bind fun E =>
    some (E.2.Code,E.2.At,E.2.Seed,[E.1]):Option ((List Int) × Int × Int × (List a1c)))).bind fun p213 =>
    (match p213 with
    | (Ad,Ae,Af,S) =>
    ((if (A.Kind == 4) then
    (a1r 2 (⟨Ad,Ae,Af⟩:a0h)).bind fun P =>
    if P.1 then
    (a4n [[112],[113]] P.2).bind fun M =>
    some (M.2.Code,M.2.At,M.2.Seed,[],[M.1])
    else
    (a1r 2 P.2).bind fun N =>
    if N.1 then
    (a4g 4 N.2).bind fun J =>
    some (J.2.Code,J.2.At,J.2.Seed,J.1,[])
    else
    some (N.2.Code,N.2.At,N.2.Seed,[],[])
    else
    some (Ad,Ae,Af,S,[]):Option ((List Int) × Int × Int × (List a1c) × (List Str)))).bind fun p232 =>
    (match p232 with
    | (Ag,Ah,Ai,O,K) =>
    if (D ++ [(⟨A.Name,O,K⟩:a3l)]).length ≤ 2 ^ 30 then
    a2b xs (F + 1) Ag Ah Ai (D ++ [(⟨A.Name,O,K⟩:a3l)])
    else none)))

def a3w (H:Int) (R:a0h):Option ((List a3l) × a0h) :=
    (a6e).bind fun Ac =>
    if (0:Int) ≤ H ∧ H < (Ac.Tables.length:Int) then
    (Ac.Tables[(0 + H.toNat)]?).bind fun B =>
    (a2b B.Columns 0 R.Code R.At R.Seed []).bind fun p185 =>
    (match p185 with
    | (Aj,Ak,Al,W) =>
    some (W,(⟨Aj,Ak,Al⟩:a0h)))
    else none
theorem a8f (H:Int) (R:a0h) (r:((List a3l) × a0h)) (hf:a3w H R = some r):a1u Tryz.prog false 221 [(.ptr 0 0 0),(.I H)] [.box 3 (.agg [(.lst 1 (R.Code.map a0c)),(.I R.At),(.I R.Seed)])] (.own 1 0 r.1.length) [.box 3 (.agg [(.lst 1 (r.2.Code.map a0c)),(.I r.2.At),(.I r.2.Seed)]),.row 3 (r.1.map a0f)]:=by
 refine a1u.of_awp mixed Tryz.func221 d8f nle ?_;rw [a0n];unfold a3w at hf;unfold d3s;refine (show awp Tryz.prog false 1 _ (ofL [(0,(.ptr 0 0 0)),(1,(.I H))]) [.box 3 (.agg [(.lst 1 (R.Code.map a0c)),(.I R.At),(.I R.Seed)])] _ from ?_);refine sr<|l7 .nil rfl<|dk<|sr<|?_
 obtain ⟨Ac,er4,hf⟩:=ob hf
 obtain ⟨g5,hf⟩:=og hf
 obtain ⟨B,ex7,hf⟩:=ob hf
 refine x8 (d3e (v:=(.agg [(.own 1 0 Ac.Tables.length)])) (h':=[.row 4 (Ac.Tables.map x9)]) (a8b _ er4) rfl .r (by simp only [a6s,b0k,List.length_map,b8x,List.nil_append,List.append_nil,List.cons_append];rfl))<|o8 (.own 1 0 Ac.Tables.length) rfl nle rfl<|l7 (.I H) rfl<|x8 (a4i rfl rfl g5.1 g5.2 rfl rfl)<|x8 (a5l (enc:=x9) (v:=(x9 B)) rfl rfl ex7 nle rfl)<|x8 (a1j (j:=2) (c:=(.agg [(.str []),.nil,.nil,(.bool false)])) rfl tr rfl rfl)<|a3o (a0e (v:=(.agg [(.str B.Name),(.lst 8 (B.Columns.map o5)),(.lst 1 (B.Unique.map encI)),(.bool B.Root)])) (y':=(.agg [(.str B.Name),(.lst 8 (B.Columns.map o5)),(.lst 1 (B.Unique.map encI)),(.bool B.Root)])) rfl rfl rfl tr ⟨rfl,nle⟩ ⟨⟨rfl,tr⟩,⟨⟨rfl,tr⟩,⟨⟨rfl,tr⟩,⟨⟨rfl,tr⟩,tr⟩⟩⟩⟩ rfl)<|?_
 refine dk<|sr<|?_;refine x8 (a0t (j:=3) (as':=[]) rfl (fun _ => by decide) tr .r rfl rfl rfl) ?_;refine l7 (.own 3 0 0) rfl<|dk<|o7<|sr<|l7 (.I 0) rfl<|dk<|?_
 obtain ⟨p185,hb1,hf⟩:=ob hf
 refine a1k ([(6,(.own 1 0 p185.2.2.2.length))],[.box 3 (.agg [(.lst 1 (p185.1.map a0c)),(.I p185.2.1),(.I p185.2.2.1)]),.row 3 (p185.2.2.2.map a0f)]) ?_ ?_
 ·refine a1v (X:={q:(Nat × (List Int) × Int × Int × (List a3l)) // a2b (B.Columns.drop q.1) q.1 q.2.1 q.2.2.1 q.2.2.2.1 q.2.2.2.2 = some p185}) (fun q => ([(0,(.ptr 0 0 0)),(5,(.ptr 1 0 0)),(6,(.own 2 0 q.1.2.2.2.2.length)),(7,(.I (q.1.1:Int)))],[.box 3 (.agg [(.lst 1 (q.1.2.1.map a0c)),(.I q.1.2.2.1),(.I q.1.2.2.2.1)]),.box 4 (.agg [(.str B.Name),(.lst 8 (B.Columns.map o5)),(.lst 1 (B.Unique.map encI)),(.bool B.Root)]),.row 3 (q.1.2.2.2.2.map a0f)])) (fun q => B.Columns.length - q.1.1) ⟨(0,R.Code,R.At,R.Seed,[]),hb1⟩ ⟨[],[0,2,3],_,_,rfl,rfl,⟨.r,⟨.r,⟨.of_eq (congrArg (AV.own _ 0) (by simp)),⟨.r,tr⟩⟩⟩⟩,.r⟩ ?_
  rintro ⟨⟨F,T,U,V,D⟩,hc1⟩
  have hc1:a2b (B.Columns.drop F) F T U V D = some p185:=hc1
  refine (show awp Tryz.prog false 1 _ (ofL [(0,(.ptr 0 0 0)),(5,(.ptr 1 0 0)),(6,(.own 2 0 D.length)),(7,(.I (F:Int)))]) [.box 3 (.agg [(.lst 1 (T.map a0c)),(.I U),(.I V)]),.box 4 (.agg [(.str B.Name),(.lst 8 (B.Columns.map o5)),(.lst 1 (B.Unique.map encI)),(.bool B.Root)]),.row 3 (D.map a0f)] _ from ?_)
  rcases a6c B.Columns F with ⟨hie188,hd191⟩ | ⟨hlt186,A,hx187,hd191⟩
  ·rw [hd191,a2b.eq_1] at hc1
   have hq190:=dlf hie188
   refine o7<|sr<|l7 (.I (F:Int)) rfl<|o8 (.ptr 1 0 1) rfl tr rfl<|o8 (.lst 8 (B.Columns.map o5)) rfl nle rfl<|a1i (a1p (enc:=o5) rfl) fun hl193 => o8 (.bool (decide ((F:Int) < (B.Columns.length:Int)))) rfl rfl rfl<|dk<|y9 rfl hq190<|a3i<|a3h<|a2e<|a3g<|?_;obtain rfl:=os hc1;exact ⟨[],[0,2],_,_,rfl,rfl,⟨.r,tr⟩,.r⟩
  ·rw [hd191,a2b.eq_2] at hc1
   have hq190:=dlt hlt186
   refine o7<|sr<|l7 (.I (F:Int)) rfl<|o8 (.ptr 1 0 1) rfl tr rfl<|o8 (.lst 8 (B.Columns.map o5)) rfl nle rfl<|a1i (a1p (enc:=o5) rfl) fun hl194 => o8 (.bool (decide ((F:Int) < (B.Columns.length:Int)))) rfl rfl rfl<|dk<|y8 rfl hq190<|a0k<|a0m<|o7<|a3y<|o7<|o7<|?_
   obtain ⟨p202,hb2,hc1⟩:=ob hc1
   refine a1k ([(0,(.ptr 0 0 0)),(5,(.ptr 1 0 0)),(6,(.own 2 0 D.length)),(7,(.I (F:Int))),(29,(.bool p202.1))],[.box 3 (.agg [(.lst 1 (p202.2.1.map a0c)),(.I p202.2.2.1),(.I p202.2.2.2)]),.box 4 (.agg [(.str B.Name),(.lst 8 (B.Columns.map o5)),(.lst 1 (B.Unique.map encI)),(.bool B.Root)]),.row 3 (D.map a0f)]) ?_ ?_
   ·refine a0r ?_
    obtain ⟨G,er204,hb2⟩:=ob hb2
    rcases oi hb2 with ⟨c205,hb2⟩ | ⟨c205,hb2⟩
    ·refine l7 (.ptr 0 0 0) rfl ?_;refine x8 (a0u (v:=(.bool G.1)) (h2:=[.box 3 (.agg [(.lst 1 (G.2.Code.map a0c)),(.I G.2.At),(.I G.2.Seed)]),.box 4 (.agg [(.str B.Name),(.lst 8 (B.Columns.map o5)),(.lst 1 (B.Unique.map encI)),(.bool B.Root)]),.row 3 (D.map a0f)]) [] [0] (fun _ => rfl) (a1w _ _ _ er204) rfl .r .r rfl rfl) ?_;refine o8 (.bool (!G.1)) rfl tr rfl<|l7 (.bool (!G.1)) rfl<|a0i (s:=26) (b:=true) rfl c205<|s_on rfl<|l7 (.I (F:Int)) rfl<|s_on rfl<|o8 (.bool (decide ((F:Int) > 0))) rfl rfl rfl<|o8 (.bool (decide ((F:Int) > 0))) rfl tr rfl<|?_
     refine y5 ?_;obtain rfl:=os hb2;exact ⟨[],[0,1,2],_,_,rfl,rfl,⟨.r,⟨.r,⟨.r,⟨.r,⟨.r,tr⟩⟩⟩⟩⟩,.r⟩
    ·refine l7 (.ptr 0 0 0) rfl ?_;refine x8 (a0u (v:=(.bool G.1)) (h2:=[.box 3 (.agg [(.lst 1 (G.2.Code.map a0c)),(.I G.2.At),(.I G.2.Seed)]),.box 4 (.agg [(.str B.Name),(.lst 8 (B.Columns.map o5)),(.lst 1 (B.Unique.map encI)),(.bool B.Root)]),.row 3 (D.map a0f)]) [] [0] (fun _ => rfl) (a1w _ _ _ er204) rfl .r .r rfl rfl) ?_;refine o8 (.bool (!G.1)) rfl tr rfl<|l7 (.bool (!G.1)) rfl<|a0i (s:=26) (b:=false) rfl (bf c205)<|o6 rfl rfl<|o6 rfl rfl<|o8 (.bool false) rfl tr rfl<|y5<|?_;obtain rfl:=os hb2;exact ⟨[],[0,1,2],_,_,rfl,rfl,⟨.r,⟨.r,⟨.r,⟨.r,⟨.r,tr⟩⟩⟩⟩⟩,.r⟩
   ·obtain ⟨Ab,Y,Z,Aa⟩:=p202
    rcases oi hc1 with ⟨c206,hc1⟩ | ⟨c206,hc1⟩
    ·refine y8 rfl c206<|a3i<|a3h<|a3g<|?_;refine a0m<|a0r<|l7 (.I (F:Int)) rfl<|o8 (.I (w64 ((F:Int) + 1))) rfl rfl rfl<|l7 (.I (w64 ((F:Int) + 1))) rfl<|y5<|?_;exact a1z ⟨((F + 1),Y,Z,Aa,D),hc1⟩ (mul hlt186) ⟨[],[0,1,2],_,_,rfl,rfl,⟨.r,⟨.r,⟨.r,⟨.of_eq (congrArg (AV.int _) (a1x hlt186 hl194)),tr⟩⟩⟩⟩,.r⟩
    ·refine y9 rfl (bf c206)<|a0k<|a0m<|sr<|o8 (.ptr 1 0 1) rfl tr rfl<|o8 (.lst 8 (B.Columns.map o5)) rfl nle rfl<|l7 (.I (F:Int)) rfl<|x8 (a1o (enc:=o5) rfl rfl hx187)<|o8 (o5 A) rfl nle rfl<|x8 (a1j (j:=3) (c:=(.agg [(.str []),(.I 0),(.I 0),(.I 0),(.I 0),(.I 0),(.str []),(.bool false)])) rfl tr rfl rfl)<|a3o (a0e (v:=(.agg [(.str A.Name),(.I A.Kind),(.I A.Min),(.I A.Max),(.I A.Low),(.I A.High),(.str A.Ref),(.bool A.Strong)])) (y':=(.agg [(.str A.Name),(.I A.Kind),(.I A.Min),(.I A.Max),(.I A.Low),(.I A.High),(.str A.Ref),(.bool A.Strong)])) rfl rfl rfl tr ⟨rfl,nle⟩ ⟨⟨rfl,tr⟩,⟨⟨rfl,tr⟩,⟨⟨rfl,tr⟩,⟨⟨rfl,tr⟩,⟨⟨rfl,tr⟩,⟨⟨rfl,tr⟩,⟨⟨rfl,tr⟩,⟨⟨rfl,tr⟩,tr⟩⟩⟩⟩⟩⟩⟩⟩ rfl)<|?_
     refine dk<|o7<|?_
     obtain ⟨p213,hb2,hc1⟩:=ob hc1
     refine a1k ([(0,(.ptr 0 0 0)),(5,(.ptr 1 0 0)),(6,(.own 2 0 D.length)),(7,(.I (F:Int))),(8,(.ptr 3 0 0)),(9,(.ptr 4 0 0))],[.box 3 (.agg [(.lst 1 (p213.1.map a0c)),(.I p213.2.1),(.I p213.2.2.1)]),.box 4 (.agg [(.str B.Name),(.lst 8 (B.Columns.map o5)),(.lst 1 (B.Unique.map encI)),(.bool B.Root)]),.row 3 (D.map a0f),.box 8 (.agg [(.str A.Name),(.I A.Kind),(.I A.Min),(.I A.Max),(.I A.Low),(.I A.High),(.str A.Ref),(.bool A.Strong)]),.box 3 (.agg [(.str A.Name),(.own 5 0 p213.2.2.2.length),(.own 6 0 0)]),.row 3 (p213.2.2.2.map l9),.row 1 ([].map AV.str)]) ?_ ?_
     ·refine a0r ?_
      obtain ⟨E,er215,hb2⟩:=ob hb2
      refine o8 (.ptr 3 0 0) rfl tr rfl<|o8 (.str A.Name) rfl nle rfl<|l7 (.ptr 0 0 0) rfl<|o8 (.ptr 3 0 1) rfl tr rfl<|o8 (.I A.Kind) rfl nle rfl<|?_;refine a1a (a0u (v:=(l9 E.1)) (h2:=[.box 3 (.agg [(.lst 1 (E.2.Code.map a0c)),(.I E.2.At),(.I E.2.Seed)]),.box 4 (.agg [(.str B.Name),(.lst 8 (B.Columns.map o5)),(.lst 1 (B.Unique.map encI)),(.bool B.Root)]),.row 3 (D.map a0f),.box 8 (.agg [(.str A.Name),(.I A.Kind),(.I A.Min),(.I A.Max),(.I A.Low),(.I A.High),(.str A.Ref),(.bool A.Strong)])]) [] [0] (fun _ => rfl) (a2n _ _ _ er215) rfl .r .r rfl rfl) (.inr ⟨⟨nle,rfl⟩,⟨⟨tr,rfl⟩,tr⟩⟩) ?_ ?_
      ·refine a1a (a0t (j:=4) (as':=[]) rfl (fun _ => by decide) tr .r rfl rfl rfl) (.inr ⟨⟨nle,rfl⟩,⟨⟨tr,rfl⟩,⟨⟨nle,rfl⟩,⟨⟨tr,rfl⟩,tr⟩⟩⟩⟩) ?_ ?_
       ·refine a1a (a1j (j:=4) (c:=(.agg [(.str []),.nil,.nil])) rfl tr rfl rfl) (.inr ⟨⟨nle,rfl⟩,⟨⟨tr,rfl⟩,⟨⟨nle,rfl⟩,⟨⟨tr,rfl⟩,tr⟩⟩⟩⟩) tr ?_;refine a1a (a0u (v:=(l9 E.1)) (h2:=[.box 3 (.agg [(.lst 1 (E.2.Code.map a0c)),(.I E.2.At),(.I E.2.Seed)]),.box 4 (.agg [(.str B.Name),(.lst 8 (B.Columns.map o5)),(.lst 1 (B.Unique.map encI)),(.bool B.Root)]),.row 3 (D.map a0f),.box 8 (.agg [(.str A.Name),(.I A.Kind),(.I A.Min),(.I A.Max),(.I A.Low),(.I A.High),(.str A.Ref),(.bool A.Strong)]),.box 3 (.agg [(.str []),.nil,.nil])]) [] [0] (fun _ => rfl) (a2n _ _ _ er215) rfl .r .r rfl rfl) (.inr ⟨⟨nle,rfl⟩,⟨⟨tr,rfl⟩,tr⟩⟩) ?_ ?_
        ·refine a1a (a0t (j:=5) (as':=[]) rfl (fun _ => by decide) tr .r rfl rfl rfl) (.inr ⟨⟨nle,rfl⟩,⟨⟨tr,rfl⟩,⟨⟨nle,rfl⟩,⟨⟨tr,rfl⟩,tr⟩⟩⟩⟩) tr ?_;refine a1a (a0u (v:=(l9 E.1)) (h2:=[.box 3 (.agg [(.lst 1 (E.2.Code.map a0c)),(.I E.2.At),(.I E.2.Seed)]),.box 4 (.agg [(.str B.Name),(.lst 8 (B.Columns.map o5)),(.lst 1 (B.Unique.map encI)),(.bool B.Root)]),.row 3 (D.map a0f),.box 8 (.agg [(.str A.Name),(.I A.Kind),(.I A.Min),(.I A.Max),(.I A.Low),(.I A.High),(.str A.Ref),(.bool A.Strong)]),.box 3 (.agg [(.str []),.nil,.nil]),.row 1 ([].map AV.str)]) [] [0] (fun _ => rfl) (a2n _ _ _ er215) rfl .r .r rfl rfl) (.inr ⟨⟨nle,rfl⟩,⟨⟨tr,rfl⟩,tr⟩⟩) tr ?_
         refine a1a (a0t (j:=6) (as':=[(l9 E.1)]) rfl (fun _ => by decide) ⟨rfl,tr⟩ .r rfl rfl rfl) (.inr ⟨⟨nle,rfl⟩,⟨⟨tr,rfl⟩,tr⟩⟩) tr ?_;refine o8 (.agg [(.str A.Name),(.own 6 0 1),(.own 5 0 0)]) rfl ⟨⟨rfl,nle,tr⟩,⟨⟨rfl,nle,tr⟩,⟨⟨rfl,nle,tr⟩,tr⟩⟩⟩ rfl<|a4h (a0e (v:=(.agg [(.str A.Name),(.own 6 0 1),(.own 5 0 0)])) (y':=(.agg [(.str A.Name),(.own 6 0 1),(.own 5 0 0)])) rfl rfl rfl tr ⟨rfl,nle⟩ ⟨⟨rfl,tr⟩,⟨⟨rfl,tr⟩,⟨⟨rfl,tr⟩,tr⟩⟩⟩ rfl) tr tr<|y5<|?_;obtain rfl:=os hb2;exact ⟨[],[0,1,2,3,4,6,5],_,_,rfl,rfl,⟨.r,⟨.r,⟨.r,⟨.r,⟨.r,⟨.r,tr⟩⟩⟩⟩⟩⟩,(.cons .r (.cons .r (.cons .r (.cons .r (.cons (.box (.agg (.cons .r (.cons (.of_eq (congrArg (AV.own _ 0) (by simp))) (.cons (.of_eq (congrArg (AV.own _ 0) (by simp))) .nil))))) (.cons .r (.cons .r .nil)))))))⟩
        ·refine a1a (a0t (j:=5) (as':=[(l9 E.1)]) rfl (fun _ => by decide) ⟨rfl,tr⟩ .r rfl rfl rfl) (.inr ⟨⟨nle,rfl⟩,⟨⟨tr,rfl⟩,tr⟩⟩) ?_ ?_
         ·refine a1a (a0t (j:=5) (as':=[]) rfl (fun _ => by decide) tr .r rfl rfl rfl) (.inr ⟨⟨nle,rfl⟩,⟨⟨tr,rfl⟩,⟨⟨nle,rfl⟩,⟨⟨tr,rfl⟩,tr⟩⟩⟩⟩) tr ?_;refine a1a (a0t (j:=6) (as':=[(l9 E.1)]) rfl (fun _ => by decide) ⟨rfl,tr⟩ .r rfl rfl rfl) (.inr ⟨⟨nle,rfl⟩,⟨⟨tr,rfl⟩,tr⟩⟩) tr ?_;refine o8 (.agg [(.str A.Name),(.own 6 0 1),(.own 5 0 0)]) rfl ⟨⟨rfl,nle,tr⟩,⟨⟨rfl,nle,tr⟩,⟨⟨rfl,nle,tr⟩,tr⟩⟩⟩ rfl<|a4h (a0e (v:=(.agg [(.str A.Name),(.own 6 0 1),(.own 5 0 0)])) (y':=(.agg [(.str A.Name),(.own 6 0 1),(.own 5 0 0)])) rfl rfl rfl tr ⟨rfl,nle⟩ ⟨⟨rfl,tr⟩,⟨⟨rfl,tr⟩,⟨⟨rfl,tr⟩,tr⟩⟩⟩ rfl) tr tr<|?_
          refine y5 ?_;obtain rfl:=os hb2;exact ⟨[],[0,1,2,3,4,6,5],_,_,rfl,rfl,⟨.r,⟨.r,⟨.r,⟨.r,⟨.r,⟨.r,tr⟩⟩⟩⟩⟩⟩,(.cons .r (.cons .r (.cons .r (.cons .r (.cons (.box (.agg (.cons .r (.cons (.of_eq (congrArg (AV.own _ 0) (by simp))) (.cons (.of_eq (congrArg (AV.own _ 0) (by simp))) .nil))))) (.cons .r (.cons .r .nil)))))))⟩
         ·refine a1a (a0t (j:=6) (as':=[]) rfl (fun _ => by decide) tr .r rfl rfl rfl) (.inr ⟨⟨nle,rfl⟩,⟨⟨tr,rfl⟩,⟨⟨nle,rfl⟩,⟨⟨tr,rfl⟩,tr⟩⟩⟩⟩) tr ?_;refine o8 (.agg [(.str A.Name),(.own 5 0 1),(.own 6 0 0)]) rfl ⟨⟨rfl,nle,tr⟩,⟨⟨rfl,nle,tr⟩,⟨⟨rfl,nle,tr⟩,tr⟩⟩⟩ rfl<|a4h (a0e (v:=(.agg [(.str A.Name),(.own 5 0 1),(.own 6 0 0)])) (y':=(.agg [(.str A.Name),(.own 5 0 1),(.own 6 0 0)])) rfl rfl rfl tr ⟨rfl,nle⟩ ⟨⟨rfl,tr⟩,⟨⟨rfl,tr⟩,⟨⟨rfl,tr⟩,tr⟩⟩⟩ rfl) tr tr<|y5<|?_;obtain rfl:=os hb2;exact ⟨[],[0,1,2,3,4,5,6],_,_,rfl,rfl,⟨.r,⟨.r,⟨.r,⟨.r,⟨.r,⟨.r,tr⟩⟩⟩⟩⟩⟩,(.cons .r (.cons .r (.cons .r (.cons .r (.cons (.box (.agg (.cons .r (.cons (.of_eq (congrArg (AV.own _ 0) (by simp))) (.cons (.of_eq (congrArg (AV.own _ 0) (by simp))) .nil))))) (.cons .r (.cons .r .nil)))))))⟩
       ·refine a1a (a0u (v:=(l9 E.1)) (h2:=[.box 3 (.agg [(.lst 1 (E.2.Code.map a0c)),(.I E.2.At),(.I E.2.Seed)]),.box 4 (.agg [(.str B.Name),(.lst 8 (B.Columns.map o5)),(.lst 1 (B.Unique.map encI)),(.bool B.Root)]),.row 3 (D.map a0f),.box 8 (.agg [(.str A.Name),(.I A.Kind),(.I A.Min),(.I A.Max),(.I A.Low),(.I A.High),(.str A.Ref),(.bool A.Strong)]),.row 1 ([].map AV.str)]) [] [0] (fun _ => rfl) (a2n _ _ _ er215) rfl .r .r rfl rfl) (.inr ⟨⟨nle,rfl⟩,⟨⟨tr,rfl⟩,tr⟩⟩) ?_ ?_
        ·refine a1a (a1j (j:=5) (c:=(.agg [(.str []),.nil,.nil])) rfl tr rfl rfl) (.inr ⟨⟨nle,rfl⟩,⟨⟨tr,rfl⟩,⟨⟨nle,rfl⟩,⟨⟨tr,rfl⟩,tr⟩⟩⟩⟩) tr ?_;refine a1a (a0u (v:=(l9 E.1)) (h2:=[.box 3 (.agg [(.lst 1 (E.2.Code.map a0c)),(.I E.2.At),(.I E.2.Seed)]),.box 4 (.agg [(.str B.Name),(.lst 8 (B.Columns.map o5)),(.lst 1 (B.Unique.map encI)),(.bool B.Root)]),.row 3 (D.map a0f),.box 8 (.agg [(.str A.Name),(.I A.Kind),(.I A.Min),(.I A.Max),(.I A.Low),(.I A.High),(.str A.Ref),(.bool A.Strong)]),.row 1 ([].map AV.str),.box 3 (.agg [(.str []),.nil,.nil])]) [] [0] (fun _ => rfl) (a2n _ _ _ er215) rfl .r .r rfl rfl) (.inr ⟨⟨nle,rfl⟩,⟨⟨tr,rfl⟩,tr⟩⟩) tr ?_
         refine a1a (a0t (j:=6) (as':=[(l9 E.1)]) rfl (fun _ => by decide) ⟨rfl,tr⟩ .r rfl rfl rfl) (.inr ⟨⟨nle,rfl⟩,⟨⟨tr,rfl⟩,tr⟩⟩) tr ?_;refine o8 (.agg [(.str A.Name),(.own 6 0 1),(.own 4 0 0)]) rfl ⟨⟨rfl,nle,tr⟩,⟨⟨rfl,nle,tr⟩,⟨⟨rfl,nle,tr⟩,tr⟩⟩⟩ rfl<|a4h (a0e (v:=(.agg [(.str A.Name),(.own 6 0 1),(.own 4 0 0)])) (y':=(.agg [(.str A.Name),(.own 6 0 1),(.own 4 0 0)])) rfl rfl rfl tr ⟨rfl,nle⟩ ⟨⟨rfl,tr⟩,⟨⟨rfl,tr⟩,⟨⟨rfl,tr⟩,tr⟩⟩⟩ rfl) tr tr<|y5<|?_;obtain rfl:=os hb2;exact ⟨[],[0,1,2,3,5,6,4],_,_,rfl,rfl,⟨.r,⟨.r,⟨.r,⟨.r,⟨.r,⟨.r,tr⟩⟩⟩⟩⟩⟩,(.cons .r (.cons .r (.cons .r (.cons .r (.cons (.box (.agg (.cons .r (.cons (.of_eq (congrArg (AV.own _ 0) (by simp))) (.cons (.of_eq (congrArg (AV.own _ 0) (by simp))) .nil))))) (.cons .r (.cons .r .nil)))))))⟩
        ·refine a1a (a0t (j:=5) (as':=[(l9 E.1)]) rfl (fun _ => by decide) ⟨rfl,tr⟩ .r rfl rfl rfl) (.inr ⟨⟨nle,rfl⟩,⟨⟨tr,rfl⟩,tr⟩⟩) ?_ ?_
         ·refine a1a (a1j (j:=5) (c:=(.agg [(.str []),.nil,.nil])) rfl tr rfl rfl) (.inr ⟨⟨nle,rfl⟩,⟨⟨tr,rfl⟩,⟨⟨nle,rfl⟩,⟨⟨tr,rfl⟩,tr⟩⟩⟩⟩) tr ?_;refine a1a (a0t (j:=6) (as':=[(l9 E.1)]) rfl (fun _ => by decide) ⟨rfl,tr⟩ .r rfl rfl rfl) (.inr ⟨⟨nle,rfl⟩,⟨⟨tr,rfl⟩,tr⟩⟩) tr ?_;refine o8 (.agg [(.str A.Name),(.own 6 0 1),(.own 4 0 0)]) rfl ⟨⟨rfl,nle,tr⟩,⟨⟨rfl,nle,tr⟩,⟨⟨rfl,nle,tr⟩,tr⟩⟩⟩ rfl<|a4h (a0e (v:=(.agg [(.str A.Name),(.own 6 0 1),(.own 4 0 0)])) (y':=(.agg [(.str A.Name),(.own 6 0 1),(.own 4 0 0)])) rfl rfl rfl tr ⟨rfl,nle⟩ ⟨⟨rfl,tr⟩,⟨⟨rfl,tr⟩,⟨⟨rfl,tr⟩,tr⟩⟩⟩ rfl) tr tr<|?_
          refine y5 ?_;obtain rfl:=os hb2;exact ⟨[],[0,1,2,3,5,6,4],_,_,rfl,rfl,⟨.r,⟨.r,⟨.r,⟨.r,⟨.r,⟨.r,tr⟩⟩⟩⟩⟩⟩,(.cons .r (.cons .r (.cons .r (.cons .r (.cons (.box (.agg (.cons .r (.cons (.of_eq (congrArg (AV.own _ 0) (by simp))) (.cons (.of_eq (congrArg (AV.own _ 0) (by simp))) .nil))))) (.cons .r (.cons .r .nil)))))))⟩
         ·refine o8 (.agg [(.str A.Name),(.own 5 0 1),(.own 4 0 0)]) rfl ⟨⟨rfl,nle,tr⟩,⟨⟨rfl,nle,tr⟩,⟨⟨rfl,nle,tr⟩,tr⟩⟩⟩ rfl<|a1a (a1j (j:=6) (c:=(.agg [(.str []),.nil,.nil])) rfl tr rfl rfl) (.inr ⟨⟨⟨⟨rfl,nle,tr⟩,⟨⟨rfl,nle,tr⟩,⟨⟨rfl,nle,tr⟩,tr⟩⟩⟩,rfl⟩,⟨⟨nle,rfl⟩,⟨⟨tr,rfl⟩,⟨⟨nle,rfl⟩,⟨⟨tr,rfl⟩,tr⟩⟩⟩⟩⟩) tr<|a4h (a0e (v:=(.agg [(.str A.Name),(.own 5 0 1),(.own 4 0 0)])) (y':=(.agg [(.str A.Name),(.own 5 0 1),(.own 4 0 0)])) rfl rfl rfl tr ⟨rfl,nle⟩ ⟨⟨rfl,tr⟩,⟨⟨rfl,tr⟩,⟨⟨rfl,tr⟩,tr⟩⟩⟩ rfl) tr tr<|y5<|?_;obtain rfl:=os hb2;exact ⟨[],[0,1,2,3,6,5,4],_,_,rfl,rfl,⟨.r,⟨.r,⟨.r,⟨.r,⟨.r,⟨.r,tr⟩⟩⟩⟩⟩⟩,(.cons .r (.cons .r (.cons .r (.cons .r (.cons (.box (.agg (.cons .r (.cons (.of_eq (congrArg (AV.own _ 0) (by simp))) (.cons (.of_eq (congrArg (AV.own _ 0) (by simp))) .nil))))) (.cons .r (.cons .r .nil)))))))⟩
      ·refine a1a (a0t (j:=4) (as':=[(l9 E.1)]) rfl (fun _ => by decide) ⟨rfl,tr⟩ .r rfl rfl rfl) (.inr ⟨⟨nle,rfl⟩,⟨⟨tr,rfl⟩,tr⟩⟩) ?_ ?_
       ·refine a1a (a0t (j:=4) (as':=[]) rfl (fun _ => by decide) tr .r rfl rfl rfl) (.inr ⟨⟨nle,rfl⟩,⟨⟨tr,rfl⟩,⟨⟨nle,rfl⟩,⟨⟨tr,rfl⟩,tr⟩⟩⟩⟩) ?_ ?_
        ·refine a1a (a1j (j:=4) (c:=(.agg [(.str []),.nil,.nil])) rfl tr rfl rfl) (.inr ⟨⟨nle,rfl⟩,⟨⟨tr,rfl⟩,⟨⟨nle,rfl⟩,⟨⟨tr,rfl⟩,tr⟩⟩⟩⟩) tr ?_;refine a1a (a0t (j:=5) (as':=[(l9 E.1)]) rfl (fun _ => by decide) ⟨rfl,tr⟩ .r rfl rfl rfl) (.inr ⟨⟨nle,rfl⟩,⟨⟨tr,rfl⟩,tr⟩⟩) ?_ ?_
         ·refine a1a (a0t (j:=5) (as':=[]) rfl (fun _ => by decide) tr .r rfl rfl rfl) (.inr ⟨⟨nle,rfl⟩,⟨⟨tr,rfl⟩,⟨⟨nle,rfl⟩,⟨⟨tr,rfl⟩,tr⟩⟩⟩⟩) tr ?_;refine a1a (a0t (j:=6) (as':=[(l9 E.1)]) rfl (fun _ => by decide) ⟨rfl,tr⟩ .r rfl rfl rfl) (.inr ⟨⟨nle,rfl⟩,⟨⟨tr,rfl⟩,tr⟩⟩) tr ?_;refine o8 (.agg [(.str A.Name),(.own 6 0 1),(.own 5 0 0)]) rfl ⟨⟨rfl,nle,tr⟩,⟨⟨rfl,nle,tr⟩,⟨⟨rfl,nle,tr⟩,tr⟩⟩⟩ rfl<|a4h (a0e (v:=(.agg [(.str A.Name),(.own 6 0 1),(.own 5 0 0)])) (y':=(.agg [(.str A.Name),(.own 6 0 1),(.own 5 0 0)])) rfl rfl rfl tr ⟨rfl,nle⟩ ⟨⟨rfl,tr⟩,⟨⟨rfl,tr⟩,⟨⟨rfl,tr⟩,tr⟩⟩⟩ rfl) tr tr<|?_
          refine y5 ?_;obtain rfl:=os hb2;exact ⟨[],[0,1,2,3,4,6,5],_,_,rfl,rfl,⟨.r,⟨.r,⟨.r,⟨.r,⟨.r,⟨.r,tr⟩⟩⟩⟩⟩⟩,(.cons .r (.cons .r (.cons .r (.cons .r (.cons (.box (.agg (.cons .r (.cons (.of_eq (congrArg (AV.own _ 0) (by simp))) (.cons (.of_eq (congrArg (AV.own _ 0) (by simp))) .nil))))) (.cons .r (.cons .r .nil)))))))⟩
         ·refine a1a (a0t (j:=6) (as':=[]) rfl (fun _ => by decide) tr .r rfl rfl rfl) (.inr ⟨⟨nle,rfl⟩,⟨⟨tr,rfl⟩,⟨⟨nle,rfl⟩,⟨⟨tr,rfl⟩,tr⟩⟩⟩⟩) tr ?_;refine o8 (.agg [(.str A.Name),(.own 5 0 1),(.own 6 0 0)]) rfl ⟨⟨rfl,nle,tr⟩,⟨⟨rfl,nle,tr⟩,⟨⟨rfl,nle,tr⟩,tr⟩⟩⟩ rfl<|a4h (a0e (v:=(.agg [(.str A.Name),(.own 5 0 1),(.own 6 0 0)])) (y':=(.agg [(.str A.Name),(.own 5 0 1),(.own 6 0 0)])) rfl rfl rfl tr ⟨rfl,nle⟩ ⟨⟨rfl,tr⟩,⟨⟨rfl,tr⟩,⟨⟨rfl,tr⟩,tr⟩⟩⟩ rfl) tr tr<|y5<|?_;obtain rfl:=os hb2;exact ⟨[],[0,1,2,3,4,5,6],_,_,rfl,rfl,⟨.r,⟨.r,⟨.r,⟨.r,⟨.r,⟨.r,tr⟩⟩⟩⟩⟩⟩,(.cons .r (.cons .r (.cons .r (.cons .r (.cons (.box (.agg (.cons .r (.cons (.of_eq (congrArg (AV.own _ 0) (by simp))) (.cons (.of_eq (congrArg (AV.own _ 0) (by simp))) .nil))))) (.cons .r (.cons .r .nil)))))))⟩
        ·refine a1a (a0t (j:=5) (as':=[(l9 E.1)]) rfl (fun _ => by decide) ⟨rfl,tr⟩ .r rfl rfl rfl) (.inr ⟨⟨nle,rfl⟩,⟨⟨tr,rfl⟩,tr⟩⟩) ?_ ?_
         ·refine a1a (a1j (j:=5) (c:=(.agg [(.str []),.nil,.nil])) rfl tr rfl rfl) (.inr ⟨⟨nle,rfl⟩,⟨⟨tr,rfl⟩,⟨⟨nle,rfl⟩,⟨⟨tr,rfl⟩,tr⟩⟩⟩⟩) tr ?_;refine a1a (a0t (j:=6) (as':=[(l9 E.1)]) rfl (fun _ => by decide) ⟨rfl,tr⟩ .r rfl rfl rfl) (.inr ⟨⟨nle,rfl⟩,⟨⟨tr,rfl⟩,tr⟩⟩) tr ?_;refine o8 (.agg [(.str A.Name),(.own 6 0 1),(.own 4 0 0)]) rfl ⟨⟨rfl,nle,tr⟩,⟨⟨rfl,nle,tr⟩,⟨⟨rfl,nle,tr⟩,tr⟩⟩⟩ rfl<|a4h (a0e (v:=(.agg [(.str A.Name),(.own 6 0 1),(.own 4 0 0)])) (y':=(.agg [(.str A.Name),(.own 6 0 1),(.own 4 0 0)])) rfl rfl rfl tr ⟨rfl,nle⟩ ⟨⟨rfl,tr⟩,⟨⟨rfl,tr⟩,⟨⟨rfl,tr⟩,tr⟩⟩⟩ rfl) tr tr<|?_
          refine y5 ?_;obtain rfl:=os hb2;exact ⟨[],[0,1,2,3,5,6,4],_,_,rfl,rfl,⟨.r,⟨.r,⟨.r,⟨.r,⟨.r,⟨.r,tr⟩⟩⟩⟩⟩⟩,(.cons .r (.cons .r (.cons .r (.cons .r (.cons (.box (.agg (.cons .r (.cons (.of_eq (congrArg (AV.own _ 0) (by simp))) (.cons (.of_eq (congrArg (AV.own _ 0) (by simp))) .nil))))) (.cons .r (.cons .r .nil)))))))⟩
         ·refine o8 (.agg [(.str A.Name),(.own 5 0 1),(.own 4 0 0)]) rfl ⟨⟨rfl,nle,tr⟩,⟨⟨rfl,nle,tr⟩,⟨⟨rfl,nle,tr⟩,tr⟩⟩⟩ rfl<|a1a (a1j (j:=6) (c:=(.agg [(.str []),.nil,.nil])) rfl tr rfl rfl) (.inr ⟨⟨⟨⟨rfl,nle,tr⟩,⟨⟨rfl,nle,tr⟩,⟨⟨rfl,nle,tr⟩,tr⟩⟩⟩,rfl⟩,⟨⟨nle,rfl⟩,⟨⟨tr,rfl⟩,⟨⟨nle,rfl⟩,⟨⟨tr,rfl⟩,tr⟩⟩⟩⟩⟩) tr<|a4h (a0e (v:=(.agg [(.str A.Name),(.own 5 0 1),(.own 4 0 0)])) (y':=(.agg [(.str A.Name),(.own 5 0 1),(.own 4 0 0)])) rfl rfl rfl tr ⟨rfl,nle⟩ ⟨⟨rfl,tr⟩,⟨⟨rfl,tr⟩,⟨⟨rfl,tr⟩,tr⟩⟩⟩ rfl) tr tr<|y5<|?_;obtain rfl:=os hb2;exact ⟨[],[0,1,2,3,6,5,4],_,_,rfl,rfl,⟨.r,⟨.r,⟨.r,⟨.r,⟨.r,⟨.r,tr⟩⟩⟩⟩⟩⟩,(.cons .r (.cons .r (.cons .r (.cons .r (.cons (.box (.agg (.cons .r (.cons (.of_eq (congrArg (AV.own _ 0) (by simp))) (.cons (.of_eq (congrArg (AV.own _ 0) (by simp))) .nil))))) (.cons .r (.cons .r .nil)))))))⟩
       ·refine a1a (a0t (j:=5) (as':=[]) rfl (fun _ => by decide) tr .r rfl rfl rfl) (.inr ⟨⟨nle,rfl⟩,⟨⟨tr,rfl⟩,⟨⟨nle,rfl⟩,⟨⟨tr,rfl⟩,tr⟩⟩⟩⟩) ?_ ?_
        ·refine a1a (a1j (j:=5) (c:=(.agg [(.str []),.nil,.nil])) rfl tr rfl rfl) (.inr ⟨⟨nle,rfl⟩,⟨⟨tr,rfl⟩,⟨⟨nle,rfl⟩,⟨⟨tr,rfl⟩,tr⟩⟩⟩⟩) tr ?_;refine a1a (a0t (j:=6) (as':=[]) rfl (fun _ => by decide) tr .r rfl rfl rfl) (.inr ⟨⟨nle,rfl⟩,⟨⟨tr,rfl⟩,⟨⟨nle,rfl⟩,⟨⟨tr,rfl⟩,tr⟩⟩⟩⟩) tr ?_;refine o8 (.agg [(.str A.Name),(.own 4 0 1),(.own 6 0 0)]) rfl ⟨⟨rfl,nle,tr⟩,⟨⟨rfl,nle,tr⟩,⟨⟨rfl,nle,tr⟩,tr⟩⟩⟩ rfl<|a4h (a0e (v:=(.agg [(.str A.Name),(.own 4 0 1),(.own 6 0 0)])) (y':=(.agg [(.str A.Name),(.own 4 0 1),(.own 6 0 0)])) rfl rfl rfl tr ⟨rfl,nle⟩ ⟨⟨rfl,tr⟩,⟨⟨rfl,tr⟩,⟨⟨rfl,tr⟩,tr⟩⟩⟩ rfl) tr tr<|?_
         refine y5 ?_;obtain rfl:=os hb2;exact ⟨[],[0,1,2,3,5,4,6],_,_,rfl,rfl,⟨.r,⟨.r,⟨.r,⟨.r,⟨.r,⟨.r,tr⟩⟩⟩⟩⟩⟩,(.cons .r (.cons .r (.cons .r (.cons .r (.cons (.box (.agg (.cons .r (.cons (.of_eq (congrArg (AV.own _ 0) (by simp))) (.cons (.of_eq (congrArg (AV.own _ 0) (by simp))) .nil))))) (.cons .r (.cons .r .nil)))))))⟩
        ·refine o8 (.agg [(.str A.Name),(.own 4 0 1),(.own 5 0 0)]) rfl ⟨⟨rfl,nle,tr⟩,⟨⟨rfl,nle,tr⟩,⟨⟨rfl,nle,tr⟩,tr⟩⟩⟩ rfl<|a1a (a1j (j:=6) (c:=(.agg [(.str []),.nil,.nil])) rfl tr rfl rfl) (.inr ⟨⟨⟨⟨rfl,nle,tr⟩,⟨⟨rfl,nle,tr⟩,⟨⟨rfl,nle,tr⟩,tr⟩⟩⟩,rfl⟩,⟨⟨nle,rfl⟩,⟨⟨tr,rfl⟩,⟨⟨nle,rfl⟩,⟨⟨tr,rfl⟩,tr⟩⟩⟩⟩⟩) tr<|a4h (a0e (v:=(.agg [(.str A.Name),(.own 4 0 1),(.own 5 0 0)])) (y':=(.agg [(.str A.Name),(.own 4 0 1),(.own 5 0 0)])) rfl rfl rfl tr ⟨rfl,nle⟩ ⟨⟨rfl,tr⟩,⟨⟨rfl,tr⟩,⟨⟨rfl,tr⟩,tr⟩⟩⟩ rfl) tr tr<|y5<|?_;obtain rfl:=os hb2;exact ⟨[],[0,1,2,3,6,4,5],_,_,rfl,rfl,⟨.r,⟨.r,⟨.r,⟨.r,⟨.r,⟨.r,tr⟩⟩⟩⟩⟩⟩,(.cons .r (.cons .r (.cons .r (.cons .r (.cons (.box (.agg (.cons .r (.cons (.of_eq (congrArg (AV.own _ 0) (by simp))) (.cons (.of_eq (congrArg (AV.own _ 0) (by simp))) .nil))))) (.cons .r (.cons .r .nil)))))))⟩
     ·obtain ⟨Ad,Ae,Af,S⟩:=p213
      refine o7 ?_
      obtain ⟨p232,hb2,hc1⟩:=ob hc1
      refine a1k ([(0,(.ptr 0 0 0)),(5,(.ptr 1 0 0)),(6,(.own 2 0 D.length)),(7,(.I (F:Int))),(9,(.ptr 3 0 0))],[.box 3 (.agg [(.lst 1 (p232.1.map a0c)),(.I p232.2.1),(.I p232.2.2.1)]),.box 4 (.agg [(.str B.Name),(.lst 8 (B.Columns.map o5)),(.lst 1 (B.Unique.map encI)),(.bool B.Root)]),.row 3 (D.map a0f),.box 3 (.agg [(.str A.Name),(.lst 3 (p232.2.2.2.1.map l9)),(.own 4 0 p232.2.2.2.2.length)]),.row 1 (p232.2.2.2.2.map AV.str)]) ?_ ?_
      ·refine sr<|o8 (.ptr 3 0 1) rfl tr rfl<|o8 (.I A.Kind) rfl nle rfl<|o8 (.bool (A.Kind == 4)) rfl rfl rfl<|dk<|?_
       rcases oi hb2 with ⟨c233,hb2⟩ | ⟨c233,hb2⟩
       ·refine y8 rfl c233<|sr<|?_;refine x8 (a0t (j:=7) (as':=[]) rfl (fun _ => by decide) tr .r rfl rfl rfl) ?_;refine o8 (.ptr 4 0 1) rfl tr rfl<|a3o (a0e (v:=(.own 7 0 0)) (y':=(.agg [(.str A.Name),(.own 7 0 0),(.own 6 0 0)])) rfl rfl rfl tr ⟨rfl,nle⟩ ⟨⟨rfl,tr⟩,tr⟩ rfl)<|dk<|sr<|?_
        obtain ⟨P,er235,hb2⟩:=ob hb2
        refine l7 (.ptr 0 0 0) rfl ?_;refine x8 (a0u (v:=(.bool P.1)) (h2:=[.box 3 (.agg [(.lst 1 (P.2.Code.map a0c)),(.I P.2.At),(.I P.2.Seed)]),.box 4 (.agg [(.str B.Name),(.lst 8 (B.Columns.map o5)),(.lst 1 (B.Unique.map encI)),(.bool B.Root)]),.row 3 (D.map a0f),.box 8 (.agg [(.str A.Name),(.I A.Kind),(.I A.Min),(.I A.Max),(.I A.Low),(.I A.High),(.str A.Ref),(.bool A.Strong)]),.box 3 (.agg [(.str A.Name),(.own 7 0 0),(.own 6 0 0)]),.row 3 (S.map l9),.row 1 ([].map AV.str),.row 3 ([].map l9)]) [] [0] (fun _ => rfl) (a1w _ _ _ er235) rfl .r .r rfl rfl) ?_
        refine dk<|?_
        rcases oi hb2 with ⟨c236,hb2⟩ | ⟨c236,hb2⟩
        ·refine y8 rfl c236<|a0r<|?_
         obtain ⟨M,er238,hb2⟩:=ob hb2
         refine l7 (.ptr 0 0 0) rfl ?_;refine x8 (a0t (j:=8) (as':=[(.str [112]),(.str [113])]) rfl (fun _ => by decide) ⟨rfl,⟨rfl,tr⟩⟩ .r rfl rfl rfl) ?_;refine x8 (a0u (v:=(.str M.1)) (h2:=[.box 3 (.agg [(.lst 1 (M.2.Code.map a0c)),(.I M.2.At),(.I M.2.Seed)]),.box 4 (.agg [(.str B.Name),(.lst 8 (B.Columns.map o5)),(.lst 1 (B.Unique.map encI)),(.bool B.Root)]),.row 3 (D.map a0f),.box 8 (.agg [(.str A.Name),(.I A.Kind),(.I A.Min),(.I A.Max),(.I A.Low),(.I A.High),(.str A.Ref),(.bool A.Strong)]),.box 3 (.agg [(.str A.Name),(.own 7 0 0),(.own 6 0 0)]),.row 3 (S.map l9),.row 1 ([].map AV.str),.row 3 ([].map l9),.dead]) [false,true] [0] (fun h => absurd (show false = true from h) (by decide)) (a8e _ _ _ er238) rfl (.cons .r (.cons (.of_eq (congrArg (AV.lst _) (tko [[112],[113]]))) .nil)) .r rfl rfl) ?_
         refine x8 (a0t (j:=9) (as':=[(.str M.1)]) rfl (fun _ => by decide) ⟨rfl,tr⟩ .r rfl rfl rfl) ?_;refine o8 (.ptr 4 0 2) rfl tr rfl<|a3o (a0e (v:=(.own 9 0 1)) (y':=(.agg [(.str A.Name),(.own 7 0 0),(.own 9 0 1)])) rfl rfl rfl tr ⟨rfl,nle⟩ ⟨⟨rfl,tr⟩,tr⟩ rfl)<|y5<|?_;obtain rfl:=os hb2;exact ⟨[.frzC 4 1],[0,1,2,4,9],_,_,rfl,rfl,⟨.r,⟨.r,⟨.r,⟨.r,⟨.r,tr⟩⟩⟩⟩⟩,(.cons .r (.cons .r (.cons .r (.cons (.box (.agg (.cons .r (.cons (.of_eq (congrArg (AV.lst _) (tko []))) (.cons (.of_eq (congrArg (AV.own _ 0) (by simp))) .nil))))) (.cons .r .nil)))))⟩
        ·refine y9 rfl (bf c236)<|sr<|?_
         obtain ⟨N,er240,hb2⟩:=ob hb2
         refine l7 (.ptr 0 0 0) rfl ?_;refine x8 (a0u (v:=(.bool N.1)) (h2:=[.box 3 (.agg [(.lst 1 (N.2.Code.map a0c)),(.I N.2.At),(.I N.2.Seed)]),.box 4 (.agg [(.str B.Name),(.lst 8 (B.Columns.map o5)),(.lst 1 (B.Unique.map encI)),(.bool B.Root)]),.row 3 (D.map a0f),.box 8 (.agg [(.str A.Name),(.I A.Kind),(.I A.Min),(.I A.Max),(.I A.Low),(.I A.High),(.str A.Ref),(.bool A.Strong)]),.box 3 (.agg [(.str A.Name),(.own 7 0 0),(.own 6 0 0)]),.row 3 (S.map l9),.row 1 ([].map AV.str),.row 3 ([].map l9)]) [] [0] (fun _ => rfl) (a1w _ _ _ er240) rfl .r .r rfl rfl) ?_
         refine dk<|?_
         rcases oi hb2 with ⟨d5e,hb2⟩ | ⟨d5e,hb2⟩
         ·refine y8 rfl d5e<|a0r<|?_
          obtain ⟨J,er243,hb2⟩:=ob hb2
          refine l7 (.ptr 0 0 0) rfl ?_;refine x8 (a0u (v:=(.lst 3 (J.1.map l9))) (h2:=[.box 3 (.agg [(.lst 1 (J.2.Code.map a0c)),(.I J.2.At),(.I J.2.Seed)]),.box 4 (.agg [(.str B.Name),(.lst 8 (B.Columns.map o5)),(.lst 1 (B.Unique.map encI)),(.bool B.Root)]),.row 3 (D.map a0f),.box 8 (.agg [(.str A.Name),(.I A.Kind),(.I A.Min),(.I A.Max),(.I A.Low),(.I A.High),(.str A.Ref),(.bool A.Strong)]),.box 3 (.agg [(.str A.Name),(.own 7 0 0),(.own 6 0 0)]),.row 3 (S.map l9),.row 1 ([].map AV.str),.row 3 ([].map l9)]) [] [0] (fun _ => rfl) (a1s _ _ _ er243) rfl .r .r rfl rfl) ?_
          refine o8 (.ptr 4 0 1) rfl tr rfl<|a3o (a0e (v:=(.lst 3 (J.1.map l9))) (y':=(.agg [(.str A.Name),(.lst 3 (J.1.map l9)),(.own 6 0 0)])) rfl rfl rfl tr ⟨rfl,nle⟩ ⟨⟨rfl,tr⟩,tr⟩ rfl)<|y5<|?_;obtain rfl:=os hb2;exact ⟨[],[0,1,2,4,6],_,_,rfl,rfl,⟨.r,⟨.r,⟨.r,⟨.r,⟨.r,tr⟩⟩⟩⟩⟩,.r⟩
         ·refine y9 rfl (bf d5e)<|a0k<|?_;obtain rfl:=os hb2;exact ⟨[.frzC 4 1],[0,1,2,4,6],_,_,rfl,rfl,⟨.r,⟨.r,⟨.r,⟨.r,⟨.r,tr⟩⟩⟩⟩⟩,(.cons .r (.cons .r (.cons .r (.cons (.box (.agg (.cons .r (.cons (.of_eq (congrArg (AV.lst _) (tko []))) (.cons .r .nil))))) (.cons .r .nil)))))⟩
       ·refine y9 rfl (bf c233)<|a0k<|?_;obtain rfl:=os hb2;exact ⟨[.frzC 4 1],[0,1,2,4,6],_,_,rfl,rfl,⟨.r,⟨.r,⟨.r,⟨.r,⟨.r,tr⟩⟩⟩⟩⟩,(.cons .r (.cons .r (.cons .r (.cons (.box (.agg (.cons .r (.cons (.of_eq (congrArg (AV.lst _) (tko S))) (.cons .r .nil))))) (.cons .r .nil)))))⟩
      ·obtain ⟨Ag,Ah,Ai,O,K⟩:=p232
       refine a0r ?_
       obtain ⟨g244,hc1⟩:=og hc1
       refine l7 (.own 2 0 D.length) rfl<|o8 (.agg [(.str A.Name),(.lst 3 (O.map l9)),(.own 4 0 K.length)]) rfl nle rfl<|?_;refine x8 (a0t (j:=5) (as':=[(a0f (⟨A.Name,O,K⟩:a3l))]) rfl (fun _ => by decide) ⟨rfl,tr⟩ (.cons (.agg (.cons .r (.cons .r (.cons (.of_eq (congrArg (AV.lst _) (tko (enc:=AV.str) K))) .nil)))) .nil) rfl rfl rfl) ?_
       refine x8 (a5m (j:=6) (L:=((D ++ [(⟨A.Name,O,K⟩:a3l)]).map a0f)) (len:=(D ++ [(⟨A.Name,O,K⟩:a3l)]).length) rfl rfl (c6g (enc:=a0f) D [(⟨A.Name,O,K⟩:a3l)] _ (by rfl)) (by simp <;> omega) g244 rfl rfl) ?_
       refine l7 (.own 6 0 ((D ++ [(⟨A.Name,O,K⟩:a3l)]).length)) rfl<|y5<|a2y<|a0m<|a0r<|l7 (.I (F:Int)) rfl<|o8 (.I (w64 ((F:Int) + 1))) rfl rfl rfl<|l7 (.I (w64 ((F:Int) + 1))) rfl<|y5<|?_;exact a1z ⟨((F + 1),Ag,Ah,Ai,D ++ [(⟨A.Name,O,K⟩:a3l)]),hc1⟩ (mul hlt186) ⟨[],[0,1,6],_,_,rfl,rfl,⟨.r,⟨.r,⟨.r,⟨.of_eq (congrArg (AV.int _) (a1x hlt186 hl194)),tr⟩⟩⟩⟩,.r⟩
 ·obtain ⟨Aj,Ak,Al,W⟩:=p185
  refine sr<|l7 (.own 1 0 W.length) rfl<|l7 (.own 1 0 W.length) rfl<|dk<|a0b<|?_;obtain rfl:=os hf;exact a3u [] [0,1] rfl ⟨tr,tr⟩ rfl .r .r

/- spec.l01In -/
def d4y:a0s :=
 (.seq (.reg (tm 6 (.c (.bool false)) .done))
 (.seq (.reg (tm 7 (.t 1) (tm 8 (.t 0) (tq 9 (.bin .leq (.t 7) (.t 8)) (tm 10 (.t 9) (tg 11 10 true (.mov (.t 0)) (tg 12 10 true (.mov (.t 2)) (tg 13 10 true (.bin .leq (.t 11) (.t 12)) (tq 14 (.pick (.t 10) (.t 13) (.c (.bool false))) (tm 6 (.t 14) .done))))))))))
 .ret))
theorem e2o:a1e Tryz.prog Tryz.f158 = some (d4y.erase,[.mov (.t 6)],15):=by kernel_rfl
def a3f (D:Int) (A:Int) (B:Int):Option Bool :=
    if (decide (A ≤ D)) then
    some (decide (D ≤ B))
    else
    some false
theorem a2f (D:Int) (A:Int) (B:Int) (r:Bool) (hf:a3f D A B = some r):a0a Tryz.prog 158 .flat [(.I D),(.I A),(.I B)] (.bool r):=by
 refine a0a.of_awp mixed Tryz.func158 e2o nle ?_;rw [a0n];unfold a3f at hf;unfold d4y;refine (show awp Tryz.prog false 0 _ (ofL [(0,(.I D)),(1,(.I A)),(2,(.I B))]) [] _ from ?_);refine sr<|l7 (.bool false) rfl<|dk<|sr<|?_
 rcases oi hf with ⟨c4,hf⟩ | ⟨c4,hf⟩
 ·refine l7 (.I A) rfl<|l7 (.I D) rfl<|o8 (.bool (decide (A ≤ D))) rfl rfl rfl<|l7 (.bool (decide (A ≤ D))) rfl<|a0i (s:=10) (b:=true) rfl c4<|s_on rfl<|l7 (.I D) rfl<|s_on rfl<|l7 (.I B) rfl<|s_on rfl<|o8 (.bool (decide (D ≤ B))) rfl rfl rfl<|o8 (.bool (decide (D ≤ B))) rfl tr rfl<|l7 (.bool (decide (D ≤ B))) rfl<|dk<|a0b<|?_;obtain rfl:=os hf;exact y7 ⟨tr,tr⟩ rfl .r
 ·refine l7 (.I A) rfl<|l7 (.I D) rfl<|o8 (.bool (decide (A ≤ D))) rfl rfl rfl<|l7 (.bool (decide (A ≤ D))) rfl<|a0i (s:=10) (b:=false) rfl (bf c4)<|o6 rfl rfl<|o6 rfl rfl<|o6 rfl rfl<|o8 (.bool false) rfl tr rfl<|l7 (.bool false) rfl<|dk<|a0b<|?_;obtain rfl:=os hf;exact y7 ⟨tr,tr⟩ rfl .r

end Go.R
