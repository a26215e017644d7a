/- Walks. -/
import Derived.Test.YtldahjcikmpifaaGreatRSJ1
set_option linter.all false
namespace Go.R
open Go Go.Proofs
set_option linter.unusedVariables false
set_option linter.unusedSimpArgs false
set_option maxHeartbeats 8000000
/- spec.l13O -/
abbrev wz0:List a4t:=[⟨(some 74),none,.slice 1 (.t 72) (some (.t 73)) none⟩,⟨(some 72),none,.load 1 false (.t 71)⟩,⟨(some 71),none,.faddr 3 (.t 5)⟩,⟨(some 68),none,.load 1 false (.t 67)⟩,⟨(some 67),none,.iaddr 1 (.t 65) (.t 66)⟩,⟨(some 63),none,.slice 1 (.t 61) none (some (.t 62))⟩,⟨(some 61),none,.load 1 false (.t 60)⟩,⟨(some 60),none,.faddr 3 (.t 5)⟩]
abbrev wz1:List a4t:=[⟨(some 92),none,.slice 5 (.t 90) (some (.t 91)) none⟩,⟨(some 90),none,.load 1 false (.t 89)⟩,⟨(some 89),none,.faddr 4 (.t 5)⟩,⟨(some 86),none,.load 5 true (.t 85)⟩,⟨(some 85),none,.iaddr 5 (.t 83) (.t 84)⟩,⟨(some 81),none,.slice 5 (.t 79) none (some (.t 80))⟩,⟨(some 79),none,.load 1 false (.t 78)⟩,⟨(some 78),none,.faddr 4 (.t 5)⟩]
abbrev wz2:List a4t:=[⟨(some 74),none,.slice 1 (.t 72) (some (.t 73)) none⟩,⟨(some 72),none,.load 1 false (.t 71)⟩,⟨(some 71),none,.faddr 3 (.t 5)⟩,⟨(some 63),none,.slice 1 (.t 61) none (some (.t 62))⟩,⟨(some 61),none,.load 1 false (.t 60)⟩,⟨(some 60),none,.faddr 3 (.t 5)⟩]
abbrev wz3:List a4t:=[⟨(some 92),none,.slice 5 (.t 90) (some (.t 91)) none⟩,⟨(some 90),none,.load 1 false (.t 89)⟩,⟨(some 89),none,.faddr 4 (.t 5)⟩,⟨(some 81),none,.slice 5 (.t 79) none (some (.t 80))⟩,⟨(some 79),none,.load 1 false (.t 78)⟩,⟨(some 78),none,.faddr 4 (.t 5)⟩]
abbrev wz4:List a4t:=[⟨(some 74),none,.slice 1 (.t 72) (some (.t 73)) none⟩,⟨(some 72),none,.load 1 false (.t 71)⟩,⟨(some 71),none,.faddr 3 (.t 5)⟩,⟨(some 68),none,.load 1 false (.t 67)⟩,⟨(some 67),none,.iaddr 1 (.t 65) (.t 66)⟩]
abbrev wz5:List a4t:=[⟨(some 92),none,.slice 5 (.t 90) (some (.t 91)) none⟩,⟨(some 90),none,.load 1 false (.t 89)⟩,⟨(some 89),none,.faddr 4 (.t 5)⟩,⟨(some 86),none,.load 5 true (.t 85)⟩,⟨(some 85),none,.iaddr 5 (.t 83) (.t 84)⟩]
abbrev wz6:List a4t:=[⟨(some 74),none,.slice 1 (.t 72) (some (.t 73)) none⟩,⟨(some 72),none,.load 1 false (.t 71)⟩,⟨(some 71),none,.faddr 3 (.t 5)⟩]
abbrev wz7:List a4t:=[⟨(some 92),none,.slice 5 (.t 90) (some (.t 91)) none⟩,⟨(some 90),none,.load 1 false (.t 89)⟩,⟨(some 89),none,.faddr 4 (.t 5)⟩]
def e9g:a0m :=
 (.seq (.reg (tq 4 (.box 5 (.c (.agg [(.int .i64 0),(.int .i64 0),(.str []),.nil,.nil]))) .done))
 (.seq (.reg (tq 8 (.build [(.int .i64 0),(.int .i64 0),(.str []),.nil,.nil] [(0,1,(.c (.int .i64 5)))]) (tq 5 (.box 5 (.c (.agg [(.int .i64 0),(.int .i64 0),(.str []),.nil,.nil]))) (.q ⟨none,none,.store 5 (.t 5) (.t 8)⟩
 .done))))
 (.seq (.seq (.reg (tm 6 (.c (.int .i64 0)) .done))
 (.block 0 (.loop (.seq (.seq (.reg (tm 9 (.t 6) (tm 10 (.t 0) (tq 11 (.len (.t 10)) (tq 12 (.bin .lss (.t 9) (.t 11)) .done)))))
 (.cond (.t 12) .skip
 (.exit 0)))
 (.seq (.block 1 (.seq (.reg (tm 7 (.c (.int .i64 0)) .done))
 (.seq (.block 2 (.loop (.seq (.seq (.reg (tm 15 (.t 7) (tq 16 (.faddr 3 (.t 5)) (tq 17 (.load 1 false (.t 16)) (tq 18 (.len (.t 17)) (tq 19 (.bin .lss (.t 15) (.t 18)) (tm 20 (.t 19) (tg 21 20 true (.faddr 3 (.t 5)) (tg 22 20 true (.load 1 false (.t 21)) (tg 23 20 true (.mov (.t 7)) (tg 24 20 true (.iaddr 1 (.t 22) (.t 23)) (tg 25 20 true (.load 1 false (.t 24)) (tg 26 20 true (.mov (.t 0)) (tg 27 20 true (.mov (.t 6)) (tg 28 20 true (.iaddr 1 (.t 26) (.t 27)) (tg 29 20 true (.load 1 false (.t 28)) (tg 30 20 true (.bin .lss (.t 25) (.t 29)) (tq 31 (.pick (.t 20) (.t 30) (.c (.bool false))) .done))))))))))))))))))
 (.cut (.cond (.t 31) .skip
 (.exit 2))))
 (.block 3 (.reg (tm 32 (.t 7) (tq 33 (.bin .add (.t 32) (.c (.int .i64 1))) (tm 7 (.t 33) .done))))))))
 (.cut (.seq (.seq (.reg (tm 34 (.t 7) (tq 35 (.faddr 3 (.t 5)) (tq 36 (.load 1 false (.t 35)) (tq 37 (.len (.t 36)) (tq 38 (.bin .lss (.t 34) (.t 37)) (tm 39 (.t 38) (tg 40 39 true (.faddr 3 (.t 5)) (tg 41 39 true (.load 1 false (.t 40)) (tg 42 39 true (.mov (.t 7)) (tg 43 39 true (.iaddr 1 (.t 41) (.t 42)) (tg 44 39 true (.load 1 false (.t 43)) (tg 45 39 true (.mov (.t 0)) (tg 46 39 true (.mov (.t 6)) (tg 47 39 true (.iaddr 1 (.t 45) (.t 46)) (tg 48 39 true (.load 1 false (.t 47)) (tg 49 39 true (.bin .eql (.t 44) (.t 48)) (tq 50 (.pick (.t 39) (.t 49) (.c (.bool false))) .done))))))))))))))))))
 (.cut (.cond (.t 50) (.seq (.reg (tq 51 (.faddr 4 (.t 5)) (tq 52 (.load 1 false (.t 51)) (tm 53 (.t 7) (tm 54 (.t 1) (tm 55 (.t 6) (tq 56 (.iaddr 5 (.t 54) (.t 55)) (tq 57 (.load 5 true (.t 56)) (tq 58 (.iaddr 5 (.t 52) (.t 53)) (.l ⟨none,none,.store 5 (.t 58) (.t 57)⟩ []
 .done .non))))))))))
 (.exit 1))
 .skip)))
 (.seq (.reg (tq 60 (.faddr 3 (.t 5)) (tq 61 (.load 1 false (.t 60)) (tm 62 (.t 7) (tq 63 (.slice 1 (.t 61) none (some (.t 62))) (tm 65 (.t 0) (tm 66 (.t 6) (tq 67 (.iaddr 1 (.t 65) (.t 66)) (tq 68 (.load 1 false (.t 67)) (tq 71 (.faddr 3 (.t 5)) (tq 72 (.load 1 false (.t 71)) (tm 73 (.t 7) (tq 74 (.slice 1 (.t 72) (some (.t 73)) none) (.l ⟨(some 59),none,.bslice 1 []⟩ wz0
 (.l ⟨(some 64),none,.append 1 16 (.t 59) (.t 63)⟩ wz4
 (.l ⟨(some 69),none,.bslice 1 [(.t 68)]⟩ wz2
 (.l ⟨(some 70),none,.append 1 16 (.t 64) (.t 69)⟩ wz6
 (.l ⟨(some 75),none,.append 1 16 (.t 70) (.t 74)⟩ []
 (tq 76 (.faddr 3 (.t 5)) (.l ⟨none,none,.store 1 (.t 76) (.t 75)⟩ []
 .done .non)) .non) .non) .non) (.l ⟨(some 69),none,.bslice 1 [(.t 68)]⟩ wz2
 (.l ⟨(some 64),none,.append 1 16 (.t 59) (.t 63)⟩ wz4
 (.l ⟨(some 70),none,.append 1 16 (.t 64) (.t 69)⟩ wz6
 (.l ⟨(some 75),none,.append 1 16 (.t 70) (.t 74)⟩ []
 (tq 76 (.faddr 3 (.t 5)) (.l ⟨none,none,.store 1 (.t 76) (.t 75)⟩ []
 .done .non)) .non) .non) .non) .non)) (.l ⟨(some 69),none,.bslice 1 [(.t 68)]⟩ wz2
 (.l ⟨(some 59),none,.bslice 1 []⟩ wz0
 (.l ⟨(some 64),none,.append 1 16 (.t 59) (.t 63)⟩ wz4
 (.l ⟨(some 70),none,.append 1 16 (.t 64) (.t 69)⟩ wz6
 (.l ⟨(some 75),none,.append 1 16 (.t 70) (.t 74)⟩ []
 (tq 76 (.faddr 3 (.t 5)) (.l ⟨none,none,.store 1 (.t 76) (.t 75)⟩ []
 .done .non)) .non) .non) .non) .non) .non)))))))))))))))
 (.cut (.reg (tq 78 (.faddr 4 (.t 5)) (tq 79 (.load 1 false (.t 78)) (tm 80 (.t 7) (tq 81 (.slice 5 (.t 79) none (some (.t 80))) (tm 83 (.t 1) (tm 84 (.t 6) (tq 85 (.iaddr 5 (.t 83) (.t 84)) (tq 86 (.load 5 true (.t 85)) (tq 89 (.faddr 4 (.t 5)) (tq 90 (.load 1 false (.t 89)) (tm 91 (.t 7) (tq 92 (.slice 5 (.t 90) (some (.t 91)) none) (.l ⟨(some 77),none,.bslice 5 []⟩ wz1
 (.l ⟨(some 82),none,.append 5 80 (.t 77) (.t 81)⟩ wz5
 (.l ⟨(some 87),none,.bslice 5 [(.t 86)]⟩ wz3
 (.l ⟨(some 88),none,.append 5 80 (.t 82) (.t 87)⟩ wz7
 (.l ⟨(some 93),none,.append 5 80 (.t 88) (.t 92)⟩ []
 (tq 94 (.faddr 4 (.t 5)) (.l ⟨none,none,.store 1 (.t 94) (.t 93)⟩ []
 .done .non)) .non) .non) .non) (.l ⟨(some 87),none,.bslice 5 [(.t 86)]⟩ wz3
 (.l ⟨(some 82),none,.append 5 80 (.t 77) (.t 81)⟩ wz5
 (.l ⟨(some 88),none,.append 5 80 (.t 82) (.t 87)⟩ wz7
 (.l ⟨(some 93),none,.append 5 80 (.t 88) (.t 92)⟩ []
 (tq 94 (.faddr 4 (.t 5)) (.l ⟨none,none,.store 1 (.t 94) (.t 93)⟩ []
 .done .non)) .non) .non) .non) .non)) (.l ⟨(some 87),none,.bslice 5 [(.t 86)]⟩ wz3
 (.l ⟨(some 77),none,.bslice 5 []⟩ wz1
 (.l ⟨(some 82),none,.append 5 80 (.t 77) (.t 81)⟩ wz5
 (.l ⟨(some 88),none,.append 5 80 (.t 82) (.t 87)⟩ wz7
 (.l ⟨(some 93),none,.append 5 80 (.t 88) (.t 92)⟩ []
 (tq 94 (.faddr 4 (.t 5)) (.l ⟨none,none,.store 1 (.t 94) (.t 93)⟩ []
 .done .non)) .non) .non) .non) .non) .non))))))))))))))))))))))
 (.reg (tm 13 (.t 6) (tq 14 (.bin .add (.t 13) (.c (.int .i64 1))) (tm 6 (.t 14) .done)))))))))
 (.cut (.seq (.reg (tq 95 (.load 5 true (.t 5)) (.q ⟨none,none,.store 5 (.t 4) (.t 95)⟩
 .done)))
 .ret)))))
theorem e9h:a1b Tryz.prog Tryz.f192 = some (e9g.erase,[.load 5 true (.t 4)],96):=by kernel_rfl
def a6t (B:(List Str)) (F:Str):Nat → Int → Option Int
  | 0,_ => none
  | k + 1,K =>
    ((if (decide (K < (B.length:Int))) then
    if (0:Int) ≤ K ∧ K < (B.length:Int) then
    (B[(0 + K.toNat)]?).bind fun R =>
    some (Op.bytesLess R F)
    else none
    else
    some false:Option Bool)).bind fun U =>
    if U then
    a6t B F k (w64 (K + 1))
    else
    some K

def a6u (H:(List o9)):List Str → Nat → (List Str) → (List o9) → Option ((List Str) × (List o9))
  | [],G,B,D =>
    some (B,D)
  | F :: xs,G,B,D =>
    (a6t B F FUEL 0).bind fun A =>
    ((if (decide (A < (B.length:Int))) then
    if (0:Int) ≤ A ∧ A < (B.length:Int) then
    (B[(0 + A.toNat)]?).bind fun S =>
    some (S == F)
    else none
    else
    some false:Option Bool)).bind fun V =>
    if V then
    (idx H (G:Int)).bind fun M =>
    if (0:Int) ≤ A ∧ A < (D.length:Int) then
    (D[(0 + A.toNat)]?).bind fun W =>
    a6u H xs (G + 1) B (D.set (0 + A.toNat) M)
    else none
    else
    ((if (0:Int) ≤ A ∧ A ≤ (B.length:Int) then
    if (0:Int) ≤ A ∧ A ≤ (B.length:Int) then
    if ([] ++ (B.take A.toNat)).length ≤ 2 ^ 30 then
    if (([] ++ (B.take A.toNat)) ++ [F]).length ≤ 2 ^ 30 then
    if ((([] ++ (B.take A.toNat)) ++ [F]) ++ ((B.drop A.toNat).take (B.length - A.toNat))).length ≤ 2 ^ 30 then
    some ()
    else none
    else none
    else none
    else none
    else none:Option Unit)).bind fun _ =>
    if (0:Int) ≤ A ∧ A ≤ (D.length:Int) then
    (idx H (G:Int)).bind fun E =>
    if (0:Int) ≤ A ∧ A ≤ (D.length:Int) then
    if ([] ++ (D.take A.toNat)).length ≤ 2 ^ 30 then
    if (([] ++ (D.take A.toNat)) ++ [E]).length ≤ 2 ^ 30 then
    if ((([] ++ (D.take A.toNat)) ++ [E]) ++ ((D.drop A.toNat).take (D.length - A.toNat))).length ≤ 2 ^ 30 then
    a6u H xs (G + 1) ((([] ++ (B.take A.toNat)) ++ [F]) ++ ((B.drop A.toNat).take (B.length - A.toNat))) ((([] ++ (D.take A.toNat)) ++ [E]) ++ ((D.drop A.toNat).take (D.length - A.toNat)))
    else none
    else none
    else none
    else none
    else none

def a9f (J:(List Str)) (H:(List o9)):Option o9 :=
    (a6u H J 0 [] []).bind fun p274 =>
    (match p274 with
    | (O,P) =>
    some (⟨5,0,[],O,P⟩:o9))
theorem a7i (J:(List Str)) (H:(List o9)) (r:o9) (hf:a9f J H = some r):a0a Tryz.prog 192 .weak [(.lst 1 (J.map AV.str)),(.lst 5 (H.map l9))] (l9 r):=by
 refine a0a.of_awp mixed Tryz.func192 e9h nle ?_;rw [a0l];unfold a9f at hf;unfold e9g;refine (show awp Tryz.prog false 0 _ (ofL [(0,(.lst 1 (J.map AV.str))),(1,(.lst 5 (H.map l9)))]) [] _ from ?_);refine sr<|x9 (a1j (j:=0) (c:=(.agg [(.I 0),(.I 0),(.str []),.nil,.nil])) rfl tr rfl rfl)<|dk<|sr<|x8 (.agg [(.I 5),(.I 0),(.str []),.nil,.nil]) rfl ⟨⟨rfl,nle,tr⟩,tr⟩ rfl<|x9 (a1j (j:=1) (c:=(.agg [(.I 0),(.I 0),(.str []),.nil,.nil])) rfl tr rfl rfl)<|a1v (a0f (v:=(.agg [(.I 5),(.I 0),(.str []),.nil,.nil])) (y':=(.agg [(.I 5),(.I 0),(.str []),.nil,.nil])) rfl rfl rfl tr ⟨rfl,nle⟩ ⟨⟨rfl,tr⟩,⟨⟨rfl,tr⟩,⟨⟨rfl,tr⟩,⟨⟨rfl,tr⟩,⟨⟨rfl,tr⟩,tr⟩⟩⟩⟩⟩ rfl)<|?_
 refine dk<|o7<|sr<|l7 (.I 0) rfl<|dk<|?_
 obtain ⟨p274,hb1,hf⟩:=ob hf
 refine a1s ([(4,(.ptr 0 0 0)),(5,(.ptr 1 0 0))],[.box 5 (.agg [(.I 0),(.I 0),(.str []),.nil,.nil]),.box 5 (.agg [(.I 5),(.I 0),(.str []),(.own 2 0 p274.1.length),(.own 3 0 p274.2.length)]),.row 1 (p274.1.map AV.str),.row 5 (p274.2.map l9)]) ?_ ?_
 ·refine a1f (X:={q:(Nat × (List Str) × (List o9)) // a6u H (J.drop q.1) q.1 q.2.1 q.2.2 = some p274}) (fun q => ([(0,(.lst 1 (J.map AV.str))),(1,(.lst 5 (H.map l9))),(4,(.ptr 0 0 0)),(5,(.ptr 1 0 0)),(6,(.I (q.1.1:Int)))],[.box 5 (.agg [(.I 0),(.I 0),(.str []),.nil,.nil]),.box 5 (.agg [(.I 5),(.I 0),(.str []),(.own 2 0 q.1.2.1.length),(.own 3 0 q.1.2.2.length)]),.row 1 (q.1.2.1.map AV.str),.row 5 (q.1.2.2.map l9)])) (fun q => J.length - q.1.1) ⟨(0,[],[]),hb1⟩ ⟨[.nilC 1 3 1,.nilC 1 4 5],[0,1,2,3],_,_,rfl,rfl,⟨.r,⟨.r,⟨.r,⟨.r,⟨.r,tr⟩⟩⟩⟩⟩,.r⟩ ?_
  rintro ⟨⟨G,B,D⟩,hc1⟩
  have hc1:a6u H (J.drop G) G B D = some p274:=hc1
  refine (show awp Tryz.prog false 0 _ (ofL [(0,(.lst 1 (J.map AV.str))),(1,(.lst 5 (H.map l9))),(4,(.ptr 0 0 0)),(5,(.ptr 1 0 0)),(6,(.I (G:Int)))]) [.box 5 (.agg [(.I 0),(.I 0),(.str []),.nil,.nil]),.box 5 (.agg [(.I 5),(.I 0),(.str []),(.own 2 0 B.length),(.own 3 0 D.length)]),.row 1 (B.map AV.str),.row 5 (D.map l9)] _ from ?_)
  rcases a5n J G with ⟨hie277,hd280⟩ | ⟨hlt275,F,hx276,hd280⟩
  ·rw [hd280,a6u.eq_1] at hc1
   have hq279:=dlf hie277
   refine o7<|sr<|l7 (.I (G:Int)) rfl<|l7 (.lst 1 (J.map AV.str)) rfl<|a0y (a1o (enc:=AV.str) rfl) fun hl282 => x8 (.bool (decide ((G:Int) < (J.length:Int)))) rfl rfl rfl<|dk<|y9 rfl hq279<|a2l<|a2k<|a1t<|a2j<|?_;obtain rfl:=os hc1;exact ⟨[],[0,1,2,3],_,_,rfl,rfl,⟨.r,⟨.r,tr⟩⟩,.r⟩
  ·rw [hd280,a6u.eq_2] at hc1
   have hq279:=dlt hlt275
   refine o7<|sr<|l7 (.I (G:Int)) rfl<|l7 (.lst 1 (J.map AV.str)) rfl<|a0y (a1o (enc:=AV.str) rfl) fun hl283 => x8 (.bool (decide ((G:Int) < (J.length:Int)))) rfl rfl rfl<|dk<|y8 rfl hq279<|a0j<|a0i<|o7<|a2x<|sr<|l7 (.I 0) rfl<|dk<|o7<|?_
   obtain ⟨A,hb2,hc1⟩:=ob hc1
   refine a1s ([(0,(.lst 1 (J.map AV.str))),(1,(.lst 5 (H.map l9))),(4,(.ptr 0 0 0)),(5,(.ptr 1 0 0)),(6,(.I (G:Int))),(7,(.I A))],[.box 5 (.agg [(.I 0),(.I 0),(.str []),.nil,.nil]),.box 5 (.agg [(.I 5),(.I 0),(.str []),(.own 2 0 B.length),(.own 3 0 D.length)]),.row 1 (B.map AV.str),.row 5 (D.map l9)]) ?_ ?_
   ·refine a1f (X:={q:(Nat × Int) // a6t B F q.1 q.2 = some A}) (fun q => ([(0,(.lst 1 (J.map AV.str))),(1,(.lst 5 (H.map l9))),(4,(.ptr 0 0 0)),(5,(.ptr 1 0 0)),(6,(.I (G:Int))),(7,(.I q.1.2))],[.box 5 (.agg [(.I 0),(.I 0),(.str []),.nil,.nil]),.box 5 (.agg [(.I 5),(.I 0),(.str []),(.own 2 0 B.length),(.own 3 0 D.length)]),.row 1 (B.map AV.str),.row 5 (D.map l9)])) (fun q => q.1.1) ⟨(FUEL,0),hb2⟩ ⟨[],[0,1,2,3],_,_,rfl,rfl,⟨.r,⟨.r,⟨.r,⟨.r,⟨.r,⟨.r,tr⟩⟩⟩⟩⟩⟩,.r⟩ ?_
    rintro ⟨⟨k,K⟩,hc2⟩
    have hc2:a6t B F k K = some A:=hc2
    refine (show awp Tryz.prog false 0 _ (ofL [(0,(.lst 1 (J.map AV.str))),(1,(.lst 5 (H.map l9))),(4,(.ptr 0 0 0)),(5,(.ptr 1 0 0)),(6,(.I (G:Int))),(7,(.I K))]) [.box 5 (.agg [(.I 0),(.I 0),(.str []),.nil,.nil]),.box 5 (.agg [(.I 5),(.I 0),(.str []),(.own 2 0 B.length),(.own 3 0 D.length)]),.row 1 (B.map AV.str),.row 5 (D.map l9)] _ from ?_)
    rcases k with _ | k
    ·rw [a6t.eq_1] at hc2
     cases hc2
    ·rw [a6t.eq_2] at hc2;refine o7<|o7<|?_
     obtain ⟨U,hb3,hc2⟩:=ob hc2
     refine a1s ([(0,(.lst 1 (J.map AV.str))),(1,(.lst 5 (H.map l9))),(4,(.ptr 0 0 0)),(5,(.ptr 1 0 0)),(6,(.I (G:Int))),(7,(.I K)),(31,(.bool U))],[.box 5 (.agg [(.I 0),(.I 0),(.str []),.nil,.nil]),.box 5 (.agg [(.I 5),(.I 0),(.str []),(.own 2 0 B.length),(.own 3 0 D.length)]),.row 1 (B.map AV.str),.row 5 (D.map l9)]) ?_ ?_
     ·refine a0s<|l7 (.I K) rfl<|x8 (.ptr 1 0 3) rfl tr rfl<|x8 (.own 2 0 B.length) rfl nle rfl<|a0y (a7n rfl rfl) fun hl334 => x8 (.bool (decide (K < (B.length:Int)))) rfl rfl rfl<|l7 (.bool (decide (K < (B.length:Int)))) rfl<|?_
      rcases oi hb3 with ⟨c335,hb3⟩ | ⟨c335,hb3⟩
      ·refine a1g (s:=20) (b:=true) rfl c335<|s_on rfl<|x8 (.ptr 1 0 3) rfl tr rfl<|s_on rfl<|x8 (.own 2 0 B.length) rfl nle rfl<|s_on rfl<|l7 (.I K) rfl<|s_on rfl<|?_
       obtain ⟨g336,hb3⟩:=og hb3
       refine x9 (a2b rfl rfl g336.1 g336.2 rfl rfl)<|s_on rfl<|?_
       obtain ⟨R,ex338,hb3⟩:=ob hb3
       refine x9 (a7k (enc:=AV.str) (v:=(.str R)) rfl rfl ex338 ⟨rfl,rfl⟩ rfl)<|s_on rfl<|l7 (.lst 1 (J.map AV.str)) rfl<|s_on rfl<|l7 (.I (G:Int)) rfl<|s_on rfl<|x9 (a1n (enc:=AV.str) rfl rfl hx276)<|s_on rfl<|x8 (.str F) rfl ⟨rfl,rfl⟩ rfl<|s_on rfl<|x8 (.bool (Op.bytesLess R F)) rfl tr rfl<|x8 (.bool (Op.bytesLess R F)) rfl tr rfl<|a0h<|?_;obtain rfl:=os hb3;exact ⟨[],[0,1,2,3],_,_,rfl,rfl,⟨.r,⟨.r,⟨.r,⟨.r,⟨.r,⟨.r,⟨.r,tr⟩⟩⟩⟩⟩⟩⟩,.r⟩
      ·refine a1g (s:=20) (b:=false) rfl (bf c335)<|a0d rfl rfl<|a0d rfl rfl<|a0d rfl rfl<|a0d rfl rfl<|a0d rfl rfl<|a0d rfl rfl<|a0d rfl rfl<|a0d rfl rfl<|a0d rfl rfl<|a0d rfl rfl<|x8 (.bool false) rfl tr rfl<|a0h<|?_;obtain rfl:=os hb3;exact ⟨[],[0,1,2,3],_,_,rfl,rfl,⟨.r,⟨.r,⟨.r,⟨.r,⟨.r,⟨.r,⟨.r,tr⟩⟩⟩⟩⟩⟩⟩,.r⟩
     ·rcases oi hc2 with ⟨c339,hc2⟩ | ⟨c339,hc2⟩
      ·refine y8 rfl c339<|a0j<|a0i<|a2x<|a0s<|l7 (.I K) rfl<|x8 (.I (w64 (K + 1))) rfl rfl rfl<|l7 (.I (w64 (K + 1))) rfl<|a0h<|a2v<|?_;exact a1m ⟨(k,w64 (K + 1)),hc2⟩ (Nat.lt_succ_self _) ⟨[],[0,1,2,3],_,_,rfl,rfl,⟨.r,⟨.r,⟨.r,⟨.r,⟨.r,⟨.r,tr⟩⟩⟩⟩⟩⟩,.r⟩
      ·refine y9 rfl (bf c339)<|a2l<|a2k<|a1t<|a2j<|?_;obtain rfl:=os hc2;exact ⟨[],[0,1,2,3],_,_,rfl,rfl,⟨.r,⟨.r,⟨.r,⟨.r,⟨.r,⟨.r,tr⟩⟩⟩⟩⟩⟩,.r⟩
   ·refine o7<|o7<|?_
    obtain ⟨V,hb2,hc1⟩:=ob hc1
    refine a1s ([(0,(.lst 1 (J.map AV.str))),(1,(.lst 5 (H.map l9))),(4,(.ptr 0 0 0)),(5,(.ptr 1 0 0)),(6,(.I (G:Int))),(7,(.I A)),(50,(.bool V))],[.box 5 (.agg [(.I 0),(.I 0),(.str []),.nil,.nil]),.box 5 (.agg [(.I 5),(.I 0),(.str []),(.own 2 0 B.length),(.own 3 0 D.length)]),.row 1 (B.map AV.str),.row 5 (D.map l9)]) ?_ ?_
    ·refine a0s<|l7 (.I A) rfl<|x8 (.ptr 1 0 3) rfl tr rfl<|x8 (.own 2 0 B.length) rfl nle rfl<|a0y (a7n rfl rfl) fun hl347 => x8 (.bool (decide (A < (B.length:Int)))) rfl rfl rfl<|l7 (.bool (decide (A < (B.length:Int)))) rfl<|?_
     rcases oi hb2 with ⟨c348,hb2⟩ | ⟨c348,hb2⟩
     ·refine a1g (s:=39) (b:=true) rfl c348<|s_on rfl<|x8 (.ptr 1 0 3) rfl tr rfl<|s_on rfl<|x8 (.own 2 0 B.length) rfl nle rfl<|s_on rfl<|l7 (.I A) rfl<|s_on rfl<|?_
      obtain ⟨g349,hb2⟩:=og hb2
      refine x9 (a2b rfl rfl g349.1 g349.2 rfl rfl)<|s_on rfl<|?_
      obtain ⟨S,ex351,hb2⟩:=ob hb2
      refine x9 (a7k (enc:=AV.str) (v:=(.str S)) rfl rfl ex351 ⟨rfl,rfl⟩ rfl)<|s_on rfl<|l7 (.lst 1 (J.map AV.str)) rfl<|s_on rfl<|l7 (.I (G:Int)) rfl<|s_on rfl<|x9 (a1n (enc:=AV.str) rfl rfl hx276)<|s_on rfl<|x8 (.str F) rfl ⟨rfl,rfl⟩ rfl<|s_on rfl<|x8 (.bool (S == F)) rfl tr rfl<|x8 (.bool (S == F)) rfl tr rfl<|a0h<|?_;obtain rfl:=os hb2;exact ⟨[],[0,1,2,3],_,_,rfl,rfl,⟨.r,⟨.r,⟨.r,⟨.r,⟨.r,⟨.r,⟨.r,tr⟩⟩⟩⟩⟩⟩⟩,.r⟩
     ·refine a1g (s:=39) (b:=false) rfl (bf c348)<|a0d rfl rfl<|a0d rfl rfl<|a0d rfl rfl<|a0d rfl rfl<|a0d rfl rfl<|a0d rfl rfl<|a0d rfl rfl<|a0d rfl rfl<|a0d rfl rfl<|a0d rfl rfl<|x8 (.bool false) rfl tr rfl<|a0h<|?_;obtain rfl:=os hb2;exact ⟨[],[0,1,2,3],_,_,rfl,rfl,⟨.r,⟨.r,⟨.r,⟨.r,⟨.r,⟨.r,⟨.r,tr⟩⟩⟩⟩⟩⟩⟩,.r⟩
    ·rcases oi hc1 with ⟨c352,hc1⟩ | ⟨c352,hc1⟩
     ·refine y8 rfl c352<|sr<|?_
      obtain ⟨M,ex354,hc1⟩:=ob hc1
      obtain ⟨g355,hc1⟩:=og hc1
      obtain ⟨W,ex357,hc1⟩:=ob hc1
      refine x8 (.ptr 1 0 4) rfl tr rfl<|x8 (.own 3 0 D.length) rfl nle rfl<|l7 (.I A) rfl<|l7 (.lst 5 (H.map l9)) rfl<|l7 (.I (G:Int)) rfl<|x9 (a6s (enc:=l9) rfl rfl (b3m ex354) (b3n ex354))<|x9 (a8k (v:=(.agg [(.I M.Kind),(.I M.N),(.str M.T),(.lst 1 (M.Keys.map AV.str)),(.lst 5 (M.Items.map l9))])) rfl (o8 _) nle rfl)<|x9 (a2b rfl rfl g355.1 g355.2 rfl rfl)<|?_;refine a4r (b5l (v':=(.agg [(.I M.Kind),(.I M.N),(.str M.T),(.lst 1 (M.Keys.map AV.str)),(.lst 5 (M.Items.map l9))])) (e':=M) rfl rfl ex357 (o8 _) rfl rfl rfl (by decide) (fun _ => by decide) ⟨rfl,nle⟩ (.of_eq (o8 M).symm) rfl) tr tr ?_
      refine dk<|a2l<|a2k<|a2j<|?_;refine a0i<|a0s<|l7 (.I (G:Int)) rfl<|x8 (.I (w64 ((G:Int) + 1))) rfl rfl rfl<|l7 (.I (w64 ((G:Int) + 1))) rfl<|a0h<|?_;exact a1m ⟨((G + 1),B,D.set (0 + A.toNat) M),hc1⟩ (mul hlt275) ⟨[],[0,1,2,3],_,_,rfl,rfl,⟨.r,⟨.r,⟨.r,⟨.r,⟨.of_eq (congrArg (AV.int _) (a1p hlt275 hl283)),tr⟩⟩⟩⟩⟩,(.cons .r (.cons (.box (.agg (.cons .r (.cons .r (.cons .r (.cons .r (.cons (.of_eq (congrArg (AV.own _ 0) (by simp))) .nil))))))) (.cons .r (.cons .r .nil))))⟩
     ·refine y9 rfl (bf c352)<|a0j<|a0i<|o7<|?_
      obtain ⟨p363,hb2,hc1⟩:=ob hc1
      refine a1s ([(0,(.lst 1 (J.map AV.str))),(1,(.lst 5 (H.map l9))),(4,(.ptr 0 0 0)),(5,(.ptr 1 0 0)),(6,(.I (G:Int))),(7,(.I A))],[.box 5 (.agg [(.I 0),(.I 0),(.str []),.nil,.nil]),.box 5 (.agg [(.I 5),(.I 0),(.str []),(.own 2 0 (((([] ++ (B.take A.toNat)) ++ [F]) ++ ((B.drop A.toNat).take (B.length - A.toNat))).length)),(.own 3 0 D.length)]),.row 1 (((([] ++ (B.take A.toNat)) ++ [F]) ++ ((B.drop A.toNat).take (B.length - A.toNat))).map AV.str),.row 5 (D.map l9)]) ?_ ?_
      ·refine a0s ?_
       obtain ⟨g364,hb2⟩:=og hb2
       obtain ⟨g365,hb2⟩:=og hb2
       obtain ⟨g366,hb2⟩:=og hb2
       obtain ⟨g367,hb2⟩:=og hb2
       obtain ⟨g368,hb2⟩:=og hb2
       refine x8 (.ptr 1 0 3) rfl tr rfl<|x8 (.own 2 0 B.length) rfl nle rfl<|l7 (.I A) rfl<|x9 (d3r rfl rfl rfl g364.1 g364.2)<|l7 (.lst 1 (J.map AV.str)) rfl<|l7 (.I (G:Int)) rfl<|x9 (a1n (enc:=AV.str) rfl rfl hx276)<|x8 (.str F) rfl ⟨rfl,rfl⟩ rfl<|x8 (.ptr 1 0 3) rfl tr rfl<|x8 (.own 2 0 B.length) rfl nle rfl<|l7 (.I A) rfl<|x9 (c8r rfl rfl rfl g365.1 g365.2)<|?_;refine a0w (a0o (j:=4) (as':=[]) rfl (fun _ => by decide) tr .r rfl rfl rfl) (.inr ⟨(a6k rfl rfl rfl g365.1 g365.2),⟨⟨nle,rfl⟩,⟨⟨tr,rfl⟩,⟨⟨⟨rfl,rfl⟩,rfl⟩,⟨(b7h (enc:=AV.str) rfl rfl hx276),⟨(b3v rfl rfl rfl g364.1 g364.2),⟨⟨nle,rfl⟩,⟨⟨tr,rfl⟩,tr⟩⟩⟩⟩⟩⟩⟩⟩) ?_ ?_
       ·refine a0w (a0o (j:=4) (as':=[(.str F)]) rfl (fun _ => by decide) ⟨rfl,tr⟩ .r rfl rfl rfl) (.inr ⟨(a6k rfl rfl rfl g365.1 g365.2),⟨⟨nle,rfl⟩,⟨⟨tr,rfl⟩,⟨(b3v rfl rfl rfl g364.1 g364.2),⟨⟨nle,rfl⟩,⟨⟨tr,rfl⟩,tr⟩⟩⟩⟩⟩⟩) tr ?_;refine a0w (a0o (j:=5) (as':=[]) rfl (fun _ => by decide) tr .r rfl rfl rfl) (.inr ⟨(a6k rfl rfl rfl g365.1 g365.2),⟨⟨nle,rfl⟩,⟨⟨tr,rfl⟩,⟨⟨⟨rfl,rfl⟩,rfl⟩,⟨(b7h (enc:=AV.str) rfl rfl hx276),⟨(b3v rfl rfl rfl g364.1 g364.2),⟨⟨nle,rfl⟩,⟨⟨tr,rfl⟩,tr⟩⟩⟩⟩⟩⟩⟩⟩) tr ?_
        refine a0w (a3l (j:=6) (L:=(([] ++ (B.take A.toNat)).map AV.str)) (len:=([] ++ (B.take A.toNat)).length) rfl rfl ((by simp)) (by simp <;> omega) g366 rfl rfl) (.inr ⟨(a6k rfl rfl rfl g365.1 g365.2),⟨⟨nle,rfl⟩,⟨⟨tr,rfl⟩,⟨⟨⟨rfl,rfl⟩,rfl⟩,⟨(b7h (enc:=AV.str) rfl rfl hx276),tr⟩⟩⟩⟩⟩) tr ?_
        refine a0w (a3l (j:=7) (L:=((([] ++ (B.take A.toNat)) ++ [F]).map AV.str)) (len:=(([] ++ (B.take A.toNat)) ++ [F]).length) rfl rfl (c4p (enc:=AV.str) ([] ++ (B.take A.toNat)) [F] _ (by rfl)) (by simp <;> omega) g367 rfl rfl) (.inr ⟨(a6k rfl rfl rfl g365.1 g365.2),⟨⟨nle,rfl⟩,⟨⟨tr,rfl⟩,tr⟩⟩⟩) tr ?_
        refine a0w (a3l (j:=8) (L:=(((([] ++ (B.take A.toNat)) ++ [F]) ++ ((B.drop A.toNat).take (B.length - A.toNat))).map AV.str)) (len:=((([] ++ (B.take A.toNat)) ++ [F]) ++ ((B.drop A.toNat).take (B.length - A.toNat))).length) rfl rfl ((apg (enc:=AV.str) (([] ++ (B.take A.toNat)) ++ [F]) ((B.drop A.toNat).take (B.length - A.toNat)) (tkw _ _ _))) (by simp <;> omega) g368 rfl rfl) tr tr ?_
        refine x8 (.ptr 1 0 3) rfl tr rfl<|a4r (a0f (v:=(.own 8 0 (((([] ++ (B.take A.toNat)) ++ [F]) ++ ((B.drop A.toNat).take (B.length - A.toNat))).length))) (y':=(.agg [(.I 5),(.I 0),(.str []),(.own 8 0 (((([] ++ (B.take A.toNat)) ++ [F]) ++ ((B.drop A.toNat).take (B.length - A.toNat))).length)),(.own 3 0 D.length)])) rfl rfl rfl tr ⟨rfl,nle⟩ ⟨⟨rfl,tr⟩,tr⟩ rfl) tr tr<|a0h<|?_;obtain rfl:=os hb2;exact ⟨[],[0,1,8,3],_,_,rfl,rfl,⟨.r,⟨.r,⟨.r,⟨.r,⟨.r,⟨.r,tr⟩⟩⟩⟩⟩⟩,.r⟩
       ·refine a0w (a3l (j:=5) (L:=(([] ++ (B.take A.toNat)).map AV.str)) (len:=([] ++ (B.take A.toNat)).length) rfl rfl ((by simp)) (by simp <;> omega) g366 rfl rfl) (.inr ⟨(a6k rfl rfl rfl g365.1 g365.2),⟨⟨nle,rfl⟩,⟨⟨tr,rfl⟩,⟨⟨⟨rfl,rfl⟩,rfl⟩,⟨(b7h (enc:=AV.str) rfl rfl hx276),tr⟩⟩⟩⟩⟩) ?_ ?_
        ·refine a0w (a0o (j:=5) (as':=[(.str F)]) rfl (fun _ => by decide) ⟨rfl,tr⟩ .r rfl rfl rfl) (.inr ⟨(a6k rfl rfl rfl g365.1 g365.2),⟨⟨nle,rfl⟩,⟨⟨tr,rfl⟩,⟨(b3v rfl rfl rfl g364.1 g364.2),⟨⟨nle,rfl⟩,⟨⟨tr,rfl⟩,tr⟩⟩⟩⟩⟩⟩) tr ?_
         refine a0w (a3l (j:=6) (L:=(([] ++ (B.take A.toNat)).map AV.str)) (len:=([] ++ (B.take A.toNat)).length) rfl rfl ((by simp)) (by simp <;> omega) g366 rfl rfl) (.inr ⟨(a6k rfl rfl rfl g365.1 g365.2),⟨⟨nle,rfl⟩,⟨⟨tr,rfl⟩,⟨⟨⟨rfl,rfl⟩,rfl⟩,⟨(b7h (enc:=AV.str) rfl rfl hx276),tr⟩⟩⟩⟩⟩) tr ?_
         refine a0w (a3l (j:=7) (L:=((([] ++ (B.take A.toNat)) ++ [F]).map AV.str)) (len:=(([] ++ (B.take A.toNat)) ++ [F]).length) rfl rfl (c4p (enc:=AV.str) ([] ++ (B.take A.toNat)) [F] _ (by rfl)) (by simp <;> omega) g367 rfl rfl) (.inr ⟨(a6k rfl rfl rfl g365.1 g365.2),⟨⟨nle,rfl⟩,⟨⟨tr,rfl⟩,tr⟩⟩⟩) tr ?_
         refine a0w (a3l (j:=8) (L:=(((([] ++ (B.take A.toNat)) ++ [F]) ++ ((B.drop A.toNat).take (B.length - A.toNat))).map AV.str)) (len:=((([] ++ (B.take A.toNat)) ++ [F]) ++ ((B.drop A.toNat).take (B.length - A.toNat))).length) rfl rfl ((apg (enc:=AV.str) (([] ++ (B.take A.toNat)) ++ [F]) ((B.drop A.toNat).take (B.length - A.toNat)) (tkw _ _ _))) (by simp <;> omega) g368 rfl rfl) tr tr ?_
         refine x8 (.ptr 1 0 3) rfl tr rfl<|a4r (a0f (v:=(.own 8 0 (((([] ++ (B.take A.toNat)) ++ [F]) ++ ((B.drop A.toNat).take (B.length - A.toNat))).length))) (y':=(.agg [(.I 5),(.I 0),(.str []),(.own 8 0 (((([] ++ (B.take A.toNat)) ++ [F]) ++ ((B.drop A.toNat).take (B.length - A.toNat))).length)),(.own 3 0 D.length)])) rfl rfl rfl tr ⟨rfl,nle⟩ ⟨⟨rfl,tr⟩,tr⟩ rfl) tr tr<|a0h<|?_;obtain rfl:=os hb2;exact ⟨[],[0,1,8,3],_,_,rfl,rfl,⟨.r,⟨.r,⟨.r,⟨.r,⟨.r,⟨.r,tr⟩⟩⟩⟩⟩⟩,.r⟩
        ·refine a0w (a0o (j:=6) (as':=[(.str F)]) rfl (fun _ => by decide) ⟨rfl,tr⟩ .r rfl rfl rfl) (.inr ⟨(a6k rfl rfl rfl g365.1 g365.2),⟨⟨nle,rfl⟩,⟨⟨tr,rfl⟩,⟨(b3v rfl rfl rfl g364.1 g364.2),⟨⟨nle,rfl⟩,⟨⟨tr,rfl⟩,tr⟩⟩⟩⟩⟩⟩) tr ?_
         refine a0w (a3l (j:=7) (L:=((([] ++ (B.take A.toNat)) ++ [F]).map AV.str)) (len:=(([] ++ (B.take A.toNat)) ++ [F]).length) rfl rfl (c4p (enc:=AV.str) ([] ++ (B.take A.toNat)) [F] _ (by rfl)) (by simp <;> omega) g367 rfl rfl) (.inr ⟨(a6k rfl rfl rfl g365.1 g365.2),⟨⟨nle,rfl⟩,⟨⟨tr,rfl⟩,tr⟩⟩⟩) tr ?_
         refine a0w (a3l (j:=8) (L:=(((([] ++ (B.take A.toNat)) ++ [F]) ++ ((B.drop A.toNat).take (B.length - A.toNat))).map AV.str)) (len:=((([] ++ (B.take A.toNat)) ++ [F]) ++ ((B.drop A.toNat).take (B.length - A.toNat))).length) rfl rfl ((apg (enc:=AV.str) (([] ++ (B.take A.toNat)) ++ [F]) ((B.drop A.toNat).take (B.length - A.toNat)) (tkw _ _ _))) (by simp <;> omega) g368 rfl rfl) tr tr ?_
         refine x8 (.ptr 1 0 3) rfl tr rfl<|a4r (a0f (v:=(.own 8 0 (((([] ++ (B.take A.toNat)) ++ [F]) ++ ((B.drop A.toNat).take (B.length - A.toNat))).length))) (y':=(.agg [(.I 5),(.I 0),(.str []),(.own 8 0 (((([] ++ (B.take A.toNat)) ++ [F]) ++ ((B.drop A.toNat).take (B.length - A.toNat))).length)),(.own 3 0 D.length)])) rfl rfl rfl tr ⟨rfl,nle⟩ ⟨⟨rfl,tr⟩,tr⟩ rfl) tr tr<|a0h<|?_;obtain rfl:=os hb2;exact ⟨[],[0,1,8,3],_,_,rfl,rfl,⟨.r,⟨.r,⟨.r,⟨.r,⟨.r,⟨.r,tr⟩⟩⟩⟩⟩⟩,.r⟩
      ·refine a0s ?_
       obtain ⟨g369,hc1⟩:=og hc1
       obtain ⟨E,ex371,hc1⟩:=ob hc1
       obtain ⟨g372,hc1⟩:=og hc1
       obtain ⟨g373,hc1⟩:=og hc1
       obtain ⟨g374,hc1⟩:=og hc1
       obtain ⟨g375,hc1⟩:=og hc1
       refine x8 (.ptr 1 0 4) rfl tr rfl<|x8 (.own 3 0 D.length) rfl nle rfl<|l7 (.I A) rfl<|x9 (d3r rfl rfl rfl g369.1 g369.2)<|l7 (.lst 5 (H.map l9)) rfl<|l7 (.I (G:Int)) rfl<|x9 (a6s (enc:=l9) rfl rfl (b3m ex371) (b3n ex371))<|x9 (a8k (v:=(.agg [(.I E.Kind),(.I E.N),(.str E.T),(.lst 1 (E.Keys.map AV.str)),(.lst 5 (E.Items.map l9))])) rfl (o8 _) nle rfl)<|x8 (.ptr 1 0 4) rfl tr rfl<|x8 (.own 3 0 D.length) rfl nle rfl<|l7 (.I A) rfl<|x9 (c8r rfl rfl rfl g372.1 g372.2)<|?_;refine a0w (a0o (j:=4) (as':=[]) rfl (fun _ => by decide) tr .r rfl rfl rfl) (.inr ⟨(a6k rfl rfl rfl g372.1 g372.2),⟨⟨nle,rfl⟩,⟨⟨tr,rfl⟩,⟨(b7i (v:=(.agg [(.I E.Kind),(.I E.N),(.str E.T),(.lst 1 (E.Keys.map AV.str)),(.lst 5 (E.Items.map l9))])) rfl (o8 _) nle rfl),⟨(b7g (enc:=l9) rfl rfl (b3m ex371) (b3n ex371)),⟨(b3v rfl rfl rfl g369.1 g369.2),⟨⟨nle,rfl⟩,⟨⟨tr,rfl⟩,tr⟩⟩⟩⟩⟩⟩⟩⟩) ?_ ?_
       ·refine a0w (a0o (j:=4) (as':=[(l9 E)]) rfl (fun _ => by decide) ⟨rfl,tr⟩ (.cons (.of_eq (o8 E).symm) .nil) rfl rfl rfl) (.inr ⟨(a6k rfl rfl rfl g372.1 g372.2),⟨⟨nle,rfl⟩,⟨⟨tr,rfl⟩,⟨(b3v rfl rfl rfl g369.1 g369.2),⟨⟨nle,rfl⟩,⟨⟨tr,rfl⟩,tr⟩⟩⟩⟩⟩⟩) tr ?_;refine a0w (a0o (j:=5) (as':=[]) rfl (fun _ => by decide) tr .r rfl rfl rfl) (.inr ⟨(a6k rfl rfl rfl g372.1 g372.2),⟨⟨nle,rfl⟩,⟨⟨tr,rfl⟩,⟨(b7i (v:=(.agg [(.I E.Kind),(.I E.N),(.str E.T),(.lst 1 (E.Keys.map AV.str)),(.lst 5 (E.Items.map l9))])) rfl (o8 _) nle rfl),⟨(b7g (enc:=l9) rfl rfl (b3m ex371) (b3n ex371)),⟨(b3v rfl rfl rfl g369.1 g369.2),⟨⟨nle,rfl⟩,⟨⟨tr,rfl⟩,tr⟩⟩⟩⟩⟩⟩⟩⟩) tr ?_
        refine a0w (a3l (j:=6) (L:=(([] ++ (D.take A.toNat)).map l9)) (len:=([] ++ (D.take A.toNat)).length) rfl rfl ((by simp)) (by simp <;> omega) g373 rfl rfl) (.inr ⟨(a6k rfl rfl rfl g372.1 g372.2),⟨⟨nle,rfl⟩,⟨⟨tr,rfl⟩,⟨(b7i (v:=(.agg [(.I E.Kind),(.I E.N),(.str E.T),(.lst 1 (E.Keys.map AV.str)),(.lst 5 (E.Items.map l9))])) rfl (o8 _) nle rfl),⟨(b7g (enc:=l9) rfl rfl (b3m ex371) (b3n ex371)),tr⟩⟩⟩⟩⟩) tr ?_
        refine a0w (a3l (j:=7) (L:=((([] ++ (D.take A.toNat)) ++ [E]).map l9)) (len:=(([] ++ (D.take A.toNat)) ++ [E]).length) rfl rfl (c4p (enc:=l9) ([] ++ (D.take A.toNat)) [E] _ (by rfl)) (by simp <;> omega) g374 rfl rfl) (.inr ⟨(a6k rfl rfl rfl g372.1 g372.2),⟨⟨nle,rfl⟩,⟨⟨tr,rfl⟩,tr⟩⟩⟩) tr ?_
        refine a0w (a3l (j:=8) (L:=(((([] ++ (D.take A.toNat)) ++ [E]) ++ ((D.drop A.toNat).take (D.length - A.toNat))).map l9)) (len:=((([] ++ (D.take A.toNat)) ++ [E]) ++ ((D.drop A.toNat).take (D.length - A.toNat))).length) rfl rfl ((apg (enc:=l9) (([] ++ (D.take A.toNat)) ++ [E]) ((D.drop A.toNat).take (D.length - A.toNat)) (tkw _ _ _))) (by simp <;> omega) g375 rfl rfl) tr tr ?_
        refine x8 (.ptr 1 0 4) rfl tr rfl<|a4r (a0f (v:=(.own 8 0 (((([] ++ (D.take A.toNat)) ++ [E]) ++ ((D.drop A.toNat).take (D.length - A.toNat))).length))) (y':=(.agg [(.I 5),(.I 0),(.str []),(.own 2 0 (((([] ++ (B.take A.toNat)) ++ [F]) ++ ((B.drop A.toNat).take (B.length - A.toNat))).length)),(.own 8 0 (((([] ++ (D.take A.toNat)) ++ [E]) ++ ((D.drop A.toNat).take (D.length - A.toNat))).length))])) rfl rfl rfl tr ⟨rfl,nle⟩ ⟨⟨rfl,tr⟩,tr⟩ rfl) tr tr<|a0h<|a2v<|a0i<|a0s<|l7 (.I (G:Int)) rfl<|x8 (.I (w64 ((G:Int) + 1))) rfl rfl rfl<|?_
        refine l7 (.I (w64 ((G:Int) + 1))) rfl<|a0h<|?_;exact a1m ⟨((G + 1),(([] ++ (B.take A.toNat)) ++ [F]) ++ ((B.drop A.toNat).take (B.length - A.toNat)),(([] ++ (D.take A.toNat)) ++ [E]) ++ ((D.drop A.toNat).take (D.length - A.toNat))),hc1⟩ (mul hlt275) ⟨[],[0,1,2,8],_,_,rfl,rfl,⟨.r,⟨.r,⟨.r,⟨.r,⟨.of_eq (congrArg (AV.int _) (a1p hlt275 hl283)),tr⟩⟩⟩⟩⟩,.r⟩
       ·refine a0w (a3l (j:=5) (L:=(([] ++ (D.take A.toNat)).map l9)) (len:=([] ++ (D.take A.toNat)).length) rfl rfl ((by simp)) (by simp <;> omega) g373 rfl rfl) (.inr ⟨(a6k rfl rfl rfl g372.1 g372.2),⟨⟨nle,rfl⟩,⟨⟨tr,rfl⟩,⟨(b7i (v:=(.agg [(.I E.Kind),(.I E.N),(.str E.T),(.lst 1 (E.Keys.map AV.str)),(.lst 5 (E.Items.map l9))])) rfl (o8 _) nle rfl),⟨(b7g (enc:=l9) rfl rfl (b3m ex371) (b3n ex371)),tr⟩⟩⟩⟩⟩) ?_ ?_
        ·refine a0w (a0o (j:=5) (as':=[(l9 E)]) rfl (fun _ => by decide) ⟨rfl,tr⟩ (.cons (.of_eq (o8 E).symm) .nil) rfl rfl rfl) (.inr ⟨(a6k rfl rfl rfl g372.1 g372.2),⟨⟨nle,rfl⟩,⟨⟨tr,rfl⟩,⟨(b3v rfl rfl rfl g369.1 g369.2),⟨⟨nle,rfl⟩,⟨⟨tr,rfl⟩,tr⟩⟩⟩⟩⟩⟩) tr ?_
         refine a0w (a3l (j:=6) (L:=(([] ++ (D.take A.toNat)).map l9)) (len:=([] ++ (D.take A.toNat)).length) rfl rfl ((by simp)) (by simp <;> omega) g373 rfl rfl) (.inr ⟨(a6k rfl rfl rfl g372.1 g372.2),⟨⟨nle,rfl⟩,⟨⟨tr,rfl⟩,⟨(b7i (v:=(.agg [(.I E.Kind),(.I E.N),(.str E.T),(.lst 1 (E.Keys.map AV.str)),(.lst 5 (E.Items.map l9))])) rfl (o8 _) nle rfl),⟨(b7g (enc:=l9) rfl rfl (b3m ex371) (b3n ex371)),tr⟩⟩⟩⟩⟩) tr ?_
         refine a0w (a3l (j:=7) (L:=((([] ++ (D.take A.toNat)) ++ [E]).map l9)) (len:=(([] ++ (D.take A.toNat)) ++ [E]).length) rfl rfl (c4p (enc:=l9) ([] ++ (D.take A.toNat)) [E] _ (by rfl)) (by simp <;> omega) g374 rfl rfl) (.inr ⟨(a6k rfl rfl rfl g372.1 g372.2),⟨⟨nle,rfl⟩,⟨⟨tr,rfl⟩,tr⟩⟩⟩) tr ?_
         refine a0w (a3l (j:=8) (L:=(((([] ++ (D.take A.toNat)) ++ [E]) ++ ((D.drop A.toNat).take (D.length - A.toNat))).map l9)) (len:=((([] ++ (D.take A.toNat)) ++ [E]) ++ ((D.drop A.toNat).take (D.length - A.toNat))).length) rfl rfl ((apg (enc:=l9) (([] ++ (D.take A.toNat)) ++ [E]) ((D.drop A.toNat).take (D.length - A.toNat)) (tkw _ _ _))) (by simp <;> omega) g375 rfl rfl) tr tr ?_
         refine x8 (.ptr 1 0 4) rfl tr rfl<|a4r (a0f (v:=(.own 8 0 (((([] ++ (D.take A.toNat)) ++ [E]) ++ ((D.drop A.toNat).take (D.length - A.toNat))).length))) (y':=(.agg [(.I 5),(.I 0),(.str []),(.own 2 0 (((([] ++ (B.take A.toNat)) ++ [F]) ++ ((B.drop A.toNat).take (B.length - A.toNat))).length)),(.own 8 0 (((([] ++ (D.take A.toNat)) ++ [E]) ++ ((D.drop A.toNat).take (D.length - A.toNat))).length))])) rfl rfl rfl tr ⟨rfl,nle⟩ ⟨⟨rfl,tr⟩,tr⟩ rfl) tr tr<|a0h<|a2v<|a0i<|a0s<|l7 (.I (G:Int)) rfl<|x8 (.I (w64 ((G:Int) + 1))) rfl rfl rfl<|?_
         refine l7 (.I (w64 ((G:Int) + 1))) rfl<|a0h<|?_;exact a1m ⟨((G + 1),(([] ++ (B.take A.toNat)) ++ [F]) ++ ((B.drop A.toNat).take (B.length - A.toNat)),(([] ++ (D.take A.toNat)) ++ [E]) ++ ((D.drop A.toNat).take (D.length - A.toNat))),hc1⟩ (mul hlt275) ⟨[],[0,1,2,8],_,_,rfl,rfl,⟨.r,⟨.r,⟨.r,⟨.r,⟨.of_eq (congrArg (AV.int _) (a1p hlt275 hl283)),tr⟩⟩⟩⟩⟩,.r⟩
        ·refine a0w (a0o (j:=6) (as':=[(l9 E)]) rfl (fun _ => by decide) ⟨rfl,tr⟩ (.cons (.of_eq (o8 E).symm) .nil) rfl rfl rfl) (.inr ⟨(a6k rfl rfl rfl g372.1 g372.2),⟨⟨nle,rfl⟩,⟨⟨tr,rfl⟩,⟨(b3v rfl rfl rfl g369.1 g369.2),⟨⟨nle,rfl⟩,⟨⟨tr,rfl⟩,tr⟩⟩⟩⟩⟩⟩) tr ?_
         refine a0w (a3l (j:=7) (L:=((([] ++ (D.take A.toNat)) ++ [E]).map l9)) (len:=(([] ++ (D.take A.toNat)) ++ [E]).length) rfl rfl (c4p (enc:=l9) ([] ++ (D.take A.toNat)) [E] _ (by rfl)) (by simp <;> omega) g374 rfl rfl) (.inr ⟨(a6k rfl rfl rfl g372.1 g372.2),⟨⟨nle,rfl⟩,⟨⟨tr,rfl⟩,tr⟩⟩⟩) tr ?_
         refine a0w (a3l (j:=8) (L:=(((([] ++ (D.take A.toNat)) ++ [E]) ++ ((D.drop A.toNat).take (D.length - A.toNat))).map l9)) (len:=((([] ++ (D.take A.toNat)) ++ [E]) ++ ((D.drop A.toNat).take (D.length - A.toNat))).length) rfl rfl ((apg (enc:=l9) (([] ++ (D.take A.toNat)) ++ [E]) ((D.drop A.toNat).take (D.length - A.toNat)) (tkw _ _ _))) (by simp <;> omega) g375 rfl rfl) tr tr ?_
         refine x8 (.ptr 1 0 4) rfl tr rfl<|a4r (a0f (v:=(.own 8 0 (((([] ++ (D.take A.toNat)) ++ [E]) ++ ((D.drop A.toNat).take (D.length - A.toNat))).length))) (y':=(.agg [(.I 5),(.I 0),(.str []),(.own 2 0 (((([] ++ (B.take A.toNat)) ++ [F]) ++ ((B.drop A.toNat).take (B.length - A.toNat))).length)),(.own 8 0 (((([] ++ (D.take A.toNat)) ++ [E]) ++ ((D.drop A.toNat).take (D.length - A.toNat))).length))])) rfl rfl rfl tr ⟨rfl,nle⟩ ⟨⟨rfl,tr⟩,tr⟩ rfl) tr tr<|a0h<|a2v<|a0i<|a0s<|l7 (.I (G:Int)) rfl<|x8 (.I (w64 ((G:Int) + 1))) rfl rfl rfl<|?_
         refine l7 (.I (w64 ((G:Int) + 1))) rfl<|a0h<|?_;exact a1m ⟨((G + 1),(([] ++ (B.take A.toNat)) ++ [F]) ++ ((B.drop A.toNat).take (B.length - A.toNat)),(([] ++ (D.take A.toNat)) ++ [E]) ++ ((D.drop A.toNat).take (D.length - A.toNat))),hc1⟩ (mul hlt275) ⟨[],[0,1,2,8],_,_,rfl,rfl,⟨.r,⟨.r,⟨.r,⟨.r,⟨.of_eq (congrArg (AV.int _) (a1p hlt275 hl283)),tr⟩⟩⟩⟩⟩,.r⟩
 ·obtain ⟨O,P⟩:=p274
  refine sr<|x8 (.agg [(.I 5),(.I 0),(.str []),(.own 2 0 O.length),(.own 3 0 P.length)]) rfl nle rfl<|a1v (a0f (v:=(.agg [(.I 5),(.I 0),(.str []),(.own 2 0 O.length),(.own 3 0 P.length)])) (y':=(.agg [(.I 5),(.I 0),(.str []),(.own 2 0 O.length),(.own 3 0 P.length)])) rfl rfl rfl tr ⟨rfl,nle⟩ ⟨⟨rfl,tr⟩,⟨⟨rfl,tr⟩,⟨⟨rfl,tr⟩,⟨⟨rfl,tr⟩,⟨⟨rfl,tr⟩,tr⟩⟩⟩⟩⟩ rfl)<|dk<|a0e<|?_;obtain rfl:=os hf;exact b3o ⟨nle,tr⟩ rfl (leJ (x:=(⟨5,0,[],O,P⟩:o9)) (.agg (.cons .r (.cons .r (.cons .r (.cons (.of_eq (congrArg (AV.lst _) (tko (enc:=AV.str) O))) (.cons (.of_eq (congrArg (AV.lst _) (tko (enc:=l9) P))) .nil)))))))

/- spec.l13N -/
def e9i:a0m :=
 (.seq (.reg (tq 2 (.box 5 (.c (.agg [(.int .i64 0),(.int .i64 0),(.str []),.nil,.nil]))) .done))
 (.seq (.reg (tm 3 (.t 0) (tq 4 (.build [(.int .i64 0),(.int .i64 0),(.str []),.nil,.nil] [(0,1,(.c (.int .i64 2))),(1,1,(.t 3))]) (.q ⟨none,none,.store 5 (.t 2) (.t 4)⟩
 .done))))
 .ret))
theorem e9j:a1b Tryz.prog Tryz.f216 = some (e9i.erase,[.load 5 true (.t 2)],5):=by kernel_rfl
def b2b (A:Int):Option o9 :=
    some (⟨2,A,[],[],[]⟩:o9)
theorem b2c (A:Int) (r:o9) (hf:b2b A = some r):a0a Tryz.prog 216 .fresh [(.I A)] (l9 r):=by
  refine a0a.of_awp mixed Tryz.func216 e9j nle ?_
  rw [a0l]
  unfold b2b at hf
  unfold e9i
  refine (show awp Tryz.prog true 0 _ (ofL [(0,(.I A))]) [] _ from ?_)
  refine o7 ?_
  refine a0s ?_
  refine x9 (a1j (j:=0) (c:=(.agg [(.I 0),(.I 0),(.str []),.nil,.nil])) rfl tr rfl rfl) ?_
  refine a0h ?_
  refine a0i ?_
  refine o7 ?_
  refine a0s ?_
  refine x9 (a3p (.I A) rfl) ?_
  refine x9 (o_q (.agg [(.I 2),(.I A),(.str []),.nil,.nil]) rfl ⟨⟨rfl,nle,tr⟩,⟨⟨rfl,nle,tr⟩,tr⟩⟩ rfl) ?_
  refine a1v (a0f (v:=(.agg [(.I 2),(.I A),(.str []),.nil,.nil])) (y':=(.agg [(.I 2),(.I A),(.str []),.nil,.nil])) rfl rfl rfl tr ⟨rfl,nle⟩ ⟨⟨rfl,tr⟩,⟨⟨rfl,tr⟩,⟨⟨rfl,tr⟩,⟨⟨rfl,tr⟩,⟨⟨rfl,tr⟩,tr⟩⟩⟩⟩⟩ rfl) ?_
  refine a0h ?_
  refine a0i ?_
  refine a0e ?_
  obtain rfl:=os hf
  exact a2m ⟨nle,tr⟩ rfl (by decide) (leJ (x:=(⟨2,A,[],[],[]⟩:o9)) (.agg (.cons .r (.cons .r (.cons .r (.cons (.nil _) (.cons (.nil _) .nil)))))))

/- spec.l13L -/
def e9k:a0m :=
 (.seq (.reg (tq 2 (.box 5 (.c (.agg [(.int .i64 0),(.int .i64 0),(.str []),.nil,.nil]))) .done))
 (.seq (.reg (tq 3 (.bslice 5 []) (tm 4 (.t 0) (tq 5 (.append 5 80 (.t 3) (.t 4)) (tq 6 (.build [(.int .i64 0),(.int .i64 0),(.str []),.nil,.nil] [(0,1,(.c (.int .i64 4))),(4,1,(.t 5))]) (.q ⟨none,none,.store 5 (.t 2) (.t 6)⟩
 .done))))))
 .ret))
theorem e9l:a1b Tryz.prog Tryz.f215 = some (e9k.erase,[.load 5 true (.t 2)],7):=by kernel_rfl
def b7l (A:(List o9)):Option o9 :=
    if ([] ++ A).length ≤ 2 ^ 30 then
    some (⟨4,0,[],[],[] ++ A⟩:o9)
    else none
theorem b4n (A:(List o9)) (r:o9) (hf:b7l A = some r):a0a Tryz.prog 215 .weak [(.lst 5 (A.map l9))] (l9 r):=by
 refine a0a.of_awp mixed Tryz.func215 e9l nle ?_;rw [a0l];unfold b7l at hf;unfold e9k;refine (show awp Tryz.prog false 0 _ (ofL [(0,(.lst 5 (A.map l9)))]) [] _ from ?_);refine sr<|x9 (a1j (j:=0) (c:=(.agg [(.I 0),(.I 0),(.str []),.nil,.nil])) rfl tr rfl rfl)<|dk<|sr<|?_
 obtain ⟨g2,hf⟩:=og hf
 refine x9 (a0o (j:=1) (as':=[]) rfl (fun _ => by decide) tr .r rfl rfl rfl) ?_;refine l7 (.lst 5 (A.map l9)) rfl ?_
 refine x9 (a3l (j:=2) (L:=(([] ++ A).map l9)) (len:=([] ++ A).length) rfl rfl ((by simp)) (by simp <;> omega) g2 rfl rfl) ?_
 refine x8 (.agg [(.I 4),(.I 0),(.str []),.nil,(.own 2 0 (([] ++ A).length))]) rfl ⟨⟨rfl,nle,tr⟩,⟨⟨rfl,nle,tr⟩,tr⟩⟩ rfl<|a1v (a0f (v:=(.agg [(.I 4),(.I 0),(.str []),.nil,(.own 2 0 (([] ++ A).length))])) (y':=(.agg [(.I 4),(.I 0),(.str []),.nil,(.own 2 0 (([] ++ A).length))])) rfl rfl rfl tr ⟨rfl,nle⟩ ⟨⟨rfl,tr⟩,⟨⟨rfl,tr⟩,⟨⟨rfl,tr⟩,⟨⟨rfl,tr⟩,⟨⟨rfl,tr⟩,tr⟩⟩⟩⟩⟩ rfl)<|dk<|a0e<|?_;obtain rfl:=os hf;exact b3o ⟨nle,tr⟩ rfl (leJ (x:=(⟨4,0,[],[],[] ++ A⟩:o9)) (.agg (.cons .r (.cons .r (.cons .r (.cons (.nil _) (.cons (.of_eq (congrArg (AV.lst _) (tko (enc:=l9) ([] ++ A)))) .nil)))))))

/- spec.l13L -/
def d9c:a0m :=
 (.seq (.reg (tq 2 (.box 5 (.c (.agg [(.int .i64 0),(.int .i64 0),(.str []),.nil,.nil]))) .done))
 (.seq (.reg (tq 3 (.bslice 5 []) (tm 4 (.t 0) (tq 5 (.append 5 80 (.t 3) (.t 4)) (tq 6 (.build [(.int .i64 0),(.int .i64 0),(.str []),.nil,.nil] [(0,1,(.c (.int .i64 4))),(4,1,(.t 5))]) (.q ⟨none,none,.store 5 (.t 2) (.t 6)⟩
 .done))))))
 .ret))
theorem e2z:a1b Tryz.prog Tryz.f215 = some (d9c.erase,[.load 5 true (.t 2)],7):=by kernel_rfl
def b2t :Option o9 :=
    if ([]:List o9).length ≤ 2 ^ 30 then
    some (⟨4,0,[],[],([]:List o9)⟩:o9)
    else none
theorem c8y  (r:o9) (hf:b2t = some r):a0v Tryz.prog false 215 [.nil] [] (.agg [(.I r.Kind),(.I r.N),(.str r.T),(.own 0 0 r.Keys.length),(.own 1 0 r.Items.length)]) [.row 1 (r.Keys.map AV.str),.row 5 (r.Items.map l9)]:=by
 refine a0v.of_awp mixed Tryz.func215 e2z nle ?_;rw [a0l];unfold b2t at hf;unfold d9c;refine (show awp Tryz.prog false 0 _ (ofL [(0,.nil)]) [] _ from ?_);refine sr<|x9 (a1j (j:=0) (c:=(.agg [(.I 0),(.I 0),(.str []),.nil,.nil])) rfl tr rfl rfl)<|dk<|sr<|?_
 obtain ⟨g1,hf⟩:=og hf
 refine x9 (a0o (j:=1) (as':=[]) rfl (fun _ => by decide) tr .r rfl rfl rfl) ?_;refine l7 .nil rfl ?_
 refine x9 (a3l (j:=2) (L:=(([]:List o9).map l9)) (len:=([]:List o9).length) rfl rfl ((by simp)) (by simp <;> omega) g1 rfl rfl) ?_
 refine x8 (.agg [(.I 4),(.I 0),(.str []),.nil,(.own 2 0 (([]:List o9).length))]) rfl ⟨⟨rfl,nle,tr⟩,⟨⟨rfl,nle,tr⟩,tr⟩⟩ rfl<|a1v (a0f (v:=(.agg [(.I 4),(.I 0),(.str []),.nil,(.own 2 0 (([]:List o9).length))])) (y':=(.agg [(.I 4),(.I 0),(.str []),.nil,(.own 2 0 (([]:List o9).length))])) rfl rfl rfl tr ⟨rfl,nle⟩ ⟨⟨rfl,tr⟩,⟨⟨rfl,tr⟩,⟨⟨rfl,tr⟩,⟨⟨rfl,tr⟩,⟨⟨rfl,tr⟩,tr⟩⟩⟩⟩⟩ rfl)<|dk<|a0e<|?_;obtain rfl:=os hf;exact a7b [.nilC 0 3 1] [3,2] rfl ⟨nle,tr⟩ rfl .r .r

/- spec.l13B -/
def e9m:a0m :=
 (.seq (.reg (tq 2 (.box 5 (.c (.agg [(.int .i64 0),(.int .i64 0),(.str []),.nil,.nil]))) .done))
 (.seq (.reg (tm 3 (.t 0) (tq 4 (.call 184 [(.t 3)]) (tq 5 (.build [(.int .i64 0),(.int .i64 0),(.str []),.nil,.nil] [(0,1,(.c (.int .i64 1))),(1,1,(.t 4))]) (.q ⟨none,none,.store 5 (.t 2) (.t 5)⟩
 .done)))))
 .ret))
theorem e9n:a1b Tryz.prog Tryz.f306 = some (e9m.erase,[.load 5 true (.t 2)],6):=by kernel_rfl
def c0h (A:Bool):Option o9 :=
    (a9x A).bind fun B =>
    some (⟨1,B,[],[],[]⟩:o9)
theorem d6a (A:Bool) (r:o9) (hf:c0h A = some r):a0a Tryz.prog 306 .fresh [(.bool A)] (l9 r):=by
  refine a0a.of_awp mixed Tryz.func306 e9n nle ?_
  rw [a0l]
  unfold c0h at hf
  unfold e9m
  refine (show awp Tryz.prog true 0 _ (ofL [(0,(.bool A))]) [] _ from ?_)
  refine o7 ?_
  refine a0s ?_
  refine x9 (a1j (j:=0) (c:=(.agg [(.I 0),(.I 0),(.str []),.nil,.nil])) rfl tr rfl rfl) ?_
  refine a0h ?_
  refine a0i ?_
  refine o7 ?_
  refine a0s ?_
  obtain ⟨B,er3,hf⟩:=ob hf
  refine x9 (a3p (.bool A) rfl) ?_
  refine x9 (a0n (b3y _ _ er3) rfl .r rfl) ?_
  refine x9 (o_q (.agg [(.I 1),(.I B),(.str []),.nil,.nil]) rfl ⟨⟨rfl,nle,tr⟩,⟨⟨rfl,nle,tr⟩,tr⟩⟩ rfl) ?_
  refine a1v (a0f (v:=(.agg [(.I 1),(.I B),(.str []),.nil,.nil])) (y':=(.agg [(.I 1),(.I B),(.str []),.nil,.nil])) rfl rfl rfl tr ⟨rfl,nle⟩ ⟨⟨rfl,tr⟩,⟨⟨rfl,tr⟩,⟨⟨rfl,tr⟩,⟨⟨rfl,tr⟩,⟨⟨rfl,tr⟩,tr⟩⟩⟩⟩⟩ rfl) ?_
  refine a0h ?_
  refine a0i ?_
  refine a0e ?_
  obtain rfl:=os hf
  exact a2m ⟨nle,tr⟩ rfl (by decide) (leJ (x:=(⟨1,B,[],[],[]⟩:o9)) (.agg (.cons .r (.cons .r (.cons .r (.cons (.nil _) (.cons (.nil _) .nil)))))))

/- spec.l13L -/
def d9d:a0m :=
 (.seq (.reg (tq 2 (.box 5 (.c (.agg [(.int .i64 0),(.int .i64 0),(.str []),.nil,.nil]))) .done))
 (.seq (.reg (tq 3 (.bslice 5 []) (tm 4 (.t 0) (tq 5 (.append 5 80 (.t 3) (.t 4)) (tq 6 (.build [(.int .i64 0),(.int .i64 0),(.str []),.nil,.nil] [(0,1,(.c (.int .i64 4))),(4,1,(.t 5))]) (.q ⟨none,none,.store 5 (.t 2) (.t 6)⟩
 .done))))))
 .ret))
theorem e3a:a1b Tryz.prog Tryz.f215 = some (d9d.erase,[.load 5 true (.t 2)],7):=by kernel_rfl
def a8a (A:(List o9)):Option o9 :=
    if ([] ++ A).length ≤ 2 ^ 30 then
    some (⟨4,0,[],[],[] ++ A⟩:o9)
    else none
theorem b9l (A:(List o9)) (r:o9) (hf:a8a A = some r):a0v Tryz.prog true 215 [(.own 0 0 A.length)] [.row 5 (A.map l9)] (.agg [(.I r.Kind),(.I r.N),(.str r.T),(.own 1 0 r.Keys.length),(.own 2 0 r.Items.length)]) [.dead,.row 1 (r.Keys.map AV.str),.row 5 (r.Items.map l9)]:=by
 refine a0v.of_awp mixed Tryz.func215 e3a nle ?_;rw [a0l];unfold a8a at hf;unfold d9d;refine (show awp Tryz.prog true 1 _ (ofL [(0,(.own 0 0 A.length))]) [.row 5 (A.map l9)] _ from ?_);refine sr<|x9 (a1j (j:=1) (c:=(.agg [(.I 0),(.I 0),(.str []),.nil,.nil])) rfl tr rfl rfl)<|dk<|sr<|?_
 obtain ⟨g2,hf⟩:=og hf
 refine x9 (a0o (j:=2) (as':=[]) rfl (fun _ => by decide) tr .r rfl rfl rfl) ?_;refine l7 (.own 0 0 A.length) rfl ?_
 refine x9 (a4e (j:=3) (L:=(([] ++ A).map l9)) (len:=([] ++ A).length) rfl true rfl rfl (fun h => Bool.noConfusion h) (fun _ _ h => (e0o (show AV.own _ _ _ = AV.lst _ _ from h)).elim) (by decide) ((by simp [← List.map_take])) (by simp <;> omega) g2 rfl rfl) ?_
 refine x8 (.agg [(.I 4),(.I 0),(.str []),.nil,(.own 3 0 (([] ++ A).length))]) rfl ⟨⟨rfl,nle,tr⟩,⟨⟨rfl,nle,tr⟩,tr⟩⟩ rfl<|a1v (a0f (v:=(.agg [(.I 4),(.I 0),(.str []),.nil,(.own 3 0 (([] ++ A).length))])) (y':=(.agg [(.I 4),(.I 0),(.str []),.nil,(.own 3 0 (([] ++ A).length))])) rfl rfl rfl tr ⟨rfl,nle⟩ ⟨⟨rfl,tr⟩,⟨⟨rfl,tr⟩,⟨⟨rfl,tr⟩,⟨⟨rfl,tr⟩,⟨⟨rfl,tr⟩,tr⟩⟩⟩⟩⟩ rfl)<|dk<|a0e<|?_;obtain rfl:=os hf;exact a7b [.nilC 1 3 1] [0,4,3] rfl ⟨nle,tr⟩ rfl .r .r

/- spec.l13Atom -/
def e9o:a0m :=
 (.seq (.reg (tq 1 (.box 3 (.t 0)) (tq 2 (.box 5 (.c (.agg [(.int .i64 0),(.int .i64 0),(.str []),.nil,.nil]))) .done)))
 (.seq (.seq (.reg (tq 3 (.faddr 0 (.t 1)) (tq 4 (.load 1 false (.t 3)) .done)))
 (.block 0 (.seq (.reg (tq 6 (.bin .eql (.t 4) (.c (.int .i64 1))) (tm 5 (.t 6) .done)))
 (.cond (.t 5) (.seq (.reg (tq 7 (.faddr 1 (.t 1)) (tq 8 (.load 1 false (.t 7)) (tq 9 (.call 216 [(.t 8)]) (.q ⟨none,none,.store 5 (.t 2) (.t 9)⟩
 .done)))))
 .ret)
 (.seq (.reg (tq 11 (.bin .eql (.t 4) (.c (.int .i64 2))) (tm 10 (.t 11) .done)))
 (.cond (.t 10) (.seq (.reg (tq 12 (.faddr 2 (.t 1)) (tq 13 (.load 1 false (.t 12)) (tq 14 (.call 213 [(.t 13)]) (.q ⟨none,none,.store 5 (.t 2) (.t 14)⟩
 .done)))))
 .ret)
 (.seq (.reg (tq 16 (.bin .eql (.t 4) (.c (.int .i64 3))) (tm 15 (.t 16) .done)))
 (.cond (.t 15) (.seq (.reg (tq 17 (.faddr 1 (.t 1)) (tq 18 (.load 1 false (.t 17)) (tq 19 (.bin .eql (.t 18) (.c (.int .i64 1))) (tq 20 (.call 306 [(.t 19)]) (.q ⟨none,none,.store 5 (.t 2) (.t 20)⟩
 .done))))))
 .ret)
 .skip))))))))
 (.seq (.reg (tq 22 (.faddr 1 (.t 1)) (tq 23 (.load 1 false (.t 22)) (.l ⟨(some 21),none,.call 213 [(.c (.str [117,117,105,100]))]⟩ [⟨(some 23),none,.load 1 false (.t 22)⟩,⟨(some 22),none,.faddr 1 (.t 1)⟩]
 (.l ⟨(some 24),none,.call 216 [(.t 23)]⟩ []
 (.l ⟨(some 25),none,.bslice 5 [(.t 21),(.t 24)]⟩ []
 (.l ⟨(some 26),none,.call 215 [(.t 25)]⟩ []
 (.l ⟨none,none,.store 5 (.t 2) (.t 26)⟩ []
 .done .non) .non) .non) .non) .non))))
 .ret)))
theorem e9p:a1b Tryz.prog Tryz.f230 = some (e9o.erase,[.load 5 true (.t 2)],27):=by kernel_rfl
def b0i (B:a0k):Option o9 :=
    if (B.Kind == 1) then
    (b2b B.N).bind fun D =>
    some D
    else
    if (B.Kind == 2) then
    (a9e B.T).bind fun E =>
    some E
    else
    if (B.Kind == 3) then
    (c0h (B.N == 1)).bind fun F =>
    some F
    else
    (a9e [117,117,105,100]).bind fun G =>
    (b2b B.N).bind fun H =>
    (a8a [G,H]).bind fun A =>
    some A
theorem b9m (B:a0k) (r:o9) (hf:b0i B = some r):a0a Tryz.prog 230 .fresh [(o6 B)] (l9 r):=by
 refine a0a.of_awp mixed Tryz.func230 e9p nle ?_;rw [a0l];unfold b0i at hf;unfold e9o;refine (show awp Tryz.prog true 0 _ (ofL [(0,(o6 B))]) [] _ from ?_);refine sr<|x9 (a1j (j:=0) (c:=(.agg [(.I B.Kind),(.I B.N),(.str B.T)])) rfl tr rfl rfl)<|x9 (a1j (j:=1) (c:=(.agg [(.I 0),(.I 0),(.str []),.nil,.nil])) rfl tr rfl rfl)<|dk<|o7<|sr<|x8 (.ptr 0 0 0) rfl tr rfl<|x8 (.I B.Kind) rfl nle rfl<|dk<|a2x<|sr<|x8 (.bool (B.Kind == 1)) rfl rfl rfl<|l7 (.bool (B.Kind == 1)) rfl<|dk<|?_
 rcases oi hf with ⟨c2,hf⟩ | ⟨c2,hf⟩
 ·refine y8 rfl c2<|sr<|?_
  obtain ⟨D,er4,hf⟩:=ob hf
  refine x8 (.ptr 0 0 1) rfl tr rfl<|x8 (.I B.N) rfl nle rfl<|x9 (a2z (v:=(.agg [(.I D.Kind),(.I D.N),(.str D.T),(.own 2 0 D.Keys.length),(.own 3 0 D.Items.length)])) (h':=[.row 1 (D.Keys.map AV.str),.row 5 (D.Items.map l9)]) (b2c _ _ er4) rfl .r (by simp only [a2f,a2a,List.length_map,o8,List.nil_append,List.append_nil,List.cons_append];rfl))<|a1v (a0f (v:=(.agg [(.I D.Kind),(.I D.N),(.str D.T),(.own 2 0 D.Keys.length),(.own 3 0 D.Items.length)])) (y':=(.agg [(.I D.Kind),(.I D.N),(.str D.T),(.own 2 0 D.Keys.length),(.own 3 0 D.Items.length)])) rfl rfl rfl tr ⟨rfl,nle⟩ ⟨⟨rfl,tr⟩,⟨⟨rfl,tr⟩,⟨⟨rfl,tr⟩,⟨⟨rfl,tr⟩,⟨⟨rfl,tr⟩,tr⟩⟩⟩⟩⟩ rfl)<|?_
  refine dk<|a0e<|?_;obtain rfl:=os hf;exact a2m ⟨nle,tr⟩ rfl (by decide) (leJ (x:=D) (.agg (.cons .r (.cons .r (.cons .r (.cons (.of_eq (congrArg (AV.lst _) (tk (enc:=AV.str) D.Keys))) (.cons (.of_eq (congrArg (AV.lst _) (tk (enc:=l9) D.Items))) .nil)))))))
 ·refine y9 rfl (bf c2)<|sr<|x8 (.bool (B.Kind == 2)) rfl rfl rfl<|l7 (.bool (B.Kind == 2)) rfl<|dk<|?_
  rcases oi hf with ⟨c5,hf⟩ | ⟨c5,hf⟩
  ·refine y8 rfl c5<|sr<|?_
   obtain ⟨E,er7,hf⟩:=ob hf
   refine x8 (.ptr 0 0 2) rfl tr rfl<|x8 (.str B.T) rfl nle rfl<|x9 (a2z (v:=(.agg [(.I E.Kind),(.I E.N),(.str E.T),(.own 2 0 E.Keys.length),(.own 3 0 E.Items.length)])) (h':=[.row 1 (E.Keys.map AV.str),.row 5 (E.Items.map l9)]) (b2a _ _ er7) rfl .r (by simp only [a2f,a2a,List.length_map,o8,List.nil_append,List.append_nil,List.cons_append];rfl))<|a1v (a0f (v:=(.agg [(.I E.Kind),(.I E.N),(.str E.T),(.own 2 0 E.Keys.length),(.own 3 0 E.Items.length)])) (y':=(.agg [(.I E.Kind),(.I E.N),(.str E.T),(.own 2 0 E.Keys.length),(.own 3 0 E.Items.length)])) rfl rfl rfl tr ⟨rfl,nle⟩ ⟨⟨rfl,tr⟩,⟨⟨rfl,tr⟩,⟨⟨rfl,tr⟩,⟨⟨rfl,tr⟩,⟨⟨rfl,tr⟩,tr⟩⟩⟩⟩⟩ rfl)<|?_
   refine dk<|a0e<|?_;obtain rfl:=os hf;exact a2m ⟨nle,tr⟩ rfl (by decide) (leJ (x:=E) (.agg (.cons .r (.cons .r (.cons .r (.cons (.of_eq (congrArg (AV.lst _) (tk (enc:=AV.str) E.Keys))) (.cons (.of_eq (congrArg (AV.lst _) (tk (enc:=l9) E.Items))) .nil)))))))
  ·refine y9 rfl (bf c5)<|sr<|x8 (.bool (B.Kind == 3)) rfl rfl rfl<|l7 (.bool (B.Kind == 3)) rfl<|dk<|?_
   rcases oi hf with ⟨c8,hf⟩ | ⟨c8,hf⟩
   ·refine y8 rfl c8<|sr<|?_
    obtain ⟨F,er10,hf⟩:=ob hf
    refine x8 (.ptr 0 0 1) rfl tr rfl<|x8 (.I B.N) rfl nle rfl<|x8 (.bool (B.N == 1)) rfl rfl rfl<|x9 (a2z (v:=(.agg [(.I F.Kind),(.I F.N),(.str F.T),(.own 2 0 F.Keys.length),(.own 3 0 F.Items.length)])) (h':=[.row 1 (F.Keys.map AV.str),.row 5 (F.Items.map l9)]) (d6a _ _ er10) rfl .r (by simp only [a2f,a2a,List.length_map,o8,List.nil_append,List.append_nil,List.cons_append];rfl))<|a1v (a0f (v:=(.agg [(.I F.Kind),(.I F.N),(.str F.T),(.own 2 0 F.Keys.length),(.own 3 0 F.Items.length)])) (y':=(.agg [(.I F.Kind),(.I F.N),(.str F.T),(.own 2 0 F.Keys.length),(.own 3 0 F.Items.length)])) rfl rfl rfl tr ⟨rfl,nle⟩ ⟨⟨rfl,tr⟩,⟨⟨rfl,tr⟩,⟨⟨rfl,tr⟩,⟨⟨rfl,tr⟩,⟨⟨rfl,tr⟩,tr⟩⟩⟩⟩⟩ rfl)<|?_
    refine dk<|a0e<|?_;obtain rfl:=os hf;exact a2m ⟨nle,tr⟩ rfl (by decide) (leJ (x:=F) (.agg (.cons .r (.cons .r (.cons .r (.cons (.of_eq (congrArg (AV.lst _) (tk (enc:=AV.str) F.Keys))) (.cons (.of_eq (congrArg (AV.lst _) (tk (enc:=l9) F.Items))) .nil)))))))
   ·refine y9 rfl (bf c8)<|a0j<|a2v<|a0i<|sr<|?_
    obtain ⟨G,er12,hf⟩:=ob hf
    obtain ⟨H,er14,hf⟩:=ob hf
    obtain ⟨A,er16,hf⟩:=ob hf
    refine x8 (.ptr 0 0 1) rfl tr rfl<|x8 (.I B.N) rfl nle rfl<|a0w (a2z (v:=(.agg [(.I G.Kind),(.I G.N),(.str G.T),(.own 2 0 G.Keys.length),(.own 3 0 G.Items.length)])) (h':=[.row 1 (G.Keys.map AV.str),.row 5 (G.Items.map l9)]) (b2a _ _ er12) rfl .r (by simp only [a2f,a2a,List.length_map,o8,List.nil_append,List.append_nil,List.cons_append];rfl)) (.inr ⟨⟨nle,rfl⟩,⟨⟨tr,rfl⟩,tr⟩⟩) tr<|a0w (a2z (v:=(.agg [(.I H.Kind),(.I H.N),(.str H.T),(.own 4 0 H.Keys.length),(.own 5 0 H.Items.length)])) (h':=[.row 1 (H.Keys.map AV.str),.row 5 (H.Items.map l9)]) (b2c _ _ er14) rfl .r (by simp only [a2f,a2a,List.length_map,o8,List.nil_append,List.append_nil,List.cons_append];rfl)) tr tr<|?_
    refine a0w (a0o (j:=6) (as':=[(l9 G),(l9 H)]) rfl (fun _ => by decide) ⟨rfl,⟨rfl,tr⟩⟩ (.cons (leJ (x:=G) (.agg (.cons .r (.cons .r (.cons .r (.cons (.of_eq (congrArg (AV.lst _) (tk (enc:=AV.str) G.Keys))) (.cons (.of_eq (congrArg (AV.lst _) (tk (enc:=l9) G.Items))) .nil))))))) (.cons (leJ (x:=H) (.agg (.cons .r (.cons .r (.cons .r (.cons (.of_eq (congrArg (AV.lst _) (tk (enc:=AV.str) H.Keys))) (.cons (.of_eq (congrArg (AV.lst _) (tk (enc:=l9) H.Items))) .nil))))))) .nil)) rfl rfl rfl) tr tr ?_;refine a0w (a7q (v:=(.agg [(.I A.Kind),(.I A.N),(.str A.T),(.own 7 0 A.Keys.length),(.own 8 0 A.Items.length)])) (h2:=[.box 3 (.agg [(.I B.Kind),(.I B.N),(.str B.T)]),.box 5 (.agg [(.I 0),(.I 0),(.str []),.nil,.nil]),.dead,.dead,.dead,.dead,.dead,.row 1 (A.Keys.map AV.str),.row 5 (A.Items.map l9)]) [] [6] (fun _ => rfl) (b9l _ _ er16) rfl (.cons (.of_eq (congrArg (AV.own _ 0) (by simp))) .nil) .r rfl rfl) tr tr ?_
    refine a4r (a0f (v:=(.agg [(.I A.Kind),(.I A.N),(.str A.T),(.own 7 0 A.Keys.length),(.own 8 0 A.Items.length)])) (y':=(.agg [(.I A.Kind),(.I A.N),(.str A.T),(.own 7 0 A.Keys.length),(.own 8 0 A.Items.length)])) rfl rfl rfl tr ⟨rfl,nle⟩ ⟨⟨rfl,tr⟩,⟨⟨rfl,tr⟩,⟨⟨rfl,tr⟩,⟨⟨rfl,tr⟩,⟨⟨rfl,tr⟩,tr⟩⟩⟩⟩⟩ rfl) tr tr<|dk<|a0e<|?_;obtain rfl:=os hf;exact a2m ⟨nle,tr⟩ rfl (by decide) (leJ (x:=A) (.agg (.cons .r (.cons .r (.cons .r (.cons (.of_eq (congrArg (AV.lst _) (tk (enc:=AV.str) A.Keys))) (.cons (.of_eq (congrArg (AV.lst _) (tk (enc:=l9) A.Items))) .nil)))))))

/- spec.l13L -/
def d9e:a0m :=
 (.seq (.reg (tq 2 (.box 5 (.c (.agg [(.int .i64 0),(.int .i64 0),(.str []),.nil,.nil]))) .done))
 (.seq (.reg (tq 3 (.bslice 5 []) (tm 4 (.t 0) (tq 5 (.append 5 80 (.t 3) (.t 4)) (tq 6 (.build [(.int .i64 0),(.int .i64 0),(.str []),.nil,.nil] [(0,1,(.c (.int .i64 4))),(4,1,(.t 5))]) (.q ⟨none,none,.store 5 (.t 2) (.t 6)⟩
 .done))))))
 .ret))
theorem e3c:a1b Tryz.prog Tryz.f215 = some (d9e.erase,[.load 5 true (.t 2)],7):=by kernel_rfl
def b2u :Option o9 :=
    if ([]:List o9).length ≤ 2 ^ 30 then
    some (⟨4,0,[],[],([]:List o9)⟩:o9)
    else none
theorem c9a  (r:o9) (hf:b2u = some r):a0v Tryz.prog true 215 [.nil] [] (.agg [(.I r.Kind),(.I r.N),(.str r.T),(.own 0 0 r.Keys.length),(.own 1 0 r.Items.length)]) [.row 1 (r.Keys.map AV.str),.row 5 (r.Items.map l9)]:=by
 refine a0v.of_awp mixed Tryz.func215 e3c nle ?_;rw [a0l];unfold b2u at hf;unfold d9e;refine (show awp Tryz.prog true 0 _ (ofL [(0,.nil)]) [] _ from ?_);refine sr<|x9 (a1j (j:=0) (c:=(.agg [(.I 0),(.I 0),(.str []),.nil,.nil])) rfl tr rfl rfl)<|dk<|sr<|?_
 obtain ⟨g1,hf⟩:=og hf
 refine x9 (a0o (j:=1) (as':=[]) rfl (fun _ => by decide) tr .r rfl rfl rfl) ?_;refine l7 .nil rfl ?_
 refine x9 (a4e (j:=2) (L:=(([]:List o9).map l9)) (len:=([]:List o9).length) rfl false rfl rfl (fun _ => e7z) (fun _ _ h => (f3b (show AV.nil = AV.lst _ _ from h)).elim) (by decide) ((by simp)) (by simp <;> omega) g1 rfl rfl) ?_
 refine x8 (.agg [(.I 4),(.I 0),(.str []),.nil,(.own 2 0 (([]:List o9).length))]) rfl ⟨⟨rfl,nle,tr⟩,⟨⟨rfl,nle,tr⟩,tr⟩⟩ rfl<|a1v (a0f (v:=(.agg [(.I 4),(.I 0),(.str []),.nil,(.own 2 0 (([]:List o9).length))])) (y':=(.agg [(.I 4),(.I 0),(.str []),.nil,(.own 2 0 (([]:List o9).length))])) rfl rfl rfl tr ⟨rfl,nle⟩ ⟨⟨rfl,tr⟩,⟨⟨rfl,tr⟩,⟨⟨rfl,tr⟩,⟨⟨rfl,tr⟩,⟨⟨rfl,tr⟩,tr⟩⟩⟩⟩⟩ rfl)<|dk<|a0e<|?_;obtain rfl:=os hf;exact a7b [.nilC 0 3 1] [3,2] rfl ⟨nle,tr⟩ rfl .r .r

/- spec.l13Datum -/
abbrev wz8:List a4t:=[⟨(some 20),none,.load 1 false (.t 19)⟩,⟨(some 19),none,.faddr 4 (.t 3)⟩]
def e9q:a0m :=
 (.seq (.reg (tq 2 (.box 5 (.c (.agg [(.int .i64 0),(.int .i64 0),(.str []),.nil,.nil]))) .done))
 (.seq (.seq (.reg (tm 5 (.t 0) (tq 6 (.len (.t 5)) (tq 7 (.bin .eql (.t 6) (.c (.int .i64 1))) .done))))
 (.cond (.t 7) (.seq (.reg (tm 8 (.t 0) (tq 9 (.iaddr 3 (.t 8) (.c (.int .i64 0))) (tq 10 (.load 3 true (.t 9)) (tq 11 (.call 230 [(.t 10)]) (.q ⟨none,none,.store 5 (.t 2) (.t 11)⟩
 .done))))))
 .ret)
 .skip))
 (.seq (.reg (tq 12 (.call 215 [(.c .nil)]) (tq 3 (.box 5 (.c (.agg [(.int .i64 0),(.int .i64 0),(.str []),.nil,.nil]))) (.q ⟨none,none,.store 5 (.t 3) (.t 12)⟩
 .done))))
 (.seq (.seq (.reg (tm 4 (.c (.int .i64 0)) .done))
 (.block 0 (.loop (.seq (.seq (.reg (tm 13 (.t 4) (tm 14 (.t 0) (tq 15 (.len (.t 14)) (tq 16 (.bin .lss (.t 13) (.t 15)) .done)))))
 (.cond (.t 16) .skip
 (.exit 0)))
 (.seq (.block 1 (.reg (tq 19 (.faddr 4 (.t 3)) (tq 20 (.load 1 false (.t 19)) (tm 21 (.t 0) (tm 22 (.t 4) (tq 23 (.iaddr 3 (.t 21) (.t 22)) (tq 24 (.load 3 true (.t 23)) (.l ⟨(some 25),none,.call 230 [(.t 24)]⟩ wz8
 (.l ⟨(some 26),none,.bslice 5 [(.t 25)]⟩ wz8
 (.l ⟨(some 27),none,.append 5 80 (.t 20) (.t 26)⟩ []
 (tq 28 (.faddr 4 (.t 3)) (.l ⟨none,none,.store 1 (.t 28) (.t 27)⟩ []
 .done .non)) .non) .non) .non)))))))))
 (.reg (tm 17 (.t 4) (tq 18 (.bin .add (.t 17) (.c (.int .i64 1))) (tm 4 (.t 18) .done)))))))))
 (.cut (.seq (.reg (tq 30 (.load 5 true (.t 3)) (.l ⟨(some 29),none,.call 213 [(.c (.str [115,101,116]))]⟩ [⟨(some 30),none,.load 5 true (.t 3)⟩]
 (.l ⟨(some 31),none,.bslice 5 [(.t 29),(.t 30)]⟩ []
 (.l ⟨(some 32),none,.call 215 [(.t 31)]⟩ []
 (.l ⟨none,none,.store 5 (.t 2) (.t 32)⟩ []
 .done .non) .non) .non) .non)))
 .ret))))))
theorem e9r:a1b Tryz.prog Tryz.f132 = some (e9q.erase,[.load 5 true (.t 2)],33):=by kernel_rfl
def a4l :List a0k → (List o9) → Option (List o9)
  | [],G =>
    some G
  | M :: xs,G =>
    (b0i M).bind fun D =>
    if (G ++ [D]).length ≤ 2 ^ 30 then
    a4l xs  (G ++ [D])
    else none

def a9g (F:(List a0k)):Option o9 :=
    if ((F.length:Int) == 1) then
    (idx F 0).bind fun O =>
    (b0i O).bind fun E =>
    some E
    else
    (b2u).bind fun A =>
    (a4l F A.Items).bind fun K =>
    (a9e [115,101,116]).bind fun H =>
    (a8a [H,(⟨A.Kind,A.N,A.T,A.Keys,K⟩:o9)]).bind fun B =>
    some B
theorem c6q (F:(List a0k)) (r:o9) (hf:a9g F = some r):a0a Tryz.prog 132 .fresh [(.lst 3 (F.map o6))] (l9 r):=by
 refine a0a.of_awp mixed Tryz.func132 e9r nle ?_;rw [a0l];unfold a9g at hf;unfold e9q;refine (show awp Tryz.prog true 0 _ (ofL [(0,(.lst 3 (F.map o6)))]) [] _ from ?_);refine sr<|x9 (a1j (j:=0) (c:=(.agg [(.I 0),(.I 0),(.str []),.nil,.nil])) rfl tr rfl rfl)<|dk<|o7<|sr<|l7 (.lst 3 (F.map o6)) rfl<|a0y (a1o (enc:=o6) rfl) fun hl2 => x8 (.bool ((F.length:Int) == 1)) rfl rfl rfl<|dk<|?_
 rcases oi hf with ⟨c3,hf⟩ | ⟨c3,hf⟩
 ·refine y8 rfl c3<|sr<|?_
  obtain ⟨O,ex5,hf⟩:=ob hf
  obtain ⟨E,er7,hf⟩:=ob hf
  refine l7 (.lst 3 (F.map o6)) rfl<|x9 (a6s (enc:=o6) rfl rfl (b3m ex5) (b3n ex5))<|x8 (o6 O) rfl nle rfl<|x9 (a2z (v:=(.agg [(.I E.Kind),(.I E.N),(.str E.T),(.own 1 0 E.Keys.length),(.own 2 0 E.Items.length)])) (h':=[.row 1 (E.Keys.map AV.str),.row 5 (E.Items.map l9)]) (b9m _ _ er7) rfl .r (by simp only [a2f,a2a,List.length_map,o8,List.nil_append,List.append_nil,List.cons_append];rfl))<|a1v (a0f (v:=(.agg [(.I E.Kind),(.I E.N),(.str E.T),(.own 1 0 E.Keys.length),(.own 2 0 E.Items.length)])) (y':=(.agg [(.I E.Kind),(.I E.N),(.str E.T),(.own 1 0 E.Keys.length),(.own 2 0 E.Items.length)])) rfl rfl rfl tr ⟨rfl,nle⟩ ⟨⟨rfl,tr⟩,⟨⟨rfl,tr⟩,⟨⟨rfl,tr⟩,⟨⟨rfl,tr⟩,⟨⟨rfl,tr⟩,tr⟩⟩⟩⟩⟩ rfl)<|?_
  refine dk<|a0e<|?_;obtain rfl:=os hf;exact a2m ⟨nle,tr⟩ rfl (by decide) (leJ (x:=E) (.agg (.cons .r (.cons .r (.cons .r (.cons (.of_eq (congrArg (AV.lst _) (tk (enc:=AV.str) E.Keys))) (.cons (.of_eq (congrArg (AV.lst _) (tk (enc:=l9) E.Items))) .nil)))))))
 ·refine y9 rfl (bf c3)<|a0j<|a0i<|sr<|?_
  obtain ⟨A,er9,hf⟩:=ob hf
  refine x9 (a7q (v:=(.agg [(.I A.Kind),(.I A.N),(.str A.T),(.own 1 0 A.Keys.length),(.own 2 0 A.Items.length)])) (h2:=[.box 5 (.agg [(.I 0),(.I 0),(.str []),.nil,.nil]),.row 1 (A.Keys.map AV.str),.row 5 (A.Items.map l9)]) [] [] (fun _ => rfl) (c9a _ er9) rfl .r .r rfl rfl) ?_;refine x9 (a1j (j:=3) (c:=(.agg [(.I 0),(.I 0),(.str []),.nil,.nil])) rfl tr rfl rfl)<|a1v (a0f (v:=(.agg [(.I A.Kind),(.I A.N),(.str A.T),(.own 1 0 A.Keys.length),(.own 2 0 A.Items.length)])) (y':=(.agg [(.I A.Kind),(.I A.N),(.str A.T),(.own 1 0 A.Keys.length),(.own 2 0 A.Items.length)])) rfl rfl rfl tr ⟨rfl,nle⟩ ⟨⟨rfl,tr⟩,⟨⟨rfl,tr⟩,⟨⟨rfl,tr⟩,⟨⟨rfl,tr⟩,⟨⟨rfl,tr⟩,tr⟩⟩⟩⟩⟩ rfl)<|?_
  refine dk<|o7<|sr<|l7 (.I 0) rfl<|dk<|?_
  obtain ⟨K,hb1,hf⟩:=ob hf
  refine a1s ([(2,(.ptr 0 0 0)),(3,(.ptr 1 0 0))],[.box 5 (.agg [(.I 0),(.I 0),(.str []),.nil,.nil]),.box 5 (.agg [(.I A.Kind),(.I A.N),(.str A.T),(.own 2 0 A.Keys.length),(.own 3 0 K.length)]),.row 1 (A.Keys.map AV.str),.row 5 (K.map l9)]) ?_ ?_
  ·refine a1f (X:={q:(Nat × (List o9)) // a4l (F.drop q.1) q.2 = some K}) (fun q => ([(0,(.lst 3 (F.map o6))),(2,(.ptr 0 0 0)),(3,(.ptr 1 0 0)),(4,(.I (q.1.1:Int)))],[.box 5 (.agg [(.I 0),(.I 0),(.str []),.nil,.nil]),.box 5 (.agg [(.I A.Kind),(.I A.N),(.str A.T),(.own 2 0 A.Keys.length),(.own 3 0 q.1.2.length)]),.row 1 (A.Keys.map AV.str),.row 5 (q.1.2.map l9)])) (fun q => F.length - q.1.1) ⟨(0,A.Items),hb1⟩ ⟨[],[0,3,1,2],_,_,rfl,rfl,⟨.r,⟨.r,⟨.r,⟨.r,tr⟩⟩⟩⟩,.r⟩ ?_
   rintro ⟨⟨J,G⟩,hc1⟩
   have hc1:a4l (F.drop J) G = some K:=hc1
   refine (show awp Tryz.prog true 0 _ (ofL [(0,(.lst 3 (F.map o6))),(2,(.ptr 0 0 0)),(3,(.ptr 1 0 0)),(4,(.I (J:Int)))]) [.box 5 (.agg [(.I 0),(.I 0),(.str []),.nil,.nil]),.box 5 (.agg [(.I A.Kind),(.I A.N),(.str A.T),(.own 2 0 A.Keys.length),(.own 3 0 G.length)]),.row 1 (A.Keys.map AV.str),.row 5 (G.map l9)] _ from ?_)
   rcases a5n F J with ⟨hie40,hd43⟩ | ⟨hlt38,M,hx39,hd43⟩
   ·rw [hd43,a4l.eq_1] at hc1
    have hq42:=dlf hie40
    refine o7<|sr<|l7 (.I (J:Int)) rfl<|l7 (.lst 3 (F.map o6)) rfl<|a0y (a1o (enc:=o6) rfl) fun hl45 => x8 (.bool (decide ((J:Int) < (F.length:Int)))) rfl rfl rfl<|dk<|y9 rfl hq42<|a2l<|a2k<|a1t<|a2j<|?_;obtain rfl:=os hc1;exact ⟨[],[0,1,2,3],_,_,rfl,rfl,⟨.r,⟨.r,tr⟩⟩,.r⟩
   ·rw [hd43,a4l.eq_2] at hc1
    have hq42:=dlt hlt38
    refine o7<|sr<|l7 (.I (J:Int)) rfl<|l7 (.lst 3 (F.map o6)) rfl<|a0y (a1o (enc:=o6) rfl) fun hl46 => x8 (.bool (decide ((J:Int) < (F.length:Int)))) rfl rfl rfl<|dk<|y8 rfl hq42<|a0j<|a0i<|o7<|a2x<|a0s<|?_
    obtain ⟨D,er48,hc1⟩:=ob hc1
    obtain ⟨g49,hc1⟩:=og hc1
    refine x8 (.ptr 1 0 4) rfl tr rfl<|x8 (.own 3 0 G.length) rfl nle rfl<|l7 (.lst 3 (F.map o6)) rfl<|l7 (.I (J:Int)) rfl<|x9 (a1n (enc:=o6) rfl rfl hx39)<|x8 (o6 M) rfl nle rfl<|a0w (a2z (v:=(.agg [(.I D.Kind),(.I D.N),(.str D.T),(.own 4 0 D.Keys.length),(.own 5 0 D.Items.length)])) (h':=[.row 1 (D.Keys.map AV.str),.row 5 (D.Items.map l9)]) (b9m _ _ er48) rfl .r (by simp only [a2f,a2a,List.length_map,o8,List.nil_append,List.append_nil,List.cons_append];rfl)) (.inr ⟨⟨nle,rfl⟩,⟨⟨tr,rfl⟩,tr⟩⟩) tr<|?_;refine a0w (a0o (j:=6) (as':=[(l9 D)]) rfl (fun _ => by decide) ⟨rfl,tr⟩ (.cons (leJ (x:=D) (.agg (.cons .r (.cons .r (.cons .r (.cons (.of_eq (congrArg (AV.lst _) (tk (enc:=AV.str) D.Keys))) (.cons (.of_eq (congrArg (AV.lst _) (tk (enc:=l9) D.Items))) .nil))))))) .nil) rfl rfl rfl) (.inr ⟨⟨nle,rfl⟩,⟨⟨tr,rfl⟩,tr⟩⟩) tr ?_
    refine a0w (a4e (j:=7) (L:=((G ++ [D]).map l9)) (len:=(G ++ [D]).length) rfl true rfl rfl (fun h => Bool.noConfusion h) (fun _ _ h => (e0o (show AV.own _ _ _ = AV.lst _ _ from h)).elim) (by decide) (c4p (enc:=l9) G [D] _ (by rfl)) (by simp <;> omega) g49 rfl rfl) tr tr ?_
    refine x8 (.ptr 1 0 4) rfl tr rfl<|a4r (a0f (v:=(.own 7 0 ((G ++ [D]).length))) (y':=(.agg [(.I A.Kind),(.I A.N),(.str A.T),(.own 2 0 A.Keys.length),(.own 7 0 ((G ++ [D]).length))])) rfl rfl rfl tr ⟨rfl,nle⟩ ⟨⟨rfl,tr⟩,tr⟩ rfl) tr tr<|a0h<|a2v<|a0i<|a0s<|l7 (.I (J:Int)) rfl<|x8 (.I (w64 ((J:Int) + 1))) rfl rfl rfl<|l7 (.I (w64 ((J:Int) + 1))) rfl<|a0h<|?_;exact a1m ⟨((J + 1),G ++ [D]),hc1⟩ (mul hlt38) ⟨[],[0,1,2,7],_,_,rfl,rfl,⟨.r,⟨.r,⟨.r,⟨.of_eq (congrArg (AV.int _) (a1p hlt38 hl46)),tr⟩⟩⟩⟩,.r⟩
  ·refine sr<|?_
   obtain ⟨H,er51,hf⟩:=ob hf
   obtain ⟨B,er53,hf⟩:=ob hf
   refine x8 (.agg [(.I A.Kind),(.I A.N),(.str A.T),(.own 2 0 A.Keys.length),(.own 3 0 K.length)]) rfl nle rfl<|a0w (a2z (v:=(.agg [(.I H.Kind),(.I H.N),(.str H.T),(.own 4 0 H.Keys.length),(.own 5 0 H.Items.length)])) (h':=[.row 1 (H.Keys.map AV.str),.row 5 (H.Items.map l9)]) (b2a _ _ er51) rfl .r (by simp only [a2f,a2a,List.length_map,o8,List.nil_append,List.append_nil,List.cons_append];rfl)) (.inr ⟨⟨nle,rfl⟩,tr⟩) tr<|?_;refine a0w (a0o (j:=6) (as':=[(l9 H),(l9 (⟨A.Kind,A.N,A.T,A.Keys,K⟩:o9))]) rfl (fun _ => by decide) ⟨rfl,⟨rfl,tr⟩⟩ (.cons (leJ (x:=H) (.agg (.cons .r (.cons .r (.cons .r (.cons (.of_eq (congrArg (AV.lst _) (tk (enc:=AV.str) H.Keys))) (.cons (.of_eq (congrArg (AV.lst _) (tk (enc:=l9) H.Items))) .nil))))))) (.cons (leJ (x:=(⟨A.Kind,A.N,A.T,A.Keys,K⟩:o9)) (.agg (.cons .r (.cons .r (.cons .r (.cons (.of_eq (congrArg (AV.lst _) (tk (enc:=AV.str) A.Keys))) (.cons (.of_eq (congrArg (AV.lst _) (tk (enc:=l9) K))) .nil))))))) .nil)) rfl rfl rfl) tr tr ?_
   refine a0w (a7q (v:=(.agg [(.I B.Kind),(.I B.N),(.str B.T),(.own 7 0 B.Keys.length),(.own 8 0 B.Items.length)])) (h2:=[.box 5 (.agg [(.I 0),(.I 0),(.str []),.nil,.nil]),.box 5 (.agg [(.I A.Kind),(.I A.N),(.str A.T),(.own 2 0 A.Keys.length),(.own 3 0 K.length)]),.dead,.dead,.dead,.dead,.dead,.row 1 (B.Keys.map AV.str),.row 5 (B.Items.map l9)]) [] [6] (fun _ => rfl) (b9l _ _ er53) rfl (.cons (.of_eq (congrArg (AV.own _ 0) (by simp))) .nil) .r rfl rfl) tr tr ?_;refine a4r (a0f (v:=(.agg [(.I B.Kind),(.I B.N),(.str B.T),(.own 7 0 B.Keys.length),(.own 8 0 B.Items.length)])) (y':=(.agg [(.I B.Kind),(.I B.N),(.str B.T),(.own 7 0 B.Keys.length),(.own 8 0 B.Items.length)])) rfl rfl rfl tr ⟨rfl,nle⟩ ⟨⟨rfl,tr⟩,⟨⟨rfl,tr⟩,⟨⟨rfl,tr⟩,⟨⟨rfl,tr⟩,⟨⟨rfl,tr⟩,tr⟩⟩⟩⟩⟩ rfl) tr tr ?_
   refine dk<|a0e<|?_;obtain rfl:=os hf;exact a2m ⟨nle,tr⟩ rfl (by decide) (leJ (x:=B) (.agg (.cons .r (.cons .r (.cons .r (.cons (.of_eq (congrArg (AV.lst _) (tk (enc:=AV.str) B.Keys))) (.cons (.of_eq (congrArg (AV.lst _) (tk (enc:=l9) B.Items))) .nil)))))))

/- spec.l13Row -/
def c94:a0m :=
 (.seq (.reg (tq 3 (.box 2 (.t 1)) (tq 4 (.box 5 (.c (.agg [(.int .i64 0),(.int .i64 0),(.str []),.nil,.nil]))) .done)))
 (.seq (.reg (tq 7 (.bslice 5 []) (tm 5 (.t 7) .done)))
 (.seq (.seq (.reg (tm 6 (.c (.int .i64 0)) .done))
 (.block 0 (.loop (.seq (.seq (.reg (tm 8 (.t 6) (tm 9 (.t 0) (tq 10 (.len (.t 9)) (tq 11 (.bin .lss (.t 8) (.t 10)) .done)))))
 (.cond (.t 11) .skip
 (.exit 0)))
 (.seq (.block 1 (.reg (tm 14 (.t 5) (tq 15 (.faddr 1 (.t 3)) (tq 16 (.load 1 false (.t 15)) (tm 17 (.t 6) (tq 18 (.iaddr 1 (.t 16) (.t 17)) (tq 19 (.load 1 false (.t 18)) (tq 20 (.call 132 [(.t 19)]) (tq 21 (.bslice 5 [(.t 20)]) (tq 22 (.append 5 80 (.t 14) (.t 21)) (tm 5 (.t 22) .done))))))))))))
 (.reg (tm 12 (.t 6) (tq 13 (.bin .add (.t 12) (.c (.int .i64 1))) (tm 6 (.t 13) .done)))))))))
 (.cut (.seq (.reg (tm 23 (.t 0) (tm 24 (.t 5) (tq 25 (.call 192 [(.t 23),(.t 24)]) (.q ⟨none,none,.store 5 (.t 4) (.t 25)⟩
 .done)))))
 .ret)))))
theorem f3m:a1b Tryz.prog Tryz.f94 = some (c94.erase,[.load 5 true (.t 4)],26):=by kernel_rfl
def a5v (H:a1u):List Str → Nat → (List o9) → Option (List o9)
  | [],E,B =>
    some B
  | K :: xs,E,B =>
    (idx H.Cells (E:Int)).bind fun J =>
    (a9g J).bind fun G =>
    if (B ++ [G]).length ≤ 2 ^ 30 then
    a5v H xs (E + 1) (B ++ [G])
    else none

def b2d (A:(List Str)) (H:a1u):Option o9 :=
    (a5v H A 0 []).bind fun F =>
    (a9f A F).bind fun D =>
    some D
theorem d0r (A:(List Str)) (H:a1u) (r:o9) (hf:b2d A H = some r):a0a Tryz.prog 94 .weak [(.lst 1 (A.map AV.str)),(y5 H)] (l9 r):=by
 refine a0a.of_awp mixed Tryz.func94 f3m nle ?_;rw [a0l];unfold b2d at hf;unfold c94;refine (show awp Tryz.prog false 0 _ (ofL [(0,(.lst 1 (A.map AV.str))),(1,(y5 H))]) [] _ from ?_);refine sr<|x9 (a1j (j:=0) (c:=(.agg [(.I H.Id),(.lst 1 (H.Cells.map (a1q 3 o6)))])) rfl tr rfl rfl)<|x9 (a1j (j:=1) (c:=(.agg [(.I 0),(.I 0),(.str []),.nil,.nil])) rfl tr rfl rfl)<|dk<|sr<|?_;refine x9 (a0o (j:=2) (as':=[]) rfl (fun _ => by decide) tr .r rfl rfl rfl) ?_;refine l7 (.own 2 0 0) rfl<|dk<|o7<|sr<|l7 (.I 0) rfl<|a0h<|?_
 refine a0i ?_
 obtain ⟨F,hb1,hf⟩:=ob hf
 refine a1s ([(0,(.lst 1 (A.map AV.str))),(4,(.ptr 0 0 0)),(5,(.own 1 0 F.length))],[.box 5 (.agg [(.I 0),(.I 0),(.str []),.nil,.nil]),.row 5 (F.map l9)]) ?_ ?_
 ·refine a1f (X:={q:(Nat × (List o9)) // a5v H (A.drop q.1) q.1 q.2 = some F}) (fun q => ([(0,(.lst 1 (A.map AV.str))),(3,(.ptr 0 0 0)),(4,(.ptr 1 0 0)),(5,(.own 2 0 q.1.2.length)),(6,(.I (q.1.1:Int)))],[.box 2 (.agg [(.I H.Id),(.lst 1 (H.Cells.map (a1q 3 o6)))]),.box 5 (.agg [(.I 0),(.I 0),(.str []),.nil,.nil]),.row 5 (q.1.2.map l9)])) (fun q => A.length - q.1.1) ⟨(0,[]),hb1⟩ ⟨[],[0,1,2],_,_,rfl,rfl,⟨.r,⟨.r,⟨.r,⟨.of_eq (congrArg (AV.own _ 0) (by simp)),⟨.r,tr⟩⟩⟩⟩⟩,.r⟩ ?_
  rintro ⟨⟨E,B⟩,hc1⟩
  have hc1:a5v H (A.drop E) E B = some F:=hc1
  refine (show awp Tryz.prog false 0 _ (ofL [(0,(.lst 1 (A.map AV.str))),(3,(.ptr 0 0 0)),(4,(.ptr 1 0 0)),(5,(.own 2 0 B.length)),(6,(.I (E:Int)))]) [.box 2 (.agg [(.I H.Id),(.lst 1 (H.Cells.map (a1q 3 o6)))]),.box 5 (.agg [(.I 0),(.I 0),(.str []),.nil,.nil]),.row 5 (B.map l9)] _ from ?_)
  rcases a5n A E with ⟨hie33,hd36⟩ | ⟨hlt31,K,hx32,hd36⟩
  ·rw [hd36,a5v.eq_1] at hc1
   have hq35:=dlf hie33
   refine o7<|sr<|l7 (.I (E:Int)) rfl<|l7 (.lst 1 (A.map AV.str)) rfl<|a0y (a1o (enc:=AV.str) rfl) fun hl38 => x8 (.bool (decide ((E:Int) < (A.length:Int)))) rfl rfl rfl<|dk<|y9 rfl hq35<|a2l<|a2k<|a1t<|a2j<|?_;obtain rfl:=os hc1;exact ⟨[],[1,2],_,_,rfl,rfl,⟨.r,⟨.r,⟨.r,tr⟩⟩⟩,.r⟩
  ·rw [hd36,a5v.eq_2] at hc1
   have hq35:=dlt hlt31
   refine o7<|sr<|l7 (.I (E:Int)) rfl<|l7 (.lst 1 (A.map AV.str)) rfl<|a0y (a1o (enc:=AV.str) rfl) fun hl39 => x8 (.bool (decide ((E:Int) < (A.length:Int)))) rfl rfl rfl<|dk<|y8 rfl hq35<|a0j<|a0i<|o7<|a2x<|a0s<|?_
   obtain ⟨J,ex41,hc1⟩:=ob hc1
   obtain ⟨G,er43,hc1⟩:=ob hc1
   obtain ⟨g44,hc1⟩:=og hc1
   refine l7 (.own 2 0 B.length) rfl<|x8 (.ptr 0 0 1) rfl tr rfl<|x8 (.lst 1 (H.Cells.map (a1q 3 o6))) rfl nle rfl<|l7 (.I (E:Int)) rfl<|x9 (a6s (enc:=(a1q 3 o6)) rfl rfl (b3m ex41) (b3n ex41))<|x8 (.lst 3 (J.map o6)) rfl ⟨rfl,rfl⟩ rfl<|x9 (b5m (v:=(.agg [(.I G.Kind),(.I G.N),(.str G.T),(.lst 1 (G.Keys.map AV.str)),(.lst 5 (G.Items.map l9))])) rfl (c6q _ _ er43) rfl .r (by simp only [o8]))<|?_;refine x9 (a0o (j:=3) (as':=[(l9 G)]) rfl (fun _ => by decide) ⟨rfl,tr⟩ (.cons (.of_eq (o8 G).symm) .nil) rfl rfl rfl) ?_
   refine x9 (a3l (j:=4) (L:=((B ++ [G]).map l9)) (len:=(B ++ [G]).length) rfl rfl (c4p (enc:=l9) B [G] _ (by rfl)) (by simp <;> omega) g44 rfl rfl) ?_
   refine l7 (.own 4 0 ((B ++ [G]).length)) rfl<|a0h<|a2v<|a0i<|a0s<|l7 (.I (E:Int)) rfl<|x8 (.I (w64 ((E:Int) + 1))) rfl rfl rfl<|l7 (.I (w64 ((E:Int) + 1))) rfl<|a0h<|?_;exact a1m ⟨((E + 1),B ++ [G]),hc1⟩ (mul hlt31) ⟨[],[0,1,4],_,_,rfl,rfl,⟨.r,⟨.r,⟨.r,⟨.r,⟨.of_eq (congrArg (AV.int _) (a1p hlt31 hl39)),tr⟩⟩⟩⟩⟩,.r⟩
 ·refine sr<|?_
  obtain ⟨D,er46,hf⟩:=ob hf
  refine l7 (.lst 1 (A.map AV.str)) rfl<|l7 (.own 1 0 F.length) rfl<|x9 (a7z (v:=(.agg [(.I D.Kind),(.I D.N),(.str D.T),(.lst 1 (D.Keys.map AV.str)),(.lst 5 (D.Items.map l9))])) rfl (a7i _ _ _ er46) rfl (.cons .r (.cons (.of_eq (congrArg (AV.lst _) (tko F))) .nil)) (by simp only [o8]) rfl)<|a1v (a0f (v:=(.agg [(.I D.Kind),(.I D.N),(.str D.T),(.lst 1 (D.Keys.map AV.str)),(.lst 5 (D.Items.map l9))])) (y':=(.agg [(.I D.Kind),(.I D.N),(.str D.T),(.lst 1 (D.Keys.map AV.str)),(.lst 5 (D.Items.map l9))])) rfl rfl rfl tr ⟨rfl,nle⟩ ⟨⟨rfl,tr⟩,⟨⟨rfl,tr⟩,⟨⟨rfl,tr⟩,⟨⟨rfl,tr⟩,⟨⟨rfl,tr⟩,tr⟩⟩⟩⟩⟩ rfl)<|?_
  refine dk<|a0e<|?_;obtain rfl:=os hf;exact b3o ⟨nle,tr⟩ rfl (.of_eq (o8 D).symm)

/- spec.l13Result -/
abbrev wz9:List a4t:=[⟨(some 24),none,.load 1 false (.t 23)⟩,⟨(some 23),none,.faddr 2 (.t 3)⟩]
abbrev wz10:List a4t:=[⟨(some 42),none,.load 1 false (.t 41)⟩,⟨(some 41),none,.faddr 4 (.t 5)⟩]
def c119:a0m :=
 (.seq (.reg (tq 3 (.box 5 (.t 1)) (tq 4 (.box 5 (.c (.agg [(.int .i64 0),(.int .i64 0),(.str []),.nil,.nil]))) .done)))
 (.seq (.block 0 (.seq (.reg (tq 8 (.faddr 0 (.t 3)) (tq 9 (.load 1 false (.t 8)) (tq 10 (.bin .neq (.t 9) (.c (.int .i64 0))) (tm 7 (.t 10) .done)))))
 (.cond (.t 7) (.seq (.reg (tq 11 (.bslice 1 [(.c (.str [101,114,114,111,114]))]) (tq 12 (.faddr 0 (.t 3)) (tq 13 (.load 1 false (.t 12)) (tq 14 (.call 214 [(.t 13)]) (tq 15 (.call 213 [(.t 14)]) (tq 16 (.bslice 5 [(.t 15)]) (tq 17 (.call 192 [(.t 11),(.t 16)]) (.q ⟨none,none,.store 5 (.t 4) (.t 17)⟩
 .done)))))))))
 .ret)
 (.seq (.reg (tm 19 (.t 0) (tq 20 (.bin .eql (.t 19) (.c (.int .i64 1))) (tm 18 (.t 20) .done))))
 (.cond (.t 18) (.seq (.reg (tq 23 (.faddr 2 (.t 3)) (tq 24 (.load 1 false (.t 23)) (.l ⟨(some 21),none,.bslice 1 [(.c (.str [117,117,105,100]))]⟩ wz9
 (.l ⟨(some 22),none,.call 213 [(.c (.str [117,117,105,100]))]⟩ wz9
 (.l ⟨(some 25),none,.call 216 [(.t 24)]⟩ []
 (.l ⟨(some 26),none,.bslice 5 [(.t 22),(.t 25)]⟩ []
 (.l ⟨(some 27),none,.call 215 [(.t 26)]⟩ []
 (.l ⟨(some 28),none,.bslice 5 [(.t 27)]⟩ []
 (.l ⟨(some 29),none,.call 192 [(.t 21),(.t 28)]⟩ []
 (.l ⟨none,none,.store 5 (.t 4) (.t 29)⟩ []
 .done .non) .non) .non) .non) .non) .non) .non) (.l ⟨(some 22),none,.call 213 [(.c (.str [117,117,105,100]))]⟩ wz9
 (.l ⟨(some 21),none,.bslice 1 [(.c (.str [117,117,105,100]))]⟩ wz9
 (.l ⟨(some 25),none,.call 216 [(.t 24)]⟩ []
 (.l ⟨(some 26),none,.bslice 5 [(.t 22),(.t 25)]⟩ []
 (.l ⟨(some 27),none,.call 215 [(.t 26)]⟩ []
 (.l ⟨(some 28),none,.bslice 5 [(.t 27)]⟩ []
 (.l ⟨(some 29),none,.call 192 [(.t 21),(.t 28)]⟩ []
 (.l ⟨none,none,.store 5 (.t 4) (.t 29)⟩ []
 .done .non) .non) .non) .non) .non) .non) (.l ⟨(some 25),none,.call 216 [(.t 24)]⟩ []
 (.l ⟨(some 21),none,.bslice 1 [(.c (.str [117,117,105,100]))]⟩ wz9
 (.l ⟨(some 26),none,.bslice 5 [(.t 22),(.t 25)]⟩ []
 (.l ⟨(some 27),none,.call 215 [(.t 26)]⟩ []
 (.l ⟨(some 28),none,.bslice 5 [(.t 27)]⟩ []
 (.l ⟨(some 29),none,.call 192 [(.t 21),(.t 28)]⟩ []
 (.l ⟨none,none,.store 5 (.t 4) (.t 29)⟩ []
 .done .non) .non) .non) .non) .non) (.l ⟨(some 26),none,.bslice 5 [(.t 22),(.t 25)]⟩ []
 (.l ⟨(some 21),none,.bslice 1 [(.c (.str [117,117,105,100]))]⟩ wz9
 (.l ⟨(some 27),none,.call 215 [(.t 26)]⟩ []
 (.l ⟨(some 28),none,.bslice 5 [(.t 27)]⟩ []
 (.l ⟨(some 29),none,.call 192 [(.t 21),(.t 28)]⟩ []
 (.l ⟨none,none,.store 5 (.t 4) (.t 29)⟩ []
 .done .non) .non) .non) .non) (.l ⟨(some 27),none,.call 215 [(.t 26)]⟩ []
 (.l ⟨(some 21),none,.bslice 1 [(.c (.str [117,117,105,100]))]⟩ wz9
 (.l ⟨(some 28),none,.bslice 5 [(.t 27)]⟩ []
 (.l ⟨(some 29),none,.call 192 [(.t 21),(.t 28)]⟩ []
 (.l ⟨none,none,.store 5 (.t 4) (.t 29)⟩ []
 .done .non) .non) .non) (.l ⟨(some 28),none,.bslice 5 [(.t 27)]⟩ []
 (.l ⟨(some 21),none,.bslice 1 [(.c (.str [117,117,105,100]))]⟩ wz9
 (.l ⟨(some 29),none,.call 192 [(.t 21),(.t 28)]⟩ []
 (.l ⟨none,none,.store 5 (.t 4) (.t 29)⟩ []
 .done .non) .non) .non) .non)) .non)) .non)) .non)) .non)))))
 .ret)
 (.seq (.reg (tm 31 (.t 0) (tq 32 (.bin .eql (.t 31) (.c (.int .i64 2))) (tm 30 (.t 32) .done))))
 (.cond (.t 30) (.seq (.reg (tq 33 (.call 215 [(.c .nil)]) (tq 5 (.box 5 (.c (.agg [(.int .i64 0),(.int .i64 0),(.str []),.nil,.nil]))) (.q ⟨none,none,.store 5 (.t 5) (.t 33)⟩
 .done))))
 (.seq (.seq (.reg (tm 6 (.c (.int .i64 0)) .done))
 (.block 1 (.loop (.seq (.seq (.reg (tm 34 (.t 6) (tq 35 (.faddr 4 (.t 3)) (tq 36 (.load 1 false (.t 35)) (tq 37 (.len (.t 36)) (tq 38 (.bin .lss (.t 34) (.t 37)) .done))))))
 (.cond (.t 38) .skip
 (.exit 1)))
 (.seq (.block 2 (.reg (tq 41 (.faddr 4 (.t 5)) (tq 42 (.load 1 false (.t 41)) (tq 43 (.faddr 3 (.t 3)) (tq 44 (.load 1 false (.t 43)) (tq 45 (.faddr 4 (.t 3)) (tq 46 (.load 1 false (.t 45)) (tm 47 (.t 6) (tq 48 (.iaddr 2 (.t 46) (.t 47)) (tq 49 (.load 2 true (.t 48)) (.l ⟨(some 50),none,.call 94 [(.t 44),(.t 49)]⟩ wz10
 (.l ⟨(some 51),none,.bslice 5 [(.t 50)]⟩ wz10
 (.l ⟨(some 52),none,.append 5 80 (.t 42) (.t 51)⟩ []
 (tq 53 (.faddr 4 (.t 5)) (.l ⟨none,none,.store 1 (.t 53) (.t 52)⟩ []
 .done .non)) .non) .non) .non))))))))))))
 (.reg (tm 39 (.t 6) (tq 40 (.bin .add (.t 39) (.c (.int .i64 1))) (tm 6 (.t 40) .done)))))))))
 (.cut (.seq (.reg (tq 54 (.bslice 1 [(.c (.str [114,111,119,115]))]) (tq 55 (.load 5 true (.t 5)) (tq 56 (.bslice 5 [(.t 55)]) (tq 57 (.call 192 [(.t 54),(.t 56)]) (.q ⟨none,none,.store 5 (.t 4) (.t 57)⟩
 .done))))))
 .ret))))
 (.seq (.reg (tm 59 (.t 0) (tq 60 (.call 85 [(.t 59),(.c (.int .i64 3)),(.c (.int .i64 5))]) (tm 58 (.t 60) .done))))
 (.cond (.t 58) (.seq (.reg (tq 61 (.bslice 1 [(.c (.str [99,111,117,110,116]))]) (tq 62 (.faddr 1 (.t 3)) (tq 63 (.load 1 false (.t 62)) (tq 64 (.call 216 [(.t 63)]) (tq 65 (.bslice 5 [(.t 64)]) (tq 66 (.call 192 [(.t 61),(.t 65)]) (.q ⟨none,none,.store 5 (.t 4) (.t 66)⟩
 .done))))))))
 .ret)
 .skip)))))))))
 (.seq (.reg (tq 67 (.build [(.int .i64 0),(.int .i64 0),(.str []),.nil,.nil] [(0,1,(.c (.int .i64 5)))]) (.q ⟨none,none,.store 5 (.t 4) (.t 67)⟩
 .done)))
 .ret)))
theorem e9s:a1b Tryz.prog Tryz.f119 = some (c119.erase,[.load 5 true (.t 4)],68):=by kernel_rfl
def a3w (E:a1i):List a1u → (List o9) → Option (List o9)
  | [],O =>
    some O
  | W :: xs,O =>
    (b2d E.Columns W).bind fun M =>
    if (O ++ [M]).length ≤ 2 ^ 30 then
    a3w E xs  (O ++ [M])
    else none

def a9y (G:Int) (E:a1i):Option o9 :=
    if (E.Code != 0) then
    (a8d E.Code).bind fun Z =>
    (a9e Z).bind fun V =>
    (a9f [[101,114,114,111,114]] [V]).bind fun P =>
    some P
    else
    if (G == 1) then
    (a9e [117,117,105,100]).bind fun H =>
    (b2b E.Id).bind fun F =>
    (b7l [H,F]).bind fun D =>
    (a9f [[117,117,105,100]] [D]).bind fun A =>
    some A
    else
    if (G == 2) then
    (b2t).bind fun B =>
    (a3w E E.Rows B.Items).bind fun S =>
    (a9f [[114,111,119,115]] [(⟨B.Kind,B.N,B.T,B.Keys,S⟩:o9)]).bind fun J =>
    some J
    else
    (a5u G 3 5).bind fun Y =>
    if Y then
    (b2b E.Count).bind fun U =>
    (a9f [[99,111,117,110,116]] [U]).bind fun K =>
    some K
    else
    some (⟨5,0,[],[],[]⟩:o9)
theorem c4s (G:Int) (E:a1i) (r:o9) (hf:a9y G E = some r):a0a Tryz.prog 119 .weak [(.I G),(a2c E)] (l9 r):=by
 refine a0a.of_awp mixed Tryz.func119 e9s nle ?_;rw [a0l];unfold a9y at hf;unfold c119;refine (show awp Tryz.prog false 0 _ (ofL [(0,(.I G)),(1,(a2c E))]) [] _ from ?_);refine sr<|x9 (a1j (j:=0) (c:=(.agg [(.I E.Code),(.I E.Count),(.I E.Id),(.lst 1 (E.Columns.map AV.str)),(.lst 2 (E.Rows.map y5))])) rfl tr rfl rfl)<|x9 (a1j (j:=1) (c:=(.agg [(.I 0),(.I 0),(.str []),.nil,.nil])) rfl tr rfl rfl)<|dk<|o7<|a2x<|sr<|x8 (.ptr 0 0 0) rfl tr rfl<|x8 (.I E.Code) rfl nle rfl<|x8 (.bool (E.Code != 0)) rfl rfl rfl<|l7 (.bool (E.Code != 0)) rfl<|?_
 refine dk<|?_
 rcases oi hf with ⟨c3,hf⟩ | ⟨c3,hf⟩
 ·refine y8 rfl c3<|sr<|?_
  obtain ⟨Z,er5,hf⟩:=ob hf
  obtain ⟨V,er7,hf⟩:=ob hf
  obtain ⟨P,er9,hf⟩:=ob hf
  refine x9 (a0o (j:=2) (as':=[(.str [101,114,114,111,114])]) rfl (fun _ => by decide) ⟨rfl,tr⟩ .r rfl rfl rfl) ?_;refine x8 (.ptr 0 0 0) rfl tr rfl<|x8 (.I E.Code) rfl nle rfl<|x9 (a0n (c6p _ _ er5) rfl .r rfl)<|x9 (b5m (v:=(.agg [(.I V.Kind),(.I V.N),(.str V.T),(.lst 1 (V.Keys.map AV.str)),(.lst 5 (V.Items.map l9))])) rfl (b2a _ _ er7) rfl .r (by simp only [o8]))<|?_;refine x9 (a0o (j:=3) (as':=[(l9 V)]) rfl (fun _ => by decide) ⟨rfl,tr⟩ (.cons (.of_eq (o8 V).symm) .nil) rfl rfl rfl) ?_;refine x9 (a7z (v:=(.agg [(.I P.Kind),(.I P.N),(.str P.T),(.lst 1 (P.Keys.map AV.str)),(.lst 5 (P.Items.map l9))])) rfl (a7i _ _ _ er9) rfl (.cons (.of_eq (congrArg (AV.lst _) (by rfl))) (.cons (.of_eq (congrArg (AV.lst _) (by rfl))) .nil)) (by simp only [o8]) rfl) ?_
  refine a1v (a0f (v:=(.agg [(.I P.Kind),(.I P.N),(.str P.T),(.lst 1 (P.Keys.map AV.str)),(.lst 5 (P.Items.map l9))])) (y':=(.agg [(.I P.Kind),(.I P.N),(.str P.T),(.lst 1 (P.Keys.map AV.str)),(.lst 5 (P.Items.map l9))])) rfl rfl rfl tr ⟨rfl,nle⟩ ⟨⟨rfl,tr⟩,⟨⟨rfl,tr⟩,⟨⟨rfl,tr⟩,⟨⟨rfl,tr⟩,⟨⟨rfl,tr⟩,tr⟩⟩⟩⟩⟩ rfl)<|dk<|a0e<|?_;obtain rfl:=os hf;exact b3o ⟨nle,tr⟩ rfl (.of_eq (o8 P).symm)
 ·refine y9 rfl (bf c3)<|sr<|l7 (.I G) rfl<|x8 (.bool (G == 1)) rfl rfl rfl<|l7 (.bool (G == 1)) rfl<|dk<|?_
  rcases oi hf with ⟨c10,hf⟩ | ⟨c10,hf⟩
  ·refine y8 rfl c10<|sr<|?_
   obtain ⟨H,er12,hf⟩:=ob hf
   obtain ⟨F,er14,hf⟩:=ob hf
   obtain ⟨D,er16,hf⟩:=ob hf
   obtain ⟨A,er18,hf⟩:=ob hf
   refine x8 (.ptr 0 0 2) rfl tr rfl<|x8 (.I E.Id) rfl nle rfl<|?_;refine a0w (a0o (j:=2) (as':=[(.str [117,117,105,100])]) rfl (fun _ => by decide) ⟨rfl,tr⟩ .r rfl rfl rfl) (.inr ⟨⟨nle,rfl⟩,⟨⟨tr,rfl⟩,tr⟩⟩) ?_ ?_
   ·refine a0w (b5m (v:=(.agg [(.I H.Kind),(.I H.N),(.str H.T),(.lst 1 (H.Keys.map AV.str)),(.lst 5 (H.Items.map l9))])) rfl (b2a _ _ er12) rfl .r (by simp only [o8])) a6n tr ?_;refine a0w (a0o (j:=2) (as':=[(.str [117,117,105,100])]) rfl (fun _ => by decide) ⟨rfl,tr⟩ .r rfl rfl rfl) (.inr ⟨⟨nle,rfl⟩,⟨⟨tr,rfl⟩,tr⟩⟩) ?_ ?_
    ·refine a0w (b5m (v:=(.agg [(.I F.Kind),(.I F.N),(.str F.T),(.lst 1 (F.Keys.map AV.str)),(.lst 5 (F.Items.map l9))])) rfl (b2c _ _ er14) rfl .r (by simp only [o8])) a6n tr ?_;refine a0w (a0o (j:=2) (as':=[(.str [117,117,105,100])]) rfl (fun _ => by decide) ⟨rfl,tr⟩ .r rfl rfl rfl) (.inr ⟨⟨nle,rfl⟩,⟨⟨tr,rfl⟩,tr⟩⟩) ?_ ?_
     ·refine a0w (a0o (j:=2) (as':=[(l9 H),(l9 F)]) rfl (fun _ => by decide) ⟨rfl,⟨rfl,tr⟩⟩ (.cons (.of_eq (o8 H).symm) (.cons (.of_eq (o8 F).symm) .nil)) rfl rfl rfl) tr tr ?_;refine a0w (a0o (j:=3) (as':=[(.str [117,117,105,100])]) rfl (fun _ => by decide) ⟨rfl,tr⟩ .r rfl rfl rfl) (.inr ⟨⟨nle,rfl⟩,⟨⟨tr,rfl⟩,tr⟩⟩) ?_ ?_
      ·refine a0w (a7z (v:=(.agg [(.I D.Kind),(.I D.N),(.str D.T),(.lst 1 (D.Keys.map AV.str)),(.lst 5 (D.Items.map l9))])) rfl (b4n _ _ er16) rfl (.cons (.of_eq (congrArg (AV.lst _) (by rfl))) .nil) (by simp only [o8]) rfl) tr tr ?_;refine a0w (a0o (j:=3) (as':=[(.str [117,117,105,100])]) rfl (fun _ => by decide) ⟨rfl,tr⟩ .r rfl rfl rfl) (.inr ⟨⟨nle,rfl⟩,⟨⟨tr,rfl⟩,tr⟩⟩) ?_ ?_
       ·refine a0w (a0o (j:=3) (as':=[(l9 D)]) rfl (fun _ => by decide) ⟨rfl,tr⟩ (.cons (.of_eq (o8 D).symm) .nil) rfl rfl rfl) tr tr ?_;refine a0w (a0o (j:=4) (as':=[(.str [117,117,105,100])]) rfl (fun _ => by decide) ⟨rfl,tr⟩ .r rfl rfl rfl) (.inr ⟨⟨nle,rfl⟩,⟨⟨tr,rfl⟩,tr⟩⟩) tr ?_;refine a0w (a7z (v:=(.agg [(.I A.Kind),(.I A.N),(.str A.T),(.lst 1 (A.Keys.map AV.str)),(.lst 5 (A.Items.map l9))])) rfl (a7i _ _ _ er18) rfl (.cons (.of_eq (congrArg (AV.lst _) (by rfl))) (.cons (.of_eq (congrArg (AV.lst _) (by rfl))) .nil)) (by simp only [o8]) rfl) tr tr ?_
        refine a4r (a0f (v:=(.agg [(.I A.Kind),(.I A.N),(.str A.T),(.lst 1 (A.Keys.map AV.str)),(.lst 5 (A.Items.map l9))])) (y':=(.agg [(.I A.Kind),(.I A.N),(.str A.T),(.lst 1 (A.Keys.map AV.str)),(.lst 5 (A.Items.map l9))])) rfl rfl rfl tr ⟨rfl,nle⟩ ⟨⟨rfl,tr⟩,⟨⟨rfl,tr⟩,⟨⟨rfl,tr⟩,⟨⟨rfl,tr⟩,⟨⟨rfl,tr⟩,tr⟩⟩⟩⟩⟩ rfl) tr tr<|dk<|a0e<|?_;obtain rfl:=os hf;exact b3o ⟨nle,tr⟩ rfl (.of_eq (o8 A).symm)
       ·refine a0w (a0o (j:=4) (as':=[(l9 D)]) rfl (fun _ => by decide) ⟨rfl,tr⟩ (.cons (.of_eq (o8 D).symm) .nil) rfl rfl rfl) tr tr ?_;refine a0w (a7z (v:=(.agg [(.I A.Kind),(.I A.N),(.str A.T),(.lst 1 (A.Keys.map AV.str)),(.lst 5 (A.Items.map l9))])) rfl (a7i _ _ _ er18) rfl (.cons (.of_eq (congrArg (AV.lst _) (by rfl))) (.cons (.of_eq (congrArg (AV.lst _) (by rfl))) .nil)) (by simp only [o8]) rfl) tr tr<|a4r (a0f (v:=(.agg [(.I A.Kind),(.I A.N),(.str A.T),(.lst 1 (A.Keys.map AV.str)),(.lst 5 (A.Items.map l9))])) (y':=(.agg [(.I A.Kind),(.I A.N),(.str A.T),(.lst 1 (A.Keys.map AV.str)),(.lst 5 (A.Items.map l9))])) rfl rfl rfl tr ⟨rfl,nle⟩ ⟨⟨rfl,tr⟩,⟨⟨rfl,tr⟩,⟨⟨rfl,tr⟩,⟨⟨rfl,tr⟩,⟨⟨rfl,tr⟩,tr⟩⟩⟩⟩⟩ rfl) tr tr<|?_
        refine dk<|a0e<|?_;obtain rfl:=os hf;exact b3o ⟨nle,tr⟩ rfl (.of_eq (o8 A).symm)
      ·refine a0w (a7z (v:=(.agg [(.I D.Kind),(.I D.N),(.str D.T),(.lst 1 (D.Keys.map AV.str)),(.lst 5 (D.Items.map l9))])) rfl (b4n _ _ er16) rfl (.cons (.of_eq (congrArg (AV.lst _) (by rfl))) .nil) (by simp only [o8]) rfl) tr tr ?_;refine a0w (a0o (j:=4) (as':=[(l9 D)]) rfl (fun _ => by decide) ⟨rfl,tr⟩ (.cons (.of_eq (o8 D).symm) .nil) rfl rfl rfl) tr tr ?_;refine a0w (a7z (v:=(.agg [(.I A.Kind),(.I A.N),(.str A.T),(.lst 1 (A.Keys.map AV.str)),(.lst 5 (A.Items.map l9))])) rfl (a7i _ _ _ er18) rfl (.cons (.of_eq (congrArg (AV.lst _) (by rfl))) (.cons (.of_eq (congrArg (AV.lst _) (by rfl))) .nil)) (by simp only [o8]) rfl) tr tr ?_
       refine a4r (a0f (v:=(.agg [(.I A.Kind),(.I A.N),(.str A.T),(.lst 1 (A.Keys.map AV.str)),(.lst 5 (A.Items.map l9))])) (y':=(.agg [(.I A.Kind),(.I A.N),(.str A.T),(.lst 1 (A.Keys.map AV.str)),(.lst 5 (A.Items.map l9))])) rfl rfl rfl tr ⟨rfl,nle⟩ ⟨⟨rfl,tr⟩,⟨⟨rfl,tr⟩,⟨⟨rfl,tr⟩,⟨⟨rfl,tr⟩,⟨⟨rfl,tr⟩,tr⟩⟩⟩⟩⟩ rfl) tr tr<|dk<|a0e<|?_;obtain rfl:=os hf;exact b3o ⟨nle,tr⟩ rfl (.of_eq (o8 A).symm)
     ·refine a0w (a0o (j:=3) (as':=[(l9 H),(l9 F)]) rfl (fun _ => by decide) ⟨rfl,⟨rfl,tr⟩⟩ (.cons (.of_eq (o8 H).symm) (.cons (.of_eq (o8 F).symm) .nil)) rfl rfl rfl) tr tr ?_;refine a0w (a7z (v:=(.agg [(.I D.Kind),(.I D.N),(.str D.T),(.lst 1 (D.Keys.map AV.str)),(.lst 5 (D.Items.map l9))])) rfl (b4n _ _ er16) rfl (.cons (.of_eq (congrArg (AV.lst _) (by rfl))) .nil) (by simp only [o8]) rfl) tr tr ?_;refine a0w (a0o (j:=4) (as':=[(l9 D)]) rfl (fun _ => by decide) ⟨rfl,tr⟩ (.cons (.of_eq (o8 D).symm) .nil) rfl rfl rfl) tr tr ?_
      refine a0w (a7z (v:=(.agg [(.I A.Kind),(.I A.N),(.str A.T),(.lst 1 (A.Keys.map AV.str)),(.lst 5 (A.Items.map l9))])) rfl (a7i _ _ _ er18) rfl (.cons (.of_eq (congrArg (AV.lst _) (by rfl))) (.cons (.of_eq (congrArg (AV.lst _) (by rfl))) .nil)) (by simp only [o8]) rfl) tr tr<|a4r (a0f (v:=(.agg [(.I A.Kind),(.I A.N),(.str A.T),(.lst 1 (A.Keys.map AV.str)),(.lst 5 (A.Items.map l9))])) (y':=(.agg [(.I A.Kind),(.I A.N),(.str A.T),(.lst 1 (A.Keys.map AV.str)),(.lst 5 (A.Items.map l9))])) rfl rfl rfl tr ⟨rfl,nle⟩ ⟨⟨rfl,tr⟩,⟨⟨rfl,tr⟩,⟨⟨rfl,tr⟩,⟨⟨rfl,tr⟩,⟨⟨rfl,tr⟩,tr⟩⟩⟩⟩⟩ rfl) tr tr<|?_
      refine dk<|a0e<|?_;obtain rfl:=os hf;exact b3o ⟨nle,tr⟩ rfl (.of_eq (o8 A).symm)
    ·refine a0w (b5m (v:=(.agg [(.I F.Kind),(.I F.N),(.str F.T),(.lst 1 (F.Keys.map AV.str)),(.lst 5 (F.Items.map l9))])) rfl (b2c _ _ er14) rfl .r (by simp only [o8])) a6n tr ?_;refine a0w (a0o (j:=3) (as':=[(l9 H),(l9 F)]) rfl (fun _ => by decide) ⟨rfl,⟨rfl,tr⟩⟩ (.cons (.of_eq (o8 H).symm) (.cons (.of_eq (o8 F).symm) .nil)) rfl rfl rfl) tr tr ?_;refine a0w (a7z (v:=(.agg [(.I D.Kind),(.I D.N),(.str D.T),(.lst 1 (D.Keys.map AV.str)),(.lst 5 (D.Items.map l9))])) rfl (b4n _ _ er16) rfl (.cons (.of_eq (congrArg (AV.lst _) (by rfl))) .nil) (by simp only [o8]) rfl) tr tr ?_
     refine a0w (a0o (j:=4) (as':=[(l9 D)]) rfl (fun _ => by decide) ⟨rfl,tr⟩ (.cons (.of_eq (o8 D).symm) .nil) rfl rfl rfl) tr tr ?_;refine a0w (a7z (v:=(.agg [(.I A.Kind),(.I A.N),(.str A.T),(.lst 1 (A.Keys.map AV.str)),(.lst 5 (A.Items.map l9))])) rfl (a7i _ _ _ er18) rfl (.cons (.of_eq (congrArg (AV.lst _) (by rfl))) (.cons (.of_eq (congrArg (AV.lst _) (by rfl))) .nil)) (by simp only [o8]) rfl) tr tr<|a4r (a0f (v:=(.agg [(.I A.Kind),(.I A.N),(.str A.T),(.lst 1 (A.Keys.map AV.str)),(.lst 5 (A.Items.map l9))])) (y':=(.agg [(.I A.Kind),(.I A.N),(.str A.T),(.lst 1 (A.Keys.map AV.str)),(.lst 5 (A.Items.map l9))])) rfl rfl rfl tr ⟨rfl,nle⟩ ⟨⟨rfl,tr⟩,⟨⟨rfl,tr⟩,⟨⟨rfl,tr⟩,⟨⟨rfl,tr⟩,⟨⟨rfl,tr⟩,tr⟩⟩⟩⟩⟩ rfl) tr tr<|?_
     refine dk<|a0e<|?_;obtain rfl:=os hf;exact b3o ⟨nle,tr⟩ rfl (.of_eq (o8 A).symm)
   ·refine a0w (b5m (v:=(.agg [(.I H.Kind),(.I H.N),(.str H.T),(.lst 1 (H.Keys.map AV.str)),(.lst 5 (H.Items.map l9))])) rfl (b2a _ _ er12) rfl .r (by simp only [o8])) a6n tr<|a0w (b5m (v:=(.agg [(.I F.Kind),(.I F.N),(.str F.T),(.lst 1 (F.Keys.map AV.str)),(.lst 5 (F.Items.map l9))])) rfl (b2c _ _ er14) rfl .r (by simp only [o8])) a6n tr<|?_;refine a0w (a0o (j:=3) (as':=[(l9 H),(l9 F)]) rfl (fun _ => by decide) ⟨rfl,⟨rfl,tr⟩⟩ (.cons (.of_eq (o8 H).symm) (.cons (.of_eq (o8 F).symm) .nil)) rfl rfl rfl) tr tr ?_
    refine a0w (a7z (v:=(.agg [(.I D.Kind),(.I D.N),(.str D.T),(.lst 1 (D.Keys.map AV.str)),(.lst 5 (D.Items.map l9))])) rfl (b4n _ _ er16) rfl (.cons (.of_eq (congrArg (AV.lst _) (by rfl))) .nil) (by simp only [o8]) rfl) tr tr ?_;refine a0w (a0o (j:=4) (as':=[(l9 D)]) rfl (fun _ => by decide) ⟨rfl,tr⟩ (.cons (.of_eq (o8 D).symm) .nil) rfl rfl rfl) tr tr ?_;refine a0w (a7z (v:=(.agg [(.I A.Kind),(.I A.N),(.str A.T),(.lst 1 (A.Keys.map AV.str)),(.lst 5 (A.Items.map l9))])) rfl (a7i _ _ _ er18) rfl (.cons (.of_eq (congrArg (AV.lst _) (by rfl))) (.cons (.of_eq (congrArg (AV.lst _) (by rfl))) .nil)) (by simp only [o8]) rfl) tr tr ?_
    refine a4r (a0f (v:=(.agg [(.I A.Kind),(.I A.N),(.str A.T),(.lst 1 (A.Keys.map AV.str)),(.lst 5 (A.Items.map l9))])) (y':=(.agg [(.I A.Kind),(.I A.N),(.str A.T),(.lst 1 (A.Keys.map AV.str)),(.lst 5 (A.Items.map l9))])) rfl rfl rfl tr ⟨rfl,nle⟩ ⟨⟨rfl,tr⟩,⟨⟨rfl,tr⟩,⟨⟨rfl,tr⟩,⟨⟨rfl,tr⟩,⟨⟨rfl,tr⟩,tr⟩⟩⟩⟩⟩ rfl) tr tr<|dk<|a0e<|?_;obtain rfl:=os hf;exact b3o ⟨nle,tr⟩ rfl (.of_eq (o8 A).symm)
  ·refine y9 rfl (bf c10)<|sr<|l7 (.I G) rfl<|x8 (.bool (G == 2)) rfl rfl rfl<|l7 (.bool (G == 2)) rfl<|dk<|?_
   rcases oi hf with ⟨c19,hf⟩ | ⟨c19,hf⟩
   ·refine y8 rfl c19<|sr<|?_
    obtain ⟨B,er21,hf⟩:=ob hf
    refine x9 (a7q (v:=(.agg [(.I B.Kind),(.I B.N),(.str B.T),(.own 2 0 B.Keys.length),(.own 3 0 B.Items.length)])) (h2:=[.box 5 (.agg [(.I E.Code),(.I E.Count),(.I E.Id),(.lst 1 (E.Columns.map AV.str)),(.lst 2 (E.Rows.map y5))]),.box 5 (.agg [(.I 0),(.I 0),(.str []),.nil,.nil]),.row 1 (B.Keys.map AV.str),.row 5 (B.Items.map l9)]) [] [] (fun _ => rfl) (c8y _ er21) rfl .r .r rfl rfl) ?_;refine x9 (a1j (j:=4) (c:=(.agg [(.I 0),(.I 0),(.str []),.nil,.nil])) rfl tr rfl rfl)<|a1v (a0f (v:=(.agg [(.I B.Kind),(.I B.N),(.str B.T),(.own 2 0 B.Keys.length),(.own 3 0 B.Items.length)])) (y':=(.agg [(.I B.Kind),(.I B.N),(.str B.T),(.own 2 0 B.Keys.length),(.own 3 0 B.Items.length)])) rfl rfl rfl tr ⟨rfl,nle⟩ ⟨⟨rfl,tr⟩,⟨⟨rfl,tr⟩,⟨⟨rfl,tr⟩,⟨⟨rfl,tr⟩,⟨⟨rfl,tr⟩,tr⟩⟩⟩⟩⟩ rfl)<|?_
    refine dk<|o7<|sr<|l7 (.I 0) rfl<|dk<|?_
    obtain ⟨S,hb1,hf⟩:=ob hf
    refine a1s ([(4,(.ptr 0 0 0)),(5,(.ptr 1 0 0))],[.box 5 (.agg [(.I 0),(.I 0),(.str []),.nil,.nil]),.box 5 (.agg [(.I B.Kind),(.I B.N),(.str B.T),(.own 2 0 B.Keys.length),(.own 3 0 S.length)]),.row 1 (B.Keys.map AV.str),.row 5 (S.map l9)]) ?_ ?_
    ·refine a1f (X:={q:(Nat × (List o9)) // a3w E (E.Rows.drop q.1) q.2 = some S}) (fun q => ([(3,(.ptr 0 0 0)),(4,(.ptr 1 0 0)),(5,(.ptr 2 0 0)),(6,(.I (q.1.1:Int)))],[.box 5 (.agg [(.I E.Code),(.I E.Count),(.I E.Id),(.lst 1 (E.Columns.map AV.str)),(.lst 2 (E.Rows.map y5))]),.box 5 (.agg [(.I 0),(.I 0),(.str []),.nil,.nil]),.box 5 (.agg [(.I B.Kind),(.I B.N),(.str B.T),(.own 3 0 B.Keys.length),(.own 4 0 q.1.2.length)]),.row 1 (B.Keys.map AV.str),.row 5 (q.1.2.map l9)])) (fun q => E.Rows.length - q.1.1) ⟨(0,B.Items),hb1⟩ ⟨[],[0,1,4,2,3],_,_,rfl,rfl,⟨.r,⟨.r,⟨.r,⟨.r,tr⟩⟩⟩⟩,.r⟩ ?_
     rintro ⟨⟨R,O⟩,hc1⟩
     have hc1:a3w E (E.Rows.drop R) O = some S:=hc1
     refine (show awp Tryz.prog false 0 _ (ofL [(3,(.ptr 0 0 0)),(4,(.ptr 1 0 0)),(5,(.ptr 2 0 0)),(6,(.I (R:Int)))]) [.box 5 (.agg [(.I E.Code),(.I E.Count),(.I E.Id),(.lst 1 (E.Columns.map AV.str)),(.lst 2 (E.Rows.map y5))]),.box 5 (.agg [(.I 0),(.I 0),(.str []),.nil,.nil]),.box 5 (.agg [(.I B.Kind),(.I B.N),(.str B.T),(.own 3 0 B.Keys.length),(.own 4 0 O.length)]),.row 1 (B.Keys.map AV.str),.row 5 (O.map l9)] _ from ?_)
     rcases a5n E.Rows R with ⟨hie52,hd55⟩ | ⟨hlt50,W,hx51,hd55⟩
     ·rw [hd55,a3w.eq_1] at hc1
      have hq54:=dlf hie52
      refine o7<|sr<|l7 (.I (R:Int)) rfl<|x8 (.ptr 0 0 4) rfl tr rfl<|x8 (.lst 2 (E.Rows.map y5)) rfl nle rfl<|a0y (a1o (enc:=y5) rfl) fun hl57 => x8 (.bool (decide ((R:Int) < (E.Rows.length:Int)))) rfl rfl rfl<|dk<|y9 rfl hq54<|a2l<|a2k<|a1t<|a2j<|?_;obtain rfl:=os hc1;exact ⟨[],[1,2,3,4],_,_,rfl,rfl,⟨.r,⟨.r,tr⟩⟩,.r⟩
     ·rw [hd55,a3w.eq_2] at hc1
      have hq54:=dlt hlt50
      refine o7<|sr<|l7 (.I (R:Int)) rfl<|x8 (.ptr 0 0 4) rfl tr rfl<|x8 (.lst 2 (E.Rows.map y5)) rfl nle rfl<|a0y (a1o (enc:=y5) rfl) fun hl58 => x8 (.bool (decide ((R:Int) < (E.Rows.length:Int)))) rfl rfl rfl<|dk<|y8 rfl hq54<|a0j<|a0i<|o7<|a2x<|a0s<|x8 (.ptr 2 0 4) rfl tr rfl<|x8 (.own 4 0 O.length) rfl nle rfl<|x8 (.ptr 0 0 3) rfl tr rfl<|x8 (.lst 1 (E.Columns.map AV.str)) rfl nle rfl<|x8 (.ptr 0 0 4) rfl tr rfl<|x8 (.lst 2 (E.Rows.map y5)) rfl nle rfl<|l7 (.I (R:Int)) rfl<|x9 (a1n (enc:=y5) rfl rfl hx51)<|?_
      refine x8 (y5 W) rfl nle rfl ?_
      obtain ⟨M,er60,hc1⟩:=ob hc1
      refine a0w (a7z (v:=(.agg [(.I M.Kind),(.I M.N),(.str M.T),(.lst 1 (M.Keys.map AV.str)),(.lst 5 (M.Items.map l9))])) rfl (d0r _ _ _ er60) rfl .r (by simp only [o8]) rfl) a6n tr ?_;refine a0w (a0o (j:=5) (as':=[(l9 M)]) rfl (fun _ => by decide) ⟨rfl,tr⟩ (.cons (.of_eq (o8 M).symm) .nil) rfl rfl rfl) (.inr ⟨⟨nle,rfl⟩,⟨⟨tr,rfl⟩,tr⟩⟩) tr ?_
      obtain ⟨g61,hc1⟩:=og hc1
      refine a0w (a3l (j:=6) (L:=((O ++ [M]).map l9)) (len:=(O ++ [M]).length) rfl rfl (c4p (enc:=l9) O [M] _ (by rfl)) (by simp <;> omega) g61 rfl rfl) tr tr ?_
      refine x8 (.ptr 2 0 4) rfl tr rfl<|a4r (a0f (v:=(.own 6 0 ((O ++ [M]).length))) (y':=(.agg [(.I B.Kind),(.I B.N),(.str B.T),(.own 3 0 B.Keys.length),(.own 6 0 ((O ++ [M]).length))])) rfl rfl rfl tr ⟨rfl,nle⟩ ⟨⟨rfl,tr⟩,tr⟩ rfl) tr tr<|a0h<|a2v<|a0i<|a0s<|l7 (.I (R:Int)) rfl<|x8 (.I (w64 ((R:Int) + 1))) rfl rfl rfl<|l7 (.I (w64 ((R:Int) + 1))) rfl<|a0h<|?_;exact a1m ⟨((R + 1),O ++ [M]),hc1⟩ (mul hlt50) ⟨[],[0,1,2,3,6],_,_,rfl,rfl,⟨.r,⟨.r,⟨.r,⟨.of_eq (congrArg (AV.int _) (a1p hlt50 hl58)),tr⟩⟩⟩⟩,.r⟩
    ·refine sr<|?_
     obtain ⟨J,er63,hf⟩:=ob hf
     refine x9 (a0o (j:=4) (as':=[(.str [114,111,119,115])]) rfl (fun _ => by decide) ⟨rfl,tr⟩ .r rfl rfl rfl) ?_;refine x8 (.agg [(.I B.Kind),(.I B.N),(.str B.T),(.own 2 0 B.Keys.length),(.own 3 0 S.length)]) rfl nle rfl ?_;refine x9 (a0o (j:=5) (as':=[(l9 (⟨B.Kind,B.N,B.T,B.Keys,S⟩:o9))]) rfl (fun _ => by decide) ⟨rfl,tr⟩ (.cons (leJ (x:=(⟨B.Kind,B.N,B.T,B.Keys,S⟩:o9)) (.agg (.cons .r (.cons .r (.cons .r (.cons (.of_eq (congrArg (AV.lst _) (tko (enc:=AV.str) B.Keys))) (.cons (.of_eq (congrArg (AV.lst _) (tko (enc:=l9) S))) .nil))))))) .nil) rfl rfl rfl) ?_
     refine x9 (a7z (v:=(.agg [(.I J.Kind),(.I J.N),(.str J.T),(.lst 1 (J.Keys.map AV.str)),(.lst 5 (J.Items.map l9))])) rfl (a7i _ _ _ er63) rfl (.cons (.of_eq (congrArg (AV.lst _) (by rfl))) (.cons (.of_eq (congrArg (AV.lst _) (by rfl))) .nil)) (by simp only [o8]) rfl)<|a1v (a0f (v:=(.agg [(.I J.Kind),(.I J.N),(.str J.T),(.lst 1 (J.Keys.map AV.str)),(.lst 5 (J.Items.map l9))])) (y':=(.agg [(.I J.Kind),(.I J.N),(.str J.T),(.lst 1 (J.Keys.map AV.str)),(.lst 5 (J.Items.map l9))])) rfl rfl rfl tr ⟨rfl,nle⟩ ⟨⟨rfl,tr⟩,⟨⟨rfl,tr⟩,⟨⟨rfl,tr⟩,⟨⟨rfl,tr⟩,⟨⟨rfl,tr⟩,tr⟩⟩⟩⟩⟩ rfl)<|?_
     refine dk<|a0e<|?_;obtain rfl:=os hf;exact b3o ⟨nle,tr⟩ rfl (.of_eq (o8 J).symm)
   ·refine y9 rfl (bf c19)<|sr<|?_
    obtain ⟨Y,er65,hf⟩:=ob hf
    refine l7 (.I G) rfl<|x9 (a0n (a4h _ _ _ _ er65) rfl .r rfl)<|l7 (.bool Y) rfl<|dk<|?_
    rcases oi hf with ⟨c66,hf⟩ | ⟨c66,hf⟩
    ·refine y8 rfl c66<|sr<|?_
     obtain ⟨U,er68,hf⟩:=ob hf
     obtain ⟨K,er70,hf⟩:=ob hf
     refine x9 (a0o (j:=2) (as':=[(.str [99,111,117,110,116])]) rfl (fun _ => by decide) ⟨rfl,tr⟩ .r rfl rfl rfl) ?_;refine x8 (.ptr 0 0 1) rfl tr rfl<|x8 (.I E.Count) rfl nle rfl<|x9 (b5m (v:=(.agg [(.I U.Kind),(.I U.N),(.str U.T),(.lst 1 (U.Keys.map AV.str)),(.lst 5 (U.Items.map l9))])) rfl (b2c _ _ er68) rfl .r (by simp only [o8]))<|?_;refine x9 (a0o (j:=3) (as':=[(l9 U)]) rfl (fun _ => by decide) ⟨rfl,tr⟩ (.cons (.of_eq (o8 U).symm) .nil) rfl rfl rfl) ?_;refine x9 (a7z (v:=(.agg [(.I K.Kind),(.I K.N),(.str K.T),(.lst 1 (K.Keys.map AV.str)),(.lst 5 (K.Items.map l9))])) rfl (a7i _ _ _ er70) rfl (.cons (.of_eq (congrArg (AV.lst _) (by rfl))) (.cons (.of_eq (congrArg (AV.lst _) (by rfl))) .nil)) (by simp only [o8]) rfl) ?_
     refine a1v (a0f (v:=(.agg [(.I K.Kind),(.I K.N),(.str K.T),(.lst 1 (K.Keys.map AV.str)),(.lst 5 (K.Items.map l9))])) (y':=(.agg [(.I K.Kind),(.I K.N),(.str K.T),(.lst 1 (K.Keys.map AV.str)),(.lst 5 (K.Items.map l9))])) rfl rfl rfl tr ⟨rfl,nle⟩ ⟨⟨rfl,tr⟩,⟨⟨rfl,tr⟩,⟨⟨rfl,tr⟩,⟨⟨rfl,tr⟩,⟨⟨rfl,tr⟩,tr⟩⟩⟩⟩⟩ rfl)<|dk<|a0e<|?_;obtain rfl:=os hf;exact b3o ⟨nle,tr⟩ rfl (.of_eq (o8 K).symm)
    ·refine y9 rfl (bf c66)<|a0j<|a2v<|a0i<|sr<|x8 (.agg [(.I 5),(.I 0),(.str []),.nil,.nil]) rfl ⟨⟨rfl,nle,tr⟩,tr⟩ rfl<|a1v (a0f (v:=(.agg [(.I 5),(.I 0),(.str []),.nil,.nil])) (y':=(.agg [(.I 5),(.I 0),(.str []),.nil,.nil])) rfl rfl rfl tr ⟨rfl,nle⟩ ⟨⟨rfl,tr⟩,⟨⟨rfl,tr⟩,⟨⟨rfl,tr⟩,⟨⟨rfl,tr⟩,⟨⟨rfl,tr⟩,tr⟩⟩⟩⟩⟩ rfl)<|dk<|a0e<|?_;obtain rfl:=os hf;exact b3o ⟨nle,tr⟩ rfl (leJ (x:=(⟨5,0,[],[],[]⟩:o9)) (.agg (.cons .r (.cons .r (.cons .r (.cons (.nil _) (.cons (.nil _) .nil)))))))

/- spec.l01OK -/
def e9t:a0m :=
 (.seq (.reg (tq 2 (.box 5 (.t 0)) (tm 4 (.c (.int .i64 0)) (tm 5 (.c (.bool false)) .done))))
 (.seq (.seq (.reg (tm 11 (.t 1) (tq 12 (.bin .eql (.t 11) (.c (.int .i64 0))) .done)))
 (.cond (.t 12) (.seq (.reg (tm 4 (.c (.int .i64 0)) (tm 5 (.c (.bool false)) .done)))
 .ret)
 .skip))
 (.seq (.reg (tq 13 (.faddr 3 (.t 2)) (tq 14 (.load 1 false (.t 13)) (tq 15 (.len (.t 14)) (tq 16 (.bin .eql (.t 15) (.c (.int .i64 0))) (tm 17 (.t 16) (tg 18 17 true (.faddr 4 (.t 2)) (tg 19 17 true (.load 1 false (.t 18)) (tg 20 17 true (.len (.t 19)) (tg 21 17 true (.bin .eql (.t 20) (.c (.int .i64 0))) (tq 22 (.pick (.t 17) (.t 21) (.c (.bool false))) (tm 6 (.t 22) .done))))))))))))
 (.cut (.seq (.seq (.reg (tq 23 (.faddr 0 (.t 2)) (tq 24 (.load 1 false (.t 23)) .done)))
 (.block 0 (.seq (.reg (tq 26 (.bin .eql (.t 24) (.c (.int .i64 0))) (tm 25 (.t 26) .done)))
 (.cond (.t 25) (.seq (.reg (tm 27 (.t 6) (tm 28 (.t 27) (tg 29 28 true (.faddr 1 (.t 2)) (tg 30 28 true (.load 1 false (.t 29)) (tg 31 28 true (.bin .eql (.t 30) (.c (.int .i64 0))) (tq 32 (.pick (.t 28) (.t 31) (.c (.bool false))) (tm 33 (.t 32) (tg 34 33 true (.faddr 2 (.t 2)) (tg 35 33 true (.load 1 false (.t 34)) (tg 36 33 true (.bin .eql (.t 35) (.c (.str []))) (tq 37 (.pick (.t 33) (.t 36) (.c (.bool false))) (tm 4 (.c (.int .i64 1)) (tm 5 (.t 37) .done))))))))))))))
 .ret)
 (.seq (.reg (tq 39 (.bin .eql (.t 24) (.c (.int .i64 1))) (tm 38 (.t 39) .done)))
 (.cond (.t 38) (.seq (.reg (tm 40 (.t 6) (tm 41 (.t 40) (tg 42 41 true (.faddr 1 (.t 2)) (tg 43 41 true (.load 1 false (.t 42)) (.l ⟨(some 44),(some (41,true)),.call 85 [(.t 43),(.c (.int .i64 0)),(.c (.int .i64 1))]⟩ []
 (tq 45 (.pick (.t 41) (.t 44) (.c (.bool false))) (tm 46 (.t 45) (tg 47 46 true (.faddr 2 (.t 2)) (tg 48 46 true (.load 1 false (.t 47)) (tg 49 46 true (.bin .eql (.t 48) (.c (.str []))) (tq 50 (.pick (.t 46) (.t 49) (.c (.bool false))) (tm 4 (.c (.int .i64 1)) (tm 5 (.t 50) .done)))))))) .non))))))
 .ret)
 (.seq (.reg (tq 52 (.bin .eql (.t 24) (.c (.int .i64 2))) (tm 51 (.t 52) .done)))
 (.cond (.t 51) (.seq (.reg (tm 53 (.t 6) (tm 54 (.t 53) (tg 55 54 true (.faddr 1 (.t 2)) (tg 56 54 true (.load 1 false (.t 55)) (.l ⟨(some 57),(some (54,true)),.call 85 [(.t 56),(.c (.int .i64 (-1000000000))),(.c (.int .i64 1000000000))]⟩ []
 (tq 58 (.pick (.t 54) (.t 57) (.c (.bool false))) (tm 59 (.t 58) (tg 60 59 true (.faddr 2 (.t 2)) (tg 61 59 true (.load 1 false (.t 60)) (tg 62 59 true (.bin .eql (.t 61) (.c (.str []))) (tq 63 (.pick (.t 59) (.t 62) (.c (.bool false))) (tm 4 (.c (.int .i64 1)) (tm 5 (.t 63) .done)))))))) .non))))))
 .ret)
 (.seq (.reg (tq 65 (.bin .eql (.t 24) (.c (.int .i64 3))) (tm 64 (.t 65) .done)))
 (.cond (.t 64) (.seq (.reg (tm 66 (.t 6) (tm 67 (.t 66) (tg 68 67 true (.faddr 1 (.t 2)) (tg 69 67 true (.load 1 false (.t 68)) (tg 70 67 true (.bin .eql (.t 69) (.c (.int .i64 0))) (tq 71 (.pick (.t 67) (.t 70) (.c (.bool false))) (tm 72 (.t 71) (tg 73 72 true (.faddr 2 (.t 2)) (tg 74 72 true (.load 1 false (.t 73)) (tg 75 72 true (.call 298 [(.t 74)]) (tq 76 (.pick (.t 72) (.t 75) (.c (.bool false))) (tm 4 (.c (.int .i64 1)) (tm 5 (.t 76) .done))))))))))))))
 .ret)
 .skip))))))))))
 (.seq (.seq (.reg (tq 77 (.faddr 0 (.t 2)) (tq 78 (.load 1 false (.t 77)) (tq 79 (.bin .neq (.t 78) (.c (.int .i64 4))) (tm 80 (.t 79) (tg 81 80 true (.faddr 0 (.t 2)) (tg 82 80 true (.load 1 false (.t 81)) (tg 83 80 true (.bin .neq (.t 82) (.c (.int .i64 5))) (tq 84 (.pick (.t 80) (.t 83) (.c (.bool false))) (tm 85 (.t 84) (tg 86 85 false (.faddr 1 (.t 2)) (tg 87 85 false (.load 1 false (.t 86)) (tg 88 85 false (.bin .neq (.t 87) (.c (.int .i64 0))) (tq 89 (.pick (.t 85) (.c (.bool true)) (.t 88)) (tm 90 (.t 89) (tg 91 90 false (.faddr 2 (.t 2)) (tg 92 90 false (.load 1 false (.t 91)) (tg 93 90 false (.bin .neq (.t 92) (.c (.str []))) (tq 94 (.pick (.t 90) (.c (.bool true)) (.t 93)) (tm 95 (.t 94) (tg 96 95 false (.faddr 0 (.t 2)) (tg 97 95 false (.load 1 false (.t 96)) (tg 98 95 false (.bin .eql (.t 97) (.c (.int .i64 4))) (tg 99 95 false (.mov (.t 98)) (tg 100 99 true (.faddr 3 (.t 2)) (tg 101 99 true (.load 1 false (.t 100)) (tg 102 99 true (.len (.t 101)) (tg 103 99 true (.bin .gtr (.t 102) (.c (.int .i64 0))) (tg 104 95 false (.pick (.t 99) (.t 103) (.c (.bool false))) (tq 105 (.pick (.t 95) (.c (.bool true)) (.t 104)) (tm 106 (.t 105) (tg 107 106 false (.faddr 0 (.t 2)) (tg 108 106 false (.load 1 false (.t 107)) (tg 109 106 false (.bin .eql (.t 108) (.c (.int .i64 5))) (tg 110 106 false (.mov (.t 109)) (tg 111 110 true (.faddr 3 (.t 2)) (tg 112 110 true (.load 1 false (.t 111)) (tg 113 110 true (.len (.t 112)) (tg 114 110 true (.faddr 4 (.t 2)) (tg 115 110 true (.load 1 false (.t 114)) (tg 116 110 true (.len (.t 115)) (tg 117 110 true (.bin .neq (.t 113) (.t 116)) (tg 118 106 false (.pick (.t 110) (.t 117) (.c (.bool false))) (tq 119 (.pick (.t 106) (.c (.bool true)) (.t 118)) .done))))))))))))))))))))))))))))))))))))))))))))
 (.cut (.cond (.t 119) (.seq (.reg (tm 4 (.c (.int .i64 0)) (tm 5 (.c (.bool false)) .done)))
 .ret)
 .skip)))
 (.seq (.reg (tm 7 (.c (.int .i64 1)) .done))
 (.seq (.seq (.reg (tm 8 (.c (.int .i64 0)) .done))
 (.block 1 (.loop (.seq (.seq (.reg (tm 120 (.t 8) (tq 121 (.faddr 4 (.t 2)) (tq 122 (.load 1 false (.t 121)) (tq 123 (.len (.t 122)) (tq 124 (.bin .lss (.t 120) (.t 123)) .done))))))
 (.cond (.t 124) .skip
 (.exit 1)))
 (.seq (.block 2 (.seq (.seq (.reg (tq 127 (.faddr 0 (.t 2)) (tq 128 (.load 1 false (.t 127)) (tq 129 (.bin .eql (.t 128) (.c (.int .i64 5))) (tm 130 (.t 129) (tg 131 130 true (.faddr 3 (.t 2)) (tg 132 130 true (.load 1 false (.t 131)) (tg 133 130 true (.mov (.t 8)) (tg 134 130 true (.iaddr 1 (.t 132) (.t 133)) (tg 135 130 true (.load 1 false (.t 134)) (.l ⟨(some 136),(some (130,true)),.call 298 [(.t 135)]⟩ []
 (tg 137 130 true (.not (.t 136)) (tg 138 130 true (.mov (.t 137)) (tg 139 138 false (.mov (.t 8)) (tg 140 138 false (.bin .gtr (.t 139) (.c (.int .i64 0))) (tg 141 138 false (.mov (.t 140)) (tg 142 141 true (.faddr 3 (.t 2)) (tg 143 141 true (.load 1 false (.t 142)) (tg 144 141 true (.mov (.t 8)) (tg 145 141 true (.bin .sub (.t 144) (.c (.int .i64 1))) (tg 146 141 true (.iaddr 1 (.t 143) (.t 145)) (tg 147 141 true (.load 1 false (.t 146)) (tg 148 141 true (.faddr 3 (.t 2)) (tg 149 141 true (.load 1 false (.t 148)) (tg 150 141 true (.mov (.t 8)) (tg 151 141 true (.iaddr 1 (.t 149) (.t 150)) (tg 152 141 true (.load 1 false (.t 151)) (tg 153 141 true (.bin .geq (.t 147) (.t 152)) (tg 154 138 false (.pick (.t 141) (.t 153) (.c (.bool false))) (tg 155 130 true (.pick (.t 138) (.c (.bool true)) (.t 154)) (tq 156 (.pick (.t 130) (.t 155) (.c (.bool false))) .done)))))))))))))))))))) .non)))))))))))
 (.cut (.cond (.t 156) (.seq (.reg (tm 4 (.c (.int .i64 0)) (tm 5 (.c (.bool false)) .done)))
 .ret)
 .skip)))
 (.seq (.reg (tq 158 (.faddr 4 (.t 2)) (tq 159 (.load 1 false (.t 158)) (tm 160 (.t 8) (tq 161 (.iaddr 5 (.t 159) (.t 160)) (tq 162 (.load 5 true (.t 161)) (tm 163 (.t 1) (tq 164 (.bin .sub (.t 163) (.c (.int .i64 1))) (tq 165 (.call 217 [(.t 162),(.t 164)]) (tm 157 (.t 165) (tq 166 (.extract 0 (.t 157)) (tq 167 (.extract 1 (.t 157)) (tm 9 (.t 166) (tm 10 (.t 167) .done))))))))))))))
 (.seq (.reg (tm 168 (.t 7) (tm 169 (.t 9) (tq 170 (.bin .add (.t 168) (.t 169)) (tm 7 (.t 170) .done)))))
 (.seq (.reg (tm 171 (.t 10) (tq 172 (.not (.t 171)) (tm 173 (.t 172) (tg 174 173 false (.mov (.t 7)) (tg 175 173 false (.bin .gtr (.t 174) (.c (.int .i64 400))) (tq 176 (.pick (.t 173) (.c (.bool true)) (.t 175)) .done)))))))
 (.cut (.cond (.t 176) (.seq (.reg (tm 4 (.c (.int .i64 0)) (tm 5 (.c (.bool false)) .done)))
 .ret)
 .skip)))))))
 (.reg (tm 125 (.t 8) (tq 126 (.bin .add (.t 125) (.c (.int .i64 1))) (tm 8 (.t 126) .done)))))))))
 (.cut (.seq (.reg (tm 177 (.t 7) (tm 4 (.t 177) (tm 5 (.c (.bool true)) .done))))
 .ret))))))))))
theorem e9u:a1b Tryz.prog Tryz.f217 = some (e9t.erase,[.mov (.t 4),.mov (.t 5)],178):=by kernel_rfl
def a4b (A:o9) (rec:(o9 → Int → Option (Int × Bool))) (D:Int):List o9 → Int → Nat → Option (Fl (Int × Bool) Int)
  | [],G,F =>
    some (.go G)
  | H :: xs,G,F =>
    ((if (A.Kind == 5) then
    (idx A.Keys (F:Int)).bind fun U =>
    (a7e U).bind fun R =>
    if (!R) then
    some true
    else
    if (decide ((F:Int) > 0)) then
    (idx A.Keys (w64 ((F:Int) - 1))).bind fun J =>
    (idx A.Keys (F:Int)).bind fun K =>
    some (!Op.bytesLess J K)
    else
    some false
    else
    some false:Option Bool)).bind fun O =>
    if O then
    some (.ret (0,false))
    else
    (rec H (w64 (D - 1))).bind fun E =>
    ((if (!E.2) then
    some true
    else
    some (decide (w64 (G + E.1) > 400)):Option Bool)).bind fun P =>
    if P then
    some (.ret (0,false))
    else
    a4b A rec D xs (w64 (G + E.1)) (F + 1)

def b2v (rec:(o9 → Int → Option (Int × Bool))) (A:o9) (D:Int):Option (Int × Bool) :=
    if (D == 0) then
    some (0,false)
    else
    ((if ((A.Keys.length:Int) == 0) then
    some ((A.Items.length:Int) == 0)
    else
    some false:Option Bool)).bind fun B =>
    if (A.Kind == 0) then
    some (1,(bif (bif B then (A.N == 0) else false) then (A.T == []) else false))
    else
    if (A.Kind == 1) then
    if B then
    (a5u A.N 0 1).bind fun L =>
    some (1,(bif L then (A.T == []) else false))
    else
    some (1,false)
    else
    if (A.Kind == 2) then
    if B then
    (a5u A.N (-1000000000) 1000000000).bind fun M =>
    some (1,(bif M then (A.T == []) else false))
    else
    some (1,false)
    else
    if (A.Kind == 3) then
    if (bif B then (A.N == 0) else false) then
    (a7e A.T).bind fun V =>
    some (1,V)
    else
    some (1,false)
    else
    ((some ():Option Unit)).bind fun _ =>
    if (bif (bif (bif (bif (bif (A.Kind != 4) then (A.Kind != 5) else false) then true else (A.N != 0)) then true else (!(A.T == []))) then true else (bif (A.Kind == 4) then (decide ((A.Keys.length:Int) > 0)) else false)) then true else (bif (A.Kind == 5) then ((A.Keys.length:Int) != (A.Items.length:Int)) else false)) then
    some (0,false)
    else
    (a4b A rec D A.Items 1 0).bind fun q => (match q with
    | .ret r => some r
    | .go S =>
    some (S,true))
theorem c9c (rec:(o9 → Int → Option (Int × Bool))) (hrec:∀ a0 a1 r,rec a0 a1 = some r → a0a Tryz.prog 217 .flat [(l9 a0),(.I a1)] (.tup [(.I r.1),(.bool r.2)])) (A:o9) (D:Int) (r:(Int × Bool)) (hf:b2v rec A D = some r):a0a Tryz.prog 217 .flat [(l9 A),(.I D)] (.tup [(.I r.1),(.bool r.2)]):=by
 refine a0a.of_awp mixed Tryz.func217 e9u nle ?_;rw [a0l];rw [o8 A];unfold b2v at hf;unfold e9t;refine (show awp Tryz.prog false 0 _ (ofL [(0,(.agg [(.I A.Kind),(.I A.N),(.str A.T),(.lst 1 (A.Keys.map AV.str)),(.lst 5 (A.Items.map l9))])),(1,(.I D))]) [] _ from ?_);refine sr<|x9 (a1j (j:=0) (c:=(.agg [(.I A.Kind),(.I A.N),(.str A.T),(.lst 1 (A.Keys.map AV.str)),(.lst 5 (A.Items.map l9))])) rfl tr rfl rfl)<|l7 (.I 0) rfl<|l7 (.bool false) rfl<|dk<|o7<|sr<|l7 (.I D) rfl<|x8 (.bool (D == 0)) rfl rfl rfl<|?_
 refine dk<|?_
 rcases oi hf with ⟨c3,hf⟩ | ⟨c3,hf⟩
 ·refine y8 rfl c3<|sr<|l7 (.I 0) rfl<|l7 (.bool false) rfl<|dk<|a0e<|?_;obtain rfl:=os hf;exact a0g ⟨tr,⟨tr,tr⟩⟩ rfl .r
 ·refine y9 rfl (bf c3)<|a0j<|a0i<|o7<|?_
  obtain ⟨B,hb1,hf⟩:=ob hf
  refine a1s ([(1,(.I D)),(2,(.ptr 0 0 0)),(6,(.bool B))],[.box 5 (.agg [(.I A.Kind),(.I A.N),(.str A.T),(.lst 1 (A.Keys.map AV.str)),(.lst 5 (A.Items.map l9))])]) ?_ ?_
  ·refine a0s ?_
   rcases oi hb1 with ⟨c10,hb1⟩ | ⟨c10,hb1⟩
   ·refine x8 (.ptr 0 0 3) rfl tr rfl<|x8 (.lst 1 (A.Keys.map AV.str)) rfl nle rfl<|a0y (a1o (enc:=AV.str) rfl) fun hl9 => x8 (.bool ((A.Keys.length:Int) == 0)) rfl rfl rfl<|l7 (.bool ((A.Keys.length:Int) == 0)) rfl<|a1g (s:=17) (b:=true) rfl c10<|s_on rfl<|x8 (.ptr 0 0 4) rfl tr rfl<|s_on rfl<|x8 (.lst 5 (A.Items.map l9)) rfl nle rfl<|s_on rfl<|a0y (a1o (enc:=l9) rfl) fun hl11 => s_on rfl<|x8 (.bool ((A.Items.length:Int) == 0)) rfl rfl rfl<|x8 (.bool ((A.Items.length:Int) == 0)) rfl tr rfl<|l7 (.bool ((A.Items.length:Int) == 0)) rfl<|a0h<|?_;obtain rfl:=os hb1;exact ⟨[],[0],_,_,rfl,rfl,⟨.r,⟨.r,⟨.r,tr⟩⟩⟩,.r⟩
   ·refine x8 (.ptr 0 0 3) rfl tr rfl<|x8 (.lst 1 (A.Keys.map AV.str)) rfl nle rfl<|a0y (a1o (enc:=AV.str) rfl) fun hl9 => x8 (.bool ((A.Keys.length:Int) == 0)) rfl rfl rfl<|l7 (.bool ((A.Keys.length:Int) == 0)) rfl<|a1g (s:=17) (b:=false) rfl (bf c10)<|a0d rfl rfl<|a0d rfl rfl<|a0d rfl rfl<|a0d rfl rfl<|x8 (.bool false) rfl tr rfl<|l7 (.bool false) rfl<|a0h<|?_;obtain rfl:=os hb1;exact ⟨[],[0],_,_,rfl,rfl,⟨.r,⟨.r,⟨.r,tr⟩⟩⟩,.r⟩
  ·refine o7<|sr<|x8 (.ptr 0 0 0) rfl tr rfl<|x8 (.I A.Kind) rfl nle rfl<|dk<|a2x<|sr<|x8 (.bool (A.Kind == 0)) rfl rfl rfl<|l7 (.bool (A.Kind == 0)) rfl<|dk<|?_
   rcases oi hf with ⟨c12,hf⟩ | ⟨c12,hf⟩
   ·refine y8 rfl c12<|sr<|l7 (.bool B) rfl<|l7 (.bool B) rfl<|?_;refine s_g (v:=B) (.ptr 0 0 1) rfl (fun hv => by (try simp only [y7 hv]);exact ⟨rfl,tr,rfl⟩) ?_;refine s_g (v:=B) (.I A.N) rfl (fun hv => by (try simp only [y7 hv]);exact ⟨rfl,nle,rfl⟩) ?_;refine s_g (v:=B) (.bool (A.N == 0)) rfl (fun hv => by (try simp only [y7 hv]);exact ⟨rfl,rfl,rfl⟩) ?_;refine a3c (x:=(A.N == 0)) (y:=false) rfl (fun hv => by (try simp only [y7 hv]);rfl) (fun hv => by (try simp only [y7 hv]);rfl) ?_;refine l7 (.bool (bif B then (A.N == 0) else false)) rfl ?_;refine s_g (v:=(bif B then (A.N == 0) else false)) (.ptr 0 0 2) rfl (fun hv => by (try simp only [y7 hv]);exact ⟨rfl,tr,rfl⟩) ?_
    refine s_g (v:=(bif B then (A.N == 0) else false)) (.str A.T) rfl (fun hv => by (try simp only [y7 hv]);exact ⟨rfl,nle,rfl⟩) ?_;refine s_g (v:=(bif B then (A.N == 0) else false)) (.bool (A.T == [])) rfl (fun hv => by (try simp only [y7 hv]);exact ⟨rfl,tr,rfl⟩) ?_;refine a3c (x:=(A.T == [])) (y:=false) rfl (fun hv => by (try simp only [y7 hv]);rfl) (fun hv => by (try simp only [y7 hv]);rfl) ?_;refine l7 (.I 1) rfl<|l7 (.bool (bif (bif B then (A.N == 0) else false) then (A.T == []) else false)) rfl<|dk<|a0e<|?_;obtain rfl:=os hf;exact a0g ⟨tr,⟨tr,tr⟩⟩ rfl .r
   ·refine y9 rfl (bf c12)<|sr<|x8 (.bool (A.Kind == 1)) rfl rfl rfl<|l7 (.bool (A.Kind == 1)) rfl<|dk<|?_
    rcases oi hf with ⟨c13,hf⟩ | ⟨c13,hf⟩
    ·refine y8 rfl c13<|sr<|l7 (.bool B) rfl<|l7 (.bool B) rfl<|?_
     rcases oi hf with ⟨c14,hf⟩ | ⟨c14,hf⟩
     ·refine a1g (s:=41) (b:=true) rfl c14<|s_on rfl<|x8 (.ptr 0 0 1) rfl tr rfl<|s_on rfl<|x8 (.I A.N) rfl nle rfl<|d2b rfl<|?_
      obtain ⟨L,er16,hf⟩:=ob hf
      refine a0w (a0n (a4h _ _ _ _ er16) rfl .r rfl) a6n tr<|x8 (.bool L) rfl tr rfl<|l7 (.bool L) rfl<|?_;refine s_g (v:=L) (.ptr 0 0 2) rfl (fun hv => by (try simp only [y7 hv]);exact ⟨rfl,tr,rfl⟩) ?_;refine s_g (v:=L) (.str A.T) rfl (fun hv => by (try simp only [y7 hv]);exact ⟨rfl,nle,rfl⟩) ?_;refine s_g (v:=L) (.bool (A.T == [])) rfl (fun hv => by (try simp only [y7 hv]);exact ⟨rfl,tr,rfl⟩) ?_;refine a3c (x:=(A.T == [])) (y:=false) rfl (fun hv => by (try simp only [y7 hv]);rfl) (fun hv => by (try simp only [y7 hv]);rfl) ?_;refine l7 (.I 1) rfl<|l7 (.bool (bif L then (A.T == []) else false)) rfl<|?_
      refine dk<|a0e<|?_;obtain rfl:=os hf;exact a0g ⟨tr,⟨tr,tr⟩⟩ rfl .r
     ·refine a1g (s:=41) (b:=false) rfl (bf c14)<|a0d rfl rfl<|a0d rfl rfl<|c4n rfl rfl tr<|x8 (.bool false) rfl tr rfl<|l7 (.bool false) rfl<|a0d rfl rfl<|a0d rfl rfl<|a0d rfl rfl<|x8 (.bool false) rfl tr rfl<|l7 (.I 1) rfl<|l7 (.bool false) rfl<|dk<|a0e<|?_;obtain rfl:=os hf;exact a0g ⟨tr,⟨tr,tr⟩⟩ rfl .r
    ·refine y9 rfl (bf c13)<|sr<|x8 (.bool (A.Kind == 2)) rfl rfl rfl<|l7 (.bool (A.Kind == 2)) rfl<|dk<|?_
     rcases oi hf with ⟨c17,hf⟩ | ⟨c17,hf⟩
     ·refine y8 rfl c17<|sr<|l7 (.bool B) rfl<|l7 (.bool B) rfl<|?_
      rcases oi hf with ⟨c18,hf⟩ | ⟨c18,hf⟩
      ·refine a1g (s:=54) (b:=true) rfl c18<|s_on rfl<|x8 (.ptr 0 0 1) rfl tr rfl<|s_on rfl<|x8 (.I A.N) rfl nle rfl<|d2b rfl<|?_
       obtain ⟨M,er20,hf⟩:=ob hf
       refine a0w (a0n (a4h _ _ _ _ er20) rfl .r rfl) a6n tr<|x8 (.bool M) rfl tr rfl<|l7 (.bool M) rfl<|?_;refine s_g (v:=M) (.ptr 0 0 2) rfl (fun hv => by (try simp only [y7 hv]);exact ⟨rfl,tr,rfl⟩) ?_;refine s_g (v:=M) (.str A.T) rfl (fun hv => by (try simp only [y7 hv]);exact ⟨rfl,nle,rfl⟩) ?_;refine s_g (v:=M) (.bool (A.T == [])) rfl (fun hv => by (try simp only [y7 hv]);exact ⟨rfl,tr,rfl⟩) ?_;refine a3c (x:=(A.T == [])) (y:=false) rfl (fun hv => by (try simp only [y7 hv]);rfl) (fun hv => by (try simp only [y7 hv]);rfl) ?_;refine l7 (.I 1) rfl<|l7 (.bool (bif M then (A.T == []) else false)) rfl<|?_
       refine dk<|a0e<|?_;obtain rfl:=os hf;exact a0g ⟨tr,⟨tr,tr⟩⟩ rfl .r
      ·refine a1g (s:=54) (b:=false) rfl (bf c18)<|a0d rfl rfl<|a0d rfl rfl<|c4n rfl rfl tr<|x8 (.bool false) rfl tr rfl<|l7 (.bool false) rfl<|a0d rfl rfl<|a0d rfl rfl<|a0d rfl rfl<|x8 (.bool false) rfl tr rfl<|l7 (.I 1) rfl<|l7 (.bool false) rfl<|dk<|a0e<|?_;obtain rfl:=os hf;exact a0g ⟨tr,⟨tr,tr⟩⟩ rfl .r
     ·refine y9 rfl (bf c17)<|sr<|x8 (.bool (A.Kind == 3)) rfl rfl rfl<|l7 (.bool (A.Kind == 3)) rfl<|dk<|?_
      rcases oi hf with ⟨c21,hf⟩ | ⟨c21,hf⟩
      ·refine y8 rfl c21<|sr<|l7 (.bool B) rfl<|l7 (.bool B) rfl<|?_;refine s_g (v:=B) (.ptr 0 0 1) rfl (fun hv => by (try simp only [y7 hv]);exact ⟨rfl,tr,rfl⟩) ?_;refine s_g (v:=B) (.I A.N) rfl (fun hv => by (try simp only [y7 hv]);exact ⟨rfl,nle,rfl⟩) ?_;refine s_g (v:=B) (.bool (A.N == 0)) rfl (fun hv => by (try simp only [y7 hv]);exact ⟨rfl,rfl,rfl⟩) ?_;refine a3c (x:=(A.N == 0)) (y:=false) rfl (fun hv => by (try simp only [y7 hv]);rfl) (fun hv => by (try simp only [y7 hv]);rfl) ?_;refine l7 (.bool (bif B then (A.N == 0) else false)) rfl ?_
       rcases oi hf with ⟨c22,hf⟩ | ⟨c22,hf⟩
       ·refine a1g (s:=72) (b:=true) rfl c22<|s_on rfl<|x8 (.ptr 0 0 2) rfl tr rfl<|s_on rfl<|x8 (.str A.T) rfl nle rfl<|s_on rfl<|?_
        obtain ⟨V,er24,hf⟩:=ob hf
        refine x9 (a0n (b6c _ _ er24) rfl .r rfl)<|x8 (.bool V) rfl tr rfl<|l7 (.I 1) rfl<|l7 (.bool V) rfl<|dk<|a0e<|?_;obtain rfl:=os hf;exact a0g ⟨tr,⟨tr,tr⟩⟩ rfl .r
       ·refine a1g (s:=72) (b:=false) rfl (bf c22)<|a0d rfl rfl<|a0d rfl rfl<|a0d rfl rfl<|x8 (.bool false) rfl tr rfl<|l7 (.I 1) rfl<|l7 (.bool false) rfl<|dk<|a0e<|?_;obtain rfl:=os hf;exact a0g ⟨tr,⟨tr,tr⟩⟩ rfl .r
      ·refine y9 rfl (bf c21)<|a0j<|a2v<|a0i<|o7<|o7<|?_
       obtain ⟨p28,hb1,hf⟩:=ob hf
       refine a1s ([(1,(.I D)),(2,(.ptr 0 0 0)),(119,(.bool (bif (bif (bif (bif (bif (A.Kind != 4) then (A.Kind != 5) else false) then true else (A.N != 0)) then true else (!(A.T == []))) then true else (bif (A.Kind == 4) then (decide ((A.Keys.length:Int) > 0)) else false)) then true else (bif (A.Kind == 5) then ((A.Keys.length:Int) != (A.Items.length:Int)) else false))))],[.box 5 (.agg [(.I A.Kind),(.I A.N),(.str A.T),(.lst 1 (A.Keys.map AV.str)),(.lst 5 (A.Items.map l9))])]) ?_ ?_
       ·refine a0s<|x8 (.ptr 0 0 0) rfl tr rfl<|x8 (.I A.Kind) rfl nle rfl<|x8 (.bool (A.Kind != 4)) rfl rfl rfl<|l7 (.bool (A.Kind != 4)) rfl<|?_;refine s_g (v:=(A.Kind != 4)) (.ptr 0 0 0) rfl (fun hv => by (try simp only [y7 hv]);exact ⟨rfl,tr,rfl⟩) ?_;refine s_g (v:=(A.Kind != 4)) (.I A.Kind) rfl (fun hv => by (try simp only [y7 hv]);exact ⟨rfl,nle,rfl⟩) ?_;refine s_g (v:=(A.Kind != 4)) (.bool (A.Kind != 5)) rfl (fun hv => by (try simp only [y7 hv]);exact ⟨rfl,rfl,rfl⟩) ?_;refine a3c (x:=(A.Kind != 5)) (y:=false) rfl (fun hv => by (try simp only [y7 hv]);rfl) (fun hv => by (try simp only [y7 hv]);rfl) ?_;refine l7 (.bool (bif (A.Kind != 4) then (A.Kind != 5) else false)) rfl ?_
        refine s_g (v:=(bif (A.Kind != 4) then (A.Kind != 5) else false)) (.ptr 0 0 1) rfl (fun hv => by (try simp only [y7 hv]);exact ⟨rfl,tr,rfl⟩) ?_;refine s_g (v:=(bif (A.Kind != 4) then (A.Kind != 5) else false)) (.I A.N) rfl (fun hv => by (try simp only [y7 hv]);exact ⟨rfl,nle,rfl⟩) ?_;refine s_g (v:=(bif (A.Kind != 4) then (A.Kind != 5) else false)) (.bool (A.N != 0)) rfl (fun hv => by (try simp only [y7 hv]);exact ⟨rfl,rfl,rfl⟩) ?_;refine a3c (x:=true) (y:=(A.N != 0)) rfl (fun hv => by (try simp only [y7 hv]);rfl) (fun hv => by (try simp only [y7 hv]);rfl) ?_;refine l7 (.bool (bif (bif (A.Kind != 4) then (A.Kind != 5) else false) then true else (A.N != 0))) rfl ?_
        refine s_g (v:=(bif (bif (A.Kind != 4) then (A.Kind != 5) else false) then true else (A.N != 0))) (.ptr 0 0 2) rfl (fun hv => by (try simp only [y7 hv]);exact ⟨rfl,tr,rfl⟩) ?_;refine s_g (v:=(bif (bif (A.Kind != 4) then (A.Kind != 5) else false) then true else (A.N != 0))) (.str A.T) rfl (fun hv => by (try simp only [y7 hv]);exact ⟨rfl,nle,rfl⟩) ?_;refine s_g (v:=(bif (bif (A.Kind != 4) then (A.Kind != 5) else false) then true else (A.N != 0))) (.bool (!(A.T == []))) rfl (fun hv => by (try simp only [y7 hv]);exact ⟨rfl,tr,rfl⟩) ?_;refine a3c (x:=true) (y:=(!(A.T == []))) rfl (fun hv => by (try simp only [y7 hv]);rfl) (fun hv => by (try simp only [y7 hv]);rfl) ?_
        refine l7 (.bool (bif (bif (bif (A.Kind != 4) then (A.Kind != 5) else false) then true else (A.N != 0)) then true else (!(A.T == [])))) rfl ?_;refine s_g (v:=(bif (bif (bif (A.Kind != 4) then (A.Kind != 5) else false) then true else (A.N != 0)) then true else (!(A.T == [])))) (.ptr 0 0 0) rfl (fun hv => by (try simp only [y7 hv]);exact ⟨rfl,tr,rfl⟩) ?_;refine s_g (v:=(bif (bif (bif (A.Kind != 4) then (A.Kind != 5) else false) then true else (A.N != 0)) then true else (!(A.T == [])))) (.I A.Kind) rfl (fun hv => by (try simp only [y7 hv]);exact ⟨rfl,nle,rfl⟩) ?_;refine s_g (v:=(bif (bif (bif (A.Kind != 4) then (A.Kind != 5) else false) then true else (A.N != 0)) then true else (!(A.T == [])))) (.bool (A.Kind == 4)) rfl (fun hv => by (try simp only [y7 hv]);exact ⟨rfl,rfl,rfl⟩) ?_
        refine s_g (v:=(bif (bif (bif (A.Kind != 4) then (A.Kind != 5) else false) then true else (A.N != 0)) then true else (!(A.T == [])))) (.bool (A.Kind == 4)) rfl (fun hv => by (try simp only [y7 hv]);exact ⟨rfl,tr,rfl⟩) ?_;refine b4h (v1:=(bif (bif (bif (A.Kind != 4) then (A.Kind != 5) else false) then true else (A.N != 0)) then true else (!(A.T == [])))) (b1:=false) (v2:=(A.Kind == 4)) (.ptr 0 0 3) rfl (fun hv hw => by (try simp only [y7 hv,y7 hw]);exact ⟨rfl,tr,rfl⟩) ?_;refine b4h (v1:=(bif (bif (bif (A.Kind != 4) then (A.Kind != 5) else false) then true else (A.N != 0)) then true else (!(A.T == [])))) (b1:=false) (v2:=(A.Kind == 4)) (.lst 1 (A.Keys.map AV.str)) rfl (fun hv hw => by (try simp only [y7 hv,y7 hw]);exact ⟨rfl,nle,rfl⟩) ?_
        refine b4h (v1:=(bif (bif (bif (A.Kind != 4) then (A.Kind != 5) else false) then true else (A.N != 0)) then true else (!(A.T == [])))) (b1:=false) (v2:=(A.Kind == 4)) (.I (A.Keys.length:Int)) rfl (fun hv hw => by (try simp only [y7 hv,y7 hw]);exact ⟨rfl,tr,lenV _ _⟩) ?_;refine b4h (v1:=(bif (bif (bif (A.Kind != 4) then (A.Kind != 5) else false) then true else (A.N != 0)) then true else (!(A.T == [])))) (b1:=false) (v2:=(A.Kind == 4)) (.bool (decide ((A.Keys.length:Int) > 0))) rfl (fun hv hw => by (try simp only [y7 hv,y7 hw]);exact ⟨rfl,rfl,rfl⟩) ?_;refine d7t (v1:=(bif (bif (bif (A.Kind != 4) then (A.Kind != 5) else false) then true else (A.N != 0)) then true else (!(A.T == [])))) (b1:=false) (v2:=(A.Kind == 4)) (x:=(decide ((A.Keys.length:Int) > 0))) (y:=false) rfl (fun hv => by (try simp only [y7 hv]);rfl) (fun hv hw => by (try simp only [y7 hv,y7 hw]);rfl) (fun hv hw => by (try simp only [y7 hv,y7 hw]);rfl) ?_
        refine a3c (x:=true) (y:=(bif (A.Kind == 4) then (decide ((A.Keys.length:Int) > 0)) else false)) rfl (fun hv => by (try simp only [y7 hv]);rfl) (fun hv => by (try simp only [y7 hv]);rfl) ?_;refine l7 (.bool (bif (bif (bif (bif (A.Kind != 4) then (A.Kind != 5) else false) then true else (A.N != 0)) then true else (!(A.T == []))) then true else (bif (A.Kind == 4) then (decide ((A.Keys.length:Int) > 0)) else false))) rfl ?_;refine s_g (v:=(bif (bif (bif (bif (A.Kind != 4) then (A.Kind != 5) else false) then true else (A.N != 0)) then true else (!(A.T == []))) then true else (bif (A.Kind == 4) then (decide ((A.Keys.length:Int) > 0)) else false))) (.ptr 0 0 0) rfl (fun hv => by (try simp only [y7 hv]);exact ⟨rfl,tr,rfl⟩) ?_
        refine s_g (v:=(bif (bif (bif (bif (A.Kind != 4) then (A.Kind != 5) else false) then true else (A.N != 0)) then true else (!(A.T == []))) then true else (bif (A.Kind == 4) then (decide ((A.Keys.length:Int) > 0)) else false))) (.I A.Kind) rfl (fun hv => by (try simp only [y7 hv]);exact ⟨rfl,nle,rfl⟩) ?_;refine s_g (v:=(bif (bif (bif (bif (A.Kind != 4) then (A.Kind != 5) else false) then true else (A.N != 0)) then true else (!(A.T == []))) then true else (bif (A.Kind == 4) then (decide ((A.Keys.length:Int) > 0)) else false))) (.bool (A.Kind == 5)) rfl (fun hv => by (try simp only [y7 hv]);exact ⟨rfl,rfl,rfl⟩) ?_;refine s_g (v:=(bif (bif (bif (bif (A.Kind != 4) then (A.Kind != 5) else false) then true else (A.N != 0)) then true else (!(A.T == []))) then true else (bif (A.Kind == 4) then (decide ((A.Keys.length:Int) > 0)) else false))) (.bool (A.Kind == 5)) rfl (fun hv => by (try simp only [y7 hv]);exact ⟨rfl,tr,rfl⟩) ?_
        refine b4h (v1:=(bif (bif (bif (bif (A.Kind != 4) then (A.Kind != 5) else false) then true else (A.N != 0)) then true else (!(A.T == []))) then true else (bif (A.Kind == 4) then (decide ((A.Keys.length:Int) > 0)) else false))) (b1:=false) (v2:=(A.Kind == 5)) (.ptr 0 0 3) rfl (fun hv hw => by (try simp only [y7 hv,y7 hw]);exact ⟨rfl,tr,rfl⟩) ?_;refine b4h (v1:=(bif (bif (bif (bif (A.Kind != 4) then (A.Kind != 5) else false) then true else (A.N != 0)) then true else (!(A.T == []))) then true else (bif (A.Kind == 4) then (decide ((A.Keys.length:Int) > 0)) else false))) (b1:=false) (v2:=(A.Kind == 5)) (.lst 1 (A.Keys.map AV.str)) rfl (fun hv hw => by (try simp only [y7 hv,y7 hw]);exact ⟨rfl,nle,rfl⟩) ?_
        refine b4h (v1:=(bif (bif (bif (bif (A.Kind != 4) then (A.Kind != 5) else false) then true else (A.N != 0)) then true else (!(A.T == []))) then true else (bif (A.Kind == 4) then (decide ((A.Keys.length:Int) > 0)) else false))) (b1:=false) (v2:=(A.Kind == 5)) (.I (A.Keys.length:Int)) rfl (fun hv hw => by (try simp only [y7 hv,y7 hw]);exact ⟨rfl,tr,lenV _ _⟩) ?_;refine b4h (v1:=(bif (bif (bif (bif (A.Kind != 4) then (A.Kind != 5) else false) then true else (A.N != 0)) then true else (!(A.T == []))) then true else (bif (A.Kind == 4) then (decide ((A.Keys.length:Int) > 0)) else false))) (b1:=false) (v2:=(A.Kind == 5)) (.ptr 0 0 4) rfl (fun hv hw => by (try simp only [y7 hv,y7 hw]);exact ⟨rfl,tr,rfl⟩) ?_
        refine b4h (v1:=(bif (bif (bif (bif (A.Kind != 4) then (A.Kind != 5) else false) then true else (A.N != 0)) then true else (!(A.T == []))) then true else (bif (A.Kind == 4) then (decide ((A.Keys.length:Int) > 0)) else false))) (b1:=false) (v2:=(A.Kind == 5)) (.lst 5 (A.Items.map l9)) rfl (fun hv hw => by (try simp only [y7 hv,y7 hw]);exact ⟨rfl,nle,rfl⟩) ?_;refine b4h (v1:=(bif (bif (bif (bif (A.Kind != 4) then (A.Kind != 5) else false) then true else (A.N != 0)) then true else (!(A.T == []))) then true else (bif (A.Kind == 4) then (decide ((A.Keys.length:Int) > 0)) else false))) (b1:=false) (v2:=(A.Kind == 5)) (.I (A.Items.length:Int)) rfl (fun hv hw => by (try simp only [y7 hv,y7 hw]);exact ⟨rfl,tr,lenV _ _⟩) ?_
        refine b4h (v1:=(bif (bif (bif (bif (A.Kind != 4) then (A.Kind != 5) else false) then true else (A.N != 0)) then true else (!(A.T == []))) then true else (bif (A.Kind == 4) then (decide ((A.Keys.length:Int) > 0)) else false))) (b1:=false) (v2:=(A.Kind == 5)) (.bool ((A.Keys.length:Int) != (A.Items.length:Int))) rfl (fun hv hw => by (try simp only [y7 hv,y7 hw]);exact ⟨rfl,rfl,rfl⟩) ?_;refine d7t (v1:=(bif (bif (bif (bif (A.Kind != 4) then (A.Kind != 5) else false) then true else (A.N != 0)) then true else (!(A.T == []))) then true else (bif (A.Kind == 4) then (decide ((A.Keys.length:Int) > 0)) else false))) (b1:=false) (v2:=(A.Kind == 5)) (x:=((A.Keys.length:Int) != (A.Items.length:Int))) (y:=false) rfl (fun hv => by (try simp only [y7 hv]);rfl) (fun hv hw => by (try simp only [y7 hv,y7 hw]);rfl) (fun hv hw => by (try simp only [y7 hv,y7 hw]);rfl) ?_
        refine a3c (x:=true) (y:=(bif (A.Kind == 5) then ((A.Keys.length:Int) != (A.Items.length:Int)) else false)) rfl (fun hv => by (try simp only [y7 hv]);rfl) (fun hv => by (try simp only [y7 hv]);rfl) ?_;refine a0h ?_;obtain rfl:=os hb1;exact ⟨[],[0],_,_,rfl,rfl,⟨.r,⟨.r,⟨.r,tr⟩⟩⟩,.r⟩
       ·rcases oi hf with ⟨c32,hf⟩ | ⟨c32,hf⟩
        ·refine y8 rfl c32<|sr<|l7 (.I 0) rfl<|l7 (.bool false) rfl<|dk<|a0e<|?_;obtain rfl:=os hf;exact a0g ⟨tr,⟨tr,tr⟩⟩ rfl .r
        ·refine y9 rfl (bf c32)<|a0j<|a0i<|sr<|l7 (.I 1) rfl<|dk<|o7<|sr<|l7 (.I 0) rfl<|dk<|?_
         obtain ⟨p137,hb1,hf⟩:=ob hf
         refine a3j (X:={q:Int // p137 = .go q}) (fun q => ([(7,(.I q.1))],[])) ?_ ?_
         ·refine a1f (X:={q:(Int × Nat) // a4b A rec D (A.Items.drop q.2) q.1 q.2 = some p137}) (fun q => ([(1,(.I D)),(2,(.ptr 0 0 0)),(7,(.I q.1.1)),(8,(.I (q.1.2:Int)))],[.box 5 (.agg [(.I A.Kind),(.I A.N),(.str A.T),(.lst 1 (A.Keys.map AV.str)),(.lst 5 (A.Items.map l9))])])) (fun q => A.Items.length - q.1.2) ⟨(1,0),hb1⟩ ⟨[],[0],_,_,rfl,rfl,⟨.r,⟨.r,⟨.r,⟨.r,tr⟩⟩⟩⟩,.r⟩ ?_
          rintro ⟨⟨G,F⟩,hc1⟩
          have hc1:a4b A rec D (A.Items.drop F) G F = some p137:=hc1
          refine (show awp Tryz.prog false 0 _ (ofL [(1,(.I D)),(2,(.ptr 0 0 0)),(7,(.I G)),(8,(.I (F:Int)))]) [.box 5 (.agg [(.I A.Kind),(.I A.N),(.str A.T),(.lst 1 (A.Keys.map AV.str)),(.lst 5 (A.Items.map l9))])] _ from ?_)
          rcases a5n A.Items F with ⟨hie140,hd143⟩ | ⟨hlt138,H,hx139,hd143⟩
          ·rw [hd143,a4b.eq_1] at hc1
           have hq142:=dlf hie140
           refine o7<|sr<|l7 (.I (F:Int)) rfl<|x8 (.ptr 0 0 4) rfl tr rfl<|x8 (.lst 5 (A.Items.map l9)) rfl nle rfl<|a0y (a1o (enc:=l9) rfl) fun hl145 => x8 (.bool (decide ((F:Int) < (A.Items.length:Int)))) rfl rfl rfl<|dk<|y9 rfl hq142<|a2l<|a2k<|a1t<|a2j<|?_;obtain rfl:=os hc1;exact a6i ⟨_,rfl⟩ ⟨[],[],_,_,rfl,rfl,⟨.r,tr⟩,.r⟩
          ·rw [hd143,a4b.eq_2] at hc1
           have hq142:=dlt hlt138
           refine o7<|sr<|l7 (.I (F:Int)) rfl<|x8 (.ptr 0 0 4) rfl tr rfl<|x8 (.lst 5 (A.Items.map l9)) rfl nle rfl<|a0y (a1o (enc:=l9) rfl) fun hl146 => x8 (.bool (decide ((F:Int) < (A.Items.length:Int)))) rfl rfl rfl<|dk<|y8 rfl hq142<|a0j<|a0i<|o7<|a2x<|o7<|o7<|?_
           obtain ⟨O,hb2,hc1⟩:=ob hc1
           refine a1s ([(1,(.I D)),(2,(.ptr 0 0 0)),(7,(.I G)),(8,(.I (F:Int))),(156,(.bool O))],[.box 5 (.agg [(.I A.Kind),(.I A.N),(.str A.T),(.lst 1 (A.Keys.map AV.str)),(.lst 5 (A.Items.map l9))])]) ?_ ?_
           ·refine a0s<|x8 (.ptr 0 0 0) rfl tr rfl<|x8 (.I A.Kind) rfl nle rfl<|x8 (.bool (A.Kind == 5)) rfl rfl rfl<|l7 (.bool (A.Kind == 5)) rfl<|?_
            rcases oi hb2 with ⟨c160,hb2⟩ | ⟨c160,hb2⟩
            ·refine a1g (s:=130) (b:=true) rfl c160<|s_on rfl<|x8 (.ptr 0 0 3) rfl tr rfl<|s_on rfl<|x8 (.lst 1 (A.Keys.map AV.str)) rfl nle rfl<|s_on rfl<|l7 (.I (F:Int)) rfl<|s_on rfl<|?_
             obtain ⟨U,ex162,hb2⟩:=ob hb2
             refine x9 (a6s (enc:=AV.str) rfl rfl (b3m ex162) (b3n ex162))<|s_on rfl<|x8 (.str U) rfl ⟨rfl,rfl⟩ rfl<|d2b rfl<|?_
             obtain ⟨R,er164,hb2⟩:=ob hb2
             refine a0w (a0n (b6c _ _ er164) rfl .r rfl) a6n tr<|s_on rfl<|x8 (.bool (!R)) rfl tr rfl<|s_on rfl<|l7 (.bool (!R)) rfl<|?_
             rcases oi hb2 with ⟨c165,hb2⟩ | ⟨c165,hb2⟩
             ·refine a1g (s:=138) (b:=true) rfl c165<|a0d rfl rfl<|a0d rfl rfl<|a0d rfl rfl<|a1k rfl<|a1k rfl<|a1k rfl<|a1k rfl<|a1k rfl<|a1k rfl<|a1k rfl<|a1k rfl<|a1k rfl<|a1k rfl<|a1k rfl<|a1k rfl<|a0d rfl rfl<|s_on rfl<|x8 (.bool true) rfl tr rfl<|x8 (.bool true) rfl tr rfl<|a0h<|?_;obtain rfl:=os hb2;exact ⟨[],[0],_,_,rfl,rfl,⟨.r,⟨.r,⟨.r,⟨.r,⟨.r,tr⟩⟩⟩⟩⟩,.r⟩
             ·refine a1g (s:=138) (b:=false) rfl (bf c165)<|s_on rfl<|l7 (.I (F:Int)) rfl<|s_on rfl<|x8 (.bool (decide ((F:Int) > 0))) rfl rfl rfl<|s_on rfl<|l7 (.bool (decide ((F:Int) > 0))) rfl<|?_
              rcases oi hb2 with ⟨c166,hb2⟩ | ⟨c166,hb2⟩
              ·refine a1g (s:=141) (b:=true) rfl c166<|s_on rfl<|x8 (.ptr 0 0 3) rfl tr rfl<|s_on rfl<|x8 (.lst 1 (A.Keys.map AV.str)) rfl nle rfl<|s_on rfl<|l7 (.I (F:Int)) rfl<|s_on rfl<|x8 (.I (w64 ((F:Int) - 1))) rfl rfl rfl<|s_on rfl<|?_
               obtain ⟨J,ex168,hb2⟩:=ob hb2
               refine x9 (a6s (enc:=AV.str) rfl rfl (b3m ex168) (b3n ex168))<|s_on rfl<|x8 (.str J) rfl ⟨rfl,rfl⟩ rfl<|s_on rfl<|x8 (.ptr 0 0 3) rfl tr rfl<|s_on rfl<|x8 (.lst 1 (A.Keys.map AV.str)) rfl nle rfl<|s_on rfl<|l7 (.I (F:Int)) rfl<|s_on rfl<|?_
               obtain ⟨K,ex170,hb2⟩:=ob hb2
               refine x9 (a6s (enc:=AV.str) rfl rfl (b3m ex170) (b3n ex170))<|s_on rfl<|x8 (.str K) rfl ⟨rfl,rfl⟩ rfl<|s_on rfl<|x8 (.bool (!Op.bytesLess J K)) rfl tr rfl<|s_on rfl<|x8 (.bool (!Op.bytesLess J K)) rfl tr rfl<|s_on rfl<|x8 (.bool (!Op.bytesLess J K)) rfl tr rfl<|x8 (.bool (!Op.bytesLess J K)) rfl tr rfl<|a0h<|?_;obtain rfl:=os hb2;exact ⟨[],[0],_,_,rfl,rfl,⟨.r,⟨.r,⟨.r,⟨.r,⟨.r,tr⟩⟩⟩⟩⟩,.r⟩
              ·refine a1g (s:=141) (b:=false) rfl (bf c166)<|a0d rfl rfl<|a0d rfl rfl<|a0d rfl rfl<|a0d rfl rfl<|a0d rfl rfl<|a0d rfl rfl<|a0d rfl rfl<|a0d rfl rfl<|a0d rfl rfl<|a0d rfl rfl<|a0d rfl rfl<|a0d rfl rfl<|s_on rfl<|x8 (.bool false) rfl tr rfl<|s_on rfl<|x8 (.bool false) rfl tr rfl<|x8 (.bool false) rfl tr rfl<|a0h<|?_;obtain rfl:=os hb2;exact ⟨[],[0],_,_,rfl,rfl,⟨.r,⟨.r,⟨.r,⟨.r,⟨.r,tr⟩⟩⟩⟩⟩,.r⟩
            ·refine a1g (s:=130) (b:=false) rfl (bf c160)<|a0d rfl rfl<|a0d rfl rfl<|a0d rfl rfl<|a0d rfl rfl<|a0d rfl rfl<|c4n rfl rfl tr<|a0d rfl rfl<|a0d rfl rfl<|a1k rfl<|a1k rfl<|a1k rfl<|a1k rfl<|a1k rfl<|a1k rfl<|a1k rfl<|a1k rfl<|a1k rfl<|a1k rfl<|a1k rfl<|a1k rfl<|a1k rfl<|a1k rfl<|a1k rfl<|a1k rfl<|a0d rfl rfl<|x8 (.bool false) rfl tr rfl<|a0h<|?_;obtain rfl:=os hb2;exact ⟨[],[0],_,_,rfl,rfl,⟨.r,⟨.r,⟨.r,⟨.r,⟨.r,tr⟩⟩⟩⟩⟩,.r⟩
           ·rcases oi hc1 with ⟨c171,hc1⟩ | ⟨c171,hc1⟩
            ·refine y8 rfl c171<|sr<|l7 (.I 0) rfl<|l7 (.bool false) rfl<|dk<|a0e<|?_;obtain rfl:=os hc1;obtain rfl:=os hf;exact a0g ⟨tr,⟨tr,tr⟩⟩ rfl .r
            ·refine y9 rfl (bf c171)<|a0j<|a0i<|sr<|x8 (.ptr 0 0 4) rfl tr rfl<|x8 (.lst 5 (A.Items.map l9)) rfl nle rfl<|l7 (.I (F:Int)) rfl<|x9 (a1n (enc:=l9) rfl rfl hx139)<|x9 (a8k (v:=(.agg [(.I H.Kind),(.I H.N),(.str H.T),(.lst 1 (H.Keys.map AV.str)),(.lst 5 (H.Items.map l9))])) rfl (o8 _) nle rfl)<|l7 (.I D) rfl<|x8 (.I (w64 (D - 1))) rfl rfl rfl<|?_
             obtain ⟨E,er173,hc1⟩:=ob hc1
             refine x9 (a0n (hrec _ _ _ er173) rfl (.cons (.of_eq (o8 H).symm) (.cons .r .nil)) rfl)<|l7 (.tup [(.I E.1),(.bool E.2)]) rfl<|x8 (.I E.1) rfl nle rfl<|x8 (.bool E.2) rfl nle rfl<|l7 (.I E.1) rfl<|l7 (.bool E.2) rfl<|dk<|sr<|l7 (.I G) rfl<|l7 (.I E.1) rfl<|x8 (.I (w64 (G + E.1))) rfl rfl rfl<|l7 (.I (w64 (G + E.1))) rfl<|dk<|o7<|?_
             obtain ⟨P,hb2,hc1⟩:=ob hc1
             refine a1s ([(1,(.I D)),(2,(.ptr 0 0 0)),(7,(.I (w64 (G + E.1)))),(8,(.I (F:Int))),(176,(.bool P))],[.box 5 (.agg [(.I A.Kind),(.I A.N),(.str A.T),(.lst 1 (A.Keys.map AV.str)),(.lst 5 (A.Items.map l9))])]) ?_ ?_
             ·refine a0s ?_
              rcases oi hb2 with ⟨c177,hb2⟩ | ⟨c177,hb2⟩
              ·refine l7 (.bool E.2) rfl<|x8 (.bool (!E.2)) rfl tr rfl<|l7 (.bool (!E.2)) rfl<|a1g (s:=173) (b:=true) rfl c177<|a0d rfl rfl<|a0d rfl rfl<|x8 (.bool true) rfl tr rfl<|a0h<|?_;obtain rfl:=os hb2;exact ⟨[],[0],_,_,rfl,rfl,⟨.r,⟨.r,⟨.r,⟨.r,⟨.r,tr⟩⟩⟩⟩⟩,.r⟩
              ·refine l7 (.bool E.2) rfl<|x8 (.bool (!E.2)) rfl tr rfl<|l7 (.bool (!E.2)) rfl<|a1g (s:=173) (b:=false) rfl (bf c177)<|s_on rfl<|l7 (.I (w64 (G + E.1))) rfl<|s_on rfl<|x8 (.bool (decide (w64 (G + E.1) > 400))) rfl rfl rfl<|x8 (.bool (decide (w64 (G + E.1) > 400))) rfl tr rfl<|a0h<|?_;obtain rfl:=os hb2;exact ⟨[],[0],_,_,rfl,rfl,⟨.r,⟨.r,⟨.r,⟨.r,⟨.r,tr⟩⟩⟩⟩⟩,.r⟩
             ·rcases oi hc1 with ⟨e0q,hc1⟩ | ⟨e0q,hc1⟩
              ·refine y8 rfl e0q<|sr<|l7 (.I 0) rfl<|l7 (.bool false) rfl<|dk<|a0e<|?_;obtain rfl:=os hc1;obtain rfl:=os hf;exact a0g ⟨tr,⟨tr,tr⟩⟩ rfl .r
              ·refine y9 rfl (bf e0q)<|a0j<|a2v<|a0i<|a0s<|l7 (.I (F:Int)) rfl<|x8 (.I (w64 ((F:Int) + 1))) rfl rfl rfl<|l7 (.I (w64 ((F:Int) + 1))) rfl<|a0h<|?_;exact a1m ⟨(w64 (G + E.1),(F + 1)),hc1⟩ (mul hlt138) ⟨[],[0],_,_,rfl,rfl,⟨.r,⟨.r,⟨.r,⟨.of_eq (congrArg (AV.int _) (a1p hlt138 hl146)),tr⟩⟩⟩⟩,.r⟩
         ·rintro ⟨S,rfl⟩
          refine sr<|l7 (.I S) rfl<|l7 (.I S) rfl<|l7 (.bool true) rfl<|dk<|a0e<|?_;obtain rfl:=os hf;exact a0g ⟨tr,⟨tr,tr⟩⟩ rfl .r
def a8e:Nat → o9 → Int → Option (Int × Bool)
 | 0,_,_ => none
 | k + 1,A,D => b2v (a8e k) A D
theorem c3c:∀ (k:Nat) (A:o9) (D:Int) (r:(Int × Bool)),a8e k A D = some r → a0a Tryz.prog 217 .flat [(l9 A),(.I D)] (.tup [(.I r.1),(.bool r.2)])
 | 0,A,D,r,h => by rw [a8e.eq_1] at h;cases h
 | k + 1,A,D,r,h => by
  rw [a8e.eq_2] at h;exact c9c _ (c3c k) A D r h

/- spec.JsonOK -/
def e9v:a0m :=
 (.seq (.reg (tq 1 (.box 5 (.t 0)) (tm 2 (.c (.bool false)) .done)))
 (.seq (.reg (tq 6 (.load 5 true (.t 1)) (tq 7 (.call 217 [(.t 6),(.c (.int .i64 12))]) (tm 5 (.t 7) (tq 8 (.extract 0 (.t 5)) (tq 9 (.extract 1 (.t 5)) (tm 3 (.t 8) (tm 4 (.t 9) .done))))))))
 (.seq (.reg (tm 10 (.t 4) (tm 2 (.t 10) .done)))
 .ret)))
theorem e9w:a1b Tryz.prog Tryz.f120 = some (e9v.erase,[.mov (.t 2)],11):=by kernel_rfl
def b4o (A:o9):Option Bool :=
    (a8e FUEL A 12).bind fun B =>
    some B.2
theorem d0s (A:o9) (r:Bool) (hf:b4o A = some r):a0a Tryz.prog 120 .flat [(l9 A)] (.bool r):=by
 refine a0a.of_awp mixed Tryz.func120 e9w nle ?_;rw [a0l];rw [o8 A];unfold b4o at hf;unfold e9v;refine (show awp Tryz.prog false 0 _ (ofL [(0,(.agg [(.I A.Kind),(.I A.N),(.str A.T),(.lst 1 (A.Keys.map AV.str)),(.lst 5 (A.Items.map l9))]))]) [] _ from ?_);refine sr<|x9 (a1j (j:=0) (c:=(.agg [(.I A.Kind),(.I A.N),(.str A.T),(.lst 1 (A.Keys.map AV.str)),(.lst 5 (A.Items.map l9))])) rfl tr rfl rfl)<|l7 (.bool false) rfl<|dk<|sr<|?_
 obtain ⟨B,er3,hf⟩:=ob hf
 refine x8 (.agg [(.I A.Kind),(.I A.N),(.str A.T),(.lst 1 (A.Keys.map AV.str)),(.lst 5 (A.Items.map l9))]) rfl nle rfl<|x9 (a0n (c3c FUEL _ _ _ er3) rfl (.cons (.of_eq (o8 A).symm) (.cons .r .nil)) rfl)<|l7 (.tup [(.I B.1),(.bool B.2)]) rfl<|x8 (.I B.1) rfl nle rfl<|x8 (.bool B.2) rfl nle rfl<|l7 (.I B.1) rfl<|l7 (.bool B.2) rfl<|dk<|sr<|l7 (.bool B.2) rfl<|l7 (.bool B.2) rfl<|dk<|a0e<|?_;obtain rfl:=os hf;exact a0g ⟨tr,tr⟩ rfl .r

end Go.R
