/- Walks. -/
import Derived.Test.YthneidgpgfgecaaUN1
set_option linter.all false
namespace Go.R
open Go Go.Proofs
set_option linter.unusedVariables false
set_option linter.unusedSimpArgs false
set_option maxHeartbeats 8000000
/- spec.l10Apply -/
def c58:a0r :=
 (.seq (.reg (tq 3 (.box 2 (.t 0)) (tq 6 (.box 2 (.c (.agg [.nil,(.int .i64 0)]))) (tm 7 (.c (.int .i64 0)) .done))))
 (.seq (.reg (tq 10 (.load 2 true (.t 3)) (tq 11 (.call 37 [(.t 10)]) (.q ⟨none,none,.store 2 (.t 3) (.t 11)⟩
 .done))))
 (.seq (.seq (.reg (tm 8 (.c (.int .i64 0)) .done))
 (.block 0 (.loop (.seq (.seq (.reg (tm 12 (.t 8) (tm 13 (.t 1) (tq 14 (.len (.t 13)) (tq 15 (.bin .lss (.t 12) (.t 14)) .done)))))
 (.cond (.t 15) .skip
 (.exit 0)))
 (.seq (.block 1 (.seq (.reg (tm 18 (.t 1) (tm 19 (.t 8) (tq 20 (.iaddr 6 (.t 18) (.t 19)) (tq 21 (.load 6 true (.t 20)) (tq 9 (.box 6 (.c (.agg [(.int .i64 0),(.int .i64 0),(.int .i64 0),.nil,(.int .i64 0),.nil]))) (.q ⟨none,none,.store 6 (.t 9) (.t 21)⟩
 .done)))))))
 (.seq (.seq (.reg (tm 22 (.t 2) .done))
 (.cond (.t 22) (.seq (.reg (tm 23 (.t 1) (tm 24 (.t 1) (tq 25 (.len (.t 24)) (tq 26 (.bin .sub (.t 25) (.c (.int .i64 1))) (tm 27 (.t 8) (tq 28 (.bin .sub (.t 26) (.t 27)) (tq 29 (.iaddr 6 (.t 23) (.t 28)) (tq 30 (.load 6 true (.t 29)) (.q ⟨none,none,.store 6 (.t 9) (.t 30)⟩
 .done))))))))))
 (.reg (tq 31 (.faddr 0 (.t 9)) (tq 32 (.load 1 false (.t 31)) (tq 33 (.faddr 1 (.t 9)) (tq 34 (.load 1 false (.t 33)) (tq 35 (.faddr 4 (.t 9)) (tq 36 (.load 2 true (.t 35)) (tq 37 (.faddr 2 (.t 9)) (tq 38 (.load 2 true (.t 37)) (tq 39 (.build [(.int .i64 0),(.int .i64 0),(.int .i64 0),.nil,(.int .i64 0),.nil] [(0,1,(.t 32)),(1,1,(.t 34)),(2,2,(.t 36)),(4,2,(.t 38))]) (.q ⟨none,none,.store 6 (.t 9) (.t 39)⟩
 .done))))))))))))
 .skip))
 (.cut (.seq (.seq (.reg (tq 40 (.faddr 1 (.t 9)) (tq 41 (.load 1 false (.t 40)) (tq 42 (.bin .lss (.t 41) (.c (.int .i64 1))) (tm 43 (.t 42) (tg 44 43 false (.faddr 0 (.t 9)) (tg 45 43 false (.load 1 false (.t 44)) (tg 46 43 false (.faddr 0 (.t 3)) (tg 47 43 false (.load 1 false (.t 46)) (tg 48 43 false (.len (.t 47)) (tg 49 43 false (.bin .sub (.t 48) (.c (.int .i64 1))) (tg 50 43 false (.call 85 [(.t 45),(.c (.int .i64 0)),(.t 49)]) (tg 51 43 false (.not (.t 50)) (tq 52 (.pick (.t 43) (.c (.bool true)) (.t 51)) (tm 53 (.t 52) (tg 54 53 false (.load 6 true (.t 9)) (tg 55 53 false (.call 38 [(.t 54)]) (tg 56 53 false (.bin .eql (.t 55) (.c (.int .i64 0))) (tq 57 (.pick (.t 53) (.c (.bool true)) (.t 56)) .done)))))))))))))))))))
 (.cut (.cond (.t 57) (.seq (.reg (tq 58 (.load 2 true (.t 3)) (.q ⟨none,none,.store 2 (.t 6) (.t 58)⟩
 (tm 7 (.c (.int .i64 1)) .done))))
 .ret)
 .skip)))
 (.seq (.seq (.reg (tq 59 (.faddr 0 (.t 3)) (tq 60 (.load 1 false (.t 59)) (tq 61 (.faddr 0 (.t 9)) (tq 62 (.load 1 false (.t 61)) (tq 63 (.iaddr 1 (.t 60) (.t 62)) (tq 64 (.load 1 false (.t 63)) (tq 65 (.faddr 1 (.t 9)) (tq 66 (.load 1 false (.t 65)) (tq 68 (.faddr 2 (.t 9)) (tq 69 (.load 2 true (.t 68)) (.l ⟨(some 67),none,.call 40 [(.t 64),(.t 66)]⟩ [⟨(some 69),none,.load 2 true (.t 68)⟩,⟨(some 68),none,.faddr 2 (.t 9)⟩]
 (.l ⟨(some 70),none,.call 39 [(.t 67),(.t 69)]⟩ []
 (tq 71 (.not (.t 70)) .done) .non) .non))))))))))))
 (.cond (.t 71) (.seq (.reg (tq 72 (.load 2 true (.t 3)) (.q ⟨none,none,.store 2 (.t 6) (.t 72)⟩
 (tm 7 (.c (.int .i64 13)) .done))))
 .ret)
 .skip))
 (.seq (.seq (.reg (tq 73 (.load 6 true (.t 9)) (tq 74 (.call 38 [(.t 73)]) (tq 75 (.bin .eql (.t 74) (.c (.int .i64 2))) .done))))
 (.cond (.t 75) (.seq (.reg (tq 76 (.load 2 true (.t 3)) (tq 77 (.faddr 0 (.t 9)) (tq 78 (.load 1 false (.t 77)) (tq 79 (.faddr 0 (.t 3)) (tq 80 (.load 1 false (.t 79)) (tq 81 (.faddr 0 (.t 9)) (tq 82 (.load 1 false (.t 81)) (tq 83 (.iaddr 1 (.t 80) (.t 82)) (tq 84 (.load 1 false (.t 83)) (tq 85 (.faddr 1 (.t 9)) (tq 86 (.load 1 false (.t 85)) (.l ⟨(some 87),none,.call 42 [(.t 84),(.t 86)]⟩ [⟨(some 78),none,.load 1 false (.t 77)⟩,⟨(some 77),none,.faddr 0 (.t 9)⟩,⟨(some 76),none,.load 2 true (.t 3)⟩]
 (.l ⟨(some 88),none,.call 41 [(.t 76),(.t 78),(.t 87)]⟩ []
 (.l ⟨none,none,.store 2 (.t 3) (.t 88)⟩ []
 .done .non) .non) .non)))))))))))))
 (.exit 1))
 .skip))
 (.seq (.seq (.reg (tq 89 (.load 6 true (.t 9)) (tq 90 (.call 38 [(.t 89)]) (tq 91 (.bin .eql (.t 90) (.c (.int .i64 1))) (tm 92 (.t 91) (tg 93 92 true (.faddr 0 (.t 3)) (tg 94 92 true (.load 1 false (.t 93)) (tg 95 92 true (.faddr 0 (.t 9)) (tg 96 92 true (.load 1 false (.t 95)) (tg 97 92 true (.iaddr 1 (.t 94) (.t 96)) (tg 98 92 true (.load 1 false (.t 97)) (tg 99 92 true (.len (.t 98)) (tg 100 92 true (.bin .geq (.t 99) (.c (.int .i64 12))) (tq 101 (.pick (.t 92) (.t 100) (.c (.bool false))) .done))))))))))))))
 (.cut (.cond (.t 101) (.seq (.reg (tq 102 (.load 2 true (.t 3)) (.q ⟨none,none,.store 2 (.t 6) (.t 102)⟩
 (tm 7 (.c (.int .i64 7)) .done))))
 .ret)
 .skip)))
 (.seq (.reg (tq 103 (.load 2 true (.t 3)) (tq 104 (.faddr 0 (.t 9)) (tq 105 (.load 1 false (.t 104)) (tq 106 (.faddr 4 (.t 9)) (tq 107 (.load 2 true (.t 106)) (tq 108 (.call 43 [(.t 103),(.t 105),(.t 107)]) (.q ⟨none,none,.store 2 (.t 3) (.t 108)⟩
 .done))))))))
 (.reg (tq 109 (.faddr 1 (.t 3)) (tq 110 (.load 1 false (.t 109)) (tq 111 (.faddr 1 (.t 9)) (tq 112 (.load 1 false (.t 111)) (tq 113 (.bin .add (.t 112) (.c (.int .i64 1))) (tq 114 (.mnmx true (.t 110) (.t 113)) (tq 115 (.faddr 1 (.t 3)) (.q ⟨none,none,.store 1 (.t 115) (.t 114)⟩
 .done))))))))))))))))))
 (.reg (tm 16 (.t 8) (tq 17 (.bin .add (.t 16) (.c (.int .i64 1))) (tm 8 (.t 17) .done)))))))))
 (.cut (.seq (.reg (tq 116 (.load 2 true (.t 3)) (.q ⟨none,none,.store 2 (.t 6) (.t 116)⟩
 (tm 7 (.c (.int .i64 0)) .done))))
 .ret)))))
theorem e6b:a1g Try.prog Try.f58 = some (c58.erase,[.load 2 true (.t 6),.mov (.t 7)],117):=by kernel_rfl
def a2t (back_3:Bool) (list_2:(List y9)):List y9 → Nat → (List (List x8)) → Int → Option (Fl (a0l × Int) ((List (List x8)) × Int))
  | [],i_151,x_152,x_153 =>
    some (.go (x_152,x_153))
  | x_235 :: xs,i_151,x_152,x_153 =>
    ((if back_3 then
    (idx list_2 (w64 ((w64 ((list_2.length:Int) - 1)) - (i_151:Int)))).bind fun x_251 =>
    some (x_251.Table,x_251.Id,x_251.New.Id,x_251.New.Cells,x_251.Old.Id,x_251.Old.Cells)
    else
    some (x_235.Table,x_235.Id,x_235.Old.Id,x_235.Old.Cells,x_235.New.Id,x_235.New.Cells):Option (Int × Int × Int × (List (List a0c)) × Int × (List (List a0c))))).bind fun p248 =>
    (match p248 with
    | (x_242,x_243,x_244,x_245,x_246,x_247) =>
    ((if (decide (x_243 < 1)) then
    some true
    else
    (b3a x_242 0 (w64 ((x_152.length:Int) - 1))).bind fun r_266 =>
    if (!r_266) then
    some true
    else
    (a6l (⟨x_242,x_243,(⟨x_244,x_245⟩:x8),(⟨x_246,x_247⟩:x8)⟩:y9)).bind fun r_269 =>
    some (r_269 == 0):Option Bool)).bind fun s57_261 =>
    if s57_261 then
    some (.ret ((⟨x_152,x_153⟩:a0l),1))
    else
    (idx x_152 x_242).bind fun x_272 =>
    (b1z x_272 x_243).bind fun r_274 =>
    (a7p r_274 (⟨x_244,x_245⟩:x8)).bind fun r_276 =>
    if (!r_276) then
    some (.ret ((⟨x_152,x_153⟩:a0l),13))
    else
    (a6l (⟨x_242,x_243,(⟨x_244,x_245⟩:x8),(⟨x_246,x_247⟩:x8)⟩:y9)).bind fun r_279 =>
    if (r_279 == 2) then
    (idx x_152 x_242).bind fun x_282 =>
    (a7u x_282 x_243).bind fun r_284 =>
    (b1b (⟨x_152,x_153⟩:a0l) x_242 r_284).bind fun r_286 =>
    a2t back_3 list_2 xs (i_151 + 1) r_286.Tables r_286.Next
    else
    (((a6l (⟨x_242,x_243,(⟨x_244,x_245⟩:x8),(⟨x_246,x_247⟩:x8)⟩:y9)).bind fun r_296 =>
    if (r_296 == 1) then
    (idx x_152 x_242).bind fun x_299 =>
    some (decide ((x_299.length:Int) ≥ 12))
    else
    some false:Option Bool)).bind fun s101_294 =>
    if s101_294 then
    some (.ret ((⟨x_152,x_153⟩:a0l),7))
    else
    (b0m (⟨x_152,x_153⟩:a0l) x_242 (⟨x_246,x_247⟩:x8)).bind fun r_303 =>
    a2t back_3 list_2 xs (i_151 + 1) r_303.Tables (if w64 (x_243 + 1) > r_303.Next then w64 (x_243 + 1) else r_303.Next))

def b1p (x_1:a0l) (list_2:(List y9)) (back_3:Bool):Option (a0l × Int) :=
    (a8h x_1).bind fun r_4 =>
    (a2t back_3 list_2 list_2 0 r_4.Tables r_4.Next).bind fun q => (match q with
    | .ret r => some r
    | .go (x_226,x_227) =>
    some ((⟨x_226,x_227⟩:a0l),0))
theorem c2t (x_1:a0l) (list_2:(List y9)) (back_3:Bool) (r:(a0l × Int)) (hf:b1p x_1 list_2 back_3 = some r):a0b Try.prog 58 .weak [(a0z x_1),(.lst 6 (list_2.map o8)),(.bool back_3)] (.tup [(a0z r.1),(.int .i64 r.2)]):=by
 refine a0b.of_awp mixed Try.func58 e6b nle ?_;rw [a0q];unfold b1p at hf;unfold c58;refine (show awp Try.prog false 0 _ (ofL [(0,(a0z x_1)),(1,(.lst 6 (list_2.map o8))),(2,(.bool back_3))]) [] _ from ?_);refine sr<|a0a (a1m (j:=0) (c:=(.agg [(.lst 1 (x_1.Tables.map (o7 2 o5))),(.int .i64 x_1.Next)])) rfl trivial rfl rfl)<|a0a (a1m (j:=1) (c:=(.agg [.nil,(.int .i64 0)])) rfl trivial rfl rfl)<|l9 (.int .i64 0) rfl<|dk<|sr<|?_
 obtain ⟨r_4,er5,hf⟩:=ob hf
 refine y5 (.agg [(.lst 1 (x_1.Tables.map (o7 2 o5))),(.int .i64 x_1.Next)]) rfl nle rfl<|a0a (d3s rfl (b3q _ _ er5) rfl (.refl _) rfl)<|a1p (a0i (v:=(.agg [(.lst 1 (r_4.Tables.map (o7 2 o5))),(.int .i64 r_4.Next)])) (y':=(.agg [(.lst 1 (r_4.Tables.map (o7 2 o5))),(.int .i64 r_4.Next)])) rfl rfl rfl trivial ⟨rfl,nle⟩ ⟨⟨rfl,trivial⟩,⟨⟨rfl,trivial⟩,trivial⟩⟩ rfl)<|dk<|o6<|sr<|l9 (.int .i64 0) rfl<|dk<|?_
 obtain ⟨p228,hb1,hf⟩:=ob hf
 refine a2q (X:={q:((List (List x8)) × Int) // p228 = .go q}) (fun q => ([(3,(.ptr 0 0 0)),(6,(.ptr 1 0 0))],[.box 2 (.agg [(.lst 1 (q.1.1.map (o7 2 o5))),(.int .i64 q.1.2)]),.box 2 (.agg [.nil,(.int .i64 0)])])) ?_ ?_
 ·refine a1d (X:={q:(Nat × (List (List x8)) × Int) // a2t back_3 list_2 (list_2.drop q.1) q.1 q.2.1 q.2.2 = some p228}) (fun q => ([(1,(.lst 6 (list_2.map o8))),(2,(.bool back_3)),(3,(.ptr 0 0 0)),(6,(.ptr 1 0 0)),(8,(.int .i64 (q.1.1:Int)))],[.box 2 (.agg [(.lst 1 (q.1.2.1.map (o7 2 o5))),(.int .i64 q.1.2.2)]),.box 2 (.agg [.nil,(.int .i64 0)])])) (fun q => list_2.length - q.1.1) ⟨(0,r_4.Tables,r_4.Next),hb1⟩ ⟨[],[0,1],_,_,rfl,rfl,⟨.refl _,⟨.refl _,⟨.refl _,⟨.refl _,⟨.refl _,trivial⟩⟩⟩⟩⟩,(.refl _)⟩ ?_
  rintro ⟨⟨i_151,x_152,x_153⟩,hc1⟩
  have hc1:a2t back_3 list_2 (list_2.drop i_151) i_151 x_152 x_153 = some p228:=hc1
  refine (show awp Try.prog false 0 _ (ofL [(1,(.lst 6 (list_2.map o8))),(2,(.bool back_3)),(3,(.ptr 0 0 0)),(6,(.ptr 1 0 0)),(8,(.int .i64 (i_151:Int)))]) [.box 2 (.agg [(.lst 1 (x_152.map (o7 2 o5))),(.int .i64 x_153)]),.box 2 (.agg [.nil,(.int .i64 0)])] _ from ?_)
  rcases a4u list_2 i_151 with ⟨hie231,hd234⟩ | ⟨hlt229,x_235,hx230,hd234⟩
  ·rw [hd234,a2t.eq_1] at hc1
   have hq233:=dlf hie231
   refine o6<|sr<|l9 (.int .i64 (i_151:Int)) rfl<|l9 (.lst 6 (list_2.map o8)) rfl<|a0w (a1b (enc:=o8) rfl) fun hl236 => y5 (.bool (decide ((i_151:Int) < (list_2.length:Int)))) rfl rfl rfl<|dk<|y7 rfl hq233<|a2e<|a2d<|a1l<|a2c<|?_;obtain rfl:=os hc1;exact a5g ⟨_,rfl⟩ ⟨[],[0,1],_,_,rfl,rfl,⟨.refl _,⟨.refl _,trivial⟩⟩,(.refl _)⟩
  ·rw [hd234,a2t.eq_2] at hc1
   have hq233:=dlt hlt229
   refine o6<|sr<|l9 (.int .i64 (i_151:Int)) rfl<|l9 (.lst 6 (list_2.map o8)) rfl<|a0w (a1b (enc:=o8) rfl) fun hl237 => y5 (.bool (decide ((i_151:Int) < (list_2.length:Int)))) rfl rfl rfl<|dk<|y8 rfl hq233<|a0e<|a0h<|o6<|a2u<|sr<|l9 (.lst 6 (list_2.map o8)) rfl<|l9 (.int .i64 (i_151:Int)) rfl<|a0a (a1h (enc:=o8) rfl rfl hx230)<|y5 (o8 x_235) rfl nle rfl<|a0a (a1m (j:=2) (c:=(.agg [(.int .i64 0),(.int .i64 0),(.int .i64 0),.nil,(.int .i64 0),.nil])) rfl trivial rfl rfl)<|a1p (a0i (v:=(.agg [(.int .i64 x_235.Table),(.int .i64 x_235.Id),(.int .i64 x_235.Old.Id),(.lst 1 (x_235.Old.Cells.map (o7 3 l7))),(.int .i64 x_235.New.Id),(.lst 1 (x_235.New.Cells.map (o7 3 l7)))])) (y':=(.agg [(.int .i64 x_235.Table),(.int .i64 x_235.Id),(.int .i64 x_235.Old.Id),(.lst 1 (x_235.Old.Cells.map (o7 3 l7))),(.int .i64 x_235.New.Id),(.lst 1 (x_235.New.Cells.map (o7 3 l7)))])) rfl rfl rfl trivial ⟨rfl,nle⟩ ⟨⟨rfl,trivial⟩,⟨⟨rfl,trivial⟩,⟨⟨rfl,trivial⟩,⟨⟨rfl,trivial⟩,⟨⟨rfl,trivial⟩,⟨⟨rfl,trivial⟩,trivial⟩⟩⟩⟩⟩⟩ rfl)<|?_
   refine dk<|o6<|?_
   obtain ⟨p248,hb2,hc1⟩:=ob hc1
   refine a1v ([(1,(.lst 6 (list_2.map o8))),(2,(.bool back_3)),(3,(.ptr 0 0 0)),(6,(.ptr 1 0 0)),(8,(.int .i64 (i_151:Int))),(9,(.ptr 2 0 0))],[.box 2 (.agg [(.lst 1 (x_152.map (o7 2 o5))),(.int .i64 x_153)]),.box 2 (.agg [.nil,(.int .i64 0)]),.box 6 (.agg [(.int .i64 p248.1),(.int .i64 p248.2.1),(.int .i64 p248.2.2.1),(.lst 1 (p248.2.2.2.1.map (o7 3 l7))),(.int .i64 p248.2.2.2.2.1),(.lst 1 (p248.2.2.2.2.2.map (o7 3 l7)))])]) ?_ ?_
   ·refine sr<|l9 (.bool back_3) rfl<|dk<|?_
    rcases oi hb2 with ⟨c249,hb2⟩ | ⟨c249,hb2⟩
    ·refine y8 rfl c249<|sr<|?_
     obtain ⟨x_251,ex252,hb2⟩:=ob hb2
     refine l9 (.lst 6 (list_2.map o8)) rfl<|l9 (.lst 6 (list_2.map o8)) rfl<|a0w (a1b (enc:=o8) rfl) fun hl250 => y5 (.int .i64 (w64 ((list_2.length:Int) - 1))) rfl rfl rfl<|l9 (.int .i64 (i_151:Int)) rfl<|y5 (.int .i64 (w64 ((w64 ((list_2.length:Int) - 1)) - (i_151:Int)))) rfl rfl rfl<|a0a (a5k (enc:=o8) rfl rfl (b5j ex252) (b5k ex252))<|y5 (o8 x_251) rfl nle rfl<|a1p (a0i (v:=(.agg [(.int .i64 x_251.Table),(.int .i64 x_251.Id),(.int .i64 x_251.Old.Id),(.lst 1 (x_251.Old.Cells.map (o7 3 l7))),(.int .i64 x_251.New.Id),(.lst 1 (x_251.New.Cells.map (o7 3 l7)))])) (y':=(.agg [(.int .i64 x_251.Table),(.int .i64 x_251.Id),(.int .i64 x_251.Old.Id),(.lst 1 (x_251.Old.Cells.map (o7 3 l7))),(.int .i64 x_251.New.Id),(.lst 1 (x_251.New.Cells.map (o7 3 l7)))])) rfl rfl rfl trivial ⟨rfl,nle⟩ ⟨⟨rfl,trivial⟩,⟨⟨rfl,trivial⟩,⟨⟨rfl,trivial⟩,⟨⟨rfl,trivial⟩,⟨⟨rfl,trivial⟩,⟨⟨rfl,trivial⟩,trivial⟩⟩⟩⟩⟩⟩ rfl)<|?_
     refine dk<|a0y<|y5 (.ptr 2 0 0) rfl trivial rfl<|y5 (.int .i64 x_251.Table) rfl nle rfl<|y5 (.ptr 2 0 1) rfl trivial rfl<|y5 (.int .i64 x_251.Id) rfl nle rfl<|y5 (.ptr 2 0 4) rfl trivial rfl<|y5 (.agg [(.int .i64 x_251.New.Id),(.lst 1 (x_251.New.Cells.map (o7 3 l7)))]) rfl nle rfl<|y5 (.ptr 2 0 2) rfl trivial rfl<|y5 (.agg [(.int .i64 x_251.Old.Id),(.lst 1 (x_251.Old.Cells.map (o7 3 l7)))]) rfl nle rfl<|y5 (.agg [(.int .i64 x_251.Table),(.int .i64 x_251.Id),(.int .i64 x_251.New.Id),(.lst 1 (x_251.New.Cells.map (o7 3 l7))),(.int .i64 x_251.Old.Id),(.lst 1 (x_251.Old.Cells.map (o7 3 l7)))]) rfl ⟨⟨rfl,nle,trivial⟩,⟨⟨rfl,nle,trivial⟩,⟨⟨rfl,nle,trivial⟩,⟨⟨rfl,nle,trivial⟩,trivial⟩⟩⟩⟩ rfl<|?_
     refine a1p (a0i (v:=(.agg [(.int .i64 x_251.Table),(.int .i64 x_251.Id),(.int .i64 x_251.New.Id),(.lst 1 (x_251.New.Cells.map (o7 3 l7))),(.int .i64 x_251.Old.Id),(.lst 1 (x_251.Old.Cells.map (o7 3 l7)))])) (y':=(.agg [(.int .i64 x_251.Table),(.int .i64 x_251.Id),(.int .i64 x_251.New.Id),(.lst 1 (x_251.New.Cells.map (o7 3 l7))),(.int .i64 x_251.Old.Id),(.lst 1 (x_251.Old.Cells.map (o7 3 l7)))])) rfl rfl rfl trivial ⟨rfl,nle⟩ ⟨⟨rfl,trivial⟩,⟨⟨rfl,trivial⟩,⟨⟨rfl,trivial⟩,⟨⟨rfl,trivial⟩,⟨⟨rfl,trivial⟩,⟨⟨rfl,trivial⟩,trivial⟩⟩⟩⟩⟩⟩ rfl)<|a0n<|?_;obtain rfl:=os hb2;exact ⟨[],[0,1,2],_,_,rfl,rfl,⟨.refl _,⟨.refl _,⟨.refl _,⟨.refl _,⟨.refl _,⟨.refl _,trivial⟩⟩⟩⟩⟩⟩,(.refl _)⟩
    ·refine y7 rfl (bf c249)<|a0e<|?_;obtain rfl:=os hb2;exact ⟨[],[0,1,2],_,_,rfl,rfl,⟨.refl _,⟨.refl _,⟨.refl _,⟨.refl _,⟨.refl _,⟨.refl _,trivial⟩⟩⟩⟩⟩⟩,(.refl _)⟩
   ·obtain ⟨x_242,x_243,x_244,x_245,x_246,x_247⟩:=p248
    refine o6<|o6<|?_
    obtain ⟨s57_261,hb2,hc1⟩:=ob hc1
    refine a1v ([(1,(.lst 6 (list_2.map o8))),(2,(.bool back_3)),(3,(.ptr 0 0 0)),(6,(.ptr 1 0 0)),(8,(.int .i64 (i_151:Int))),(9,(.ptr 2 0 0)),(57,(.bool s57_261))],[.box 2 (.agg [(.lst 1 (x_152.map (o7 2 o5))),(.int .i64 x_153)]),.box 2 (.agg [.nil,(.int .i64 0)]),.box 6 (.agg [(.int .i64 x_242),(.int .i64 x_243),(.int .i64 x_244),(.lst 1 (x_245.map (o7 3 l7))),(.int .i64 x_246),(.lst 1 (x_247.map (o7 3 l7)))])]) ?_ ?_
    ·refine a0y<|y5 (.ptr 2 0 1) rfl trivial rfl<|y5 (.int .i64 x_243) rfl nle rfl<|y5 (.bool (decide (x_243 < 1))) rfl rfl rfl<|l9 (.bool (decide (x_243 < 1))) rfl<|?_
     rcases oi hb2 with ⟨c264,hb2⟩ | ⟨c264,hb2⟩
     ·refine a4i (s:=43) (b:=true) rfl c264<|a0t rfl rfl<|a0t rfl rfl<|a0t rfl rfl<|a0t rfl rfl<|a0t rfl rfl<|a0t rfl rfl<|a0t rfl rfl<|a0t rfl rfl<|y5 (.bool true) rfl trivial rfl<|l9 (.bool true) rfl<|a0t rfl rfl<|a0t rfl rfl<|a0t rfl rfl<|y5 (.bool true) rfl trivial rfl<|a0n<|?_;obtain rfl:=os hb2;exact ⟨[],[0,1,2],_,_,rfl,rfl,⟨.refl _,⟨.refl _,⟨.refl _,⟨.refl _,⟨.refl _,⟨.refl _,⟨.refl _,trivial⟩⟩⟩⟩⟩⟩⟩,(.refl _)⟩
     ·refine a4i (s:=43) (b:=false) rfl (bf c264)<|s_on rfl<|y5 (.ptr 2 0 0) rfl trivial rfl<|s_on rfl<|y5 (.int .i64 x_242) rfl nle rfl<|s_on rfl<|y5 (.ptr 0 0 0) rfl trivial rfl<|s_on rfl<|y5 (.lst 1 (x_152.map (o7 2 o5))) rfl nle rfl<|s_on rfl<|a0w (a1b (enc:=(o7 2 o5)) rfl) fun hl265 => s_on rfl<|y5 (.int .i64 (w64 ((x_152.length:Int) - 1))) rfl rfl rfl<|s_on rfl<|?_
      obtain ⟨r_266,er267,hb2⟩:=ob hb2
      refine a0a (a1o (c8r _ _ _ _ er267) rfl (.refl _) rfl)<|s_on rfl<|y5 (.bool (!r_266)) rfl trivial rfl<|y5 (.bool (!r_266)) rfl trivial rfl<|l9 (.bool (!r_266)) rfl<|?_
      rcases oi hb2 with ⟨c268,hb2⟩ | ⟨c268,hb2⟩
      ·refine a4i (s:=53) (b:=true) rfl c268<|a0t rfl rfl<|a0t rfl rfl<|a0t rfl rfl<|y5 (.bool true) rfl trivial rfl<|a0n<|?_;obtain rfl:=os hb2;exact ⟨[],[0,1,2],_,_,rfl,rfl,⟨.refl _,⟨.refl _,⟨.refl _,⟨.refl _,⟨.refl _,⟨.refl _,⟨.refl _,trivial⟩⟩⟩⟩⟩⟩⟩,(.refl _)⟩
      ·refine a4i (s:=53) (b:=false) rfl (bf c268)<|s_on rfl<|y5 (.agg [(.int .i64 x_242),(.int .i64 x_243),(.int .i64 x_244),(.lst 1 (x_245.map (o7 3 l7))),(.int .i64 x_246),(.lst 1 (x_247.map (o7 3 l7)))]) rfl nle rfl<|s_on rfl<|?_
       obtain ⟨r_269,er270,hb2⟩:=ob hb2
       refine a0a (a1o (b3b _ _ er270) rfl (.refl _) rfl)<|s_on rfl<|y5 (.bool (r_269 == 0)) rfl rfl rfl<|y5 (.bool (r_269 == 0)) rfl trivial rfl<|a0n<|?_;obtain rfl:=os hb2;exact ⟨[],[0,1,2],_,_,rfl,rfl,⟨.refl _,⟨.refl _,⟨.refl _,⟨.refl _,⟨.refl _,⟨.refl _,⟨.refl _,trivial⟩⟩⟩⟩⟩⟩⟩,(.refl _)⟩
    ·rcases oi hc1 with ⟨c271,hc1⟩ | ⟨c271,hc1⟩
     ·refine y8 rfl c271<|sr<|y5 (.agg [(.lst 1 (x_152.map (o7 2 o5))),(.int .i64 x_153)]) rfl nle rfl<|a1p (a0i (v:=(.agg [(.lst 1 (x_152.map (o7 2 o5))),(.int .i64 x_153)])) (y':=(.agg [(.lst 1 (x_152.map (o7 2 o5))),(.int .i64 x_153)])) rfl rfl rfl trivial ⟨rfl,nle⟩ ⟨⟨rfl,trivial⟩,⟨⟨rfl,trivial⟩,trivial⟩⟩ rfl)<|l9 (.int .i64 1) rfl<|dk<|a0f<|?_;obtain rfl:=os hc1;obtain rfl:=os hf;exact b4k ⟨nle,⟨trivial,trivial⟩⟩ rfl (.refl _)
     ·refine y7 rfl (bf c271)<|a0e<|a0h<|o6<|sr<|y5 (.ptr 0 0 0) rfl trivial rfl<|y5 (.lst 1 (x_152.map (o7 2 o5))) rfl nle rfl<|y5 (.ptr 2 0 0) rfl trivial rfl<|y5 (.int .i64 x_242) rfl nle rfl<|?_
      obtain ⟨x_272,ex273,hc1⟩:=ob hc1
      refine a0a (a5k (enc:=(o7 2 o5)) rfl rfl (b5j ex273) (b5k ex273))<|y5 (.lst 2 (x_272.map o5)) rfl ⟨rfl,rfl⟩ rfl<|y5 (.ptr 2 0 1) rfl trivial rfl<|y5 (.int .i64 x_243) rfl nle rfl<|y5 (.ptr 2 0 2) rfl trivial rfl<|y5 (.agg [(.int .i64 x_244),(.lst 1 (x_245.map (o7 3 l7)))]) rfl nle rfl<|?_
      obtain ⟨r_274,er275,hc1⟩:=ob hc1
      refine a5c (d3s rfl (c6e _ _ _ er275) rfl (.refl _) rfl) a6y trivial ?_
      obtain ⟨r_276,er277,hc1⟩:=ob hc1
      refine a5c (a1o (b9p _ _ _ er277) rfl (.refl _) rfl) a6y trivial<|y5 (.bool (!r_276)) rfl trivial rfl<|dk<|?_
      rcases oi hc1 with ⟨c278,hc1⟩ | ⟨c278,hc1⟩
      ·refine y8 rfl c278<|sr<|y5 (.agg [(.lst 1 (x_152.map (o7 2 o5))),(.int .i64 x_153)]) rfl nle rfl<|a1p (a0i (v:=(.agg [(.lst 1 (x_152.map (o7 2 o5))),(.int .i64 x_153)])) (y':=(.agg [(.lst 1 (x_152.map (o7 2 o5))),(.int .i64 x_153)])) rfl rfl rfl trivial ⟨rfl,nle⟩ ⟨⟨rfl,trivial⟩,⟨⟨rfl,trivial⟩,trivial⟩⟩ rfl)<|l9 (.int .i64 13) rfl<|dk<|a0f<|?_;obtain rfl:=os hc1;obtain rfl:=os hf;exact b4k ⟨nle,⟨trivial,trivial⟩⟩ rfl (.refl _)
      ·refine y7 rfl (bf c278)<|a0e<|a0h<|o6<|sr<|?_
       obtain ⟨r_279,er280,hc1⟩:=ob hc1
       refine y5 (.agg [(.int .i64 x_242),(.int .i64 x_243),(.int .i64 x_244),(.lst 1 (x_245.map (o7 3 l7))),(.int .i64 x_246),(.lst 1 (x_247.map (o7 3 l7)))]) rfl nle rfl<|a0a (a1o (b3b _ _ er280) rfl (.refl _) rfl)<|y5 (.bool (r_279 == 2)) rfl rfl rfl<|dk<|?_
       rcases oi hc1 with ⟨c281,hc1⟩ | ⟨c281,hc1⟩
       ·refine y8 rfl c281<|sr<|y5 (.agg [(.lst 1 (x_152.map (o7 2 o5))),(.int .i64 x_153)]) rfl nle rfl<|y5 (.ptr 2 0 0) rfl trivial rfl<|y5 (.int .i64 x_242) rfl nle rfl<|y5 (.ptr 0 0 0) rfl trivial rfl<|y5 (.lst 1 (x_152.map (o7 2 o5))) rfl nle rfl<|y5 (.ptr 2 0 0) rfl trivial rfl<|y5 (.int .i64 x_242) rfl nle rfl<|?_
        obtain ⟨x_282,ex283,hc1⟩:=ob hc1
        refine a0a (a5k (enc:=(o7 2 o5)) rfl rfl (b5j ex283) (b5k ex283))<|y5 (.lst 2 (x_282.map o5)) rfl ⟨rfl,rfl⟩ rfl<|y5 (.ptr 2 0 1) rfl trivial rfl<|y5 (.int .i64 x_243) rfl nle rfl<|?_
        obtain ⟨r_284,er285,hc1⟩:=ob hc1
        refine a5c (a1o (b5a _ _ _ er285) rfl (.refl _) rfl) a6y trivial ?_
        obtain ⟨r_286,er287,hc1⟩:=ob hc1
        refine a5c (c8l rfl (c5a _ _ _ _ er287) rfl (.refl _) rfl rfl) a6y trivial<|b5u (a0i (v:=(.agg [(.lst 1 (r_286.Tables.map (o7 2 o5))),(.int .i64 r_286.Next)])) (y':=(.agg [(.lst 1 (r_286.Tables.map (o7 2 o5))),(.int .i64 r_286.Next)])) rfl rfl rfl trivial ⟨rfl,nle⟩ ⟨⟨rfl,trivial⟩,⟨⟨rfl,trivial⟩,trivial⟩⟩ rfl) trivial trivial<|dk<|a2e<|a2d<|a2c<|?_;refine a0h<|a0y<|l9 (.int .i64 (i_151:Int)) rfl<|y5 (.int .i64 (w64 ((i_151:Int) + 1))) rfl rfl rfl<|l9 (.int .i64 (w64 ((i_151:Int) + 1))) rfl<|a0n<|?_;exact a1j ⟨((i_151 + 1),r_286.Tables,r_286.Next),hc1⟩ (mul hlt229) ⟨[],[0,1],_,_,rfl,rfl,⟨.refl _,⟨.refl _,⟨.refl _,⟨.refl _,⟨.of_eq (congrArg (AV.int _) (a1k hlt229 hl237)),trivial⟩⟩⟩⟩⟩,(.refl _)⟩
       ·refine y7 rfl (bf c281)<|a0e<|a0h<|o6<|o6<|?_
        obtain ⟨s101_294,hb2,hc1⟩:=ob hc1
        refine a1v ([(1,(.lst 6 (list_2.map o8))),(2,(.bool back_3)),(3,(.ptr 0 0 0)),(6,(.ptr 1 0 0)),(8,(.int .i64 (i_151:Int))),(9,(.ptr 2 0 0)),(101,(.bool s101_294))],[.box 2 (.agg [(.lst 1 (x_152.map (o7 2 o5))),(.int .i64 x_153)]),.box 2 (.agg [.nil,(.int .i64 0)]),.box 6 (.agg [(.int .i64 x_242),(.int .i64 x_243),(.int .i64 x_244),(.lst 1 (x_245.map (o7 3 l7))),(.int .i64 x_246),(.lst 1 (x_247.map (o7 3 l7)))])]) ?_ ?_
        ·refine a0y<|y5 (.agg [(.int .i64 x_242),(.int .i64 x_243),(.int .i64 x_244),(.lst 1 (x_245.map (o7 3 l7))),(.int .i64 x_246),(.lst 1 (x_247.map (o7 3 l7)))]) rfl nle rfl<|?_
         obtain ⟨r_296,er297,hb2⟩:=ob hb2
         refine a0a (a1o (b3b _ _ er297) rfl (.refl _) rfl)<|y5 (.bool (r_296 == 1)) rfl rfl rfl<|l9 (.bool (r_296 == 1)) rfl<|?_
         rcases oi hb2 with ⟨c298,hb2⟩ | ⟨c298,hb2⟩
         ·refine a4i (s:=92) (b:=true) rfl c298<|s_on rfl<|y5 (.ptr 0 0 0) rfl trivial rfl<|s_on rfl<|y5 (.lst 1 (x_152.map (o7 2 o5))) rfl nle rfl<|s_on rfl<|y5 (.ptr 2 0 0) rfl trivial rfl<|s_on rfl<|y5 (.int .i64 x_242) rfl nle rfl<|s_on rfl<|?_
          obtain ⟨x_299,ex300,hb2⟩:=ob hb2
          refine a0a (a5k (enc:=(o7 2 o5)) rfl rfl (b5j ex300) (b5k ex300))<|s_on rfl<|y5 (.lst 2 (x_299.map o5)) rfl ⟨rfl,rfl⟩ rfl<|s_on rfl<|a0w (a1b (enc:=o5) rfl) fun hl301 => s_on rfl<|y5 (.bool (decide ((x_299.length:Int) ≥ 12))) rfl rfl rfl<|y5 (.bool (decide ((x_299.length:Int) ≥ 12))) rfl trivial rfl<|a0n<|?_;obtain rfl:=os hb2;exact ⟨[],[0,1,2],_,_,rfl,rfl,⟨.refl _,⟨.refl _,⟨.refl _,⟨.refl _,⟨.refl _,⟨.refl _,⟨.refl _,trivial⟩⟩⟩⟩⟩⟩⟩,(.refl _)⟩
         ·refine a4i (s:=92) (b:=false) rfl (bf c298)<|a0t rfl rfl<|a0t rfl rfl<|a0t rfl rfl<|a0t rfl rfl<|a0t rfl rfl<|a0t rfl rfl<|a0t rfl rfl<|a0t rfl rfl<|y5 (.bool false) rfl trivial rfl<|a0n<|?_;obtain rfl:=os hb2;exact ⟨[],[0,1,2],_,_,rfl,rfl,⟨.refl _,⟨.refl _,⟨.refl _,⟨.refl _,⟨.refl _,⟨.refl _,⟨.refl _,trivial⟩⟩⟩⟩⟩⟩⟩,(.refl _)⟩
        ·rcases oi hc1 with ⟨c302,hc1⟩ | ⟨c302,hc1⟩
         ·refine y8 rfl c302<|sr<|y5 (.agg [(.lst 1 (x_152.map (o7 2 o5))),(.int .i64 x_153)]) rfl nle rfl<|a1p (a0i (v:=(.agg [(.lst 1 (x_152.map (o7 2 o5))),(.int .i64 x_153)])) (y':=(.agg [(.lst 1 (x_152.map (o7 2 o5))),(.int .i64 x_153)])) rfl rfl rfl trivial ⟨rfl,nle⟩ ⟨⟨rfl,trivial⟩,⟨⟨rfl,trivial⟩,trivial⟩⟩ rfl)<|l9 (.int .i64 7) rfl<|dk<|a0f<|?_;obtain rfl:=os hc1;obtain rfl:=os hf;exact b4k ⟨nle,⟨trivial,trivial⟩⟩ rfl (.refl _)
         ·refine y7 rfl (bf c302)<|a0e<|a0h<|sr<|?_
          obtain ⟨r_303,er304,hc1⟩:=ob hc1
          refine y5 (.agg [(.lst 1 (x_152.map (o7 2 o5))),(.int .i64 x_153)]) rfl nle rfl<|y5 (.ptr 2 0 0) rfl trivial rfl<|y5 (.int .i64 x_242) rfl nle rfl<|y5 (.ptr 2 0 4) rfl trivial rfl<|y5 (.agg [(.int .i64 x_246),(.lst 1 (x_247.map (o7 3 l7)))]) rfl nle rfl<|a0a (c8l rfl (c6f _ _ _ _ er304) rfl (.refl _) rfl rfl)<|a1p (a0i (v:=(.agg [(.lst 1 (r_303.Tables.map (o7 2 o5))),(.int .i64 r_303.Next)])) (y':=(.agg [(.lst 1 (r_303.Tables.map (o7 2 o5))),(.int .i64 r_303.Next)])) rfl rfl rfl trivial ⟨rfl,nle⟩ ⟨⟨rfl,trivial⟩,⟨⟨rfl,trivial⟩,trivial⟩⟩ rfl)<|dk<|a0y<|y5 (.ptr 0 0 1) rfl trivial rfl<|y5 (.int .i64 r_303.Next) rfl nle rfl<|?_
          refine y5 (.ptr 2 0 1) rfl trivial rfl<|y5 (.int .i64 x_243) rfl nle rfl<|y5 (.int .i64 (w64 (x_243 + 1))) rfl rfl rfl<|y5 (.int .i64 (if w64 (x_243 + 1) > r_303.Next then w64 (x_243 + 1) else r_303.Next)) rfl rfl rfl<|y5 (.ptr 0 0 1) rfl trivial rfl<|a1p (a0i (v:=(.int .i64 (if w64 (x_243 + 1) > r_303.Next then w64 (x_243 + 1) else r_303.Next))) (y':=(.agg [(.lst 1 (r_303.Tables.map (o7 2 o5))),(.int .i64 (if w64 (x_243 + 1) > r_303.Next then w64 (x_243 + 1) else r_303.Next))])) rfl rfl rfl trivial ⟨rfl,nle⟩ ⟨⟨rfl,trivial⟩,trivial⟩ rfl)<|a0n<|a2r<|a0h<|a0y<|l9 (.int .i64 (i_151:Int)) rfl<|y5 (.int .i64 (w64 ((i_151:Int) + 1))) rfl rfl rfl<|?_
          refine l9 (.int .i64 (w64 ((i_151:Int) + 1))) rfl<|a0n<|?_;exact a1j ⟨((i_151 + 1),r_303.Tables,(if w64 (x_243 + 1) > r_303.Next then w64 (x_243 + 1) else r_303.Next)),hc1⟩ (mul hlt229) ⟨[],[0,1],_,_,rfl,rfl,⟨.refl _,⟨.refl _,⟨.refl _,⟨.refl _,⟨.of_eq (congrArg (AV.int _) (a1k hlt229 hl237)),trivial⟩⟩⟩⟩⟩,(.refl _)⟩
 ·rintro ⟨⟨x_226,x_227⟩,rfl⟩
  refine sr<|y5 (.agg [(.lst 1 (x_226.map (o7 2 o5))),(.int .i64 x_227)]) rfl nle rfl<|a1p (a0i (v:=(.agg [(.lst 1 (x_226.map (o7 2 o5))),(.int .i64 x_227)])) (y':=(.agg [(.lst 1 (x_226.map (o7 2 o5))),(.int .i64 x_227)])) rfl rfl rfl trivial ⟨rfl,nle⟩ ⟨⟨rfl,trivial⟩,⟨⟨rfl,trivial⟩,trivial⟩⟩ rfl)<|l9 (.int .i64 0) rfl<|dk<|a0f<|?_;obtain rfl:=os hf;exact b4k ⟨nle,⟨trivial,trivial⟩⟩ rfl (.refl _)

/- spec.UndoChanges -/
def c29:a0r :=
 (.seq (.reg (tq 2 (.box 2 (.t 0)) (tq 4 (.box 2 (.c (.agg [.nil,(.int .i64 0)]))) (tm 5 (.c (.int .i64 0)) .done))))
 (.seq (.seq (.reg (tm 7 (.t 1) (tq 8 (.len (.t 7)) (tq 9 (.bin .gtr (.t 8) (.c (.int .i64 4096))) .done))))
 (.cond (.t 9) (.seq (.reg (tq 10 (.build [.nil,(.int .i64 0)] []) (.q ⟨none,none,.store 2 (.t 4) (.t 10)⟩
 (tm 5 (.c (.int .i64 2)) .done))))
 .ret)
 .skip))
 (.seq (.seq (.reg (tq 11 (.load 2 true (.t 2)) (tm 12 (.t 1) (tq 13 (.call 57 [(.t 11),(.t 12)]) (tm 6 (.t 13) .done)))))
 (.seq (.reg (tm 14 (.t 6) (tq 15 (.bin .neq (.t 14) (.c (.int .i64 0))) .done)))
 (.cond (.t 15) (.seq (.reg (tq 16 (.build [.nil,(.int .i64 0)] []) (tm 17 (.t 6) (.q ⟨none,none,.store 2 (.t 4) (.t 16)⟩
 (tm 5 (.t 17) .done)))))
 .ret)
 .skip)))
 (.seq (.reg (tq 18 (.load 2 true (.t 2)) (tm 19 (.t 1) (tq 20 (.call 58 [(.t 18),(.t 19),(.c (.bool true))]) (tq 21 (.extract 0 (.t 20)) (tq 22 (.extract 1 (.t 20)) (.q ⟨none,none,.store 2 (.t 4) (.t 21)⟩
 (tm 5 (.t 22) .done))))))))
 .ret))))
theorem e6c:a1g Try.prog Try.f29 = some (c29.erase,[.load 2 true (.t 4),.mov (.t 5)],23):=by kernel_rfl
def a6z (x_1:a0l) (list_2:(List y9)):Option (a0l × Int) :=
    if (decide ((list_2.length:Int) > 4096)) then
    some ((⟨[],0⟩:a0l),2)
    else
    (b3i x_1 list_2).bind fun r_5 =>
    if (r_5 != 0) then
    some ((⟨[],0⟩:a0l),r_5)
    else
    (b1p x_1 list_2 true).bind fun r_8 =>
    some (r_8.1,r_8.2)
theorem b8n (x_1:a0l) (list_2:(List y9)) (r:(a0l × Int)) (hf:a6z x_1 list_2 = some r):a0b Try.prog 29 .weak [(a0z x_1),(.lst 6 (list_2.map o8))] (.tup [(a0z r.1),(.int .i64 r.2)]):=by
 refine a0b.of_awp mixed Try.func29 e6c nle ?_;rw [a0q];unfold a6z at hf;unfold c29;refine (show awp Try.prog false 0 _ (ofL [(0,(a0z x_1)),(1,(.lst 6 (list_2.map o8)))]) [] _ from ?_);refine sr<|a0a (a1m (j:=0) (c:=(.agg [(.lst 1 (x_1.Tables.map (o7 2 o5))),(.int .i64 x_1.Next)])) rfl trivial rfl rfl)<|a0a (a1m (j:=1) (c:=(.agg [.nil,(.int .i64 0)])) rfl trivial rfl rfl)<|l9 (.int .i64 0) rfl<|dk<|o6<|sr<|l9 (.lst 6 (list_2.map o8)) rfl<|a0w (a1b (enc:=o8) rfl) fun hl3 => y5 (.bool (decide ((list_2.length:Int) > 4096))) rfl rfl rfl<|dk<|?_
 rcases oi hf with ⟨c4,hf⟩ | ⟨c4,hf⟩
 ·refine y8 rfl c4<|sr<|y5 (.agg [.nil,(.int .i64 0)]) rfl trivial rfl<|a1p (a0i (v:=(.agg [.nil,(.int .i64 0)])) (y':=(.agg [.nil,(.int .i64 0)])) rfl rfl rfl trivial ⟨rfl,nle⟩ ⟨⟨rfl,trivial⟩,⟨⟨rfl,trivial⟩,trivial⟩⟩ rfl)<|l9 (.int .i64 2) rfl<|dk<|a0f<|?_;obtain rfl:=os hf;exact b4k ⟨nle,⟨trivial,trivial⟩⟩ rfl (.tup (.cons (.agg (.cons (.nil _) (.cons (.refl _) .nil))) (.cons (.refl _) .nil)))
 ·refine y7 rfl (bf c4)<|a0e<|a0h<|o6<|sr<|?_
  obtain ⟨r_5,er6,hf⟩:=ob hf
  refine y5 (.agg [(.lst 1 (x_1.Tables.map (o7 2 o5))),(.int .i64 x_1.Next)]) rfl nle rfl<|l9 (.lst 6 (list_2.map o8)) rfl<|a0a (a1o (c6d _ _ _ er6) rfl (.refl _) rfl)<|l9 (.int .i64 r_5) rfl<|dk<|sr<|l9 (.int .i64 r_5) rfl<|y5 (.bool (r_5 != 0)) rfl rfl rfl<|dk<|?_
  rcases oi hf with ⟨c7,hf⟩ | ⟨c7,hf⟩
  ·refine y8 rfl c7<|sr<|y5 (.agg [.nil,(.int .i64 0)]) rfl trivial rfl<|l9 (.int .i64 r_5) rfl<|a1p (a0i (v:=(.agg [.nil,(.int .i64 0)])) (y':=(.agg [.nil,(.int .i64 0)])) rfl rfl rfl trivial ⟨rfl,nle⟩ ⟨⟨rfl,trivial⟩,⟨⟨rfl,trivial⟩,trivial⟩⟩ rfl)<|l9 (.int .i64 r_5) rfl<|dk<|a0f<|?_;obtain rfl:=os hf;exact b4k ⟨nle,⟨trivial,trivial⟩⟩ rfl (.tup (.cons (.agg (.cons (.nil _) (.cons (.refl _) .nil))) (.cons (.refl _) .nil)))
  ·refine y7 rfl (bf c7)<|a0e<|a0h<|sr<|?_
   obtain ⟨r_8,er9,hf⟩:=ob hf
   refine y5 (.agg [(.lst 1 (x_1.Tables.map (o7 2 o5))),(.int .i64 x_1.Next)]) rfl nle rfl<|l9 (.lst 6 (list_2.map o8)) rfl<|a0a (c8l rfl (c2t _ _ _ _ er9) rfl (.refl _) rfl rfl)<|y5 (a0z r_8.1) rfl nle rfl<|y5 (.int .i64 r_8.2) rfl nle rfl<|a1p (a0i (v:=(.agg [(.lst 1 (r_8.1.Tables.map (o7 2 o5))),(.int .i64 r_8.1.Next)])) (y':=(.agg [(.lst 1 (r_8.1.Tables.map (o7 2 o5))),(.int .i64 r_8.1.Next)])) rfl rfl rfl trivial ⟨rfl,nle⟩ ⟨⟨rfl,trivial⟩,⟨⟨rfl,trivial⟩,trivial⟩⟩ rfl)<|l9 (.int .i64 r_8.2) rfl<|dk<|a0f<|?_;obtain rfl:=os hf;exact b4k ⟨nle,⟨trivial,trivial⟩⟩ rfl (.refl _)

/- impl.isList[impl.Change] -/
def c61:a0r :=
 (.seq (.reg (tm 2 (.c (.bool false)) .done))
 (.seq (.reg (tm 3 (.t 0) (tq 4 (.len (.t 3)) (tq 5 (.bin .leq (.t 4) (.c (.int .i64 4096))) (tm 2 (.t 5) .done)))))
 .ret))
theorem e6d:a1g Try.prog Try.f61 = some (c61.erase,[.mov (.t 2)],6):=by kernel_rfl
def a5l (list_1:(List y9)):Option Bool :=
    some (decide ((list_1.length:Int) ≤ 4096))
theorem a9g (list_1:(List y9)) (r:Bool) (hf:a5l list_1 = some r):a0b Try.prog 61 .flat [(.lst 6 (list_1.map o8))] (.bool r):=by
  refine a0b.of_awp mixed Try.func61 e6d nle ?_
  rw [a0q]
  unfold a5l at hf
  unfold c61
  refine (show awp Try.prog false 0 _ (ofL [(0,(.lst 6 (list_1.map o8)))]) [] _ from ?_)
  refine o6 ?_
  refine a0y ?_
  refine a0a (b2z (.bool false) rfl) ?_
  refine a0n ?_
  refine a0h ?_
  refine o6 ?_
  refine a0y ?_
  refine a0a (b2z (.lst 6 (list_1.map o8)) rfl) ?_
  refine a0w (a1b (enc:=o8) rfl) fun hl2 => ?_
  refine a0a (o_q (.bool (decide ((list_1.length:Int) ≤ 4096))) rfl rfl rfl) ?_
  refine a0a (b2z (.bool (decide ((list_1.length:Int) ≤ 4096))) rfl) ?_
  refine a0n ?_
  refine a0h ?_
  refine a0f ?_
  obtain rfl:=os hf
  exact a0k ⟨trivial,trivial⟩ rfl (.refl _)

/- slices.IndexFunc[[][]impl.Row,[]impl.Row] -/
def c91:a0r :=
 (.seq (.reg (tm 4 (.c (.int .i64 0)) .done))
 (.seq (.seq (.reg (tm 6 (.t 0) (tq 7 (.len (.t 6)) (tm 8 (.c (.int .i64 0)) .done))))
 (.block 0 (.loop (.seq (.reg (tq 9 (.bin .lss (.t 8) (.t 7)) .done))
 (.seq (.cond (.t 9) .skip
 (.exit 0))
 (.seq (.block 1 (.seq (.reg (tm 10 (.t 8) (tm 5 (.t 10) .done)))
 (.seq (.reg (tm 11 (.t 1) (tm 12 (.t 0) (tm 13 (.t 5) (tq 14 (.iaddr 1 (.t 12) (.t 13)) (tq 15 (.load 1 false (.t 14)) (tq 16 (.calv (.t 11) [(.t 15)]) .done)))))))
 (.cond (.t 16) (.seq (.reg (tm 17 (.t 5) (tm 4 (.t 17) .done)))
 .ret)
 .skip))))
 (.reg (tq 18 (.bin .add (.t 8) (.c (.int .i64 1))) (tm 8 (.t 18) .done)))))))))
 (.cut (.seq (.reg (tq 4 (.mov (.c (.int .i64 (-1)))) .done))
 .ret))))
theorem e6e:a1g Try.prog Try.f91 = some (c91.erase,[.mov (.t 4)],19):=by kernel_rfl
def a0s (f_2:((List x8) → Option Bool)):List (List x8) → Nat → Option (Fl Int Unit)
  | [],s8_17 =>
    some (.go ())
  | x_31 :: xs,s8_17 =>
    (f_2 x_31).bind fun r_32 =>
    if r_32 then
    some (.ret (s8_17:Int))
    else
    a0s f_2 xs (s8_17 + 1)

def a2j (s_1:(List (List x8))) (f_2:((List x8) → Option Bool)):Option Int :=
    (a0s f_2 s_1 0).bind fun q => (match q with
    | .ret r => some r
    | .go _ =>
    some (-1))
theorem a8x (s_1:(List (List x8))) (f_2:((List x8) → Option Bool)) (r:Int) (hf:a2j s_1 f_2 = some r) (kf_f_2:Nat) (cf_f_2:List AV) (okf_f_2:d2e Try.prog kf_f_2 = true) (hcf_f_2:∀ h p,a3y h p cf_f_2 = some cf_f_2) (hrf_f_2:∀ f,a7j f cf_f_2 = cf_f_2) (hpf_f_2:∀ a0 r,f_2 a0 = some r → a0b Try.prog kf_f_2 .flat ([(.lst 2 (a0.map o5))] ++ cf_f_2) (.bool r)):a0b Try.prog 91 .flat [(.lst 1 (s_1.map (o7 2 o5))),(.fn kf_f_2 cf_f_2)] (.int .i64 r):=by
 refine a0b.of_awp mixed Try.func91 e6e nle ?_;rw [a0q];unfold a2j at hf;unfold c91;refine (show awp Try.prog false 0 _ (ofL [(0,(.lst 1 (s_1.map (o7 2 o5)))),(1,(.fn kf_f_2 cf_f_2))]) [] _ from ?_);refine sr<|l9 (.int .i64 0) rfl<|dk<|o6<|sr<|l9 (.lst 1 (s_1.map (o7 2 o5))) rfl<|a0w (a1b (enc:=(o7 2 o5)) rfl) fun hl3 => l9 (.int .i64 0) rfl<|dk<|?_
 obtain ⟨p24,hb1,hf⟩:=ob hf
 refine a2q (X:={q:Unit // p24 = .go q}) (fun q => ([],[])) ?_ ?_
 ·refine a1d (X:={q:Nat // a0s f_2 (s_1.drop q) q = some p24}) (fun q => ([(0,(.lst 1 (s_1.map (o7 2 o5)))),(1,(.fn kf_f_2 cf_f_2)),(7,(.int .i64 (s_1.length:Int))),(8,(.int .i64 (q.1:Int)))],[])) (fun q => s_1.length - q.1) ⟨0,hb1⟩ ⟨[],[],_,_,rfl,rfl,⟨.refl _,⟨.of_eq (congrArg (AV.fn _) (hrf_f_2 _)),⟨.refl _,⟨.refl _,trivial⟩⟩⟩⟩,(.refl _)⟩ ?_
  rintro ⟨s8_17,hc1⟩
  have hc1:a0s f_2 (s_1.drop s8_17) s8_17 = some p24:=hc1
  refine (show awp Try.prog false 0 _ (ofL [(0,(.lst 1 (s_1.map (o7 2 o5)))),(1,(.fn kf_f_2 cf_f_2)),(7,(.int .i64 (s_1.length:Int))),(8,(.int .i64 (s8_17:Int)))]) [] _ from ?_)
  rcases a4u s_1 s8_17 with ⟨hie27,hd30⟩ | ⟨hlt25,x_31,hx26,hd30⟩
  ·rw [hd30,a0s.eq_1] at hc1
   have hq29:=dlf hie27
   refine sr<|y5 (.bool (decide ((s8_17:Int) < (s_1.length:Int)))) rfl rfl rfl<|dk<|o6<|y7 rfl hq29<|a2e<|a2d<|a1l<|a2c<|?_;obtain rfl:=os hc1;exact a5g ⟨_,rfl⟩ ⟨[],[],_,_,rfl,rfl,trivial,(.refl _)⟩
  ·rw [hd30,a0s.eq_2] at hc1
   have hq29:=dlt hlt25
   refine sr<|y5 (.bool (decide ((s8_17:Int) < (s_1.length:Int)))) rfl rfl rfl<|dk<|o6<|y8 rfl hq29<|a0e<|a0h<|o6<|a2u<|sr<|l9 (.int .i64 (s8_17:Int)) rfl<|l9 (.int .i64 (s8_17:Int)) rfl<|dk<|sr<|?_
   obtain ⟨r_32,er33,hc1⟩:=ob hc1
   refine l9 (.fn kf_f_2 cf_f_2) rfl<|l9 (.lst 1 (s_1.map (o7 2 o5))) rfl<|l9 (.int .i64 (s8_17:Int)) rfl<|a0a (a1h (enc:=(o7 2 o5)) rfl rfl hx26)<|y5 (.lst 2 (x_31.map o5)) rfl ⟨rfl,rfl⟩ rfl<|a0a (d3t (v:=(.bool r_32)) rfl okf_f_2 hcf_f_2 (hpf_f_2 _ _ er33) rfl (.refl _) rfl)<|dk<|?_
   rcases oi hc1 with ⟨c34,hc1⟩ | ⟨c34,hc1⟩
   ·refine y8 rfl c34<|sr<|l9 (.int .i64 (s8_17:Int)) rfl<|l9 (.int .i64 (s8_17:Int)) rfl<|dk<|a0f<|?_;obtain rfl:=os hc1;obtain rfl:=os hf;exact a0k ⟨trivial,trivial⟩ rfl (.refl _)
   ·refine y7 rfl (bf c34)<|a0e<|a2r<|a0h<|a0y<|y5 (.int .i64 (w64 ((s8_17:Int) + 1))) rfl rfl rfl<|l9 (.int .i64 (w64 ((s8_17:Int) + 1))) rfl<|a0n<|?_;exact a1j ⟨(s8_17 + 1),hc1⟩ (mul hlt25) ⟨[],[],_,_,rfl,rfl,⟨.refl _,⟨.of_eq (congrArg (AV.fn _) (hrf_f_2 _)),⟨.refl _,⟨.of_eq (congrArg (AV.int _) (a1k hlt25 hl3)),trivial⟩⟩⟩⟩,(.refl _)⟩
 ·rintro ⟨_,rfl⟩
  refine sr<|l9 (.int .i64 (-1)) rfl<|dk<|a0f<|?_;obtain rfl:=os hf;exact a0k ⟨trivial,trivial⟩ rfl (.refl _)

/- slices.ContainsFunc[[][]impl.Row,[]impl.Row] -/
def c70:a0r :=
 (.seq (.reg (tm 4 (.c (.bool false)) .done))
 (.seq (.reg (tm 5 (.t 0) (tm 6 (.t 1) (tq 7 (.call 91 [(.t 5),(.t 6)]) (tq 8 (.bin .geq (.t 7) (.c (.int .i64 0))) (tm 4 (.t 8) .done))))))
 .ret))
theorem e6f:a1g Try.prog Try.f70 = some (c70.erase,[.mov (.t 4)],9):=by kernel_rfl
def a1t (s_1:(List (List x8))) (f_2:((List x8) → Option Bool)):Option Bool :=
    (a2j s_1 f_2).bind fun r_3 =>
    some (decide (r_3 ≥ 0))
theorem a7v (s_1:(List (List x8))) (f_2:((List x8) → Option Bool)) (r:Bool) (hf:a1t s_1 f_2 = some r) (kf_f_2:Nat) (cf_f_2:List AV) (okf_f_2:d2e Try.prog kf_f_2 = true) (hcf_f_2:∀ h p,a3y h p cf_f_2 = some cf_f_2) (hrf_f_2:∀ f,a7j f cf_f_2 = cf_f_2) (hpf_f_2:∀ a0 r,f_2 a0 = some r → a0b Try.prog kf_f_2 .flat ([(.lst 2 (a0.map o5))] ++ cf_f_2) (.bool r)):a0b Try.prog 70 .flat [(.lst 1 (s_1.map (o7 2 o5))),(.fn kf_f_2 cf_f_2)] (.bool r):=by
 refine a0b.of_awp mixed Try.func70 e6f nle ?_;rw [a0q];unfold a1t at hf;unfold c70;refine (show awp Try.prog false 0 _ (ofL [(0,(.lst 1 (s_1.map (o7 2 o5)))),(1,(.fn kf_f_2 cf_f_2))]) [] _ from ?_);refine sr<|l9 (.bool false) rfl<|dk<|sr<|?_
 obtain ⟨r_3,er4,hf⟩:=ob hf
 refine l9 (.lst 1 (s_1.map (o7 2 o5))) rfl<|l9 (.fn kf_f_2 cf_f_2) rfl<|a0a (a1o (a8x _ _ _ er4 kf_f_2 cf_f_2 okf_f_2 hcf_f_2 hrf_f_2 hpf_f_2) (d0s rfl (d0s (e2r hcf_f_2) rfl)) (.refl _) rfl)<|y5 (.bool (decide (r_3 ≥ 0))) rfl rfl rfl<|l9 (.bool (decide (r_3 ≥ 0))) rfl<|dk<|a0f<|?_;obtain rfl:=os hf;exact a0k ⟨trivial,trivial⟩ rfl (.refl _)

/- impl.areRising -/
def c48:a0r :=
 (.seq (.reg (tm 2 (.c (.bool false)) .done))
 (.seq (.seq (.reg (tm 3 (.c (.int .i64 1)) .done))
 (.block 0 (.loop (.seq (.seq (.reg (tm 4 (.t 3) (tm 5 (.t 0) (tq 6 (.len (.t 5)) (tq 7 (.bin .lss (.t 4) (.t 6)) .done)))))
 (.cond (.t 7) .skip
 (.exit 0)))
 (.seq (.block 1 (.seq (.reg (tm 10 (.t 0) (tm 11 (.t 3) (tq 12 (.bin .sub (.t 11) (.c (.int .i64 1))) (tq 13 (.iaddr 2 (.t 10) (.t 12)) (tq 14 (.faddr 0 (.t 13)) (tq 15 (.load 1 false (.t 14)) (tm 16 (.t 0) (tm 17 (.t 3) (tq 18 (.iaddr 2 (.t 16) (.t 17)) (tq 19 (.faddr 0 (.t 18)) (tq 20 (.load 1 false (.t 19)) (tq 21 (.bin .geq (.t 15) (.t 20)) .done)))))))))))))
 (.cond (.t 21) (.seq (.reg (tm 2 (.c (.bool false)) .done))
 .ret)
 .skip)))
 (.reg (tm 8 (.t 3) (tq 9 (.bin .add (.t 8) (.c (.int .i64 1))) (tm 3 (.t 9) .done)))))))))
 (.cut (.seq (.reg (tm 2 (.c (.bool true)) .done))
 .ret))))
theorem e6g:a1g Try.prog Try.f48 = some (c48.erase,[.mov (.t 2)],22):=by kernel_rfl
def a2z (rows_1:(List x8)):List x8 → Nat → Option (Fl Bool Unit)
  | [],i_17 =>
    some (.go ())
  | x_33 :: xs,i_17 =>
    (idx rows_1 (w64 ((i_17:Int) - 1))).bind fun x_36 =>
    if (decide (x_36.Id ≥ x_33.Id)) then
    some (.ret false)
    else
    a2z rows_1 xs (i_17 + 1)

def a8i (rows_1:(List x8)):Option Bool :=
    (a2z rows_1 (rows_1.drop 1) 1).bind fun q => (match q with
    | .ret r => some r
    | .go _ =>
    some true)
theorem c1d (rows_1:(List x8)) (r:Bool) (hf:a8i rows_1 = some r):a0b Try.prog 48 .flat [(.lst 2 (rows_1.map o5))] (.bool r):=by
 refine a0b.of_awp mixed Try.func48 e6g nle ?_;rw [a0q];unfold a8i at hf;unfold c48;refine (show awp Try.prog false 0 _ (ofL [(0,(.lst 2 (rows_1.map o5)))]) [] _ from ?_);refine sr<|l9 (.bool false) rfl<|dk<|o6<|sr<|l9 (.int .i64 1) rfl<|dk<|?_
 obtain ⟨p26,hb1,hf⟩:=ob hf
 refine a2q (X:={q:Unit // p26 = .go q}) (fun q => ([],[])) ?_ ?_
 ·refine a1d (X:={q:Nat // a2z rows_1 (rows_1.drop q) q = some p26}) (fun q => ([(0,(.lst 2 (rows_1.map o5))),(3,(.int .i64 (q.1:Int)))],[])) (fun q => rows_1.length - q.1) ⟨1,hb1⟩ ⟨[],[],_,_,rfl,rfl,⟨.refl _,⟨.refl _,trivial⟩⟩,(.refl _)⟩ ?_
  rintro ⟨i_17,hc1⟩
  have hc1:a2z rows_1 (rows_1.drop i_17) i_17 = some p26:=hc1
  refine (show awp Try.prog false 0 _ (ofL [(0,(.lst 2 (rows_1.map o5))),(3,(.int .i64 (i_17:Int)))]) [] _ from ?_)
  rcases a4u rows_1 i_17 with ⟨hie29,hd32⟩ | ⟨hlt27,x_33,hx28,hd32⟩
  ·rw [hd32,a2z.eq_1] at hc1
   have hq31:=dlf hie29
   refine o6<|sr<|l9 (.int .i64 (i_17:Int)) rfl<|l9 (.lst 2 (rows_1.map o5)) rfl<|a0w (a1b (enc:=o5) rfl) fun hl34 => y5 (.bool (decide ((i_17:Int) < (rows_1.length:Int)))) rfl rfl rfl<|dk<|y7 rfl hq31<|a2e<|a2d<|a1l<|a2c<|?_;obtain rfl:=os hc1;exact a5g ⟨_,rfl⟩ ⟨[],[],_,_,rfl,rfl,trivial,(.refl _)⟩
  ·rw [hd32,a2z.eq_2] at hc1
   have hq31:=dlt hlt27
   refine o6<|sr<|l9 (.int .i64 (i_17:Int)) rfl<|l9 (.lst 2 (rows_1.map o5)) rfl<|a0w (a1b (enc:=o5) rfl) fun hl35 => y5 (.bool (decide ((i_17:Int) < (rows_1.length:Int)))) rfl rfl rfl<|dk<|y8 rfl hq31<|a0e<|a0h<|o6<|a2u<|sr<|?_
   obtain ⟨x_36,ex37,hc1⟩:=ob hc1
   refine l9 (.lst 2 (rows_1.map o5)) rfl<|l9 (.int .i64 (i_17:Int)) rfl<|y5 (.int .i64 (w64 ((i_17:Int) - 1))) rfl rfl rfl<|a0a (a5k (enc:=o5) rfl rfl (b5j ex37) (b5k ex37))<|y5 (.iptr (o5 x_36) 0) rfl trivial rfl<|y5 (.int .i64 x_36.Id) rfl nle rfl<|l9 (.lst 2 (rows_1.map o5)) rfl<|l9 (.int .i64 (i_17:Int)) rfl<|a0a (a1h (enc:=o5) rfl rfl hx28)<|y5 (.iptr (o5 x_33) 0) rfl trivial rfl<|y5 (.int .i64 x_33.Id) rfl nle rfl<|y5 (.bool (decide (x_36.Id ≥ x_33.Id))) rfl rfl rfl<|dk<|?_
   rcases oi hc1 with ⟨c38,hc1⟩ | ⟨c38,hc1⟩
   ·refine y8 rfl c38<|sr<|l9 (.bool false) rfl<|dk<|a0f<|?_;obtain rfl:=os hc1;obtain rfl:=os hf;exact a0k ⟨trivial,trivial⟩ rfl (.refl _)
   ·refine y7 rfl (bf c38)<|a0e<|a2r<|a0h<|a0y<|l9 (.int .i64 (i_17:Int)) rfl<|y5 (.int .i64 (w64 ((i_17:Int) + 1))) rfl rfl rfl<|l9 (.int .i64 (w64 ((i_17:Int) + 1))) rfl<|a0n<|?_;exact a1j ⟨(i_17 + 1),hc1⟩ (mul hlt27) ⟨[],[],_,_,rfl,rfl,⟨.refl _,⟨.of_eq (congrArg (AV.int _) (a1k hlt27 hl35)),trivial⟩⟩,(.refl _)⟩
 ·rintro ⟨_,rfl⟩
  refine sr<|l9 (.bool true) rfl<|dk<|a0f<|?_;obtain rfl:=os hf;exact a0k ⟨trivial,trivial⟩ rfl (.refl _)

/- impl.applyAll$1 -/
def c86:a0r :=
 (.seq (.reg (tm 2 (.c (.bool false)) .done))
 (.seq (.reg (tm 3 (.t 0) (tq 4 (.call 48 [(.t 3)]) (tq 5 (.not (.t 4)) (tm 2 (.t 5) .done)))))
 .ret))
theorem e6h:a1g Try.prog Try.f86 = some (c86.erase,[.mov (.t 2)],6):=by kernel_rfl
def a4v (rows_1:(List x8)):Option Bool :=
    (a8i rows_1).bind fun r_2 =>
    some (!r_2)
theorem b9q (rows_1:(List x8)) (r:Bool) (hf:a4v rows_1 = some r):a0b Try.prog 86 .flat [(.lst 2 (rows_1.map o5))] (.bool r):=by
  refine a0b.of_awp mixed Try.func86 e6h nle ?_
  rw [a0q]
  unfold a4v at hf
  unfold c86
  refine (show awp Try.prog false 0 _ (ofL [(0,(.lst 2 (rows_1.map o5)))]) [] _ from ?_)
  refine o6 ?_
  refine a0y ?_
  refine a0a (b2z (.bool false) rfl) ?_
  refine a0n ?_
  refine a0h ?_
  refine o6 ?_
  refine a0y ?_
  obtain ⟨r_2,er3,hf⟩:=ob hf
  refine a0a (b2z (.lst 2 (rows_1.map o5)) rfl) ?_
  refine a0a (a1o (c1d _ _ er3) rfl (.refl _) rfl) ?_
  refine a0a (o_q (.bool (!r_2)) rfl trivial rfl) ?_
  refine a0a (b2z (.bool (!r_2)) rfl) ?_
  refine a0n ?_
  refine a0h ?_
  refine a0f ?_
  obtain rfl:=os hf
  exact a0k ⟨trivial,trivial⟩ rfl (.refl _)

/- slices.Clone[[]impl.Atom,impl.Atom] -/
def c97:a0r :=
 (.seq (.reg (tm 2 (.c .nil) .done))
 (.seq (.seq (.reg (tm 3 (.t 0) (tq 4 (.isnil false (.t 3)) .done)))
 (.cond (.t 4) (.seq (.reg (tm 2 (.c .nil) .done))
 .ret)
 .skip))
 (.seq (.reg (tq 5 (.bslice 3 []) (tm 6 (.t 0) (tq 7 (.append 3 32 (.t 5) (.t 6)) (tm 2 (.t 7) .done)))))
 .ret)))
theorem e6i:a1g Try.prog Try.f97 = some (c97.erase,[.mov (.t 2)],8):=by kernel_rfl
def a3a (s_1:(List a0c)):Option (List a0c) :=
    if ([] ++ s_1).length ≤ 2 ^ 30 then
    some ([] ++ s_1)
    else none
theorem b0h (s_1:(List a0c)) (r:(List a0c)) (hf:a3a s_1 = some r):a0b Try.prog 97 .fresh [(.lst 3 (s_1.map l7))] (.lst 3 (r.map l7)):=by
 refine a0b.of_awp mixed Try.func97 e6i nle ?_;rw [a0q];unfold a3a at hf;unfold c97;refine (show awp Try.prog true 0 _ (ofL [(0,(.lst 3 (s_1.map l7)))]) [] _ from ?_);refine sr<|l9 .nil rfl<|dk<|o6<|sr<|l9 (.lst 3 (s_1.map l7)) rfl<|e3u (l:=s_1.map l7) rfl<|?_
 intro b hb3
 rcases b with _ | _
 ·refine dk<|y7 rfl rfl<|a0e<|a0h<|sr<|?_
  obtain ⟨g2,hf⟩:=og hf
  refine a0a (a3k (j:=0) (as':=[]) rfl (fun _ => by decide) trivial (.refl _) rfl rfl rfl) ?_;refine l9 (.lst 3 (s_1.map l7)) rfl ?_
  refine a0a (a7t (j:=1) (L:=(([] ++ s_1).map l7)) (len:=([] ++ s_1).length) rfl false rfl rfl (fun _ => flm (fun _ => rfl) _) (fun _ _ _ => flm (fun _ => rfl) _) (by decide) ((by simp)) (by simp <;> omega) g2 rfl rfl) ?_
  refine l9 (.own 1 0 (([] ++ s_1).length)) rfl<|dk<|a0f<|?_;obtain rfl:=os hf;exact a5e ⟨trivial,trivial⟩ rfl (by decide) (.of_eq (congrArg (AV.lst _) (tk (enc:=l7) ([] ++ s_1))))
 ·have he4:s_1 = []:=e2o (hb3 rfl)
  have hE:(if ([] ++ s_1).length ≤ 2 ^ 30 then some ([] ++ s_1) else none) = (some []):=by simp [he4]
  rw [hE] at hf;refine dk<|y8 rfl rfl<|sr<|l9 .nil rfl<|dk<|a0f<|?_;obtain rfl:=os hf;exact a5e ⟨trivial,trivial⟩ rfl (by decide) (.nil _)

/- impl.copyRow -/
def c76:a0r :=
 (.seq (.reg (tq 1 (.box 2 (.t 0)) (tq 2 (.box 2 (.c (.agg [(.int .i64 0),.nil]))) .done)))
 (.seq (.reg (tq 6 (.bslice 1 []) (tm 3 (.t 6) .done)))
 (.seq (.seq (.reg (tq 7 (.faddr 1 (.t 1)) (tq 8 (.load 1 false (.t 7)) (tq 9 (.len (.t 8)) (tm 10 (.c (.int .i64 0)) .done)))))
 (.block 0 (.loop (.seq (.reg (tq 11 (.bin .lss (.t 10) (.t 9)) .done))
 (.seq (.cond (.t 11) .skip
 (.exit 0))
 (.seq (.block 1 (.seq (.reg (tq 12 (.iaddr 1 (.t 8) (.t 10)) (tq 13 (.load 1 false (.t 12)) (tm 5 (.t 13) .done))))
 (.reg (tm 14 (.t 3) (tm 15 (.t 5) (tq 16 (.call 97 [(.t 15)]) (tq 17 (.bslice 1 [(.t 16)]) (tq 18 (.append 1 24 (.t 14) (.t 17)) (tm 3 (.t 18) .done)))))))))
 (.reg (tq 19 (.bin .add (.t 10) (.c (.int .i64 1))) (tm 10 (.t 19) .done)))))))))
 (.cut (.seq (.seq (.reg (tq 20 (.faddr 1 (.t 1)) (.q ⟨none,none,.store 1 (.t 20) (.c .nil)⟩
 .done)))
 (.seq (.reg (tm 21 (.t 3) (tq 22 (.len (.t 21)) (tq 23 (.bin .gtr (.t 22) (.c (.int .i64 0))) .done))))
 (.cond (.t 23) (.reg (tm 24 (.t 3) (tq 25 (.faddr 1 (.t 1)) (.q ⟨none,none,.store 1 (.t 25) (.t 24)⟩
 .done))))
 .skip)))
 (.seq (.reg (tq 26 (.load 2 true (.t 1)) (.q ⟨none,none,.store 2 (.t 2) (.t 26)⟩
 .done)))
 .ret))))))
theorem e6j:a1g Try.prog Try.f76 = some (c76.erase,[.load 2 true (.t 2)],27):=by kernel_rfl
def a4f :List (List a0c) → (List (List a0c)) → Option (List (List a0c))
  | [],cells_18 =>
    some cells_18
  | x_33 :: xs,cells_18 =>
    (a3a x_33).bind fun r_34 =>
    if (cells_18 ++ [r_34]).length ≤ 2 ^ 30 then
    a4f xs  (cells_18 ++ [r_34])
    else none

def a8y (r_1:x8):Option x8 :=
    (a4f r_1.Cells []).bind fun cells_25 =>
    if (decide ((cells_25.length:Int) > 0)) then
    some (⟨r_1.Id,cells_25⟩:x8)
    else
    some (⟨r_1.Id,[]⟩:x8)
theorem b5z (r_1:x8) (r:x8) (hf:a8y r_1 = some r):a0b Try.prog 76 .fresh [(o5 r_1)] (o5 r):=by
 refine a0b.of_awp mixed Try.func76 e6j nle ?_;rw [a0q];unfold a8y at hf;unfold c76;refine (show awp Try.prog true 0 _ (ofL [(0,(o5 r_1))]) [] _ from ?_);refine sr<|a0a (a1m (j:=0) (c:=(.agg [(.int .i64 r_1.Id),(.lst 1 (r_1.Cells.map (o7 3 l7)))])) rfl trivial rfl rfl)<|a0a (a1m (j:=1) (c:=(.agg [(.int .i64 0),.nil])) rfl trivial rfl rfl)<|dk<|sr<|?_;refine a0a (a3k (j:=2) (as':=[]) rfl (fun _ => by decide) trivial (.refl _) rfl rfl rfl) ?_;refine l9 (.own 2 0 0) rfl<|dk<|o6<|sr<|y5 (.ptr 0 0 1) rfl trivial rfl<|y5 (.lst 1 (r_1.Cells.map (o7 3 l7))) rfl nle rfl<|a0w (a1b (enc:=(o7 3 l7)) rfl) fun hl2 => ?_
 refine l9 (.int .i64 0) rfl<|dk<|?_
 obtain ⟨cells_25,hb1,hf⟩:=ob hf
 refine a1v ([(1,(.ptr 0 0 0)),(2,(.ptr 1 0 0)),(3,(.own 2 0 cells_25.length))],[.box 2 (.agg [(.int .i64 r_1.Id),(.lst 1 (r_1.Cells.map (o7 3 l7)))]),.box 2 (.agg [(.int .i64 0),.nil]),.row 1 (cells_25.map (o7 3 l7))]) ?_ ?_
 ·refine a1d (X:={q:(Nat × (List (List a0c))) // a4f (r_1.Cells.drop q.1) q.2 = some cells_25}) (fun q => ([(1,(.ptr 0 0 0)),(2,(.ptr 1 0 0)),(3,(.own 2 0 q.1.2.length)),(8,(.lst 1 (r_1.Cells.map (o7 3 l7)))),(9,(.int .i64 (r_1.Cells.length:Int))),(10,(.int .i64 (q.1.1:Int)))],[.box 2 (.agg [(.int .i64 r_1.Id),(.lst 1 (r_1.Cells.map (o7 3 l7)))]),.box 2 (.agg [(.int .i64 0),.nil]),.row 1 (q.1.2.map (o7 3 l7))])) (fun q => r_1.Cells.length - q.1.1) ⟨(0,[]),hb1⟩ ⟨[],[0,1,2],_,_,rfl,rfl,⟨.refl _,⟨.refl _,⟨.of_eq (congrArg (AV.own _ 0) (by simp)),⟨.refl _,⟨.refl _,⟨.refl _,trivial⟩⟩⟩⟩⟩⟩,(.refl _)⟩ ?_
  rintro ⟨⟨s10_17,cells_18⟩,hc1⟩
  have hc1:a4f (r_1.Cells.drop s10_17) cells_18 = some cells_25:=hc1
  refine (show awp Try.prog true 0 _ (ofL [(1,(.ptr 0 0 0)),(2,(.ptr 1 0 0)),(3,(.own 2 0 cells_18.length)),(8,(.lst 1 (r_1.Cells.map (o7 3 l7)))),(9,(.int .i64 (r_1.Cells.length:Int))),(10,(.int .i64 (s10_17:Int)))]) [.box 2 (.agg [(.int .i64 r_1.Id),(.lst 1 (r_1.Cells.map (o7 3 l7)))]),.box 2 (.agg [(.int .i64 0),.nil]),.row 1 (cells_18.map (o7 3 l7))] _ from ?_)
  rcases a4u r_1.Cells s10_17 with ⟨hie29,hd32⟩ | ⟨hlt27,x_33,hx28,hd32⟩
  ·rw [hd32,a4f.eq_1] at hc1
   have hq31:=dlf hie29
   refine sr<|y5 (.bool (decide ((s10_17:Int) < (r_1.Cells.length:Int)))) rfl rfl rfl<|dk<|o6<|y7 rfl hq31<|a2e<|a2d<|a1l<|a2c<|?_;obtain rfl:=os hc1;exact ⟨[],[0,1,2],_,_,rfl,rfl,⟨.refl _,⟨.refl _,⟨.refl _,trivial⟩⟩⟩,(.refl _)⟩
  ·rw [hd32,a4f.eq_2] at hc1
   have hq31:=dlt hlt27
   refine sr<|y5 (.bool (decide ((s10_17:Int) < (r_1.Cells.length:Int)))) rfl rfl rfl<|dk<|o6<|y8 rfl hq31<|a0e<|a0h<|o6<|a2u<|sr<|a0a (a1h (enc:=(o7 3 l7)) rfl rfl hx28)<|y5 (.lst 3 (x_33.map l7)) rfl ⟨rfl,rfl⟩ rfl<|l9 (.lst 3 (x_33.map l7)) rfl<|dk<|a0y<|?_
   obtain ⟨r_34,er35,hc1⟩:=ob hc1
   obtain ⟨g36,hc1⟩:=og hc1
   refine l9 (.own 2 0 cells_18.length) rfl<|l9 (.lst 3 (x_33.map l7)) rfl<|a0a (a3j (v:=(.own 3 0 r_34.length)) (h':=[.row 3 (r_34.map l7)]) (b0h _ _ er35) rfl (.refl _) (by simp only [a1r,a1q,List.length_map,List.nil_append,List.append_nil,List.cons_append];rfl))<|?_;refine a0a (a3k (j:=4) (as':=[(.lst 3 (r_34.map l7))]) rfl (fun _ => by decide) ⟨rfl,trivial⟩ (.cons (.of_eq (congrArg (AV.lst _) (tk (enc:=l7) r_34))) .nil) rfl rfl rfl) ?_
   refine a0a (a7t (j:=5) (L:=((cells_18 ++ [r_34]).map (o7 3 l7))) (len:=(cells_18 ++ [r_34]).length) rfl true rfl rfl (fun h => Bool.noConfusion h) (fun _ _ h => (d0v (show AV.own _ _ _ = AV.lst _ _ from h)).elim) (by decide) (d0w (enc:=(o7 3 l7)) cells_18 [r_34] _ (by rfl)) (by simp <;> omega) g36 rfl rfl) ?_
   refine l9 (.own 5 0 ((cells_18 ++ [r_34]).length)) rfl<|a0n<|a2r<|a0h<|a0y<|y5 (.int .i64 (w64 ((s10_17:Int) + 1))) rfl rfl rfl<|l9 (.int .i64 (w64 ((s10_17:Int) + 1))) rfl<|a0n<|?_;exact a1j ⟨((s10_17 + 1),cells_18 ++ [r_34]),hc1⟩ (mul hlt27) ⟨[],[0,1,5],_,_,rfl,rfl,⟨.refl _,⟨.refl _,⟨.refl _,⟨.refl _,⟨.refl _,⟨.of_eq (congrArg (AV.int _) (a1k hlt27 hl2)),trivial⟩⟩⟩⟩⟩⟩,(.refl _)⟩
 ·refine o6<|sr<|y5 (.ptr 0 0 1) rfl trivial rfl<|a1p (a0i (v:=.nil) (y':=(.agg [(.int .i64 r_1.Id),.nil])) rfl rfl rfl trivial ⟨rfl,nle⟩ ⟨⟨rfl,trivial⟩,trivial⟩ rfl)<|dk<|sr<|l9 (.own 2 0 cells_25.length) rfl<|a0w (a6c rfl rfl) fun hl37 => y5 (.bool (decide ((cells_25.length:Int) > 0))) rfl rfl rfl<|dk<|?_
  rcases oi hf with ⟨c38,hf⟩ | ⟨c38,hf⟩
  ·refine y8 rfl c38<|a0y<|l9 (.own 2 0 cells_25.length) rfl<|y5 (.ptr 0 0 1) rfl trivial rfl<|a1p (a0i (v:=(.own 2 0 cells_25.length)) (y':=(.agg [(.int .i64 r_1.Id),(.own 2 0 cells_25.length)])) rfl rfl rfl trivial ⟨rfl,nle⟩ ⟨⟨rfl,trivial⟩,trivial⟩ rfl)<|dk<|sr<|y5 (.agg [(.int .i64 r_1.Id),(.own 2 0 cells_25.length)]) rfl nle rfl<|a1p (a0i (v:=(.agg [(.int .i64 r_1.Id),(.own 2 0 cells_25.length)])) (y':=(.agg [(.int .i64 r_1.Id),(.own 2 0 cells_25.length)])) rfl rfl rfl trivial ⟨rfl,nle⟩ ⟨⟨rfl,trivial⟩,⟨⟨rfl,trivial⟩,trivial⟩⟩ rfl)<|dk<|a0f<|?_;obtain rfl:=os hf;exact a5e ⟨nle,trivial⟩ rfl (by decide) (.agg (.cons (.refl _) (.cons (.of_eq (congrArg (AV.lst _) (tk (enc:=(o7 3 l7)) cells_25))) .nil)))
  ·refine y7 rfl (bf c38)<|a0e<|a0h<|sr<|y5 (.agg [(.int .i64 r_1.Id),.nil]) rfl nle rfl<|a1p (a0i (v:=(.agg [(.int .i64 r_1.Id),.nil])) (y':=(.agg [(.int .i64 r_1.Id),.nil])) rfl rfl rfl trivial ⟨rfl,nle⟩ ⟨⟨rfl,trivial⟩,⟨⟨rfl,trivial⟩,trivial⟩⟩ rfl)<|dk<|a0f<|?_;obtain rfl:=os hf;exact a5e ⟨nle,trivial⟩ rfl (by decide) (.agg (.cons (.refl _) (.cons (.nil _) .nil)))

/- impl.copyRows -/
def c49:a0r :=
 (.seq (.reg (tm 2 (.c .nil) .done))
 (.seq (.reg (tq 6 (.bslice 2 []) (tm 3 (.t 6) .done)))
 (.seq (.seq (.reg (tm 7 (.t 0) (tq 8 (.len (.t 7)) (tm 9 (.c (.int .i64 0)) .done))))
 (.block 0 (.loop (.seq (.reg (tq 10 (.bin .lss (.t 9) (.t 8)) .done))
 (.seq (.cond (.t 10) .skip
 (.exit 0))
 (.seq (.block 1 (.seq (.reg (tq 11 (.iaddr 2 (.t 7) (.t 9)) (tq 12 (.load 2 true (.t 11)) (tq 5 (.box 2 (.c (.agg [(.int .i64 0),.nil]))) (.q ⟨none,none,.store 2 (.t 5) (.t 12)⟩
 .done)))))
 (.reg (tm 13 (.t 3) (tq 14 (.load 2 true (.t 5)) (tq 15 (.call 76 [(.t 14)]) (tq 16 (.bslice 2 [(.t 15)]) (tq 17 (.append 2 32 (.t 13) (.t 16)) (tm 3 (.t 17) .done)))))))))
 (.reg (tq 18 (.bin .add (.t 9) (.c (.int .i64 1))) (tm 9 (.t 18) .done)))))))))
 (.cut (.seq (.reg (tm 19 (.t 3) (tm 2 (.t 19) .done)))
 .ret)))))
theorem e6k:a1g Try.prog Try.f49 = some (c49.erase,[.mov (.t 2)],20):=by kernel_rfl
def a3q :List x8 → (List x8) → Option (List x8)
  | [],out_18 =>
    some out_18
  | x_33 :: xs,out_18 =>
    (a8y x_33).bind fun r_34 =>
    if (out_18 ++ [r_34]).length ≤ 2 ^ 30 then
    a3q xs  (out_18 ++ [r_34])
    else none

def a9t (rows_1:(List x8)):Option (List x8) :=
    (a3q rows_1 []).bind fun out_25 =>
    some out_25
theorem c2u (rows_1:(List x8)) (r:(List x8)) (hf:a9t rows_1 = some r):a0b Try.prog 49 .fresh [(.lst 2 (rows_1.map o5))] (.lst 2 (r.map o5)):=by
 refine a0b.of_awp mixed Try.func49 e6k nle ?_;rw [a0q];unfold a9t at hf;unfold c49;refine (show awp Try.prog true 0 _ (ofL [(0,(.lst 2 (rows_1.map o5)))]) [] _ from ?_);refine sr<|l9 .nil rfl<|dk<|sr<|?_;refine a0a (a3k (j:=0) (as':=[]) rfl (fun _ => by decide) trivial (.refl _) rfl rfl rfl) ?_;refine l9 (.own 0 0 0) rfl<|dk<|o6<|sr<|l9 (.lst 2 (rows_1.map o5)) rfl<|a0w (a1b (enc:=o5) rfl) fun hl2 => l9 (.int .i64 0) rfl<|dk<|?_
 obtain ⟨out_25,hb1,hf⟩:=ob hf
 refine a1v ([(3,(.own 0 0 out_25.length))],[.row 2 (out_25.map o5)]) ?_ ?_
 ·refine a1d (X:={q:(Nat × (List x8)) // a3q (rows_1.drop q.1) q.2 = some out_25}) (fun q => ([(3,(.own 0 0 q.1.2.length)),(7,(.lst 2 (rows_1.map o5))),(8,(.int .i64 (rows_1.length:Int))),(9,(.int .i64 (q.1.1:Int)))],[.row 2 (q.1.2.map o5)])) (fun q => rows_1.length - q.1.1) ⟨(0,[]),hb1⟩ ⟨[],[0],_,_,rfl,rfl,⟨.of_eq (congrArg (AV.own _ 0) (by simp)),⟨.refl _,⟨.refl _,⟨.refl _,trivial⟩⟩⟩⟩,(.refl _)⟩ ?_
  rintro ⟨⟨s9_17,out_18⟩,hc1⟩
  have hc1:a3q (rows_1.drop s9_17) out_18 = some out_25:=hc1
  refine (show awp Try.prog true 0 _ (ofL [(3,(.own 0 0 out_18.length)),(7,(.lst 2 (rows_1.map o5))),(8,(.int .i64 (rows_1.length:Int))),(9,(.int .i64 (s9_17:Int)))]) [.row 2 (out_18.map o5)] _ from ?_)
  rcases a4u rows_1 s9_17 with ⟨hie29,hd32⟩ | ⟨hlt27,x_33,hx28,hd32⟩
  ·rw [hd32,a3q.eq_1] at hc1
   have hq31:=dlf hie29
   refine sr<|y5 (.bool (decide ((s9_17:Int) < (rows_1.length:Int)))) rfl rfl rfl<|dk<|o6<|y7 rfl hq31<|a2e<|a2d<|a1l<|a2c<|?_;obtain rfl:=os hc1;exact ⟨[],[0],_,_,rfl,rfl,⟨.refl _,trivial⟩,(.refl _)⟩
  ·rw [hd32,a3q.eq_2] at hc1
   have hq31:=dlt hlt27
   refine sr<|y5 (.bool (decide ((s9_17:Int) < (rows_1.length:Int)))) rfl rfl rfl<|dk<|o6<|y8 rfl hq31<|a0e<|a0h<|o6<|a2u<|sr<|a0a (a1h (enc:=o5) rfl rfl hx28)<|y5 (o5 x_33) rfl nle rfl<|a0a (a1m (j:=1) (c:=(.agg [(.int .i64 0),.nil])) rfl trivial rfl rfl)<|a1p (a0i (v:=(.agg [(.int .i64 x_33.Id),(.lst 1 (x_33.Cells.map (o7 3 l7)))])) (y':=(.agg [(.int .i64 x_33.Id),(.lst 1 (x_33.Cells.map (o7 3 l7)))])) rfl rfl rfl trivial ⟨rfl,nle⟩ ⟨⟨rfl,trivial⟩,⟨⟨rfl,trivial⟩,trivial⟩⟩ rfl)<|dk<|a0y<|?_
   obtain ⟨r_34,er35,hc1⟩:=ob hc1
   obtain ⟨g36,hc1⟩:=og hc1
   refine l9 (.own 0 0 out_18.length) rfl<|y5 (.agg [(.int .i64 x_33.Id),(.lst 1 (x_33.Cells.map (o7 3 l7)))]) rfl nle rfl<|a0a (a3j (v:=(.agg [(.int .i64 r_34.Id),(.own 2 0 r_34.Cells.length)])) (h':=[.row 1 (r_34.Cells.map (o7 3 l7))]) (b5z _ _ er35) rfl (.refl _) (by simp only [a1r,a1q,List.length_map,a8f,List.nil_append,List.append_nil,List.cons_append];rfl))<|?_;refine a0a (a3k (j:=3) (as':=[(o5 r_34)]) rfl (fun _ => by decide) ⟨rfl,trivial⟩ (.cons (.agg (.cons (.refl _) (.cons (.of_eq (congrArg (AV.lst _) (tk (enc:=(o7 3 l7)) r_34.Cells))) .nil))) .nil) rfl rfl rfl) ?_
   refine a0a (a7t (j:=4) (L:=((out_18 ++ [r_34]).map o5)) (len:=(out_18 ++ [r_34]).length) rfl true rfl rfl (fun h => Bool.noConfusion h) (fun _ _ h => (d0v (show AV.own _ _ _ = AV.lst _ _ from h)).elim) (by decide) (d0w (enc:=o5) out_18 [r_34] _ (by rfl)) (by simp <;> omega) g36 rfl rfl) ?_
   refine l9 (.own 4 0 ((out_18 ++ [r_34]).length)) rfl<|a0n<|a2r<|a0h<|a0y<|y5 (.int .i64 (w64 ((s9_17:Int) + 1))) rfl rfl rfl<|l9 (.int .i64 (w64 ((s9_17:Int) + 1))) rfl<|a0n<|?_;exact a1j ⟨((s9_17 + 1),out_18 ++ [r_34]),hc1⟩ (mul hlt27) ⟨[],[4],_,_,rfl,rfl,⟨.refl _,⟨.refl _,⟨.refl _,⟨.of_eq (congrArg (AV.int _) (a1k hlt27 hl2)),trivial⟩⟩⟩⟩,(.refl _)⟩
 ·refine sr<|l9 (.own 0 0 out_25.length) rfl<|l9 (.own 0 0 out_25.length) rfl<|dk<|a0f<|?_;obtain rfl:=os hf;exact a5e ⟨trivial,trivial⟩ rfl (by decide) (.of_eq (congrArg (AV.lst _) (tk (enc:=o5) out_25)))

/- impl.copyStore -/
def c87:a0r :=
 (.seq (.reg (tq 1 (.box 2 (.t 0)) (tq 2 (.box 2 (.c (.agg [.nil,(.int .i64 0)]))) .done)))
 (.seq (.reg (tq 6 (.bslice 1 []) (tm 3 (.t 6) .done)))
 (.seq (.seq (.reg (tq 7 (.faddr 0 (.t 1)) (tq 8 (.load 1 false (.t 7)) (tq 9 (.len (.t 8)) (tm 10 (.c (.int .i64 0)) .done)))))
 (.block 0 (.loop (.seq (.reg (tq 11 (.bin .lss (.t 10) (.t 9)) .done))
 (.seq (.cond (.t 11) .skip
 (.exit 0))
 (.seq (.block 1 (.seq (.reg (tq 12 (.iaddr 1 (.t 8) (.t 10)) (tq 13 (.load 1 false (.t 12)) (tm 5 (.t 13) .done))))
 (.reg (tm 14 (.t 3) (tm 15 (.t 5) (tq 16 (.call 49 [(.t 15)]) (tq 17 (.bslice 1 [(.t 16)]) (tq 18 (.append 1 24 (.t 14) (.t 17)) (tm 3 (.t 18) .done)))))))))
 (.reg (tq 19 (.bin .add (.t 10) (.c (.int .i64 1))) (tm 10 (.t 19) .done)))))))))
 (.cut (.seq (.reg (tm 20 (.t 3) (tq 21 (.faddr 1 (.t 1)) (tq 22 (.load 1 false (.t 21)) (tq 23 (.build [.nil,(.int .i64 0)] [(0,1,(.t 20)),(1,1,(.t 22))]) (.q ⟨none,none,.store 2 (.t 2) (.t 23)⟩
 .done))))))
 .ret)))))
theorem e6l:a1g Try.prog Try.f87 = some (c87.erase,[.load 2 true (.t 2)],24):=by kernel_rfl
def a3b :List (List x8) → (List (List x8)) → Option (List (List x8))
  | [],tables_18 =>
    some tables_18
  | x_33 :: xs,tables_18 =>
    (a9t x_33).bind fun r_34 =>
    if (tables_18 ++ [r_34]).length ≤ 2 ^ 30 then
    a3b xs  (tables_18 ++ [r_34])
    else none

def a8j (x_1:a0l):Option a0l :=
    (a3b x_1.Tables []).bind fun tables_25 =>
    some (⟨tables_25,x_1.Next⟩:a0l)
theorem c1e (x_1:a0l) (r:a0l) (hf:a8j x_1 = some r):a0b Try.prog 87 .fresh [(a0z x_1)] (a0z r):=by
 refine a0b.of_awp mixed Try.func87 e6l nle ?_;rw [a0q];unfold a8j at hf;unfold c87;refine (show awp Try.prog true 0 _ (ofL [(0,(a0z x_1))]) [] _ from ?_);refine sr<|a0a (a1m (j:=0) (c:=(.agg [(.lst 1 (x_1.Tables.map (o7 2 o5))),(.int .i64 x_1.Next)])) rfl trivial rfl rfl)<|a0a (a1m (j:=1) (c:=(.agg [.nil,(.int .i64 0)])) rfl trivial rfl rfl)<|dk<|sr<|?_;refine a0a (a3k (j:=2) (as':=[]) rfl (fun _ => by decide) trivial (.refl _) rfl rfl rfl) ?_;refine l9 (.own 2 0 0) rfl<|dk<|o6<|sr<|y5 (.ptr 0 0 0) rfl trivial rfl<|y5 (.lst 1 (x_1.Tables.map (o7 2 o5))) rfl nle rfl<|a0w (a1b (enc:=(o7 2 o5)) rfl) fun hl2 => ?_
 refine l9 (.int .i64 0) rfl<|dk<|?_
 obtain ⟨tables_25,hb1,hf⟩:=ob hf
 refine a1v ([(1,(.ptr 0 0 0)),(2,(.ptr 1 0 0)),(3,(.own 2 0 tables_25.length))],[.box 2 (.agg [(.lst 1 (x_1.Tables.map (o7 2 o5))),(.int .i64 x_1.Next)]),.box 2 (.agg [.nil,(.int .i64 0)]),.row 1 (tables_25.map (o7 2 o5))]) ?_ ?_
 ·refine a1d (X:={q:(Nat × (List (List x8))) // a3b (x_1.Tables.drop q.1) q.2 = some tables_25}) (fun q => ([(1,(.ptr 0 0 0)),(2,(.ptr 1 0 0)),(3,(.own 2 0 q.1.2.length)),(8,(.lst 1 (x_1.Tables.map (o7 2 o5)))),(9,(.int .i64 (x_1.Tables.length:Int))),(10,(.int .i64 (q.1.1:Int)))],[.box 2 (.agg [(.lst 1 (x_1.Tables.map (o7 2 o5))),(.int .i64 x_1.Next)]),.box 2 (.agg [.nil,(.int .i64 0)]),.row 1 (q.1.2.map (o7 2 o5))])) (fun q => x_1.Tables.length - q.1.1) ⟨(0,[]),hb1⟩ ⟨[],[0,1,2],_,_,rfl,rfl,⟨.refl _,⟨.refl _,⟨.of_eq (congrArg (AV.own _ 0) (by simp)),⟨.refl _,⟨.refl _,⟨.refl _,trivial⟩⟩⟩⟩⟩⟩,(.refl _)⟩ ?_
  rintro ⟨⟨s10_17,tables_18⟩,hc1⟩
  have hc1:a3b (x_1.Tables.drop s10_17) tables_18 = some tables_25:=hc1
  refine (show awp Try.prog true 0 _ (ofL [(1,(.ptr 0 0 0)),(2,(.ptr 1 0 0)),(3,(.own 2 0 tables_18.length)),(8,(.lst 1 (x_1.Tables.map (o7 2 o5)))),(9,(.int .i64 (x_1.Tables.length:Int))),(10,(.int .i64 (s10_17:Int)))]) [.box 2 (.agg [(.lst 1 (x_1.Tables.map (o7 2 o5))),(.int .i64 x_1.Next)]),.box 2 (.agg [.nil,(.int .i64 0)]),.row 1 (tables_18.map (o7 2 o5))] _ from ?_)
  rcases a4u x_1.Tables s10_17 with ⟨hie29,hd32⟩ | ⟨hlt27,x_33,hx28,hd32⟩
  ·rw [hd32,a3b.eq_1] at hc1
   have hq31:=dlf hie29
   refine sr<|y5 (.bool (decide ((s10_17:Int) < (x_1.Tables.length:Int)))) rfl rfl rfl<|dk<|o6<|y7 rfl hq31<|a2e<|a2d<|a1l<|a2c<|?_;obtain rfl:=os hc1;exact ⟨[],[0,1,2],_,_,rfl,rfl,⟨.refl _,⟨.refl _,⟨.refl _,trivial⟩⟩⟩,(.refl _)⟩
  ·rw [hd32,a3b.eq_2] at hc1
   have hq31:=dlt hlt27
   refine sr<|y5 (.bool (decide ((s10_17:Int) < (x_1.Tables.length:Int)))) rfl rfl rfl<|dk<|o6<|y8 rfl hq31<|a0e<|a0h<|o6<|a2u<|sr<|a0a (a1h (enc:=(o7 2 o5)) rfl rfl hx28)<|y5 (.lst 2 (x_33.map o5)) rfl ⟨rfl,rfl⟩ rfl<|l9 (.lst 2 (x_33.map o5)) rfl<|dk<|a0y<|?_
   obtain ⟨r_34,er35,hc1⟩:=ob hc1
   obtain ⟨g36,hc1⟩:=og hc1
   refine l9 (.own 2 0 tables_18.length) rfl<|l9 (.lst 2 (x_33.map o5)) rfl<|a0a (a3j (v:=(.own 3 0 r_34.length)) (h':=[.row 2 (r_34.map o5)]) (c2u _ _ er35) rfl (.refl _) (by simp only [a1r,a1q,List.length_map,List.nil_append,List.append_nil,List.cons_append];rfl))<|?_;refine a0a (a3k (j:=4) (as':=[(.lst 2 (r_34.map o5))]) rfl (fun _ => by decide) ⟨rfl,trivial⟩ (.cons (.of_eq (congrArg (AV.lst _) (tk (enc:=o5) r_34))) .nil) rfl rfl rfl) ?_
   refine a0a (a7t (j:=5) (L:=((tables_18 ++ [r_34]).map (o7 2 o5))) (len:=(tables_18 ++ [r_34]).length) rfl true rfl rfl (fun h => Bool.noConfusion h) (fun _ _ h => (d0v (show AV.own _ _ _ = AV.lst _ _ from h)).elim) (by decide) (d0w (enc:=(o7 2 o5)) tables_18 [r_34] _ (by rfl)) (by simp <;> omega) g36 rfl rfl) ?_
   refine l9 (.own 5 0 ((tables_18 ++ [r_34]).length)) rfl<|a0n<|a2r<|a0h<|a0y<|y5 (.int .i64 (w64 ((s10_17:Int) + 1))) rfl rfl rfl<|l9 (.int .i64 (w64 ((s10_17:Int) + 1))) rfl<|a0n<|?_;exact a1j ⟨((s10_17 + 1),tables_18 ++ [r_34]),hc1⟩ (mul hlt27) ⟨[],[0,1,5],_,_,rfl,rfl,⟨.refl _,⟨.refl _,⟨.refl _,⟨.refl _,⟨.refl _,⟨.of_eq (congrArg (AV.int _) (a1k hlt27 hl2)),trivial⟩⟩⟩⟩⟩⟩,(.refl _)⟩
 ·refine sr<|l9 (.own 2 0 tables_25.length) rfl<|y5 (.ptr 0 0 1) rfl trivial rfl<|y5 (.int .i64 x_1.Next) rfl nle rfl<|y5 (.agg [(.own 2 0 tables_25.length),(.int .i64 x_1.Next)]) rfl ⟨⟨rfl,nle,trivial⟩,⟨⟨rfl,nle,trivial⟩,trivial⟩⟩ rfl<|a1p (a0i (v:=(.agg [(.own 2 0 tables_25.length),(.int .i64 x_1.Next)])) (y':=(.agg [(.own 2 0 tables_25.length),(.int .i64 x_1.Next)])) rfl rfl rfl trivial ⟨rfl,nle⟩ ⟨⟨rfl,trivial⟩,⟨⟨rfl,trivial⟩,trivial⟩⟩ rfl)<|dk<|a0f<|?_;obtain rfl:=os hf;exact a5e ⟨nle,trivial⟩ rfl (by decide) (.agg (.cons (.of_eq (congrArg (AV.lst _) (tk (enc:=(o7 2 o5)) tables_25))) (.cons (.refl _) .nil)))

/- impl.kindOf -/
def c77:a0r :=
 (.seq (.reg (tq 4 (.box 2 (.t 1)) (tq 5 (.box 2 (.t 2)) (tm 6 (.c (.int .i64 0)) .done))))
 (.seq (.block 0 (.seq (.reg (tm 8 (.t 0) (tq 9 (.bin .lss (.t 8) (.c (.int .i64 1))) (tm 7 (.t 9) .done))))
 (.cond (.t 7) (.seq (.reg (tm 6 (.c (.int .i64 0)) .done))
 .ret)
 (.seq (.reg (tq 11 (.faddr 0 (.t 4)) (tq 12 (.load 1 false (.t 11)) (tq 13 (.bin .eql (.t 12) (.c (.int .i64 0))) (tm 14 (.t 13) (tg 15 14 true (.faddr 0 (.t 5)) (tg 16 14 true (.load 1 false (.t 15)) (tg 17 14 true (.mov (.t 0)) (tg 18 14 true (.bin .eql (.t 16) (.t 17)) (tq 19 (.pick (.t 14) (.t 18) (.c (.bool false))) (tm 10 (.t 19) .done)))))))))))
 (.cut (.cond (.t 10) (.seq (.reg (tm 6 (.c (.int .i64 1)) .done))
 .ret)
 (.seq (.reg (tq 21 (.faddr 0 (.t 4)) (tq 22 (.load 1 false (.t 21)) (tm 23 (.t 0) (tq 24 (.bin .eql (.t 22) (.t 23)) (tm 25 (.t 24) (tg 26 25 true (.faddr 0 (.t 5)) (tg 27 25 true (.load 1 false (.t 26)) (tg 28 25 true (.bin .eql (.t 27) (.c (.int .i64 0))) (tq 29 (.pick (.t 25) (.t 28) (.c (.bool false))) (tm 20 (.t 29) .done)))))))))))
 (.cut (.cond (.t 20) (.seq (.reg (tm 6 (.c (.int .i64 2)) .done))
 .ret)
 (.seq (.reg (tq 31 (.faddr 0 (.t 4)) (tq 32 (.load 1 false (.t 31)) (tm 33 (.t 0) (tq 34 (.bin .eql (.t 32) (.t 33)) (tm 35 (.t 34) (tg 36 35 true (.faddr 0 (.t 5)) (tg 37 35 true (.load 1 false (.t 36)) (tg 38 35 true (.mov (.t 0)) (tg 39 35 true (.bin .eql (.t 37) (.t 38)) (tq 40 (.pick (.t 35) (.t 39) (.c (.bool false))) (tm 30 (.t 40) .done))))))))))))
 (.cut (.cond (.t 30) (.seq (.reg (tm 6 (.c (.int .i64 3)) .done))
 .ret)
 .skip))))))))))))
 (.seq (.reg (tm 6 (.c (.int .i64 0)) .done))
 .ret)))
theorem e6m:a1g Try.prog Try.f77 = some (c77.erase,[.mov (.t 6)],41):=by kernel_rfl
def a8k (id_1:Int) (old_2:x8) (now_3:x8):Option Int :=
    if (decide (id_1 < 1)) then
    some 0
    else
    ((if (old_2.Id == 0) then
    some (now_3.Id == id_1)
    else
    some false:Option Bool)).bind fun s10_6 =>
    if s10_6 then
    some 1
    else
    ((if (old_2.Id == id_1) then
    some (now_3.Id == 0)
    else
    some false:Option Bool)).bind fun s20_11 =>
    if s20_11 then
    some 2
    else
    ((if (old_2.Id == id_1) then
    some (now_3.Id == id_1)
    else
    some false:Option Bool)).bind fun s30_16 =>
    if s30_16 then
    some 3
    else
    some 0
theorem b3r (id_1:Int) (old_2:x8) (now_3:x8) (r:Int) (hf:a8k id_1 old_2 now_3 = some r):a0b Try.prog 77 .flat [(.int .i64 id_1),(o5 old_2),(o5 now_3)] (.int .i64 r):=by
 refine a0b.of_awp mixed Try.func77 e6m nle ?_;rw [a0q];unfold a8k at hf;unfold c77;refine (show awp Try.prog false 0 _ (ofL [(0,(.int .i64 id_1)),(1,(o5 old_2)),(2,(o5 now_3))]) [] _ from ?_);refine sr<|a0a (a1m (j:=0) (c:=(.agg [(.int .i64 old_2.Id),(.lst 1 (old_2.Cells.map (o7 3 l7)))])) rfl trivial rfl rfl)<|a0a (a1m (j:=1) (c:=(.agg [(.int .i64 now_3.Id),(.lst 1 (now_3.Cells.map (o7 3 l7)))])) rfl trivial rfl rfl)<|l9 (.int .i64 0) rfl<|dk<|o6<|a2u<|sr<|l9 (.int .i64 id_1) rfl<|y5 (.bool (decide (id_1 < 1))) rfl rfl rfl<|l9 (.bool (decide (id_1 < 1))) rfl<|dk<|?_
 rcases oi hf with ⟨c4,hf⟩ | ⟨c4,hf⟩
 ·refine y8 rfl c4<|sr<|l9 (.int .i64 0) rfl<|dk<|a0f<|?_;obtain rfl:=os hf;exact a0k ⟨trivial,trivial⟩ rfl (.refl _)
 ·refine y7 rfl (bf c4)<|o6<|?_
  obtain ⟨s10_6,hb1,hf⟩:=ob hf
  refine a1v ([(0,(.int .i64 id_1)),(4,(.ptr 0 0 0)),(5,(.ptr 1 0 0)),(10,(.bool s10_6))],[.box 2 (.agg [(.int .i64 old_2.Id),(.lst 1 (old_2.Cells.map (o7 3 l7)))]),.box 2 (.agg [(.int .i64 now_3.Id),(.lst 1 (now_3.Cells.map (o7 3 l7)))])]) ?_ ?_
  ·refine a0y ?_
   rcases oi hb1 with ⟨c8,hb1⟩ | ⟨c8,hb1⟩
   ·refine y5 (.ptr 0 0 0) rfl trivial rfl<|y5 (.int .i64 old_2.Id) rfl nle rfl<|y5 (.bool (old_2.Id == 0)) rfl rfl rfl<|l9 (.bool (old_2.Id == 0)) rfl<|a4i (s:=14) (b:=true) rfl c8<|s_on rfl<|y5 (.ptr 1 0 0) rfl trivial rfl<|s_on rfl<|y5 (.int .i64 now_3.Id) rfl nle rfl<|s_on rfl<|l9 (.int .i64 id_1) rfl<|s_on rfl<|y5 (.bool (now_3.Id == id_1)) rfl rfl rfl<|y5 (.bool (now_3.Id == id_1)) rfl trivial rfl<|l9 (.bool (now_3.Id == id_1)) rfl<|a0n<|?_;obtain rfl:=os hb1;exact ⟨[],[0,1],_,_,rfl,rfl,⟨.refl _,⟨.refl _,⟨.refl _,⟨.refl _,trivial⟩⟩⟩⟩,(.refl _)⟩
   ·refine y5 (.ptr 0 0 0) rfl trivial rfl<|y5 (.int .i64 old_2.Id) rfl nle rfl<|y5 (.bool (old_2.Id == 0)) rfl rfl rfl<|l9 (.bool (old_2.Id == 0)) rfl<|a4i (s:=14) (b:=false) rfl (bf c8)<|a0t rfl rfl<|a0t rfl rfl<|a0t rfl rfl<|a0t rfl rfl<|y5 (.bool false) rfl trivial rfl<|l9 (.bool false) rfl<|a0n<|?_;obtain rfl:=os hb1;exact ⟨[],[0,1],_,_,rfl,rfl,⟨.refl _,⟨.refl _,⟨.refl _,⟨.refl _,trivial⟩⟩⟩⟩,(.refl _)⟩
  ·rcases oi hf with ⟨c9,hf⟩ | ⟨c9,hf⟩
   ·refine y8 rfl c9<|sr<|l9 (.int .i64 1) rfl<|dk<|a0f<|?_;obtain rfl:=os hf;exact a0k ⟨trivial,trivial⟩ rfl (.refl _)
   ·refine y7 rfl (bf c9)<|o6<|?_
    obtain ⟨s20_11,hb1,hf⟩:=ob hf
    refine a1v ([(0,(.int .i64 id_1)),(4,(.ptr 0 0 0)),(5,(.ptr 1 0 0)),(20,(.bool s20_11))],[.box 2 (.agg [(.int .i64 old_2.Id),(.lst 1 (old_2.Cells.map (o7 3 l7)))]),.box 2 (.agg [(.int .i64 now_3.Id),(.lst 1 (now_3.Cells.map (o7 3 l7)))])]) ?_ ?_
    ·refine a0y ?_
     rcases oi hb1 with ⟨c13,hb1⟩ | ⟨c13,hb1⟩
     ·refine y5 (.ptr 0 0 0) rfl trivial rfl<|y5 (.int .i64 old_2.Id) rfl nle rfl<|l9 (.int .i64 id_1) rfl<|y5 (.bool (old_2.Id == id_1)) rfl rfl rfl<|l9 (.bool (old_2.Id == id_1)) rfl<|a4i (s:=25) (b:=true) rfl c13<|s_on rfl<|y5 (.ptr 1 0 0) rfl trivial rfl<|s_on rfl<|y5 (.int .i64 now_3.Id) rfl nle rfl<|s_on rfl<|y5 (.bool (now_3.Id == 0)) rfl rfl rfl<|y5 (.bool (now_3.Id == 0)) rfl trivial rfl<|l9 (.bool (now_3.Id == 0)) rfl<|a0n<|?_;obtain rfl:=os hb1;exact ⟨[],[0,1],_,_,rfl,rfl,⟨.refl _,⟨.refl _,⟨.refl _,⟨.refl _,trivial⟩⟩⟩⟩,(.refl _)⟩
     ·refine y5 (.ptr 0 0 0) rfl trivial rfl<|y5 (.int .i64 old_2.Id) rfl nle rfl<|l9 (.int .i64 id_1) rfl<|y5 (.bool (old_2.Id == id_1)) rfl rfl rfl<|l9 (.bool (old_2.Id == id_1)) rfl<|a4i (s:=25) (b:=false) rfl (bf c13)<|a0t rfl rfl<|a0t rfl rfl<|a0t rfl rfl<|y5 (.bool false) rfl trivial rfl<|l9 (.bool false) rfl<|a0n<|?_;obtain rfl:=os hb1;exact ⟨[],[0,1],_,_,rfl,rfl,⟨.refl _,⟨.refl _,⟨.refl _,⟨.refl _,trivial⟩⟩⟩⟩,(.refl _)⟩
    ·rcases oi hf with ⟨c14,hf⟩ | ⟨c14,hf⟩
     ·refine y8 rfl c14<|sr<|l9 (.int .i64 2) rfl<|dk<|a0f<|?_;obtain rfl:=os hf;exact a0k ⟨trivial,trivial⟩ rfl (.refl _)
     ·refine y7 rfl (bf c14)<|o6<|?_
      obtain ⟨s30_16,hb1,hf⟩:=ob hf
      refine a1v ([(30,(.bool s30_16))],[]) ?_ ?_
      ·refine a0y ?_
       rcases oi hb1 with ⟨c18,hb1⟩ | ⟨c18,hb1⟩
       ·refine y5 (.ptr 0 0 0) rfl trivial rfl<|y5 (.int .i64 old_2.Id) rfl nle rfl<|l9 (.int .i64 id_1) rfl<|y5 (.bool (old_2.Id == id_1)) rfl rfl rfl<|l9 (.bool (old_2.Id == id_1)) rfl<|a4i (s:=35) (b:=true) rfl c18<|s_on rfl<|y5 (.ptr 1 0 0) rfl trivial rfl<|s_on rfl<|y5 (.int .i64 now_3.Id) rfl nle rfl<|s_on rfl<|l9 (.int .i64 id_1) rfl<|s_on rfl<|y5 (.bool (now_3.Id == id_1)) rfl rfl rfl<|y5 (.bool (now_3.Id == id_1)) rfl trivial rfl<|l9 (.bool (now_3.Id == id_1)) rfl<|a0n<|?_;obtain rfl:=os hb1;exact ⟨[],[],_,_,rfl,rfl,⟨.refl _,trivial⟩,(.refl _)⟩
       ·refine y5 (.ptr 0 0 0) rfl trivial rfl<|y5 (.int .i64 old_2.Id) rfl nle rfl<|l9 (.int .i64 id_1) rfl<|y5 (.bool (old_2.Id == id_1)) rfl rfl rfl<|l9 (.bool (old_2.Id == id_1)) rfl<|a4i (s:=35) (b:=false) rfl (bf c18)<|a0t rfl rfl<|a0t rfl rfl<|a0t rfl rfl<|a0t rfl rfl<|y5 (.bool false) rfl trivial rfl<|l9 (.bool false) rfl<|a0n<|?_;obtain rfl:=os hb1;exact ⟨[],[],_,_,rfl,rfl,⟨.refl _,trivial⟩,(.refl _)⟩
      ·rcases oi hf with ⟨c19,hf⟩ | ⟨c19,hf⟩
       ·refine y8 rfl c19<|sr<|l9 (.int .i64 3) rfl<|dk<|a0f<|?_;obtain rfl:=os hf;exact a0k ⟨trivial,trivial⟩ rfl (.refl _)
       ·refine y7 rfl (bf c19)<|a0e<|a2r<|a0h<|sr<|l9 (.int .i64 0) rfl<|dk<|a0f<|?_;obtain rfl:=os hf;exact a0k ⟨trivial,trivial⟩ rfl (.refl _)

/- impl.within -/
def e4e:a0r :=
 (.seq (.reg (tm 6 (.c (.bool false)) .done))
 (.seq (.reg (tm 7 (.t 0) (tm 8 (.t 1) (tq 9 (.bin .geq (.t 7) (.t 8)) (tm 10 (.t 9) (tg 11 10 true (.mov (.t 0)) (tg 12 10 true (.mov (.t 2)) (tg 13 10 true (.bin .leq (.t 11) (.t 12)) (tq 14 (.pick (.t 10) (.t 13) (.c (.bool false))) (tm 6 (.t 14) .done))))))))))
 .ret))
theorem e4f:a1g Try.prog Try.f106 = some (e4e.erase,[.mov (.t 6)],15):=by kernel_rfl
def b2a (n_1:Int) (low_2:Int) (high_3:Int):Option Bool :=
    if (decide (n_1 ≥ low_2)) then
    some (decide (n_1 ≤ high_3))
    else
    some false
theorem c6g (n_1:Int) (low_2:Int) (high_3:Int) (r:Bool) (hf:b2a n_1 low_2 high_3 = some r):a0b Try.prog 106 .flat [(.int .i64 n_1),(.int .i64 low_2),(.int .i64 high_3)] (.bool r):=by
 refine a0b.of_awp mixed Try.func106 e4f nle ?_;rw [a0q];unfold b2a at hf;unfold e4e;refine (show awp Try.prog false 0 _ (ofL [(0,(.int .i64 n_1)),(1,(.int .i64 low_2)),(2,(.int .i64 high_3))]) [] _ from ?_);refine sr<|l9 (.bool false) rfl<|dk<|sr<|?_
 rcases oi hf with ⟨c4,hf⟩ | ⟨c4,hf⟩
 ·refine l9 (.int .i64 n_1) rfl<|l9 (.int .i64 low_2) rfl<|y5 (.bool (decide (n_1 ≥ low_2))) rfl rfl rfl<|l9 (.bool (decide (n_1 ≥ low_2))) rfl<|a4i (s:=10) (b:=true) rfl c4<|s_on rfl<|l9 (.int .i64 n_1) rfl<|s_on rfl<|l9 (.int .i64 high_3) rfl<|s_on rfl<|y5 (.bool (decide (n_1 ≤ high_3))) rfl rfl rfl<|y5 (.bool (decide (n_1 ≤ high_3))) rfl trivial rfl<|l9 (.bool (decide (n_1 ≤ high_3))) rfl<|dk<|a0f<|?_;obtain rfl:=os hf;exact a0k ⟨trivial,trivial⟩ rfl (.refl _)
 ·refine l9 (.int .i64 n_1) rfl<|l9 (.int .i64 low_2) rfl<|y5 (.bool (decide (n_1 ≥ low_2))) rfl rfl rfl<|l9 (.bool (decide (n_1 ≥ low_2))) rfl<|a4i (s:=10) (b:=false) rfl (bf c4)<|a0t rfl rfl<|a0t rfl rfl<|a0t rfl rfl<|y5 (.bool false) rfl trivial rfl<|l9 (.bool false) rfl<|dk<|a0f<|?_;obtain rfl:=os hf;exact a0k ⟨trivial,trivial⟩ rfl (.refl _)

/- cmp.isNaN[int] -/
def c130:a0r :=
 (.seq (.reg (tm 2 (.c (.bool false)) .done))
 (.seq (.reg (tm 3 (.t 0) (tm 4 (.t 0) (tq 5 (.bin .neq (.t 3) (.t 4)) (tm 2 (.t 5) .done)))))
 .ret))
theorem e4g:a1g Try.prog Try.f130 = some (c130.erase,[.mov (.t 2)],6):=by kernel_rfl
def cmp_isNaN_int (x_1:Int):Option Bool :=
    some (x_1 != x_1)
theorem b5b (x_1:Int) (r:Bool) (hf:cmp_isNaN_int x_1 = some r):a0b Try.prog 130 .flat [(.int .i64 x_1)] (.bool r):=by
  refine a0b.of_awp mixed Try.func130 e4g nle ?_
  rw [a0q]
  unfold cmp_isNaN_int at hf
  unfold c130
  refine (show awp Try.prog false 0 _ (ofL [(0,(.int .i64 x_1))]) [] _ from ?_)
  refine o6 ?_
  refine a0y ?_
  refine a0a (b2z (.bool false) rfl) ?_
  refine a0n ?_
  refine a0h ?_
  refine o6 ?_
  refine a0y ?_
  refine a0a (b2z (.int .i64 x_1) rfl) ?_
  refine a0a (b2z (.int .i64 x_1) rfl) ?_
  refine a0a (o_q (.bool (x_1 != x_1)) rfl rfl rfl) ?_
  refine a0a (b2z (.bool (x_1 != x_1)) rfl) ?_
  refine a0n ?_
  refine a0h ?_
  refine a0f ?_
  obtain rfl:=os hf
  exact a0k ⟨trivial,trivial⟩ rfl (.refl _)

/- cmp.Compare[int] -/
def e4h:a0r :=
 (.seq (.reg (tm 4 (.c (.int .i64 0)) .done))
 (.seq (.reg (tm 7 (.t 0) (tq 8 (.call 130 [(.t 7)]) (tm 5 (.t 8) .done))))
 (.seq (.reg (tm 9 (.t 1) (tq 10 (.call 130 [(.t 9)]) (tm 6 (.t 10) .done))))
 (.seq (.seq (.reg (tm 11 (.t 5) .done))
 (.cond (.t 11) (.seq (.seq (.reg (tm 12 (.t 6) .done))
 (.cond (.t 12) (.seq (.reg (tm 4 (.c (.int .i64 0)) .done))
 .ret)
 .skip))
 (.seq (.reg (tq 4 (.mov (.c (.int .i64 (-1)))) .done))
 .ret))
 .skip))
 (.seq (.seq (.reg (tm 13 (.t 6) .done))
 (.cond (.t 13) (.seq (.reg (tm 4 (.c (.int .i64 1)) .done))
 .ret)
 .skip))
 (.seq (.seq (.reg (tm 14 (.t 0) (tm 15 (.t 1) (tq 16 (.bin .lss (.t 14) (.t 15)) .done))))
 (.cond (.t 16) (.seq (.reg (tq 4 (.mov (.c (.int .i64 (-1)))) .done))
 .ret)
 .skip))
 (.seq (.seq (.reg (tm 17 (.t 0) (tm 18 (.t 1) (tq 19 (.bin .gtr (.t 17) (.t 18)) .done))))
 (.cond (.t 19) (.seq (.reg (tm 4 (.c (.int .i64 1)) .done))
 .ret)
 .skip))
 (.seq (.reg (tm 4 (.c (.int .i64 0)) .done))
 .ret))))))))
theorem e4i:a1g Try.prog Try.f114 = some (e4h.erase,[.mov (.t 4)],20):=by kernel_rfl
def cmp_Compare_int (x_1:Int) (y_2:Int):Option Int :=
    (cmp_isNaN_int x_1).bind fun r_3 =>
    (cmp_isNaN_int y_2).bind fun r_5 =>
    if r_3 then
    if r_5 then
    some 0
    else
    some (-1)
    else
    if r_5 then
    some 1
    else
    if (decide (x_1 < y_2)) then
    some (-1)
    else
    if (decide (x_1 > y_2)) then
    some 1
    else
    some 0
theorem b9r (x_1:Int) (y_2:Int) (r:Int) (hf:cmp_Compare_int x_1 y_2 = some r):a0b Try.prog 114 .flat [(.int .i64 x_1),(.int .i64 y_2)] (.int .i64 r):=by
 refine a0b.of_awp mixed Try.func114 e4i nle ?_;rw [a0q];unfold cmp_Compare_int at hf;unfold e4h;refine (show awp Try.prog false 0 _ (ofL [(0,(.int .i64 x_1)),(1,(.int .i64 y_2))]) [] _ from ?_);refine sr<|l9 (.int .i64 0) rfl<|dk<|sr<|?_
 obtain ⟨r_3,er4,hf⟩:=ob hf
 refine l9 (.int .i64 x_1) rfl<|a0a (a1o (b5b _ _ er4) rfl (.refl _) rfl)<|l9 (.bool r_3) rfl<|dk<|sr<|?_
 obtain ⟨r_5,er6,hf⟩:=ob hf
 refine l9 (.int .i64 y_2) rfl<|a0a (a1o (b5b _ _ er6) rfl (.refl _) rfl)<|l9 (.bool r_5) rfl<|dk<|o6<|sr<|l9 (.bool r_3) rfl<|dk<|?_
 rcases oi hf with ⟨c7,hf⟩ | ⟨c7,hf⟩
 ·refine y8 rfl c7<|o6<|sr<|l9 (.bool r_5) rfl<|dk<|?_
  rcases oi hf with ⟨c8,hf⟩ | ⟨c8,hf⟩
  ·refine y8 rfl c8<|sr<|l9 (.int .i64 0) rfl<|dk<|a0f<|?_;obtain rfl:=os hf;exact a0k ⟨trivial,trivial⟩ rfl (.refl _)
  ·refine y7 rfl (bf c8)<|a0e<|a0h<|sr<|l9 (.int .i64 (-1)) rfl<|dk<|a0f<|?_;obtain rfl:=os hf;exact a0k ⟨trivial,trivial⟩ rfl (.refl _)
 ·refine y7 rfl (bf c7)<|a0e<|a0h<|o6<|sr<|l9 (.bool r_5) rfl<|dk<|?_
  rcases oi hf with ⟨c9,hf⟩ | ⟨c9,hf⟩
  ·refine y8 rfl c9<|sr<|l9 (.int .i64 1) rfl<|dk<|a0f<|?_;obtain rfl:=os hf;exact a0k ⟨trivial,trivial⟩ rfl (.refl _)
  ·refine y7 rfl (bf c9)<|a0e<|a0h<|o6<|sr<|l9 (.int .i64 x_1) rfl<|l9 (.int .i64 y_2) rfl<|y5 (.bool (decide (x_1 < y_2))) rfl rfl rfl<|dk<|?_
   rcases oi hf with ⟨c10,hf⟩ | ⟨c10,hf⟩
   ·refine y8 rfl c10<|sr<|l9 (.int .i64 (-1)) rfl<|dk<|a0f<|?_;obtain rfl:=os hf;exact a0k ⟨trivial,trivial⟩ rfl (.refl _)
   ·refine y7 rfl (bf c10)<|a0e<|a0h<|o6<|sr<|l9 (.int .i64 x_1) rfl<|l9 (.int .i64 y_2) rfl<|y5 (.bool (decide (x_1 > y_2))) rfl rfl rfl<|dk<|?_
    rcases oi hf with ⟨c11,hf⟩ | ⟨c11,hf⟩
    ·refine y8 rfl c11<|sr<|l9 (.int .i64 1) rfl<|dk<|a0f<|?_;obtain rfl:=os hf;exact a0k ⟨trivial,trivial⟩ rfl (.refl _)
    ·refine y7 rfl (bf c11)<|a0e<|a0h<|sr<|l9 (.int .i64 0) rfl<|dk<|a0f<|?_;obtain rfl:=os hf;exact a0k ⟨trivial,trivial⟩ rfl (.refl _)

/- slices.IndexFunc[[]impl.Row,impl.Row] -/
def e4j:a0r :=
 (.seq (.reg (tm 4 (.c (.int .i64 0)) .done))
 (.seq (.seq (.reg (tm 6 (.t 0) (tq 7 (.len (.t 6)) (tm 8 (.c (.int .i64 0)) .done))))
 (.block 0 (.loop (.seq (.reg (tq 9 (.bin .lss (.t 8) (.t 7)) .done))
 (.seq (.cond (.t 9) .skip
 (.exit 0))
 (.seq (.block 1 (.seq (.reg (tm 10 (.t 8) (tm 5 (.t 10) .done)))
 (.seq (.reg (tm 11 (.t 1) (tm 12 (.t 0) (tm 13 (.t 5) (tq 14 (.iaddr 2 (.t 12) (.t 13)) (tq 15 (.load 2 true (.t 14)) (tq 16 (.calv (.t 11) [(.t 15)]) .done)))))))
 (.cond (.t 16) (.seq (.reg (tm 17 (.t 5) (tm 4 (.t 17) .done)))
 .ret)
 .skip))))
 (.reg (tq 18 (.bin .add (.t 8) (.c (.int .i64 1))) (tm 8 (.t 18) .done)))))))))
 (.cut (.seq (.reg (tq 4 (.mov (.c (.int .i64 (-1)))) .done))
 .ret))))
theorem e4k:a1g Try.prog Try.f115 = some (e4j.erase,[.mov (.t 4)],19):=by kernel_rfl
def a0p (f_2:(x8 → Option Bool)):List x8 → Nat → Option (Fl Int Unit)
  | [],s8_17 =>
    some (.go ())
  | x_31 :: xs,s8_17 =>
    (f_2 x_31).bind fun r_32 =>
    if r_32 then
    some (.ret (s8_17:Int))
    else
    a0p f_2 xs (s8_17 + 1)

def a2f (s_1:(List x8)) (f_2:(x8 → Option Bool)):Option Int :=
    (a0p f_2 s_1 0).bind fun q => (match q with
    | .ret r => some r
    | .go _ =>
    some (-1))
theorem a9i (s_1:(List x8)) (f_2:(x8 → Option Bool)) (r:Int) (hf:a2f s_1 f_2 = some r) (kf_f_2:Nat) (cf_f_2:List AV) (okf_f_2:d2e Try.prog kf_f_2 = true) (hcf_f_2:∀ h p,a3y h p cf_f_2 = some cf_f_2) (hrf_f_2:∀ f,a7j f cf_f_2 = cf_f_2) (hpf_f_2:∀ a0 r,f_2 a0 = some r → a0b Try.prog kf_f_2 .flat ([(o5 a0)] ++ cf_f_2) (.bool r)):a0b Try.prog 115 .flat [(.lst 2 (s_1.map o5)),(.fn kf_f_2 cf_f_2)] (.int .i64 r):=by
 refine a0b.of_awp mixed Try.func115 e4k nle ?_;rw [a0q];unfold a2f at hf;unfold e4j;refine (show awp Try.prog false 0 _ (ofL [(0,(.lst 2 (s_1.map o5))),(1,(.fn kf_f_2 cf_f_2))]) [] _ from ?_);refine sr<|l9 (.int .i64 0) rfl<|dk<|o6<|sr<|l9 (.lst 2 (s_1.map o5)) rfl<|a0w (a1b (enc:=o5) rfl) fun hl3 => l9 (.int .i64 0) rfl<|dk<|?_
 obtain ⟨p24,hb1,hf⟩:=ob hf
 refine a2q (X:={q:Unit // p24 = .go q}) (fun q => ([],[])) ?_ ?_
 ·refine a1d (X:={q:Nat // a0p f_2 (s_1.drop q) q = some p24}) (fun q => ([(0,(.lst 2 (s_1.map o5))),(1,(.fn kf_f_2 cf_f_2)),(7,(.int .i64 (s_1.length:Int))),(8,(.int .i64 (q.1:Int)))],[])) (fun q => s_1.length - q.1) ⟨0,hb1⟩ ⟨[],[],_,_,rfl,rfl,⟨.refl _,⟨.of_eq (congrArg (AV.fn _) (hrf_f_2 _)),⟨.refl _,⟨.refl _,trivial⟩⟩⟩⟩,(.refl _)⟩ ?_
  rintro ⟨s8_17,hc1⟩
  have hc1:a0p f_2 (s_1.drop s8_17) s8_17 = some p24:=hc1
  refine (show awp Try.prog false 0 _ (ofL [(0,(.lst 2 (s_1.map o5))),(1,(.fn kf_f_2 cf_f_2)),(7,(.int .i64 (s_1.length:Int))),(8,(.int .i64 (s8_17:Int)))]) [] _ from ?_)
  rcases a4u s_1 s8_17 with ⟨hie27,hd30⟩ | ⟨hlt25,x_31,hx26,hd30⟩
  ·rw [hd30,a0p.eq_1] at hc1
   have hq29:=dlf hie27
   refine sr<|y5 (.bool (decide ((s8_17:Int) < (s_1.length:Int)))) rfl rfl rfl<|dk<|o6<|y7 rfl hq29<|a2e<|a2d<|a1l<|a2c<|?_;obtain rfl:=os hc1;exact a5g ⟨_,rfl⟩ ⟨[],[],_,_,rfl,rfl,trivial,(.refl _)⟩
  ·rw [hd30,a0p.eq_2] at hc1
   have hq29:=dlt hlt25
   refine sr<|y5 (.bool (decide ((s8_17:Int) < (s_1.length:Int)))) rfl rfl rfl<|dk<|o6<|y8 rfl hq29<|a0e<|a0h<|o6<|a2u<|sr<|l9 (.int .i64 (s8_17:Int)) rfl<|l9 (.int .i64 (s8_17:Int)) rfl<|dk<|sr<|?_
   obtain ⟨r_32,er33,hc1⟩:=ob hc1
   refine l9 (.fn kf_f_2 cf_f_2) rfl<|l9 (.lst 2 (s_1.map o5)) rfl<|l9 (.int .i64 (s8_17:Int)) rfl<|a0a (a1h (enc:=o5) rfl rfl hx26)<|y5 (o5 x_31) rfl nle rfl<|a0a (d3t (v:=(.bool r_32)) rfl okf_f_2 hcf_f_2 (hpf_f_2 _ _ er33) rfl (.refl _) rfl)<|dk<|?_
   rcases oi hc1 with ⟨c34,hc1⟩ | ⟨c34,hc1⟩
   ·refine y8 rfl c34<|sr<|l9 (.int .i64 (s8_17:Int)) rfl<|l9 (.int .i64 (s8_17:Int)) rfl<|dk<|a0f<|?_;obtain rfl:=os hc1;obtain rfl:=os hf;exact a0k ⟨trivial,trivial⟩ rfl (.refl _)
   ·refine y7 rfl (bf c34)<|a0e<|a2r<|a0h<|a0y<|y5 (.int .i64 (w64 ((s8_17:Int) + 1))) rfl rfl rfl<|l9 (.int .i64 (w64 ((s8_17:Int) + 1))) rfl<|a0n<|?_;exact a1j ⟨(s8_17 + 1),hc1⟩ (mul hlt25) ⟨[],[],_,_,rfl,rfl,⟨.refl _,⟨.of_eq (congrArg (AV.fn _) (hrf_f_2 _)),⟨.refl _,⟨.of_eq (congrArg (AV.int _) (a1k hlt25 hl3)),trivial⟩⟩⟩⟩,(.refl _)⟩
 ·rintro ⟨_,rfl⟩
  refine sr<|l9 (.int .i64 (-1)) rfl<|dk<|a0f<|?_;obtain rfl:=os hf;exact a0k ⟨trivial,trivial⟩ rfl (.refl _)

/- impl.drop$1 -/
def e4l:a0r :=
 (.seq (.reg (tq 2 (.box 2 (.t 0)) (tm 3 (.c (.bool false)) .done)))
 (.seq (.reg (tq 4 (.faddr 0 (.t 2)) (tq 5 (.load 1 false (.t 4)) (tq 6 (.load 1 false (.t 1)) (tq 7 (.bin .eql (.t 5) (.t 6)) (tm 3 (.t 7) .done))))))
 .ret))
theorem e4m:a1g Try.prog Try.f102 = some (e4l.erase,[.mov (.t 3)],8):=by kernel_rfl
def a5x (r_1:x8) (cap_2:Int):Option Bool :=
    some (r_1.Id == cap_2)
theorem b7i (r_1:x8) (cap_2:Int) (r:Bool) (hf:a5x r_1 cap_2 = some r):a0b Try.prog 102 .flat [(o5 r_1),(.iptr (.int .i64 cap_2) 0)] (.bool r):=by
  refine a0b.of_awp mixed Try.func102 e4m nle ?_
  rw [a0q]
  unfold a5x at hf
  unfold e4l
  refine (show awp Try.prog false 0 _ (ofL [(0,(o5 r_1)),(1,(.iptr (.int .i64 cap_2) 0))]) [] _ from ?_)
  refine o6 ?_
  refine a0y ?_
  refine a0a (a1m (j:=0) (c:=(.agg [(.int .i64 r_1.Id),(.lst 1 (r_1.Cells.map (o7 3 l7)))])) rfl trivial rfl rfl) ?_
  refine a0a (b2z (.bool false) rfl) ?_
  refine a0n ?_
  refine a0h ?_
  refine o6 ?_
  refine a0y ?_
  refine a0a (o_q (.ptr 0 0 0) rfl trivial rfl) ?_
  refine a0a (o_q (.int .i64 r_1.Id) rfl nle rfl) ?_
  refine a0a (o_q (.int .i64 cap_2) rfl ⟨rfl,rfl⟩ rfl) ?_
  refine a0a (o_q (.bool (r_1.Id == cap_2)) rfl rfl rfl) ?_
  refine a0a (b2z (.bool (r_1.Id == cap_2)) rfl) ?_
  refine a0n ?_
  refine a0h ?_
  refine a0f ?_
  obtain rfl:=os hf
  exact a0k ⟨trivial,trivial⟩ rfl (.refl _)

/- impl.rowAt$1 -/
def d3x:a0r :=
 (.seq (.reg (tq 2 (.box 2 (.t 0)) (tm 4 (.c (.int .i64 0)) .done)))
 (.seq (.reg (tq 5 (.faddr 0 (.t 2)) (tq 6 (.load 1 false (.t 5)) (tm 7 (.t 1) (tq 8 (.call 114 [(.t 6),(.t 7)]) (tm 4 (.t 8) .done))))))
 .ret))
theorem d7l:a1g Try.prog Try.f113 = some (d3x.erase,[.mov (.t 4)],9):=by kernel_rfl
def a6i (c_1:Int) (c_2:(List (List a0c))) (id_3:Int):Option Int :=
    (cmp_Compare_int c_1 id_3).bind fun r_4 =>
    some r_4
theorem b3j (c_1:Int) (c_2:(List (List a0c))) (id_3:Int) (r:Int) (hf:a6i c_1 c_2 id_3 = some r):a0u Try.prog ⟨true,true,false⟩ 113 [(.agg [(.int .i64 c_1),(.own 0 0 c_2.length)]),(.int .i64 id_3)] [.row 1 (c_2.map (o7 3 l7))] (.int .i64 r) [.row 1 (c_2.map (o7 3 l7))]:=by
  refine a0u.of_awp mixed Try.func113 d7l nle ?_
  rw [a0q]
  unfold a6i at hf
  unfold d3x
  refine (show awp Try.prog ⟨true,true,false⟩ 1 _ (ofL [(0,(.agg [(.int .i64 c_1),(.own 0 0 c_2.length)])),(1,(.int .i64 id_3))]) [.row 1 (c_2.map (o7 3 l7))] _ from ?_)
  refine o6 ?_
  refine a0y ?_
  refine a0a (a1m (j:=1) (c:=(.agg [(.int .i64 c_1),(.own 0 0 c_2.length)])) rfl trivial rfl rfl) ?_
  refine a0a (b2z (.int .i64 0) rfl) ?_
  refine a0n ?_
  refine a0h ?_
  refine o6 ?_
  refine a0y ?_
  obtain ⟨r_4,er5,hf⟩:=ob hf
  refine a0a (o_q (.ptr 1 0 0) rfl (.of trivial trivial) rfl) ?_
  refine a0a (o_q (.int .i64 c_1) rfl (.of nle trivial) rfl) ?_
  refine a0a (b2z (.int .i64 id_3) rfl) ?_
  refine a0a (a1o (b9r _ _ _ er5) rfl (.refl _) rfl) ?_
  refine a0a (b2z (.int .i64 r_4) rfl) ?_
  refine a0n ?_
  refine a0h ?_
  refine a0f ?_
  obtain rfl:=os hf
  exact a2s [] [0] rfl ⟨.of trivial trivial,trivial⟩ rfl (.refl _) (.refl _)

/- slices.BinarySearchFunc[[]impl.Row,impl.Row,int] -/
def d3y:a0r :=
 (.seq (.reg (tm 6 (.c (.int .i64 0)) (tm 7 (.c (.bool false)) .done)))
 (.seq (.reg (tm 12 (.t 0) (tq 13 (.len (.t 12)) (tm 8 (.t 13) .done))))
 (.seq (.reg (tm 14 (.t 8) (tm 9 (.c (.int .i64 0)) (tm 10 (.t 14) .done))))
 (.seq (.block 0 (.loop (.seq (.seq (.reg (tm 15 (.t 9) (tm 16 (.t 10) (tq 17 (.bin .lss (.t 15) (.t 16)) .done))))
 (.cond (.t 17) .skip
 (.exit 0)))
 (.block 1 (.seq (.reg (tm 18 (.t 9) (tm 19 (.t 10) (tq 20 (.bin .add (.t 18) (.t 19)) (tq 21 (.convI .u64 (.t 20)) (tq 22 (.bin .shr (.t 21) (.c (.int .u64 1))) (tq 23 (.convI .i64 (.t 22)) (tm 11 (.t 23) .done))))))))
 (.seq (.rev (.reg (tm 24 (.t 2) (tm 25 (.t 0) (tm 26 (.t 11) (tq 27 (.iaddr 2 (.t 25) (.t 26)) (tq 28 (.load 2 true (.t 27)) (tm 29 (.t 1) (tq 30 (.calv (.t 24) [(.t 28),(.t 29)]) (tq 31 (.bin .lss (.t 30) (.c (.int .i64 0))) .done))))))))))
 (.cond (.t 31) (.reg (tm 32 (.t 11) (tq 33 (.bin .add (.t 32) (.c (.int .i64 1))) (tm 9 (.t 33) .done))))
 (.reg (tm 34 (.t 11) (tm 10 (.t 34) .done))))))))))
 (.cut (.seq (.rev (.reg (tm 35 (.t 9) (tm 36 (.t 9) (tm 37 (.t 8) (tq 38 (.bin .lss (.t 36) (.t 37)) (tm 39 (.t 38) (tg 40 39 true (.mov (.t 2)) (tg 41 39 true (.mov (.t 0)) (tg 42 39 true (.mov (.t 9)) (tg 43 39 true (.iaddr 2 (.t 41) (.t 42)) (tg 44 39 true (.load 2 true (.t 43)) (tg 45 39 true (.mov (.t 1)) (tg 46 39 true (.calv (.t 40) [(.t 44),(.t 45)]) (tg 47 39 true (.bin .eql (.t 46) (.c (.int .i64 0))) (tq 48 (.pick (.t 39) (.t 47) (.c (.bool false))) (tm 6 (.t 35) (tm 7 (.t 48) .done))))))))))))))))))
 (.rev .ret)))))))
theorem d7m:a1g Try.prog Try.f112 = some (d3y.erase,[.mov (.t 6),.mov (.t 7)],49):=by kernel_rfl
def a0g (x_1:(List x8)) (target_2:Int):Nat → Int → Int → Option Int
  | 0,_,_ => none
  | k + 1,i_50,j_51 =>
    if (decide (i_50 < j_51)) then
    ((x_1[(0 + (w64 (Int.fdiv (IntKind.u64.wrap (w64 (i_50 + j_51))) (2 ^ (min (Int.toNat 1) (IntKind.bits .u64))))).toNat)]?)).bind fun x_64 =>
    if (0:Int) ≤ w64 (Int.fdiv (IntKind.u64.wrap (w64 (i_50 + j_51))) (2 ^ (min (Int.toNat 1) (IntKind.bits .u64)))) ∧ w64 (Int.fdiv (IntKind.u64.wrap (w64 (i_50 + j_51))) (2 ^ (min (Int.toNat 1) (IntKind.bits .u64)))) < (x_1.length:Int) then
    (a6i x_64.Id x_64.Cells target_2).bind fun r_67 =>
    if (decide (r_67 < 0)) then
    a0g x_1 target_2 k (w64 ((w64 (Int.fdiv (IntKind.u64.wrap (w64 (i_50 + j_51))) (2 ^ (min (Int.toNat 1) (IntKind.bits .u64))))) + 1)) j_51
    else
    a0g x_1 target_2 k i_50 (w64 (Int.fdiv (IntKind.u64.wrap (w64 (i_50 + j_51))) (2 ^ (min (Int.toNat 1) (IntKind.bits .u64)))))
    else none
    else
    some i_50

def a1n (x_1:(List x8)) (target_2:Int):Option (Int × Bool) :=
    (a0g x_1 target_2 FUEL 0 (x_1.length:Int)).bind fun i_60 =>
    c7m (x_1[(0 + i_60.toNat)]?) (fun x_72 =>
    if (decide (i_60 < (x_1.length:Int))) then
    if (0:Int) ≤ i_60 ∧ i_60 < (x_1.length:Int) then
    (a6i x_72.Id x_72.Cells target_2).bind fun r_76 =>
    some (i_60,(r_76 == 0))
    else none
    else
    some (i_60,false)) (
    if (decide (i_60 < (x_1.length:Int))) then
    if (0:Int) ≤ i_60 ∧ i_60 < (x_1.length:Int) then
    none
    else none
    else
    some (i_60,false))
theorem a6e (x_1:(List x8)) (target_2:Int) (r:(Int × Bool)) (hf:a1n x_1 target_2 = some r):a0u Try.prog ⟨true,true,false⟩ 112 [(.own 0 0 x_1.length),(.int .i64 target_2),(.fn 113 [])] [.row 2 (x_1.map o5)] (.tup [(.int .i64 r.1),(.bool r.2)]) [.row 2 (x_1.map o5)]:=by
 refine a0u.of_awp mixed Try.func112 d7m nle ?_;rw [a0q];unfold a1n at hf;unfold d3y;refine (show awp Try.prog ⟨true,true,false⟩ 1 _ (ofL [(0,(.own 0 0 x_1.length)),(1,(.int .i64 target_2)),(2,(.fn 113 []))]) [.row 2 (x_1.map o5)] _ from ?_);refine sr<|l9 (.int .i64 0) rfl<|l9 (.bool false) rfl<|dk<|sr<|l9 (.own 0 0 x_1.length) rfl<|a0w (a6c rfl rfl) fun hl3 => l9 (.int .i64 (x_1.length:Int)) rfl<|dk<|sr<|l9 (.int .i64 (x_1.length:Int)) rfl<|l9 (.int .i64 0) rfl<|l9 (.int .i64 (x_1.length:Int)) rfl<|dk<|?_
 refine o6 ?_
 obtain ⟨i_60,hb1,hf⟩:=ob hf
 refine a1v ([(0,(.own 0 0 x_1.length)),(1,(.int .i64 target_2)),(2,(.fn 113 [])),(8,(.int .i64 (x_1.length:Int))),(9,(.int .i64 i_60))],[.row 2 (x_1.map o5)]) ?_ ?_
 ·refine a1d (X:={q:(Nat × Int × Int) // a0g x_1 target_2 q.1 q.2.1 q.2.2 = some i_60}) (fun q => ([(0,(.own 0 0 x_1.length)),(1,(.int .i64 target_2)),(2,(.fn 113 [])),(8,(.int .i64 (x_1.length:Int))),(9,(.int .i64 q.1.2.1)),(10,(.int .i64 q.1.2.2))],[.row 2 (x_1.map o5)])) (fun q => q.1.1) ⟨(FUEL,0,(x_1.length:Int)),hb1⟩ ⟨[],[0],_,_,rfl,rfl,⟨.refl _,⟨.refl _,⟨.refl _,⟨.refl _,⟨.refl _,⟨.refl _,trivial⟩⟩⟩⟩⟩⟩,(.refl _)⟩ ?_
  rintro ⟨⟨k,i_50,j_51⟩,hc1⟩
  have hc1:a0g x_1 target_2 k i_50 j_51 = some i_60:=hc1
  refine (show awp Try.prog ⟨true,true,false⟩ 1 _ (ofL [(0,(.own 0 0 x_1.length)),(1,(.int .i64 target_2)),(2,(.fn 113 [])),(8,(.int .i64 (x_1.length:Int))),(9,(.int .i64 i_50)),(10,(.int .i64 j_51))]) [.row 2 (x_1.map o5)] _ from ?_)
  rcases k with _ | k
  ·rw [a0g.eq_1] at hc1
   cases hc1
  ·rw [a0g.eq_2] at hc1;refine o6<|sr<|l9 (.int .i64 i_50) rfl<|l9 (.int .i64 j_51) rfl<|y5 (.bool (decide (i_50 < j_51))) rfl (.of rfl trivial) rfl<|dk<|?_
   rcases oi hc1 with ⟨c62,hc1⟩ | ⟨c62,hc1⟩
   ·refine y8 rfl c62<|a0e<|a0h<|a2u<|sr<|l9 (.int .i64 i_50) rfl<|l9 (.int .i64 j_51) rfl<|y5 (.int .i64 (w64 (i_50 + j_51))) rfl (.of rfl trivial) rfl<|y5 (.int .u64 (IntKind.u64.wrap (w64 (i_50 + j_51)))) rfl (.of trivial trivial) rfl<|?_;refine a0a (o_q (.int .u64 (Int.fdiv (IntKind.u64.wrap (w64 (i_50 + j_51))) (2 ^ (min (Int.toNat 1) (IntKind.bits .u64))))) rfl (.of (show (0:Int) ≤ 1 by decide) trivial) rfl) ?_;refine y5 (.int .i64 (w64 (Int.fdiv (IntKind.u64.wrap (w64 (i_50 + j_51))) (2 ^ (min (Int.toNat 1) (IntKind.bits .u64)))))) rfl (.of trivial trivial) rfl<|l9 (.int .i64 (w64 (Int.fdiv (IntKind.u64.wrap (w64 (i_50 + j_51))) (2 ^ (min (Int.toNat 1) (IntKind.bits .u64)))))) rfl<|?_
    refine dk<|o6<|?_
    obtain ⟨x_64,ex65,hc1⟩:=ob hc1
    refine c4m (o:=0) (i:=(0 + (w64 (Int.fdiv (IntKind.u64.wrap (w64 (i_50 + j_51))) (2 ^ (min (Int.toNat 1) (IntKind.bits .u64))))).toNat)) (el:=(.agg [(.int .i64 x_64.Id),(.lst 1 (x_64.Cells.map (o7 3 l7)))])) (el2:=(.agg [(.int .i64 x_64.Id),(.own 1 0 x_64.Cells.length)])) (xs:=[.row 1 (x_64.Cells.map (o7 3 l7))]) rfl rfl rfl ex65 rfl (by simp only [AV.cells,a1q,a1r,List.length_map,List.nil_append,List.append_nil,List.cons_append];rfl)<|a0y<|?_
    obtain ⟨g66,hc1⟩:=og hc1
    obtain ⟨r_67,er68,hc1⟩:=ob hc1
    refine l9 (.fn 113 []) rfl<|l9 (.own 0 0 x_1.length) rfl<|l9 (.int .i64 (w64 (Int.fdiv (IntKind.u64.wrap (w64 (i_50 + j_51))) (2 ^ (min (Int.toNat 1) (IntKind.bits .u64)))))) rfl<|a0a (b1u rfl rfl g66.1 g66.2 rfl rfl)<|a0a (b6y rfl rfl nle rfl)<|l9 (.int .i64 target_2) rfl<|?_;refine a0a (c8m (v:=(.int .i64 r_67)) (h2:=[.rowx 2 (x_1.map o5) (0 + (w64 (Int.fdiv (IntKind.u64.wrap (w64 (i_50 + j_51))) (2 ^ (min (Int.toNat 1) (IntKind.bits .u64))))).toNat) (.agg [(.int .i64 x_64.Id),(.own 1 0 x_64.Cells.length)]),.row 1 (x_64.Cells.map (o7 3 l7))]) [] [1] (fun _ => rfl) rfl (by kernel_rfl) (b3j _ _ _ _ er68) rfl rfl (.refl _) (.refl _) rfl rfl) ?_
    refine y5 (.bool (decide (r_67 < 0))) rfl (.of rfl trivial) rfl<|dk<|?_
    rcases oi hc1 with ⟨c69,hc1⟩ | ⟨c69,hc1⟩
    ·refine y8 rfl c69<|a0y<|l9 (.int .i64 (w64 (Int.fdiv (IntKind.u64.wrap (w64 (i_50 + j_51))) (2 ^ (min (Int.toNat 1) (IntKind.bits .u64)))))) rfl<|y5 (.int .i64 (w64 ((w64 (Int.fdiv (IntKind.u64.wrap (w64 (i_50 + j_51))) (2 ^ (min (Int.toNat 1) (IntKind.bits .u64))))) + 1))) rfl (.of rfl trivial) rfl<|l9 (.int .i64 (w64 ((w64 (Int.fdiv (IntKind.u64.wrap (w64 (i_50 + j_51))) (2 ^ (min (Int.toNat 1) (IntKind.bits .u64))))) + 1))) rfl<|a0n<|a2r<|?_;exact a1j ⟨(k,w64 ((w64 (Int.fdiv (IntKind.u64.wrap (w64 (i_50 + j_51))) (2 ^ (min (Int.toNat 1) (IntKind.bits .u64))))) + 1),j_51),hc1⟩ (Nat.lt_succ_self _) ⟨[.cls 0],[0],_,_,rfl,rfl,⟨.refl _,⟨.refl _,⟨.refl _,⟨.refl _,⟨.refl _,⟨.refl _,trivial⟩⟩⟩⟩⟩⟩,(.cons ((b3x ex65 (.agg (.cons (.refl _) (.cons (.of_eq (congrArg (AV.lst _) (tk (enc:=(o7 3 l7)) x_64.Cells))) .nil))))) .nil)⟩
    ·refine y7 rfl (bf c69)<|a0y<|l9 (.int .i64 (w64 (Int.fdiv (IntKind.u64.wrap (w64 (i_50 + j_51))) (2 ^ (min (Int.toNat 1) (IntKind.bits .u64)))))) rfl<|l9 (.int .i64 (w64 (Int.fdiv (IntKind.u64.wrap (w64 (i_50 + j_51))) (2 ^ (min (Int.toNat 1) (IntKind.bits .u64)))))) rfl<|a0n<|a2r<|?_;exact a1j ⟨(k,i_50,w64 (Int.fdiv (IntKind.u64.wrap (w64 (i_50 + j_51))) (2 ^ (min (Int.toNat 1) (IntKind.bits .u64))))),hc1⟩ (Nat.lt_succ_self _) ⟨[.cls 0],[0],_,_,rfl,rfl,⟨.refl _,⟨.refl _,⟨.refl _,⟨.refl _,⟨.refl _,⟨.refl _,trivial⟩⟩⟩⟩⟩⟩,(.cons ((b3x ex65 (.agg (.cons (.refl _) (.cons (.of_eq (congrArg (AV.lst _) (tk (enc:=(o7 3 l7)) x_64.Cells))) .nil))))) .nil)⟩
   ·refine y7 rfl (bf c62)<|a2e<|a2d<|a1l<|a2c<|?_;obtain rfl:=os hc1;exact ⟨[],[0],_,_,rfl,rfl,⟨.refl _,⟨.refl _,⟨.refl _,⟨.refl _,⟨.refl _,trivial⟩⟩⟩⟩⟩,(.refl _)⟩
 ·refine o6 ?_
  rcases oo hf with ⟨x_72,ex73,hf⟩ | ⟨ex73,hf⟩
  ·refine c4m (o:=0) (i:=(0 + i_60.toNat)) (el:=(.agg [(.int .i64 x_72.Id),(.lst 1 (x_72.Cells.map (o7 3 l7)))])) (el2:=(.agg [(.int .i64 x_72.Id),(.own 1 0 x_72.Cells.length)])) (xs:=[.row 1 (x_72.Cells.map (o7 3 l7))]) rfl rfl rfl ex73 rfl (by simp only [AV.cells,a1q,a1r,List.length_map,List.nil_append,List.append_nil,List.cons_append];rfl)<|a0y<|l9 (.int .i64 i_60) rfl<|l9 (.int .i64 i_60) rfl<|l9 (.int .i64 (x_1.length:Int)) rfl<|y5 (.bool (decide (i_60 < (x_1.length:Int)))) rfl (.of rfl trivial) rfl<|l9 (.bool (decide (i_60 < (x_1.length:Int)))) rfl<|?_
   rcases oi hf with ⟨c74,hf⟩ | ⟨c74,hf⟩
   ·refine a4i (s:=39) (b:=true) rfl c74<|s_on rfl<|l9 (.fn 113 []) rfl<|s_on rfl<|l9 (.own 0 0 x_1.length) rfl<|s_on rfl<|l9 (.int .i64 i_60) rfl<|s_on rfl<|?_
    obtain ⟨g75,hf⟩:=og hf
    refine a0a (b1u rfl rfl g75.1 g75.2 rfl rfl)<|s_on rfl<|a0a (b6y rfl rfl nle rfl)<|s_on rfl<|l9 (.int .i64 target_2) rfl<|s_on rfl<|?_
    obtain ⟨r_76,er77,hf⟩:=ob hf
    refine a0a (c8m (v:=(.int .i64 r_76)) (h2:=[.rowx 2 (x_1.map o5) (0 + i_60.toNat) (.agg [(.int .i64 x_72.Id),(.own 1 0 x_72.Cells.length)]),.row 1 (x_72.Cells.map (o7 3 l7))]) [] [1] (fun _ => rfl) rfl (by kernel_rfl) (b3j _ _ _ _ er77) rfl rfl (.refl _) (.refl _) rfl rfl) ?_;refine s_on rfl<|y5 (.bool (r_76 == 0)) rfl (.of rfl trivial) rfl<|y5 (.bool (r_76 == 0)) rfl (.of trivial trivial) rfl<|l9 (.int .i64 i_60) rfl<|l9 (.bool (r_76 == 0)) rfl<|dk<|c0x (o:=0) (h2:=[.rowx 2 (x_1.map o5) (0 + i_60.toNat) (.agg [(.int .i64 x_72.Id),(.own 1 0 x_72.Cells.length)]),.dead]) ex73 rfl rfl rfl (.agg (.cons (.refl _) (.cons (.of_eq (congrArg (AV.lst _) (tk (enc:=(o7 3 l7)) x_72.Cells))) .nil))) rfl<|?_
    refine a0f ?_;obtain rfl:=os hf;exact a2s [] [0] rfl ⟨.of trivial trivial,⟨.of trivial trivial,trivial⟩⟩ rfl (.refl _) (.refl _)
   ·refine a4i (s:=39) (b:=false) rfl (bf c74)<|a0t rfl rfl<|a0t rfl rfl<|a0t rfl rfl<|a0t rfl rfl<|a0t rfl rfl<|a0t rfl rfl<|a0t rfl rfl<|a0t rfl rfl<|y5 (.bool false) rfl (.of trivial trivial) rfl<|l9 (.int .i64 i_60) rfl<|l9 (.bool false) rfl<|dk<|c0x (o:=0) (h2:=[.rowx 2 (x_1.map o5) (0 + i_60.toNat) (.agg [(.int .i64 x_72.Id),(.own 1 0 x_72.Cells.length)]),.dead]) ex73 rfl rfl rfl (.agg (.cons (.refl _) (.cons (.of_eq (congrArg (AV.lst _) (tk (enc:=(o7 3 l7)) x_72.Cells))) .nil))) rfl<|a0f<|?_;obtain rfl:=os hf;exact a2s [] [0] rfl ⟨.of trivial trivial,⟨.of trivial trivial,trivial⟩⟩ rfl (.refl _) (.refl _)
  ·refine d7e<|a0y<|l9 (.int .i64 i_60) rfl<|l9 (.int .i64 i_60) rfl<|l9 (.int .i64 (x_1.length:Int)) rfl<|y5 (.bool (decide (i_60 < (x_1.length:Int)))) rfl (.of rfl trivial) rfl<|l9 (.bool (decide (i_60 < (x_1.length:Int)))) rfl<|?_
   rcases oi hf with ⟨c78,hf⟩ | ⟨c78,hf⟩
   ·refine a4i (s:=39) (b:=true) rfl c78<|s_on rfl<|l9 (.fn 113 []) rfl<|s_on rfl<|l9 (.own 0 0 x_1.length) rfl<|s_on rfl<|l9 (.int .i64 i_60) rfl<|s_on rfl<|?_
    obtain ⟨g79,hf⟩:=og hf
    refine a0a (a2g rfl rfl g79.1 g79.2 rfl rfl) ?_
    cases hf
   ·refine a4i (s:=39) (b:=false) rfl (bf c78)<|a0t rfl rfl<|a0t rfl rfl<|a0t rfl rfl<|a0t rfl rfl<|a0t rfl rfl<|a0t rfl rfl<|a0t rfl rfl<|a0t rfl rfl<|y5 (.bool false) rfl (.of trivial trivial) rfl<|l9 (.int .i64 i_60) rfl<|l9 (.bool false) rfl<|dk<|d7e<|a0f<|?_;obtain rfl:=os hf;exact a2s [] [0] rfl ⟨.of trivial trivial,⟨.of trivial trivial,trivial⟩⟩ rfl (.refl _) (.refl _)

/- impl.rowAt -/
def d3z:a0r :=
 (.seq (.reg (tm 4 (.c (.int .i64 0)) (tm 5 (.c (.bool false)) .done)))
 (.seq (.reg (tm 6 (.t 0) (tm 7 (.t 1) (tq 8 (.call 112 [(.t 6),(.t 7),(.c (.fn 113 []))]) (tq 9 (.extract 0 (.t 8)) (tq 10 (.extract 1 (.t 8)) (tm 4 (.t 9) (tm 5 (.t 10) .done))))))))
 .ret))
theorem d7n:a1g Try.prog Try.f100 = some (d3z.erase,[.mov (.t 4),.mov (.t 5)],11):=by kernel_rfl
def a6p (rows_1:(List x8)) (id_2:Int):Option (Int × Bool) :=
    (a1n rows_1 id_2).bind fun r_3 =>
    some (r_3.1,r_3.2)
theorem b5c (rows_1:(List x8)) (id_2:Int) (r:(Int × Bool)) (hf:a6p rows_1 id_2 = some r):a0u Try.prog ⟨true,true,false⟩ 100 [(.own 0 0 rows_1.length),(.int .i64 id_2)] [.row 2 (rows_1.map o5)] (.tup [(.int .i64 r.1),(.bool r.2)]) [.row 2 (rows_1.map o5)]:=by
 refine a0u.of_awp mixed Try.func100 d7n nle ?_;rw [a0q];unfold a6p at hf;unfold d3z;refine (show awp Try.prog ⟨true,true,false⟩ 1 _ (ofL [(0,(.own 0 0 rows_1.length)),(1,(.int .i64 id_2))]) [.row 2 (rows_1.map o5)] _ from ?_);refine sr<|l9 (.int .i64 0) rfl<|l9 (.bool false) rfl<|dk<|sr<|?_
 obtain ⟨r_3,er4,hf⟩:=ob hf
 refine l9 (.own 0 0 rows_1.length) rfl<|l9 (.int .i64 id_2) rfl<|?_;refine a0a (a6g (v:=(.tup [(.int .i64 r_3.1),(.bool r_3.2)])) (h2:=[.row 2 (rows_1.map o5)]) [] [0] (fun _ => rfl) (a6e _ _ _ er4) rfl (.refl _) (.refl _) rfl rfl) ?_;refine y5 (.int .i64 r_3.1) rfl (.of nle trivial) rfl<|y5 (.bool r_3.2) rfl (.of nle trivial) rfl<|l9 (.int .i64 r_3.1) rfl<|l9 (.bool r_3.2) rfl<|dk<|a0f<|?_;obtain rfl:=os hf;exact a2s [] [0] rfl ⟨.of trivial trivial,⟨.of trivial trivial,trivial⟩⟩ rfl (.refl _) (.refl _)

/- slices.Clone[[]impl.Atom,impl.Atom] -/
def d7o:a0r :=
 (.seq (.reg (tm 2 (.c .nil) .done))
 (.seq (.seq (.reg (tm 3 (.t 0) (tq 4 (.isnil false (.t 3)) .done)))
 (.cond (.t 4) (.seq (.reg (tm 2 (.c .nil) .done))
 .ret)
 .skip))
 (.seq (.reg (tq 5 (.bslice 3 []) (tm 6 (.t 0) (tq 7 (.append 3 32 (.t 5) (.t 6)) (tm 2 (.t 7) .done)))))
 .ret)))
theorem e0k:a1g Try.prog Try.f97 = some (d7o.erase,[.mov (.t 2)],8):=by kernel_rfl
def a1x (s_1:(List a0c)):Option (List a0c) :=
    if ([] ++ s_1).length ≤ 2 ^ 30 then
    some ([] ++ s_1)
    else none
theorem a8z (s_1:(List a0c)) (r:(List a0c)) (hf:a1x s_1 = some r):a0u Try.prog ⟨true,true,false⟩ 97 [(.own 0 0 s_1.length)] [.row 3 (s_1.map l7)] (.own 1 0 r.length) [.row 3 (s_1.map l7),.row 3 (r.map l7)]:=by
 refine a0u.of_awp mixed Try.func97 e0k nle ?_;rw [a0q];unfold a1x at hf;unfold d7o;refine (show awp Try.prog ⟨true,true,false⟩ 1 _ (ofL [(0,(.own 0 0 s_1.length))]) [.row 3 (s_1.map l7)] _ from ?_);refine sr<|l9 .nil rfl<|dk<|o6<|sr<|l9 (.own 0 0 s_1.length) rfl<|e2n (l:=s_1.map l7) rfl rfl<|?_
 intro b hb3
 rcases b with _ | _
 ·refine dk<|y7 rfl rfl<|a0e<|a0h<|sr<|?_
  obtain ⟨g2,hf⟩:=og hf
  refine a0a (a3k (j:=1) (as':=[]) rfl (fun _ => by decide) trivial (.refl _) rfl rfl rfl) ?_;refine l9 (.own 0 0 s_1.length) rfl ?_
  refine a0a (a7t (j:=2) (L:=(([] ++ s_1).map l7)) (len:=([] ++ s_1).length) rfl false rfl rfl (fun _ => flo (enc:=l7) (fun _ => rfl) s_1 _) (fun _ _ h => (d0v (show AV.own _ _ _ = AV.lst _ _ from h)).elim) (by decide) ((by simp [← List.map_take])) (by simp <;> omega) g2 rfl rfl) ?_
  refine l9 (.own 2 0 (([] ++ s_1).length)) rfl<|dk<|a0f<|?_;obtain rfl:=os hf;exact a2s [] [0,2] rfl ⟨.of trivial trivial,trivial⟩ rfl (.refl _) (.refl _)
 ·have he4:s_1 = []:=List.eq_nil_of_length_eq_zero (hb3 rfl)
  have hE:(if ([] ++ s_1).length ≤ 2 ^ 30 then some ([] ++ s_1) else none) = (some []):=by simp [he4]
  rw [hE] at hf;refine dk<|y8 rfl rfl<|sr<|l9 .nil rfl<|dk<|a0f<|?_;obtain rfl:=os hf;exact a2s [.nilT 2 3] [0,1] rfl ⟨.of trivial trivial,trivial⟩ rfl (.refl _) (.refl _)

/- impl.copyRow -/
def d7p:a0r :=
 (.seq (.reg (tq 1 (.box 2 (.t 0)) (tq 2 (.box 2 (.c (.agg [(.int .i64 0),.nil]))) .done)))
 (.seq (.reg (tq 6 (.bslice 1 []) (tm 3 (.t 6) .done)))
 (.seq (.seq (.reg (tq 7 (.faddr 1 (.t 1)) (tq 8 (.load 1 false (.t 7)) (tq 9 (.len (.t 8)) (tm 10 (.c (.int .i64 0)) .done)))))
 (.block 0 (.loop (.seq (.reg (tq 11 (.bin .lss (.t 10) (.t 9)) .done))
 (.seq (.cond (.t 11) .skip
 (.exit 0))
 (.seq (.block 1 (.seq (.rev (.reg (tq 12 (.iaddr 1 (.t 8) (.t 10)) (tq 13 (.load 1 false (.t 12)) (tm 5 (.t 13) .done)))))
 (.reg (tm 14 (.t 3) (tm 15 (.t 5) (tq 16 (.call 97 [(.t 15)]) (tq 17 (.bslice 1 [(.t 16)]) (tq 18 (.append 1 24 (.t 14) (.t 17)) (tm 3 (.t 18) .done)))))))))
 (.reg (tq 19 (.bin .add (.t 10) (.c (.int .i64 1))) (tm 10 (.t 19) .done)))))))))
 (.cut (.seq (.seq (.reg (tq 20 (.faddr 1 (.t 1)) (.q ⟨none,none,.store 1 (.t 20) (.c .nil)⟩
 .done)))
 (.seq (.reg (tm 21 (.t 3) (tq 22 (.len (.t 21)) (tq 23 (.bin .gtr (.t 22) (.c (.int .i64 0))) .done))))
 (.cond (.t 23) (.reg (tm 24 (.t 3) (tq 25 (.faddr 1 (.t 1)) (.q ⟨none,none,.store 1 (.t 25) (.t 24)⟩
 .done))))
 .skip)))
 (.seq (.reg (tq 26 (.load 2 true (.t 1)) (.q ⟨none,none,.store 2 (.t 2) (.t 26)⟩
 .done)))
 .ret))))))
theorem e0l:a1g Try.prog Try.f76 = some (d7p.erase,[.load 2 true (.t 2)],27):=by kernel_rfl
def a2m (c_2:(List (List a0c))):List (List a0c) → Nat → (List (List a0c)) → Option (List (List a0c))
  | [],s10_22,cells_23 =>
    some cells_23
  | x_40 :: xs,s10_22,cells_23 =>
    if s10_22 < c_2.length then
    (a1x x_40).bind fun r_43 =>
    if (cells_23 ++ [r_43]).length ≤ 2 ^ 30 then
    a2m c_2 xs (s10_22 + 1) (cells_23 ++ [r_43])
    else none
    else none

def a7q (c_1:Int) (c_2:(List (List a0c))):Option x8 :=
    (a2m c_2 c_2 0 []).bind fun cells_32 =>
    if (decide ((cells_32.length:Int) > 0)) then
    some (⟨c_1,cells_32⟩:x8)
    else
    some (⟨c_1,[]⟩:x8)
theorem b9s (c_1:Int) (c_2:(List (List a0c))) (r:x8) (hf:a7q c_1 c_2 = some r):a0u Try.prog ⟨true,true,false⟩ 76 [(.agg [(.int .i64 c_1),(.own 0 0 c_2.length)])] [.row 1 (c_2.map (o7 3 l7))] (.agg [(.int .i64 r.Id),(.own 1 0 r.Cells.length)]) [.row 1 (c_2.map (o7 3 l7)),.row 1 (r.Cells.map (o7 3 l7))]:=by
 refine a0u.of_awp mixed Try.func76 e0l nle ?_;rw [a0q];unfold a7q at hf;unfold d7p;refine (show awp Try.prog ⟨true,true,false⟩ 1 _ (ofL [(0,(.agg [(.int .i64 c_1),(.own 0 0 c_2.length)]))]) [.row 1 (c_2.map (o7 3 l7))] _ from ?_);refine sr<|a0a (a1m (j:=1) (c:=(.agg [(.int .i64 c_1),(.own 0 0 c_2.length)])) rfl trivial rfl rfl)<|a0a (a1m (j:=2) (c:=(.agg [(.int .i64 0),.nil])) rfl trivial rfl rfl)<|dk<|sr<|?_;refine a0a (a3k (j:=3) (as':=[]) rfl (fun _ => by decide) trivial (.refl _) rfl rfl rfl) ?_;refine l9 (.own 3 0 0) rfl<|dk<|o6<|sr<|y5 (.ptr 1 0 1) rfl (.of trivial trivial) rfl<|?_
 refine y5 (.own 0 0 c_2.length) rfl (.of nle trivial) rfl<|a0w (a6c rfl rfl) fun hl3 => l9 (.int .i64 0) rfl<|dk<|?_
 obtain ⟨cells_32,hb1,hf⟩:=ob hf
 refine a1v ([(1,(.ptr 1 0 0)),(2,(.ptr 2 0 0)),(3,(.own 3 0 cells_32.length))],[.row 1 (c_2.map (o7 3 l7)),.box 2 (.agg [(.int .i64 c_1),(.own 0 0 c_2.length)]),.box 2 (.agg [(.int .i64 0),.nil]),.row 1 (cells_32.map (o7 3 l7))]) ?_ ?_
 ·refine a1d (X:={q:(Nat × (List (List a0c))) // a2m c_2 (c_2.drop q.1) q.1 q.2 = some cells_32}) (fun q => ([(1,(.ptr 1 0 0)),(2,(.ptr 2 0 0)),(3,(.own 3 0 q.1.2.length)),(8,(.own 0 0 c_2.length)),(9,(.int .i64 (c_2.length:Int))),(10,(.int .i64 (q.1.1:Int)))],[.row 1 (c_2.map (o7 3 l7)),.box 2 (.agg [(.int .i64 c_1),(.own 0 0 c_2.length)]),.box 2 (.agg [(.int .i64 0),.nil]),.row 1 (q.1.2.map (o7 3 l7))])) (fun q => c_2.length - q.1.1) ⟨(0,[]),hb1⟩ ⟨[],[0,1,2,3],_,_,rfl,rfl,⟨.refl _,⟨.refl _,⟨.of_eq (congrArg (AV.own _ 0) (by simp)),⟨.refl _,⟨.refl _,⟨.refl _,trivial⟩⟩⟩⟩⟩⟩,(.refl _)⟩ ?_
  rintro ⟨⟨s10_22,cells_23⟩,hc1⟩
  have hc1:a2m c_2 (c_2.drop s10_22) s10_22 cells_23 = some cells_32:=hc1
  refine (show awp Try.prog ⟨true,true,false⟩ 1 _ (ofL [(1,(.ptr 1 0 0)),(2,(.ptr 2 0 0)),(3,(.own 3 0 cells_23.length)),(8,(.own 0 0 c_2.length)),(9,(.int .i64 (c_2.length:Int))),(10,(.int .i64 (s10_22:Int)))]) [.row 1 (c_2.map (o7 3 l7)),.box 2 (.agg [(.int .i64 c_1),(.own 0 0 c_2.length)]),.box 2 (.agg [(.int .i64 0),.nil]),.row 1 (cells_23.map (o7 3 l7))] _ from ?_)
  rcases a4u c_2 s10_22 with ⟨hie36,hd39⟩ | ⟨hlt34,x_40,hx35,hd39⟩
  ·rw [hd39,a2m.eq_1] at hc1
   have hq38:=dlf hie36
   refine sr<|y5 (.bool (decide ((s10_22:Int) < (c_2.length:Int)))) rfl (.of rfl trivial) rfl<|dk<|o6<|y7 rfl hq38<|a2e<|a2d<|a1l<|a2c<|?_;obtain rfl:=os hc1;exact ⟨[],[0,1,2,3],_,_,rfl,rfl,⟨.refl _,⟨.refl _,⟨.refl _,trivial⟩⟩⟩,(.refl _)⟩
  ·rw [hd39,a2m.eq_2] at hc1
   have hq38:=dlt hlt34
   refine sr<|y5 (.bool (decide ((s10_22:Int) < (c_2.length:Int)))) rfl (.of rfl trivial) rfl<|dk<|o6<|y8 rfl hq38<|a0e<|a0h<|o6<|a2u<|o6<|c4m (o:=0) (i:=s10_22) (el:=(.lst 3 (x_40.map l7))) (el2:=(.own 4 0 x_40.length)) (xs:=[.row 3 (x_40.map l7)]) rfl rfl rfl hx35 rfl (by simp only [AV.cells,a1q,a1r,List.length_map,List.nil_append,List.append_nil,List.cons_append];rfl)<|a0y<|?_
   obtain ⟨g42,hc1⟩:=og hc1
   refine a0a (c7k rfl rfl g42 rfl rfl)<|a0a (b6y rfl rfl ⟨rfl,rfl⟩ rfl)<|l9 (.own 4 0 x_40.length) rfl<|dk<|a0y<|?_
   obtain ⟨r_43,er44,hc1⟩:=ob hc1
   obtain ⟨g45,hc1⟩:=og hc1
   refine l9 (.own 3 0 cells_23.length) rfl<|l9 (.own 4 0 x_40.length) rfl<|?_;refine a0a (a6g (v:=(.own 5 0 r_43.length)) (h2:=[.rowx 1 (c_2.map (o7 3 l7)) s10_22 (.own 4 0 x_40.length),.box 2 (.agg [(.int .i64 c_1),(.own 0 0 c_2.length)]),.box 2 (.agg [(.int .i64 0),.nil]),.row 1 (cells_23.map (o7 3 l7)),.row 3 (x_40.map l7),.row 3 (r_43.map l7)]) [] [4] (fun _ => rfl) (a8z _ _ er44) rfl (.refl _) (.refl _) rfl rfl) ?_;refine a0a (a3k (j:=6) (as':=[(.lst 3 (r_43.map l7))]) rfl (fun _ => by decide) ⟨rfl,trivial⟩ (.cons (.of_eq (congrArg (AV.lst _) (tk (enc:=l7) r_43))) .nil) rfl rfl rfl) ?_
   refine a0a (a7t (j:=7) (L:=((cells_23 ++ [r_43]).map (o7 3 l7))) (len:=(cells_23 ++ [r_43]).length) rfl true rfl rfl (fun h => Bool.noConfusion h) (fun _ _ h => (d0v (show AV.own _ _ _ = AV.lst _ _ from h)).elim) (by decide) (d0w (enc:=(o7 3 l7)) cells_23 [r_43] _ (by rfl)) (by simp <;> omega) g45 rfl rfl) ?_
   refine l9 (.own 7 0 ((cells_23 ++ [r_43]).length)) rfl<|a0n<|a2r<|a0h<|a0y<|y5 (.int .i64 (w64 ((s10_22:Int) + 1))) rfl (.of rfl trivial) rfl<|l9 (.int .i64 (w64 ((s10_22:Int) + 1))) rfl<|a0n<|?_;exact a1j ⟨((s10_22 + 1),cells_23 ++ [r_43]),hc1⟩ (mul hlt34) ⟨[.cls 0],[0,1,2,7],_,_,rfl,rfl,⟨.refl _,⟨.refl _,⟨.refl _,⟨.refl _,⟨.refl _,⟨.of_eq (congrArg (AV.int _) (a1k hlt34 hl3)),trivial⟩⟩⟩⟩⟩⟩,(.cons ((b3x hx35 (.of_eq (congrArg (AV.lst _) (tk (enc:=l7) x_40))))) (.cons (.refl _) (.cons (.refl _) (.cons (.refl _) .nil))))⟩
 ·refine o6<|sr<|y5 (.ptr 1 0 1) rfl (.of trivial trivial) rfl<|a1p (a0i (v:=.nil) (y':=(.agg [(.int .i64 c_1),.nil])) rfl rfl rfl trivial ⟨rfl,nle⟩ ⟨⟨rfl,trivial⟩,trivial⟩ rfl)<|dk<|sr<|l9 (.own 3 0 cells_32.length) rfl<|a0w (a6c rfl rfl) fun hl46 => y5 (.bool (decide ((cells_32.length:Int) > 0))) rfl (.of rfl trivial) rfl<|dk<|?_
  rcases oi hf with ⟨c47,hf⟩ | ⟨c47,hf⟩
  ·refine y8 rfl c47<|a0y<|l9 (.own 3 0 cells_32.length) rfl<|y5 (.ptr 1 0 1) rfl (.of trivial trivial) rfl<|a1p (a0i (v:=(.own 3 0 cells_32.length)) (y':=(.agg [(.int .i64 c_1),(.own 3 0 cells_32.length)])) rfl rfl rfl trivial ⟨rfl,nle⟩ ⟨⟨rfl,trivial⟩,trivial⟩ rfl)<|dk<|sr<|y5 (.agg [(.int .i64 c_1),(.own 3 0 cells_32.length)]) rfl (.of nle trivial) rfl<|a1p (a0i (v:=(.agg [(.int .i64 c_1),(.own 3 0 cells_32.length)])) (y':=(.agg [(.int .i64 c_1),(.own 3 0 cells_32.length)])) rfl rfl rfl trivial ⟨rfl,nle⟩ ⟨⟨rfl,trivial⟩,⟨⟨rfl,trivial⟩,trivial⟩⟩ rfl)<|dk<|a0f<|?_;obtain rfl:=os hf;exact a2s [] [0,3] rfl ⟨.of nle trivial,trivial⟩ rfl (.refl _) (.refl _)
  ·refine y7 rfl (bf c47)<|a0e<|a0h<|sr<|y5 (.agg [(.int .i64 c_1),.nil]) rfl (.of nle trivial) rfl<|a1p (a0i (v:=(.agg [(.int .i64 c_1),.nil])) (y':=(.agg [(.int .i64 c_1),.nil])) rfl rfl rfl trivial ⟨rfl,nle⟩ ⟨⟨rfl,trivial⟩,⟨⟨rfl,trivial⟩,trivial⟩⟩ rfl)<|dk<|a0f<|?_;obtain rfl:=os hf;exact a2s [.nilC 2 1 1] [0,4] rfl ⟨.of nle trivial,trivial⟩ rfl (.refl _) (.refl _)

/- impl.rowOf -/
def d7q:a0r :=
 (.seq (.reg (tq 4 (.box 2 (.c (.agg [(.int .i64 0),.nil]))) .done))
 (.seq (.reg (tm 8 (.t 0) (tm 9 (.t 1) (tq 10 (.call 100 [(.t 8),(.t 9)]) (tm 7 (.t 10) (tq 11 (.extract 0 (.t 7)) (tq 12 (.extract 1 (.t 7)) (tm 5 (.t 11) (tm 6 (.t 12) .done)))))))))
 (.seq (.seq (.reg (tm 13 (.t 6) (tq 14 (.not (.t 13)) .done)))
 (.cond (.t 14) (.seq (.reg (tq 15 (.build [(.int .i64 0),.nil] []) (.q ⟨none,none,.store 2 (.t 4) (.t 15)⟩
 .done)))
 .ret)
 .skip))
 (.seq (.rev (.reg (tm 16 (.t 0) (tm 17 (.t 5) (tq 18 (.iaddr 2 (.t 16) (.t 17)) (tq 19 (.load 2 true (.t 18)) (tq 20 (.call 76 [(.t 19)]) (.q ⟨none,none,.store 2 (.t 4) (.t 20)⟩
 .done))))))))
 (.rev .ret)))))
theorem e0m:a1g Try.prog Try.f79 = some (d7q.erase,[.load 2 true (.t 4)],21):=by kernel_rfl
def a6q (rows_1:(List x8)) (id_2:Int):Option x8 :=
    (a6p rows_1 id_2).bind fun r_3 =>
    if (!r_3.2) then
    some (⟨0,[]⟩:x8)
    else
    ((rows_1[(0 + r_3.1.toNat)]?)).bind fun x_7 =>
    if (0:Int) ≤ r_3.1 ∧ r_3.1 < (rows_1.length:Int) then
    (a7q x_7.Id x_7.Cells).bind fun r_10 =>
    some r_10
    else none
theorem b2i (rows_1:(List x8)) (id_2:Int) (r:x8) (hf:a6q rows_1 id_2 = some r):a0u Try.prog ⟨true,true,false⟩ 79 [(.own 0 0 rows_1.length),(.int .i64 id_2)] [.row 2 (rows_1.map o5)] (.agg [(.int .i64 r.Id),(.own 1 0 r.Cells.length)]) [.row 2 (rows_1.map o5),.row 1 (r.Cells.map (o7 3 l7))]:=by
 refine a0u.of_awp mixed Try.func79 e0m nle ?_;rw [a0q];unfold a6q at hf;unfold d7q;refine (show awp Try.prog ⟨true,true,false⟩ 1 _ (ofL [(0,(.own 0 0 rows_1.length)),(1,(.int .i64 id_2))]) [.row 2 (rows_1.map o5)] _ from ?_);refine sr<|a0a (a1m (j:=1) (c:=(.agg [(.int .i64 0),.nil])) rfl trivial rfl rfl)<|dk<|sr<|?_
 obtain ⟨r_3,er4,hf⟩:=ob hf
 refine l9 (.own 0 0 rows_1.length) rfl<|l9 (.int .i64 id_2) rfl<|?_;refine a0a (a6g (v:=(.tup [(.int .i64 r_3.1),(.bool r_3.2)])) (h2:=[.row 2 (rows_1.map o5),.box 2 (.agg [(.int .i64 0),.nil])]) [] [0] (fun _ => rfl) (b5c _ _ _ er4) rfl (.refl _) (.refl _) rfl rfl) ?_;refine l9 (.tup [(.int .i64 r_3.1),(.bool r_3.2)]) rfl<|y5 (.int .i64 r_3.1) rfl (.of nle trivial) rfl<|y5 (.bool r_3.2) rfl (.of nle trivial) rfl<|l9 (.int .i64 r_3.1) rfl<|l9 (.bool r_3.2) rfl<|dk<|o6<|sr<|l9 (.bool r_3.2) rfl<|y5 (.bool (!r_3.2)) rfl (.of trivial trivial) rfl<|dk<|?_
 rcases oi hf with ⟨c5,hf⟩ | ⟨c5,hf⟩
 ·refine y8 rfl c5<|sr<|y5 (.agg [(.int .i64 0),.nil]) rfl (.of trivial trivial) rfl<|a1p (a0i (v:=(.agg [(.int .i64 0),.nil])) (y':=(.agg [(.int .i64 0),.nil])) rfl rfl rfl trivial ⟨rfl,nle⟩ ⟨⟨rfl,trivial⟩,⟨⟨rfl,trivial⟩,trivial⟩⟩ rfl)<|dk<|a0f<|?_;obtain rfl:=os hf;exact a2s [.nilC 1 1 1] [0,2] rfl ⟨.of nle trivial,trivial⟩ rfl (.refl _) (.refl _)
 ·refine y7 rfl (bf c5)<|a0e<|a0h<|o6<|?_
  obtain ⟨x_7,ex8,hf⟩:=ob hf
  refine c4m (o:=0) (i:=(0 + r_3.1.toNat)) (el:=(.agg [(.int .i64 x_7.Id),(.lst 1 (x_7.Cells.map (o7 3 l7)))])) (el2:=(.agg [(.int .i64 x_7.Id),(.own 2 0 x_7.Cells.length)])) (xs:=[.row 1 (x_7.Cells.map (o7 3 l7))]) rfl rfl rfl ex8 rfl (by simp only [AV.cells,a1q,a1r,List.length_map,List.nil_append,List.append_nil,List.cons_append];rfl)<|a0y<|?_
  obtain ⟨g9,hf⟩:=og hf
  obtain ⟨r_10,er11,hf⟩:=ob hf
  refine l9 (.own 0 0 rows_1.length) rfl<|l9 (.int .i64 r_3.1) rfl<|a0a (b1u rfl rfl g9.1 g9.2 rfl rfl)<|a0a (b6y rfl rfl nle rfl)<|?_;refine a0a (a6g (v:=(.agg [(.int .i64 r_10.Id),(.own 3 0 r_10.Cells.length)])) (h2:=[.rowx 2 (rows_1.map o5) (0 + r_3.1.toNat) (.agg [(.int .i64 x_7.Id),(.own 2 0 x_7.Cells.length)]),.box 2 (.agg [(.int .i64 0),.nil]),.row 1 (x_7.Cells.map (o7 3 l7)),.row 1 (r_10.Cells.map (o7 3 l7))]) [] [2] (fun _ => rfl) (b9s _ _ _ er11) rfl (.refl _) (.refl _) rfl rfl) ?_;refine a1p (a0i (v:=(.agg [(.int .i64 r_10.Id),(.own 3 0 r_10.Cells.length)])) (y':=(.agg [(.int .i64 r_10.Id),(.own 3 0 r_10.Cells.length)])) rfl rfl rfl trivial ⟨rfl,nle⟩ ⟨⟨rfl,trivial⟩,⟨⟨rfl,trivial⟩,trivial⟩⟩ rfl) ?_
  refine dk<|c0x (o:=0) (h2:=[.rowx 2 (rows_1.map o5) (0 + r_3.1.toNat) (.agg [(.int .i64 x_7.Id),(.own 2 0 x_7.Cells.length)]),.box 2 (.agg [(.int .i64 r_10.Id),(.own 3 0 r_10.Cells.length)]),.dead,.row 1 (r_10.Cells.map (o7 3 l7))]) ex8 rfl rfl rfl (.agg (.cons (.refl _) (.cons (.of_eq (congrArg (AV.lst _) (tk (enc:=(o7 3 l7)) x_7.Cells))) .nil))) rfl<|a0f<|?_;obtain rfl:=os hf;exact a2s [] [0,3] rfl ⟨.of nle trivial,trivial⟩ rfl (.refl _) (.refl _)

/- slices.Equal[[]impl.Atom,impl.Atom] -/
def d7r:a0r :=
 (.seq (.reg (tm 4 (.c (.bool false)) .done))
 (.seq (.seq (.reg (tm 6 (.t 0) (tq 7 (.len (.t 6)) (tm 8 (.t 1) (tq 9 (.len (.t 8)) (tq 10 (.bin .neq (.t 7) (.t 9)) .done))))))
 (.cond (.t 10) (.seq (.reg (tm 4 (.c (.bool false)) .done))
 .ret)
 .skip))
 (.seq (.seq (.reg (tm 11 (.t 0) (tq 12 (.len (.t 11)) (tm 13 (.c (.int .i64 0)) .done))))
 (.block 0 (.loop (.seq (.reg (tq 14 (.bin .lss (.t 13) (.t 12)) .done))
 (.seq (.cond (.t 14) .skip
 (.exit 0))
 (.seq (.block 1 (.seq (.reg (tm 15 (.t 13) (tm 5 (.t 15) .done)))
 (.seq (.reg (tm 16 (.t 0) (tm 17 (.t 5) (tq 18 (.iaddr 3 (.t 16) (.t 17)) (tq 19 (.load 3 true (.t 18)) (tm 20 (.t 1) (tm 21 (.t 5) (tq 22 (.iaddr 3 (.t 20) (.t 21)) (tq 23 (.load 3 true (.t 22)) (tq 24 (.eqs true [0,0,2] (.t 19) (.t 23)) .done))))))))))
 (.cond (.t 24) (.seq (.reg (tm 4 (.c (.bool false)) .done))
 .ret)
 .skip))))
 (.reg (tq 25 (.bin .add (.t 13) (.c (.int .i64 1))) (tm 13 (.t 25) .done)))))))))
 (.cut (.seq (.reg (tm 4 (.c (.bool true)) .done))
 .ret)))))
theorem e0n:a1g Try.prog Try.f99 = some (d7r.erase,[.mov (.t 4)],26):=by kernel_rfl
def a0v (s1_1:(List a0c)) (s2_2:(List a0c)):List a0c → Nat → Option (Fl Bool Unit)
  | [],s13_22 =>
    some (.go ())
  | x_37 :: xs,s13_22 =>
    if s13_22 < s1_1.length then
    (idx s2_2 (s13_22:Int)).bind fun x_39 =>
    if (!(x_37.Kind == x_39.Kind && (x_37.N == x_39.N && (x_37.T == x_39.T && true)))) then
    some (.ret false)
    else
    a0v s1_1 s2_2 xs (s13_22 + 1)
    else none

def a1y (s1_1:(List a0c)) (s2_2:(List a0c)):Option Bool :=
    if ((s1_1.length:Int) != (s2_2.length:Int)) then
    some false
    else
    (a0v s1_1 s2_2 s1_1 0).bind fun q => (match q with
    | .ret r => some r
    | .go _ =>
    some true)
theorem a9a (s1_1:(List a0c)) (s2_2:(List a0c)) (r:Bool) (hf:a1y s1_1 s2_2 = some r):a0u Try.prog ⟨true,true,false⟩ 99 [(.own 0 0 s1_1.length),(.lst 3 (s2_2.map l7))] [.row 3 (s1_1.map l7)] (.bool r) [.row 3 (s1_1.map l7)]:=by
 refine a0u.of_awp mixed Try.func99 e0n nle ?_;rw [a0q];unfold a1y at hf;unfold d7r;refine (show awp Try.prog ⟨true,true,false⟩ 1 _ (ofL [(0,(.own 0 0 s1_1.length)),(1,(.lst 3 (s2_2.map l7)))]) [.row 3 (s1_1.map l7)] _ from ?_);refine sr<|l9 (.bool false) rfl<|dk<|o6<|sr<|l9 (.own 0 0 s1_1.length) rfl<|a0w (a6c rfl rfl) fun hl3 => l9 (.lst 3 (s2_2.map l7)) rfl<|a0w (a1b (enc:=l7) rfl) fun hl4 => y5 (.bool ((s1_1.length:Int) != (s2_2.length:Int))) rfl (.of rfl trivial) rfl<|dk<|?_
 rcases oi hf with ⟨c5,hf⟩ | ⟨c5,hf⟩
 ·refine y8 rfl c5<|sr<|l9 (.bool false) rfl<|dk<|a0f<|?_;obtain rfl:=os hf;exact a2s [] [0] rfl ⟨.of trivial trivial,trivial⟩ rfl (.refl _) (.refl _)
 ·refine y7 rfl (bf c5)<|a0e<|a0h<|o6<|sr<|l9 (.own 0 0 s1_1.length) rfl<|a0w (a6c rfl rfl) fun hl6 => l9 (.int .i64 0) rfl<|dk<|?_
  obtain ⟨p30,hb1,hf⟩:=ob hf
  refine a2q (X:={q:Unit // p30 = .go q}) (fun q => ([],[.row 3 (s1_1.map l7)])) ?_ ?_
  ·refine a1d (X:={q:Nat // a0v s1_1 s2_2 (s1_1.drop q) q = some p30}) (fun q => ([(0,(.own 0 0 s1_1.length)),(1,(.lst 3 (s2_2.map l7))),(12,(.int .i64 (s1_1.length:Int))),(13,(.int .i64 (q.1:Int)))],[.row 3 (s1_1.map l7)])) (fun q => s1_1.length - q.1) ⟨0,hb1⟩ ⟨[],[0],_,_,rfl,rfl,⟨.refl _,⟨.refl _,⟨.refl _,⟨.refl _,trivial⟩⟩⟩⟩,(.refl _)⟩ ?_
   rintro ⟨s13_22,hc1⟩
   have hc1:a0v s1_1 s2_2 (s1_1.drop s13_22) s13_22 = some p30:=hc1
   refine (show awp Try.prog ⟨true,true,false⟩ 1 _ (ofL [(0,(.own 0 0 s1_1.length)),(1,(.lst 3 (s2_2.map l7))),(12,(.int .i64 (s1_1.length:Int))),(13,(.int .i64 (s13_22:Int)))]) [.row 3 (s1_1.map l7)] _ from ?_)
   rcases a4u s1_1 s13_22 with ⟨hie33,hd36⟩ | ⟨hlt31,x_37,hx32,hd36⟩
   ·rw [hd36,a0v.eq_1] at hc1
    have hq35:=dlf hie33
    refine sr<|y5 (.bool (decide ((s13_22:Int) < (s1_1.length:Int)))) rfl (.of rfl trivial) rfl<|dk<|o6<|y7 rfl hq35<|a2e<|a2d<|a1l<|a2c<|?_;obtain rfl:=os hc1;exact a5g ⟨_,rfl⟩ ⟨[],[0],_,_,rfl,rfl,trivial,(.refl _)⟩
   ·rw [hd36,a0v.eq_2] at hc1
    have hq35:=dlt hlt31
    refine sr<|y5 (.bool (decide ((s13_22:Int) < (s1_1.length:Int)))) rfl (.of rfl trivial) rfl<|dk<|o6<|y8 rfl hq35<|a0e<|a0h<|o6<|a2u<|sr<|l9 (.int .i64 (s13_22:Int)) rfl<|l9 (.int .i64 (s13_22:Int)) rfl<|dk<|sr<|?_
    obtain ⟨g38,hc1⟩:=og hc1
    obtain ⟨x_39,ex40,hc1⟩:=ob hc1
    refine l9 (.own 0 0 s1_1.length) rfl<|l9 (.int .i64 (s13_22:Int)) rfl<|a0a (b0l rfl rfl g38 rfl rfl)<|a0a (d2o (enc:=l7) (v:=(l7 x_37)) rfl rfl hx32 nle rfl rfl)<|l9 (.lst 3 (s2_2.map l7)) rfl<|l9 (.int .i64 (s13_22:Int)) rfl<|a0a (a5k (enc:=l7) rfl rfl (b5j ex40) (b5k ex40))<|y5 (l7 x_39) rfl (.of nle trivial) rfl<|y5 (.bool (!(x_37.Kind == x_39.Kind && (x_37.N == x_39.N && (x_37.T == x_39.T && true))))) rfl (.of ⟨⟨rfl,rfl⟩,⟨⟨rfl,rfl⟩,⟨rfl,trivial⟩⟩⟩ trivial) rfl<|dk<|?_
    rcases oi hc1 with ⟨c41,hc1⟩ | ⟨c41,hc1⟩
    ·refine y8 rfl c41<|sr<|l9 (.bool false) rfl<|dk<|a0f<|?_;obtain rfl:=os hc1;obtain rfl:=os hf;exact a2s [] [0] rfl ⟨.of trivial trivial,trivial⟩ rfl (.refl _) (.refl _)
    ·refine y7 rfl (bf c41)<|a0e<|a2r<|a0h<|a0y<|y5 (.int .i64 (w64 ((s13_22:Int) + 1))) rfl (.of rfl trivial) rfl<|l9 (.int .i64 (w64 ((s13_22:Int) + 1))) rfl<|a0n<|?_;exact a1j ⟨(s13_22 + 1),hc1⟩ (mul hlt31) ⟨[],[0],_,_,rfl,rfl,⟨.refl _,⟨.refl _,⟨.refl _,⟨.of_eq (congrArg (AV.int _) (a1k hlt31 hl6)),trivial⟩⟩⟩⟩,(.refl _)⟩
  ·rintro ⟨_,rfl⟩
   refine sr<|l9 (.bool true) rfl<|dk<|a0f<|?_;obtain rfl:=os hf;exact a2s [] [0] rfl ⟨.of trivial trivial,trivial⟩ rfl (.refl _) (.refl _)

/- slices.EqualFunc[[][]impl.Atom,[][]impl.Atom,[]impl.Atom,[]impl.Atom] -/
def d7s:a0r :=
 (.seq (.reg (tm 6 (.c (.bool false)) .done))
 (.seq (.seq (.reg (tm 10 (.t 0) (tq 11 (.len (.t 10)) (tm 12 (.t 1) (tq 13 (.len (.t 12)) (tq 14 (.bin .neq (.t 11) (.t 13)) .done))))))
 (.cond (.t 14) (.seq (.reg (tm 6 (.c (.bool false)) .done))
 .ret)
 .skip))
 (.seq (.seq (.reg (tm 15 (.t 0) (tq 16 (.len (.t 15)) (tm 17 (.c (.int .i64 0)) .done))))
 (.block 0 (.loop (.seq (.reg (tq 18 (.bin .lss (.t 17) (.t 16)) .done))
 (.seq (.cond (.t 18) .skip
 (.exit 0))
 (.seq (.block 1 (.seq (.rev (.reg (tm 19 (.t 17) (tq 20 (.iaddr 1 (.t 15) (.t 17)) (tq 21 (.load 1 false (.t 20)) (tm 7 (.t 19) (tm 8 (.t 21) .done)))))))
 (.seq (.reg (tm 22 (.t 1) (tm 23 (.t 7) (tq 24 (.iaddr 1 (.t 22) (.t 23)) (tq 25 (.load 1 false (.t 24)) (tm 9 (.t 25) .done))))))
 (.seq (.reg (tm 26 (.t 2) (tm 27 (.t 8) (tm 28 (.t 9) (tq 29 (.calv (.t 26) [(.t 27),(.t 28)]) (tq 30 (.not (.t 29)) .done))))))
 (.cond (.t 30) (.seq (.reg (tm 6 (.c (.bool false)) .done))
 (.rev .ret))
 .skip)))))
 (.reg (tq 31 (.bin .add (.t 17) (.c (.int .i64 1))) (tm 17 (.t 31) .done)))))))))
 (.cut (.seq (.reg (tm 6 (.c (.bool true)) .done))
 .ret)))))
theorem e0o:a1g Try.prog Try.f98 = some (d7s.erase,[.mov (.t 6)],32):=by kernel_rfl
def a0d (s1_1:(List (List a0c))) (s2_2:(List (List a0c))):List (List a0c) → Nat → Option (Fl Bool Unit)
  | [],s17_28 =>
    some (.go ())
  | x_46 :: xs,s17_28 =>
    if s17_28 < s1_1.length then
    (idx s2_2 (s17_28:Int)).bind fun x_49 =>
    (a1y x_46 x_49).bind fun r_51 =>
    if (!r_51) then
    some (.ret false)
    else
    a0d s1_1 s2_2 xs (s17_28 + 1)
    else none

def a0x (s1_1:(List (List a0c))) (s2_2:(List (List a0c))):Option Bool :=
    if ((s1_1.length:Int) != (s2_2.length:Int)) then
    some false
    else
    (a0d s1_1 s2_2 s1_1 0).bind fun q => (match q with
    | .ret r => some r
    | .go _ =>
    some true)
theorem a4q (s1_1:(List (List a0c))) (s2_2:(List (List a0c))) (r:Bool) (hf:a0x s1_1 s2_2 = some r):a0u Try.prog ⟨true,true,false⟩ 98 [(.own 0 0 s1_1.length),(.lst 1 (s2_2.map (o7 3 l7))),(.fn 99 [])] [.row 1 (s1_1.map (o7 3 l7))] (.bool r) [.row 1 (s1_1.map (o7 3 l7))]:=by
 refine a0u.of_awp mixed Try.func98 e0o nle ?_;rw [a0q];unfold a0x at hf;unfold d7s;refine (show awp Try.prog ⟨true,true,false⟩ 1 _ (ofL [(0,(.own 0 0 s1_1.length)),(1,(.lst 1 (s2_2.map (o7 3 l7)))),(2,(.fn 99 []))]) [.row 1 (s1_1.map (o7 3 l7))] _ from ?_);refine sr<|l9 (.bool false) rfl<|dk<|o6<|sr<|l9 (.own 0 0 s1_1.length) rfl<|a0w (a6c rfl rfl) fun hl3 => l9 (.lst 1 (s2_2.map (o7 3 l7))) rfl<|a0w (a1b (enc:=(o7 3 l7)) rfl) fun hl4 => y5 (.bool ((s1_1.length:Int) != (s2_2.length:Int))) rfl (.of rfl trivial) rfl<|?_
 refine dk<|?_
 rcases oi hf with ⟨c5,hf⟩ | ⟨c5,hf⟩
 ·refine y8 rfl c5<|sr<|l9 (.bool false) rfl<|dk<|a0f<|?_;obtain rfl:=os hf;exact a2s [] [0] rfl ⟨.of trivial trivial,trivial⟩ rfl (.refl _) (.refl _)
 ·refine y7 rfl (bf c5)<|a0e<|a0h<|o6<|sr<|l9 (.own 0 0 s1_1.length) rfl<|a0w (a6c rfl rfl) fun hl6 => l9 (.int .i64 0) rfl<|dk<|?_
  obtain ⟨p39,hb1,hf⟩:=ob hf
  refine a2q (X:={q:Unit // p39 = .go q}) (fun q => ([],[.row 1 (s1_1.map (o7 3 l7))])) ?_ ?_
  ·refine a1d (X:={q:Nat // a0d s1_1 s2_2 (s1_1.drop q) q = some p39}) (fun q => ([(1,(.lst 1 (s2_2.map (o7 3 l7)))),(2,(.fn 99 [])),(15,(.own 0 0 s1_1.length)),(16,(.int .i64 (s1_1.length:Int))),(17,(.int .i64 (q.1:Int)))],[.row 1 (s1_1.map (o7 3 l7))])) (fun q => s1_1.length - q.1) ⟨0,hb1⟩ ⟨[],[0],_,_,rfl,rfl,⟨.refl _,⟨.refl _,⟨.refl _,⟨.refl _,⟨.refl _,trivial⟩⟩⟩⟩⟩,(.refl _)⟩ ?_
   rintro ⟨s17_28,hc1⟩
   have hc1:a0d s1_1 s2_2 (s1_1.drop s17_28) s17_28 = some p39:=hc1
   refine (show awp Try.prog ⟨true,true,false⟩ 1 _ (ofL [(1,(.lst 1 (s2_2.map (o7 3 l7)))),(2,(.fn 99 [])),(15,(.own 0 0 s1_1.length)),(16,(.int .i64 (s1_1.length:Int))),(17,(.int .i64 (s17_28:Int)))]) [.row 1 (s1_1.map (o7 3 l7))] _ from ?_)
   rcases a4u s1_1 s17_28 with ⟨hie42,hd45⟩ | ⟨hlt40,x_46,hx41,hd45⟩
   ·rw [hd45,a0d.eq_1] at hc1
    have hq44:=dlf hie42
    refine sr<|y5 (.bool (decide ((s17_28:Int) < (s1_1.length:Int)))) rfl (.of rfl trivial) rfl<|dk<|o6<|y7 rfl hq44<|a2e<|a2d<|a1l<|a2c<|?_;obtain rfl:=os hc1;exact a5g ⟨_,rfl⟩ ⟨[],[0],_,_,rfl,rfl,trivial,(.refl _)⟩
   ·rw [hd45,a0d.eq_2] at hc1
    have hq44:=dlt hlt40
    refine sr<|y5 (.bool (decide ((s17_28:Int) < (s1_1.length:Int)))) rfl (.of rfl trivial) rfl<|dk<|o6<|y8 rfl hq44<|a0e<|a0h<|o6<|a2u<|o6<|c4m (o:=0) (i:=s17_28) (el:=(.lst 3 (x_46.map l7))) (el2:=(.own 1 0 x_46.length)) (xs:=[.row 3 (x_46.map l7)]) rfl rfl rfl hx41 rfl (by simp only [AV.cells,a1q,a1r,List.length_map,List.nil_append,List.append_nil,List.cons_append];rfl)<|a0y<|?_
    obtain ⟨g48,hc1⟩:=og hc1
    refine l9 (.int .i64 (s17_28:Int)) rfl<|a0a (c7k rfl rfl g48 rfl rfl)<|a0a (b6y rfl rfl ⟨rfl,rfl⟩ rfl)<|l9 (.int .i64 (s17_28:Int)) rfl<|l9 (.own 1 0 x_46.length) rfl<|dk<|sr<|?_
    obtain ⟨x_49,ex50,hc1⟩:=ob hc1
    refine l9 (.lst 1 (s2_2.map (o7 3 l7))) rfl<|l9 (.int .i64 (s17_28:Int)) rfl<|a0a (a5k (enc:=(o7 3 l7)) rfl rfl (b5j ex50) (b5k ex50))<|y5 (.lst 3 (x_49.map l7)) rfl (.of ⟨rfl,rfl⟩ trivial) rfl<|l9 (.lst 3 (x_49.map l7)) rfl<|dk<|sr<|?_
    obtain ⟨r_51,er52,hc1⟩:=ob hc1
    refine l9 (.fn 99 []) rfl<|l9 (.own 1 0 x_46.length) rfl<|l9 (.lst 3 (x_49.map l7)) rfl<|?_;refine a0a (c8m (v:=(.bool r_51)) (h2:=[.rowx 1 (s1_1.map (o7 3 l7)) s17_28 (.own 1 0 x_46.length),.row 3 (x_46.map l7)]) [] [1] (fun _ => rfl) rfl (by kernel_rfl) (a9a _ _ _ er52) rfl rfl (.refl _) (.refl _) rfl rfl) ?_;refine y5 (.bool (!r_51)) rfl (.of trivial trivial) rfl<|dk<|?_
    rcases oi hc1 with ⟨c53,hc1⟩ | ⟨c53,hc1⟩
    ·refine y8 rfl c53<|sr<|l9 (.bool false) rfl<|dk<|c0x (o:=0) (h2:=[.rowx 1 (s1_1.map (o7 3 l7)) s17_28 (.own 1 0 x_46.length),.dead]) hx41 rfl rfl rfl (.of_eq (congrArg (AV.lst _) (tk (enc:=l7) x_46))) rfl<|a0f<|?_;obtain rfl:=os hc1;obtain rfl:=os hf;exact a2s [] [0] rfl ⟨.of trivial trivial,trivial⟩ rfl (.refl _) (.refl _)
    ·refine y7 rfl (bf c53)<|a0e<|a2r<|a0h<|a0y<|y5 (.int .i64 (w64 ((s17_28:Int) + 1))) rfl (.of rfl trivial) rfl<|l9 (.int .i64 (w64 ((s17_28:Int) + 1))) rfl<|a0n<|?_;exact a1j ⟨(s17_28 + 1),hc1⟩ (mul hlt40) ⟨[.cls 0],[0],_,_,rfl,rfl,⟨.refl _,⟨.refl _,⟨.refl _,⟨.refl _,⟨.of_eq (congrArg (AV.int _) (a1k hlt40 hl6)),trivial⟩⟩⟩⟩⟩,(.cons ((b3x hx41 (.of_eq (congrArg (AV.lst _) (tk (enc:=l7) x_46))))) .nil)⟩
  ·rintro ⟨_,rfl⟩
   refine sr<|l9 (.bool true) rfl<|dk<|a0f<|?_;obtain rfl:=os hf;exact a2s [] [0] rfl ⟨.of trivial trivial,trivial⟩ rfl (.refl _) (.refl _)

/- impl.sameRow -/
def d7t:a0r :=
 (.seq (.reg (tq 2 (.box 2 (.t 0)) (tq 3 (.box 2 (.t 1)) (tm 4 (.c (.bool false)) .done))))
 (.seq (.reg (tq 5 (.faddr 0 (.t 2)) (tq 6 (.load 1 false (.t 5)) (tq 7 (.faddr 0 (.t 3)) (tq 8 (.load 1 false (.t 7)) (tq 9 (.bin .eql (.t 6) (.t 8)) (tm 10 (.t 9) (tg 11 10 true (.faddr 1 (.t 2)) (tg 12 10 true (.load 1 false (.t 11)) (tg 13 10 true (.faddr 1 (.t 3)) (tg 14 10 true (.load 1 false (.t 13)) (tg 15 10 true (.call 98 [(.t 12),(.t 14),(.c (.fn 99 []))]) (tq 16 (.pick (.t 10) (.t 15) (.c (.bool false))) (tm 4 (.t 16) .done))))))))))))))
 .ret))
theorem e0p:a1g Try.prog Try.f78 = some (d7t.erase,[.mov (.t 4)],17):=by kernel_rfl
def a5q (c_1:Int) (c_2:(List (List a0c))) (b_3:x8):Option Bool :=
    if (c_1 == b_3.Id) then
    (a0x c_2 b_3.Cells).bind fun r_5 =>
    some r_5
    else
    some false
theorem b1c (c_1:Int) (c_2:(List (List a0c))) (b_3:x8) (r:Bool) (hf:a5q c_1 c_2 b_3 = some r):a0u Try.prog ⟨true,true,false⟩ 78 [(.agg [(.int .i64 c_1),(.own 0 0 c_2.length)]),(o5 b_3)] [.row 1 (c_2.map (o7 3 l7))] (.bool r) [.row 1 (c_2.map (o7 3 l7))]:=by
 refine a0u.of_awp mixed Try.func78 e0p nle ?_;rw [a0q];unfold a5q at hf;unfold d7t;refine (show awp Try.prog ⟨true,true,false⟩ 1 _ (ofL [(0,(.agg [(.int .i64 c_1),(.own 0 0 c_2.length)])),(1,(o5 b_3))]) [.row 1 (c_2.map (o7 3 l7))] _ from ?_);refine sr<|a0a (a1m (j:=1) (c:=(.agg [(.int .i64 c_1),(.own 0 0 c_2.length)])) rfl trivial rfl rfl)<|a0a (a1m (j:=2) (c:=(.agg [(.int .i64 b_3.Id),(.lst 1 (b_3.Cells.map (o7 3 l7)))])) rfl trivial rfl rfl)<|l9 (.bool false) rfl<|dk<|sr<|y5 (.ptr 1 0 0) rfl (.of trivial trivial) rfl<|y5 (.int .i64 c_1) rfl (.of nle trivial) rfl<|y5 (.ptr 2 0 0) rfl (.of trivial trivial) rfl<|?_
 refine y5 (.int .i64 b_3.Id) rfl (.of nle trivial) rfl<|y5 (.bool (c_1 == b_3.Id)) rfl (.of rfl trivial) rfl<|l9 (.bool (c_1 == b_3.Id)) rfl<|?_
 rcases oi hf with ⟨c4,hf⟩ | ⟨c4,hf⟩
 ·refine a4i (s:=10) (b:=true) rfl c4<|s_on rfl<|y5 (.ptr 1 0 1) rfl (.of trivial trivial) rfl<|s_on rfl<|y5 (.own 0 0 c_2.length) rfl (.of nle trivial) rfl<|s_on rfl<|y5 (.ptr 2 0 1) rfl (.of trivial trivial) rfl<|s_on rfl<|y5 (.lst 1 (b_3.Cells.map (o7 3 l7))) rfl (.of nle trivial) rfl<|s_on rfl<|?_
  obtain ⟨r_5,er6,hf⟩:=ob hf
  refine a0a (a6g (v:=(.bool r_5)) (h2:=[.row 1 (c_2.map (o7 3 l7)),.box 2 (.agg [(.int .i64 c_1),(.own 0 0 c_2.length)]),.box 2 (.agg [(.int .i64 b_3.Id),(.lst 1 (b_3.Cells.map (o7 3 l7)))])]) [] [0] (fun _ => rfl) (a4q _ _ _ er6) rfl (.refl _) (.refl _) rfl rfl) ?_;refine y5 (.bool r_5) rfl (.of trivial trivial) rfl<|l9 (.bool r_5) rfl<|dk<|a0f<|?_;obtain rfl:=os hf;exact a2s [] [0] rfl ⟨.of trivial trivial,trivial⟩ rfl (.refl _) (.refl _)
 ·refine a4i (s:=10) (b:=false) rfl (bf c4)<|a0t rfl rfl<|a0t rfl rfl<|a0t rfl rfl<|a0t rfl rfl<|a0t rfl rfl<|y5 (.bool false) rfl (.of trivial trivial) rfl<|l9 (.bool false) rfl<|dk<|a0f<|?_;obtain rfl:=os hf;exact a2s [] [0] rfl ⟨.of trivial trivial,trivial⟩ rfl (.refl _) (.refl _)

/- impl.drop -/
def b4n (a0:List x8) (a1:Int):Option (List x8) :=
    some (a0.filter fun x => !(x.Id == a1))
/- HAND -/
section
open Go.RowKit Go.Lib
set_option maxHeartbeats 4000000 in
set_option maxRecDepth 100000 in
theorem a9u (kf:Nat) (lb:Array Value) (v:Value) (w:World)
    (hidx:Calls Try.prog 115 #[v,.func (.func kf) #[] lb] w fun e w' => e = .returned (.int .i64 (-1)) ∧ Below w.heap.size w w') :
    Calls Try.prog 101 #[v,.func (.func kf) #[] lb] w fun e w' => e = .returned v ∧ Below w.heap.size w w':=by
  have mixed:Try.prog.follows .mixedOrders = true:=by kernel_rfl
  go_enter Try.func101,(show Try.f101.ntmps = 42 from rfl)
  go_wp2_with (go_at_call 115;refine hidx.mono ?_;rintro e w' ⟨rfl,hb⟩)
  go_ret
  exact ⟨rfl,hb⟩
set_option maxHeartbeats 4000000 in
set_option maxRecDepth 100000 in
theorem b7c (kf:Nat) (lb:Array Value) (eg:∀ args w,(callFunc kf args).run Try.prog w = .ok (.enter kf args) w) (w:World) (g n c:Nat) (e:TypeId) (rest:List Value) (d:Array (Value × Value)) (kp:Nat → Bool) (k0:Nat) (hn:d.size = n) (hnc:n ≤ c) (hc:c ≤ maxLen)
    (hrow:DW w g e rest d w) (hone:∀ x ∈ d.toList,x.1.oneCell' = true ∧ x.2.oneCell' = true) (hkeep:∀ j,j < k0 → kp j = true) (hdrop:kp k0 = false) (hk0:k0 < n)
    (hidx:Calls Try.prog 115 #[.slice (some ⟨g,0,none⟩) n c,.func (.func kf) #[] lb] w fun e w' => e = .returned (.int .i64 k0) ∧ Below w.heap.size w w')
    (hcall:∀ (W:World) (dk:Array (Value × Value)) (j:Nat),j < n → DW w g e rest dk W → Calls Try.prog kf (#[.agg #[(d[j]!).1,(d[j]!).2]] ++ lb) W fun e w' => e = .returned (.bool (!kp j)) ∧ Below W.heap.size W w')
    (hcl:∀ (W:World) (dk:Array (Value × Value)) (i:Nat),i < n → dk.size = n → DW w g e rest dk W → ∃ dk' W2,(∀ ty,(Builtin.clear_ #[26] ty #[.slice (some ⟨g,i * 2,none⟩) (n - i) (c - i)]).run Try.prog W = .ok (.tuple #[]) W2) ∧ DW w g e rest dk' W2 ∧ dk'.size = n ∧ dk'.toList.take i = dk.toList.take i) :
    Calls Try.prog 101 #[.slice (some ⟨g,0,none⟩) n c,.func (.func kf) #[] lb] w fun e' w' =>
      e' = .returned (.slice (some ⟨g,0,none⟩) (keptUpTo kp d n).length c) ∧ ∃ dk,DW w g e rest dk w' ∧ dk.size = n ∧ dk.toList.take (keptUpTo kp d n).length = keptUpTo kp d n:=by
  have mixed:Try.prog.follows .mixedOrders = true:=by kernel_rfl
  have hc63:c ≤ 9223372036854775807:=by unfold maxLen at hc;omega
  have hne1:((k0:Int) == -1) = false:=beq_eq_false_iff_ne.2 (by omega)
  have HC:Aside _:=hcall
  have HCL:Aside _:=hcl
  have HO:Aside _:=hone
  have H0:Aside _:=hrow
  clear hcall hcl hone hrow
  go_enter Try.func101,(show Try.f101.ntmps = 42 from rfl)
  go_wp2_with (go_at_call 115;refine hidx.mono ?_;rintro e w' ⟨rfl,hb0⟩)
  have D0:Aside (DW w g e rest d w'):=H0.out.below hb0
  clear hb0
  go_loopg [5,6,7] n (fun gg s5 s6 _ wr => ∃ (i j:Nat) (dk:Array (Value × Value)),s5 = .int .i64 i ∧ s6 = .int .i64 j ∧ j ≤ n ∧ n - j ≤ gg ∧ Aside (DW w g e rest dk wr) ∧ Aside (KeptInv kp d j i dk))
  case atStart => exact ⟨k0,k0 + 1,d,rfl,by go_num,by omega,by omega,D0,KeptInv.start hkeep hdrop⟩
  case round =>
    obtain ⟨i,j,dk,rfl,rfl,hjd,hgg,S1,I⟩:=hrel
    have hij:=I.out.lt
    have hds:=I.out.size
    by_cases hlt:j < n
    · have hltz:(j:Int) < (n:Int):=by omega
      obtain ⟨c1,c2⟩:=S1.out.cells j (by omega)
      rw [I.out.high j (by omega)] at c1 c2
      have hm:d[j]! ∈ d.toList:=by rw [getElem!_pos d j (by omega)];simp
      obtain ⟨o1,o2⟩:=HO.out _ hm
      have X:Aside (d[j]! = ((d[j]!).1,(d[j]!).2)):=rfl
      clear hm
      generalize (d[j]!).1 = x1 at c1 c2 o1 o2 X
      generalize (d[j]!).2 = x2 at c1 c2 o1 o2 X
      have st1:∀ a m W,Sem.run Try.prog (store a x1 m) W = stored Try.prog W a x1 m:=fun a m W => run_store _ _ _ _ _ o1
      have st2:∀ a m W,Sem.run Try.prog (store a x2 m) W = stored Try.prog W a x2 m:=fun a m W => run_store _ _ _ _ _ o2
      have D1:Aside (DW w g e rest dk (wr.alloc (.cells #[x1,x2] 70))):=S1.out.alloc _
      have hcall:=HC.out (wr.alloc (.cells #[x1,x2] 70)) dk j hlt D1.out
      rw [X.out] at hcall
      have hsz:(wr.alloc (.cells #[x1,x2] 70)).heap.size = wr.heap.size + 1:=Array.size_push ..
      cases hq:kp j with
      | true =>
        rw [hq] at hcall
        go_wp2_with fail
        refine hcall.mono ?_
        rintro e' w2 ⟨rfl,hb⟩
        have D2:Aside (DW w g e rest dk w2):=D1.out.below hb
        have b1:w2.cell? ⟨wr.heap.size,0,none⟩ = some x1:=by
          rw [hb.cell (p:=⟨wr.heap.size,0,none⟩) (by rw [hsz];exact Nat.lt_succ_self _)]
          exact (World.cell?_alloc_at (w:=wr) _ _ _ _ rfl).trans rfl
        have b2:w2.cell? ⟨wr.heap.size,1,none⟩ = some x2:=by
          rw [hb.cell (p:=⟨wr.heap.size,1,none⟩) (by rw [hsz];exact Nat.lt_succ_self _)]
          exact (World.cell?_alloc_at (w:=wr) _ _ _ _ rfl).trans rfl
        obtain ⟨i1,i2⟩:=D2.out.cells i (by omega)
        have f1:=D2.out.frozen (i * 2)
        have f2:=D2.out.frozen (i * 2 + 1)
        have D3:Aside _:=D2.out.put i (by omega) x1 x2
        generalize (dk[i]!).1 = y1 at i1
        generalize (dk[i]!).2 = y2 at i2
        clear hb hcall hsz c1 c2 D1 D2
        generalize wr.heap.size = bx at b1 b2 ⊢
        have hin:(i:Int) < (n:Int):=by omega
        go_wp2_with fail
        go_roundg (n - (j + 1))
        case measure => omega
        case rel =>
          have hk:=I.out.keep (by omega) hq
          rw [X.out] at hk
          exact ⟨i + 1,j + 1,dk.setIfInBounds i (x1,x2),by go_num,by go_num,by omega,Nat.le_refl _,D3,hk⟩
      | false =>
        rw [hq] at hcall
        go_wp2_with (refine hcall.mono ?_;rintro e' w2 ⟨rfl,hb⟩)
        go_roundg (n - (j + 1))
        case measure => omega
        case rel => exact ⟨i,j + 1,dk,rfl,by go_num,by omega,Nat.le_refl _,D1.out.below hb,I.out.skip hq⟩
    · have hjn:j = n:=by omega
      subst hjn
      have hltz:¬ (j:Int) < (j:Int):=by omega
      have hin:(i:Int) ≤ (j:Int):=by omega
      have hin2:i ≤ j:=by omega
      have hic:(i:Int) ≤ (c:Int):=by omega
      have hicn:i ≤ c:=by omega
      have hci:¬ c = i:=by omega
      obtain ⟨d',W2,hc1,hd,hs,ht⟩:∃ d' W2,(∀ ty,(Builtin.clear_ #[26] ty #[.slice (some ⟨g,i * 2,none⟩) (j - i) (c - i)]).run Try.prog wr = .ok (.tuple #[]) W2) ∧ DW w g e rest d' W2 ∧ d'.size = j ∧ d'.toList.take i = dk.toList.take i:=HCL.out wr dk i hij (by omega) S1.out
      have D:Aside (DW w g e rest d' W2 ∧ d'.size = j ∧ d'.toList.take i = dk.toList.take i):=⟨hd,hs,ht⟩
      clear hd hs ht
      go_wp2_with fail
      go_ret
      have hl:=I.out.len
      refine ⟨by rw [hl];rfl,d',D.out.1,D.out.2.1,?_⟩
      rw [hl,D.out.2.2]
      apply List.ext_getElem?
      intro t
      by_cases htt:t < i
      · rw [List.getElem?_take_of_lt htt,I.out.low t htt,getElem!_pos dk t (by omega)]
        simp
      · rw [List.getElem?_eq_none (by rw [List.length_take];omega),List.getElem?_eq_none (by omega)]
theorem b7d:∃ i:TypeInfo,Try.prog.info? 70 = some i ∧ i.size = 2 ∧ i.bytes = 32 ∧ i.zero = some (.agg #[.int .i64 0,.slice none 0 0]):=d3v (by kernel_rfl)
theorem b8o:Try.prog.underlying 26 = some (.slice 70):=by kernel_rfl
theorem b2l (id:Int):∀ (xs:List x8) (s:Nat),(a0p (fun x => a5x x id) xs s = some (.go ()) ∧ ∀ x ∈ xs,(x.Id == id) = false) ∨
    ∃ k,k < xs.length ∧ a0p (fun x => a5x x id) xs s = some (.ret ((s + k:Nat):Int)) ∧ (∀ (j:Nat) x,j < k → xs[j]? = some x → (x.Id == id) = false) ∧ ∀ x,xs[k]? = some x → (x.Id == id) = true
  | [],s => .inl ⟨rfl,by simp⟩
  | x :: xs,s => by
    cases hx:(x.Id == id) with
    | true =>
      refine .inr ⟨0,by simp,?_,fun j y hj => by omega,fun y hy => by simp at hy;rw [← hy];exact hx⟩
      rw [a0p]
      simp only [a5x,Option.bind_some,hx,if_true]
      rfl
    | false =>
      have e:a0p (fun x => a5x x id) (x :: xs) s = a0p (fun x => a5x x id) xs (s + 1):=by
        rw [a0p]
        simp only [a5x,Option.bind_some,hx]
        rfl
      rw [e]
      rcases b2l id xs (s + 1) with ⟨h1,h2⟩ | ⟨k,h1,h2,h3,h4⟩
      · refine .inl ⟨h1,fun y hy => ?_⟩
        rcases List.mem_cons.1 hy with rfl | hy
        · exact hx
        · exact h2 y hy
      · refine .inr ⟨k + 1,by simpa using h1,by rw [h2];congr 2;omega,?_,fun y hy => h4 y (by simpa using hy)⟩
        intro j y hj hy
        rcases j with _ | j
        · simp at hy;rw [← hy];exact hx
        · exact h3 j y (by omega) (by simpa using hy)
set_option maxHeartbeats 4000000 in
set_option maxRecDepth 100000 in
theorem a9j (w:World) (v:Value) (id:Int) (R:Value → World → Prop)
    (h:Calls Try.prog 101 #[v,.func (.func 102) #[] #[.pointer (some ⟨w.heap.size,0,none⟩)]] (w.alloc (.cells #[.int .i64 id] 3)) fun e w' => ∃ r,e = .returned r ∧ R r w') :
    Calls Try.prog 80 #[v,.int .i64 id] w fun e w' => ∃ r,e = .returned r ∧ R r w':=by
  have mixed:Try.prog.follows .mixedOrders = true:=by kernel_rfl
  go_enter Try.func80,(show Try.f80.ntmps = 8 from rfl)
  go_wp2_with (go_at_call 101;refine h.mono ?_;rintro e w' ⟨r,rfl,hr⟩)
  go_ret
  exact ⟨_,rfl,hr⟩
set_option maxHeartbeats 4000000 in
set_option maxRecDepth 100000 in
theorem b6a (dm:Md) (xs:List x8) (id:Int):a0u Try.prog dm 80 [.own 0 0 xs.length,.int .i64 id] [.row 2 (xs.map o5)] (.own 1 0 (xs.filter fun x => !(x.Id == id)).length) [.dead,.row 2 ((xs.filter fun x => !(x.Id == id)).map o5)]:=by
  intro C σ φ w vals _ _ hok hb hr hv
  simp only [RVs] at hv
  obtain ⟨v1,_,rfl,h1,v2,_,rfl,h2,rfl⟩:=hv
  have e2:v2 = .int .i64 id:=by simpa only [RV] using h2
  subst e2
  obtain ⟨ti,hti,hts,htb,htz⟩:=b7d
  have hsz:(w.alloc (.cells #[.int .i64 id] 3)).heap.size = w.heap.size + 1:=Array.size_push ..
  have hbel:Below w.heap.size w (w.alloc (.cells #[.int .i64 id] 3)):=(Below.refl _ _).alloc (Nat.le_refl _) _
  have hbx:(w.alloc (.cells #[.int .i64 id] 3)).heap[w.heap.size]? = some (.cells #[.int .i64 id] 3 (0,0)):=by
    show (w.heap.push _)[w.heap.size]? = _
    rw [Array.getElem?_push,if_pos rfl]
  have hcap:∀ W,W.heap[w.heap.size]? = some (.cells #[.int .i64 id] 3 (0,0)) → Rep false W (.iptr (.int .i64 id) 0) [.pointer (some ⟨w.heap.size,0,none⟩)] [w.heap.size]:=by
    intro W hW
    simp only [Rep]
    exact ⟨w.heap.size,0,1,_,_,_,[],rfl,hW,rfl,rfl,rfl,rfl⟩
  have hfn:∀ W,W.heap[w.heap.size]? = some (.cells #[.int .i64 id] 3 (0,0)) → Rep false W (.fn 102 [.iptr (.int .i64 id) 0]) [.func (.func 102) #[] #[.pointer (some ⟨w.heap.size,0,none⟩)]] [w.heap.size]:=by
    intro W hW
    simp only [Rep,a1f]
    exact ⟨_,rfl,_,[],[w.heap.size],[],rfl,hcap W hW,⟨rfl,rfl⟩,rfl⟩
  have hidx:∀ r,a2f xs (fun x => a5x x id) = some r → ∀ fp,b0p false (w.alloc (.cells #[.int .i64 id] 3)) (.lst 2 (xs.map o5)) v1 fp →
      Calls Try.prog 115 #[v1,.func (.func 102) #[] #[.pointer (some ⟨w.heap.size,0,none⟩)]] (w.alloc (.cells #[.int .i64 id] 3)) fun e w' => e = .returned (.int .i64 r) ∧ Below (w.alloc (.cells #[.int .i64 id] 3)).heap.size (w.alloc (.cells #[.int .i64 id] 3)) w':=by
    intro r hr0 fp hfp
    have hc:=a9i xs (fun x => a5x x id) r hr0 102 [.iptr (.int .i64 id) 0] (by kernel_rfl) (fun _ _ => rfl) (fun _ => rfl) (fun x r h => b7i x id r h)
    have:=hc (w.alloc (.cells #[.int .i64 id] 3)) [v1,.func (.func 102) #[] #[.pointer (some ⟨w.heap.size,0,none⟩)]] (fp ++ [w.heap.size]) (by
      obtain ⟨cs,rfl,hcs⟩:=hfp
      simp only [a1f]
      exact ⟨cs,_,fp,[w.heap.size],rfl,hcs,⟨_,[],[w.heap.size],[],rfl,hfn _ hbx,⟨rfl,rfl⟩,rfl⟩,rfl⟩)
    refine this.mono ?_
    intro e w' he
    cases e with
    | returned v =>
      obtain ⟨q1,cs,rfl,q2⟩:=he
      simp only [Rep] at q2
      obtain ⟨rfl,_⟩:=q2
      exact ⟨rfl,q1⟩
    | panicked _ => exact he.elim
    | outgrown => exact he.elim
  rcases c8o hr rfl h1 (by simp) with ⟨rfl,hl,hs0,hp0⟩ | ⟨g,c,cur,e,hσ,rfl,hnc,hcm,hg,hcs,hrep⟩
  · have hx:xs = []:=by simpa using hl
    subst hx
    have hi:=hidx (-1) rfl [] ⟨_,rfl,by simp only [Rep,List.map_nil];exact .inl ⟨trivial,trivial,none,0,rfl,Nat.zero_le _,fun _ => ⟨rfl,rfl⟩⟩⟩
    refine (a9j w _ id (fun r w' => r = .slice none 0 0 ∧ Below (w.alloc (.cells #[.int .i64 id] 3)).heap.size (w.alloc (.cells #[.int .i64 id] 3)) w') ((a9u 102 _ _ _ hi).mono (fun e w' h => ⟨_,h.1,rfl,h.2⟩))).mono ?_
    rintro e' w' ⟨r,rfl,rfl,hb1⟩
    have hb2:Below w.heap.size w w':=hbel.trans (hb1.mono (by omega))
    obtain ⟨σ',φ',k1,k2,k3⟩:=e0g hr hb2
    refine ⟨σ',φ',k1,k2.x,?_,hb2.mono ?_⟩
    · simp only [List.filter_nil,List.map_nil,List.length_nil,RV,List.getElem?_cons_succ,List.getElem?_cons_zero]
      exact ⟨none,0,rfl,by simp,Nat.zero_le _,Nat.zero_le _,by rw [k3];exact ⟨rfl,rfl⟩⟩
    · exact (hb _ (Nat.le_refl _)).1
  · have hlen:=hrep.length
    rw [List.length_map] at hlen
    have hcl:cur.toList.length = c * 2:=by rw [← hcs];simp
    have hgl:g < w.heap.size:=by
      rcases Nat.lt_or_ge g w.heap.size with h | h
      · exact h
      · rw [Array.getElem?_eq_none h] at hg;cases hg
    have hge:C.mine g:=hr.base 0 _ g c rfl rfl hσ
    have hCb:C.base ≤ w.heap.size:=(hb _ (Nat.le_refl _)).1
    obtain ⟨d,hd1,hd2⟩:=d2q xs.length (cur.toList.take (xs.length * 2)) (by rw [List.length_take];omega)
    obtain ⟨rest,hrest⟩:∃ rest,rest = cur.toList.drop (xs.length * 2):=⟨_,rfl⟩
    have hcur:cur.toList = fl2 d ++ rest:=by rw [← hd2,hrest,List.take_append_drop]
    have D0:DW w g e rest d.toArray w:=⟨rfl,rfl,rfl,Nat.le_refl _,fun _ _ _ => rfl,hgl,by rw [hg];congr 2;rw [← hcur]⟩
    have D1:DW (w.alloc (.cells #[.int .i64 id] 3)) g e rest d.toArray (w.alloc (.cells #[.int .i64 id] 3)) :=
      ⟨rfl,rfl,rfl,Nat.le_refl _,fun _ _ _ => rfl,by rw [hsz];omega,(D0.alloc _).row⟩
    have hrepd:a0j C.dm w 2 (xs.map o5) (fl2 d) (φ 0):=a0j.congr (by rw [List.length_map,← hd2,List.take_take,Nat.min_self]) hrep
    have hphi:∀ b ∈ φ 0,b < w.heap.size ∧ b ≠ g:=fun b hb' => ⟨a0j.lt _ _ _ hrep b hb',b4y hr rfl hb' rfl rfl hσ⟩
    have hlst:b0p false (w.alloc (.cells #[.int .i64 id] 3)) (.lst 2 (xs.map o5)) (.slice (some ⟨g,0,none⟩) xs.length c) (g :: φ 0):=by
      refine ⟨[.slice (some ⟨g,0,none⟩) xs.length c],rfl,?_⟩
      simp only [Rep]
      refine .inr ⟨g,0,c,cur,e,(0,0),φ 0,by rw [List.length_map],by rw [List.length_map];exact hnc,hcm,by rw [hbel.block g hgl];exact hg,by simp,rfl,by decide,?_⟩
      exact a0j.weak _ _ _ (a0j.world (w:=w) _ _ _ (fun b hb' => hbel.block b (hphi b hb').1) (by simpa using hrep))
    have base:∀ w',DW (w.alloc (.cells #[.int .i64 id] 3)) g e rest d.toArray w' ∨ True → True:=fun _ _ => trivial
    have fin:∀ (w':World) (dk:List (Value × Value)) (xs':List x8) (f:List Nat),DW (w.alloc (.cells #[.int .i64 id] 3)) g e rest dk.toArray w' → dk.length = xs.length → xs'.length ≤ xs.length → a0j C.dm w 2 (xs'.map o5) (fl2 (dk.take xs'.length)) f → List.Sublist f (φ 0) →
        ∃ σ' φ',x9 C σ' φ' [.dead,.row 2 (xs'.map o5)] w' ∧ EvX C σ [.row 2 (xs.map o5)] w σ' [.dead,.row 2 (xs'.map o5)] w' ∧ RV C σ' [.dead,.row 2 (xs'.map o5)] w' (.own 1 0 xs'.length) (.slice (some ⟨g,0,none⟩) xs'.length c) ∧ Below C.base w w':=by
      intro w' dk xs' f D hdk hx' hf hsub
      have hblk:∀ b,b < w.heap.size → b ≠ g → w'.heap[b]? = w.heap[b]?:=fun b hb' hbg => (D.block b (by rw [hsz];omega) hbg).trans (hbel.block b hb')
      have hdl:dk.length ≤ c:=by omega
      have hcs':(fl2 dk ++ rest).toArray.size = c * 2:=by
        have:(fl2 d ++ rest).length = c * 2:=by rw [← hcur];exact hcl
        rw [List.size_toArray,List.length_append,a7w,hdk,← hd1,← a7w,← List.length_append,this]
      obtain ⟨σ',φ',k1,k2,k3⟩:=e0e (w':=w') (l':=xs'.map o5) hr (Nat.le_trans (by rw [hsz];omega) D.size) hσ hcm hblk D.row hcs' hsub hf (by
        rw [List.length_map]
        simp only [List.toList_toArray]
        rw [← c4r _ _ (by omega),List.take_take,Nat.min_self,List.take_append_of_le_length (by rw [a7w];omega)])
      refine ⟨σ',φ',k1,k2.x,?_,⟨D.os,D.tape,D.output,Nat.le_trans (by rw [hsz];omega) D.size,fun k hk => hblk k (by omega) (by have:=hge.1;omega)⟩⟩
      simp only [RV,List.getElem?_cons_succ,List.getElem?_cons_zero]
      exact ⟨_,c,rfl,by rw [List.length_map];omega,by omega,hcm,by rw [k3];simp⟩
    have hidx115:=b2l id xs 0
    rcases hidx115 with ⟨q1,q2⟩ | ⟨k,q0,q1,q2,q3⟩
    · have hi:=hidx (-1) (by unfold a2f;rw [q1];rfl) _ hlst
      refine (a9j w _ id (fun r w' => r = .slice (some ⟨g,0,none⟩) xs.length c ∧ Below (w.alloc (.cells #[.int .i64 id] 3)).heap.size (w.alloc (.cells #[.int .i64 id] 3)) w') ((a9u 102 _ _ _ hi).mono (fun e w' h => ⟨_,h.1,rfl,h.2⟩))).mono ?_
      rintro e' w' ⟨r,rfl,rfl,hb1⟩
      have hfe:(xs.filter fun x => !(x.Id == id)) = xs:=List.filter_eq_self.2 (fun x hx => by rw [q2 x hx];rfl)
      rw [hfe]
      exact fin w' d xs (φ 0) (D1.below hb1) hd1 (Nat.le_refl _) (by rw [← hd1,List.take_length];exact hrepd) (List.Sublist.refl _)
    · obtain ⟨kp,hkp⟩:∃ kp:Nat → Bool,kp = fun j => !((xs[j]?).map (fun x => x.Id == id)).getD false:=⟨_,rfl⟩
      have hkx:∀ (j:Nat) x,xs[j]? = some x → kp j = !(x.Id == id):=fun j x hj => by rw [hkp];simp only [hj,Option.map_some,Option.getD_some]
      have hkg:∀ j (hj:j < xs.length),kp j = !(xs[j].Id == id):=fun j hj => hkx j _ (List.getElem?_eq_getElem hj)
      have hi:=hidx (k:Int) (by unfold a2f;rw [q1,Nat.zero_add];rfl) _ hlst
      obtain ⟨f,hf1,hf2⟩:=c4s (xs.map o5) d (φ 0) kp (by rw [List.length_map,hd1]) hrepd
      rw [← b8m (fun x => !(x.Id == id)) xs kp hkx] at hf1
      have hkept:keptUpTo kp d.toArray d.toArray.size = ((List.range d.length).filter kp).map (d.toArray[·]!):=by unfold keptUpTo;rw [List.size_toArray]
      have hkl:(keptUpTo kp d.toArray d.toArray.size).length = (xs.filter fun x => !(x.Id == id)).length:=by
        rw [hkept,List.length_map]
        have:=congrArg List.length (b8m (enc:=o5) (fun x => !(x.Id == id)) xs kp hkx)
        rw [List.length_map,List.length_map,List.length_map] at this
        rw [this,hd1]
      have hdel:=b7c 102 #[.pointer (some ⟨w.heap.size,0,none⟩)] (enters_of Try.func102 (by kernel_rfl) rfl) (w.alloc (.cells #[.int .i64 id] 3)) g xs.length c e rest d.toArray kp k (by rw [List.size_toArray,hd1]) hnc hcm D1
        (by
          have h1c:=a0j.oneCell hrepd
          rw [List.length_map,← hd1,← a7w,List.take_length] at h1c
          intro x hx
          simp only [List.toList_toArray] at hx
          refine ⟨h1c _ ?_,h1c _ ?_⟩ <;> exact List.mem_flatMap.2 ⟨x,hx,by simp⟩)
        (fun j hj => by rw [hkg j (by omega),q2 j _ hj (List.getElem?_eq_getElem (by omega))];rfl)
        (by rw [hkg k q0,q3 _ (List.getElem?_eq_getElem q0)];rfl) q0 hi
        (by
          intro W dk j hj DWk
          have hxj:(xs.map o5)[j]? = some (o5 xs[j]):=by rw [List.getElem?_map,List.getElem?_eq_getElem hj];rfl
          obtain ⟨fj,r1,r2,r3⟩:=hrepd.get hxj
          have hjd:j < d.length:=by omega
          have hdj:d.toArray[j]! = d[j]:=by rw [getElem!_pos d.toArray j (by simpa using hjd)];simp
          rw [b9n d j hjd] at r1
          have r1':Rep false W (o5 xs[j]) [d[j].1,d[j].2] fj:=Rep.weak _ _ _ (Rep.world (w:=w) _ _ _ (fun b hb' => (DWk.block b (by rw [hsz];have:=(hphi b (r2 b hb')).1;omega) (hphi b (r2 b hb')).2).trans (hbel.block b (hphi b (r2 b hb')).1)) r1)
          have hbW:W.heap[w.heap.size]? = some (.cells #[.int .i64 id] 3 (0,0)):=(DWk.block _ (by rw [hsz];omega) (by omega)).trans hbx
          have hc:=b7i xs[j] id (xs[j].Id == id) rfl W [.agg #[d[j].1,d[j].2],.pointer (some ⟨w.heap.size,0,none⟩)] (fj ++ [w.heap.size]) (by
            simp only [a1f]
            exact ⟨_,_,fj,[w.heap.size],rfl,r1',⟨_,[],[w.heap.size],[],rfl,hcap W hbW,⟨rfl,rfl⟩,rfl⟩,rfl⟩)
          rw [hdj]
          refine hc.mono ?_
          intro e w' he
          cases e with
          | returned v =>
            obtain ⟨q1,cs,rfl,q2⟩:=he
            simp only [Rep] at q2
            obtain ⟨rfl,_⟩:=q2
            exact ⟨by rw [hkg j hj,Bool.not_not];rfl,q1⟩
          | panicked _ => exact he.elim
          | outgrown => exact he.elim)
        (by
          intro W dk i hi hn' DWk
          have hrs:(fl2 dk.toList ++ rest).toArray.size = c * 2:=by
            have:(fl2 d ++ rest).length = c * 2:=by rw [← hcur];exact hcl
            have h2:dk.toList.length = d.length:=by rw [Array.length_toList,hn',hd1]
            rw [List.size_toArray,List.length_append,a7w,h2,← a7w,← List.length_append,this]
          have hclr:=fun ty => c4p (P:=Try.prog) W 26 ty 70 ti _ g (i * 2) (xs.length - i) (c - i) _ e b8o hti htz (by rw [hts];rfl) (by decide) DWk.row (by omega) (by rw [hts,hrs,← Nat.add_mul];exact Nat.mul_le_mul_right _ (by omega))
          simp only [hts,List.toList_toArray] at hclr
          obtain ⟨dk',g1,g2,g3⟩:=DWk.clear i xs.length (by omega) hn' (Builtin.zeroCells (Value.agg #[.int .i64 0,.slice none 0 0]).cells (xs.length - i)).toList (by rw [Array.length_toList,size_zeroCells];rfl)
          exact ⟨dk',_,hclr,g1,g2,g3⟩)
      refine (a9j w _ id (fun r w' => r = .slice (some ⟨g,0,none⟩) (keptUpTo kp d.toArray d.toArray.size).length c ∧ ∃ dk,DW (w.alloc (.cells #[.int .i64 id] 3)) g e rest dk w' ∧ dk.size = xs.length ∧ dk.toList.take (keptUpTo kp d.toArray d.toArray.size).length = keptUpTo kp d.toArray d.toArray.size) (hdel.mono (fun e w' h => by
        obtain ⟨h1,h2⟩:=h
        rw [show xs.length = d.toArray.size by rw [List.size_toArray,hd1]] at h1 h2 ⊢
        exact ⟨_,h1,rfl,h2⟩))).mono ?_
      rintro e' w' ⟨r,rfl,rfl,dk,g1,g2,g3⟩
      rw [hkl] at g3 ⊢
      refine fin w' dk.toList _ f (by simpa using g1) (by simpa using g2) (List.length_filter_le _ _) ?_ hf2
      rw [g3,hkept]
      exact hf1
end
theorem c5b (a0:List x8) (a1:Int) (r:List x8) (hf:b4n a0 a1 = some r):a0u Try.prog ⟨true,true,false⟩ 80 [.own 0 0 a0.length,.int .i64 a1] [.row 2 (a0.map o5)] (.own 1 0 r.length) [.dead,.row 2 (r.map o5)]:=by
  unfold b4n at hf
  obtain rfl:=os hf
  exact b6a ⟨true,true,false⟩ a0 a1

/- slices.Insert[[]impl.Row,impl.Row] -/
def a2n (a0:List x8) (a1:Int) (a2:List x8):Option (List x8) :=
    if (0 ≤ a1 ∧ a1 ≤ (a0.length:Int)) ∧ 0 < a2.length ∧ a0.length + a2.length ≤ 2 ^ 30 then
    some (a0.take a1.toNat ++ a2 ++ a0.drop a1.toNat)
    else none
/- HAND -/
open Go.RowKit

theorem a1a:Try.prog.underlying 26 = some (.slice 70):=by kernel_rfl
theorem a8b:Try.prog.underlying 3 = some (.int .i64):=by kernel_rfl
theorem a5d:∃ i:TypeInfo,Try.prog.info? 70 = some i ∧ i.size = 2 ∧ i.bytes = 32 ∧ i.zero = some (.agg #[.int .i64 0,.slice none 0 0]):=d3v (by kernel_rfl)
theorem a9b (w:World) (g vb o m vc lb cb:Nat) (cur curv:Array Value) (e ev:TypeId) (hg:w.heap[g]? = some (.cells cur e (0,0))) (hv:w.heap[vb]? = some (.cells curv ev (0,0))) (hne:vb ≠ g) (hs:cur.size ≠ 0) :
    (callFunc 116 #[.slice (some ⟨vb,0,none⟩) m vc,.slice (some ⟨g,o,none⟩) lb cb]).run Try.prog w = .ok (.value (.bool false)) w:=by
  obtain ⟨ti,hti,hts,htb,htz⟩:=a5d
  rw [run_callFunc_extern Try.func116 (by kernel_rfl) (by kernel_rfl) (by kernel_rfl) (e:=Extern.SlicesOverlaps.overlaps #[26,26] #[4]) (by kernel_rfl),
    Lib.run_overlaps_apart w 26 4 70 a1a 2 (fun w => by simp [sizeOf,typeInfo,hti,hts]) ⟨vb,0,none⟩ ⟨g,o,none⟩ m vc lb cb hne ev e curv.size cur.size (by simp [World.shape?,hv]) (by simp [World.shape?,hg]) hs (by simp [World.frozen?,hv]) (by simp [World.frozen?,hv])]
  rfl

set_option maxRecDepth 100000 in
theorem a7l (w:World) (a b:Option Addr) (n c m vc:Nat) (u:Value) (w':World) (hm:0 < m)
    (hap:(Builtin.append_ #[26,26] 26 #[.slice a n c,.slice b m vc]).run Try.prog w = .ok u w') (hu:a ≠ none ∨ (n = 0 ∧ c = 0)) :
    Calls Try.prog 103 #[.slice a n c,.int .i64 n,.slice b m vc] w fun e' w'' => e' = .returned u ∧ w'' = w':=by
  have hz1:¬ ((m:Int) = 0):=by omega
  have mixed:Try.prog.follows .mixedOrders = true:=by kernel_rfl
  go_enter Try.func103,(show Try.f103.ntmps = 95 from rfl)
  cases a with
  | none =>
    obtain ⟨rfl,rfl⟩:=hu.resolve_left (fun h => h rfl)
    go_wp2_with (at_builtin;refine Lib.wpList_append_run _ rfl _ _ _ _ rfl _ _ rfl rfl _ _ hap ?_)
    go_ret
    exact ⟨rfl,rfl⟩
  | some a =>
    obtain ⟨ab,ao,asp⟩:=a
    go_wp2_with (at_builtin;refine Lib.wpList_append_run _ rfl _ _ _ _ rfl _ _ rfl rfl _ _ hap ?_)
    all_goals (go_ret;exact ⟨rfl,rfl⟩)

set_option maxRecDepth 100000 in
theorem a7a (w:World) (g n c i vb m vc:Nat) (A1 A2:Array Value) (hi:i < n) (hm:0 < m) (hroom:n + m ≤ c) (hc:c ≤ maxLen)
    (hov:∀ o lb cb,(callFunc 116 #[.slice (some ⟨vb,0,none⟩) m vc,.slice (some ⟨g,o,none⟩) lb cb]).run Try.prog w = .ok (.value (.bool false)) w)
    (h1:∀ ty dc sc,(Builtin.copy_ #[26,26] ty #[.slice (some ⟨g,(i + m) * 2,none⟩) (n + m - (i + m)) dc,.slice (some ⟨g,i * 2,none⟩) (n + m - i) sc]).run Try.prog w.drew = .ok (goInt (n - i:Nat)) (w.drew.setRow g A1))
    (h2:∀ ty dc,(Builtin.copy_ #[26,26] ty #[.slice (some ⟨g,i * 2,none⟩) (n + m - i) dc,.slice (some ⟨vb,0,none⟩) m vc]).run Try.prog (w.drew.setRow g A1) = .ok (goInt m) ((w.drew.setRow g A1).setRow g A2)) :
    Calls Try.prog 103 #[.slice (some ⟨g,0,none⟩) n c,.int .i64 i,.slice (some ⟨vb,0,none⟩) m vc] w fun e' w' =>
      e' = .returned (.slice (some ⟨g,0,none⟩) (n + m) c) ∧ w' = (w.drew.setRow g A1).setRow g A2:=by
  have hc63:c ≤ 9223372036854775807:=by unfold maxLen at hc;omega
  have hz1:¬ ((m:Int) = 0):=by omega
  have hz2:¬ ((i:Int) = (n:Int)):=by omega
  have hw1:IntKind.i64.wrap ((i:Int) + (m:Int)) = (i:Int) + (m:Int):=by rw [IntKind.wrap_i64];omega
  have hb1:(0:Int) ≤ (i:Int) + (m:Int):=by omega
  have hin:i ≤ n:=by omega
  have htn:((i:Int) + (m:Int)).toNat = i + m:=by omega
  have hb2:¬ (c = i + m):=by omega
  have hb3:(i:Int) ≤ (n:Int) + (m:Int):=by omega
  have hb4:¬ (c = i):=by omega
  have mixed:Try.prog.follows .mixedOrders = true:=by kernel_rfl
  go_enter Try.func103,(show Try.f103.ntmps = 95 from rfl)
  go_wp2_with (simp only [hov])

  go_region_law_o (refine step_copy_runI rfl _ _ 26 26 rfl _ _ (by simp [Act.eval,Act.put]) (by simp [Act.eval,Act.put]) (h1 _ _ _) ?_)
  go_wp2_with (simp only [h2])
  go_ret
  exact ⟨rfl,rfl⟩

set_option maxRecDepth 100000 in
theorem a7i (w:World) (g n c i vb m vc G:Nat) (W1 W2 W3:World) (hi:i < n) (hm:0 < m) (hnc:n ≤ c) (hroom:c < n + m) (hG:n + m ≤ G) (hGm:G ≤ maxLen)
    (h0:∀ ty,(Builtin.append_ #[26,3] ty #[.slice (some ⟨g,0,none⟩) i c,.int .i64 ((n:Int) + (m:Int) - (i:Int))]).run Try.prog w = .ok (.slice (some ⟨w.heap.size,0,none⟩) (n + m) G) W1)
    (h1:∀ ty dc,(Builtin.copy_ #[26,26] ty #[.slice (some ⟨w.heap.size,i * 2,none⟩) (n + m - i) dc,.slice (some ⟨vb,0,none⟩) m vc]).run Try.prog W1 = .ok (goInt m) W2)
    (h2:∀ ty dc sc,(Builtin.copy_ #[26,26] ty #[.slice (some ⟨w.heap.size,(i + m) * 2,none⟩) (n + m - (i + m)) dc,.slice (some ⟨g,i * 2,none⟩) (n - i) sc]).run Try.prog W2.drew = .ok (goInt (n - i:Nat)) W3) :
    Calls Try.prog 103 #[.slice (some ⟨g,0,none⟩) n c,.int .i64 i,.slice (some ⟨vb,0,none⟩) m vc] w fun e' w' =>
      e' = .returned (.slice (some ⟨w.heap.size,0,none⟩) (n + m) G) ∧ w' = W3:=by
  have hG63:G ≤ 9223372036854775807:=by unfold maxLen at hGm;omega
  have hz1:¬ ((m:Int) = 0):=by omega
  have hz2:¬ ((i:Int) = (n:Int)):=by omega
  have hz3:(c:Int) < (n:Int) + (m:Int):=by omega
  have hGi:¬ (G = i):=by omega
  have hGim:¬ (G = i + m):=by omega
  have hci:¬ (c = i):=by omega
  have hw1:IntKind.i64.wrap ((i:Int) + (m:Int)) = (i:Int) + (m:Int):=by rw [IntKind.wrap_i64];omega
  have hb1:(0:Int) ≤ (i:Int) + (m:Int):=by omega
  have hin:i ≤ n:=by omega
  have htn:((i:Int) + (m:Int)).toNat = i + m:=by omega
  have hb3:(i:Int) ≤ (n:Int):=by omega
  have mixed:Try.prog.follows .mixedOrders = true:=by kernel_rfl
  go_enter Try.func103,(show Try.f103.ntmps = 95 from rfl)
  go_wp2_with (first
    | (at_builtin;refine Lib.wpList_append_run _ rfl _ _ _ _ rfl _ _ rfl rfl _ _ (h0 _) ?_)
    | simp only [h1])
  go_region_law_o (refine step_copy_runI rfl _ _ 26 26 rfl (.slice (some ⟨w.heap.size,(i + m) * 2,none⟩) (n + m - (i + m)) (G - (i + m))) (.slice (some ⟨g,i * 2,none⟩) (n - i) (c - i)) (by simp [Act.eval,Act.put]) (by simp [Act.eval,Act.put]) (h2 _ _ _) ?_)
  go_wp2
  go_ret
  exact ⟨rfl,rfl⟩

theorem a8c (dm:Md) (l v:List AV) (i:Nat) (hi:i ≤ l.length) (hm:0 < v.length) (hlim:l.length + v.length ≤ 2 ^ 30) :
    a0u Try.prog dm 103 [.own 0 0 l.length,.int .i64 i,.own 1 0 v.length] [.row 2 l,.row 2 v] (.own 2 0 (l.length + v.length)) [.dead,.dead,.row 2 (l.take i ++ v ++ l.drop i)]:=by
  intro C σ φ w vals _ _ hok hb hr hv
  simp only [RVs] at hv
  obtain ⟨v1,_,rfl,h1,v2,_,rfl,h2,v3,_,rfl,h3,rfl⟩:=hv
  have e2:v2 = .int .i64 i:=by simpa only [RV] using h2
  subst e2
  obtain ⟨ti,hti,hts,htb,htz⟩:=a5d
  rcases c8o hr (o:=1) rfl h3 rfl with ⟨_,rfl,_⟩ | ⟨vb,vc,curv,ev,hσv,rfl,hmc,hvcm,hgv,hcsv,hrepv⟩
  · simp at hm
  have hraw:=c8o hr (o:=0) rfl h1 rfl
  by_cases hin:i = l.length
  · subst hin
    obtain ⟨u,w',σ',φ',k1,k2,k3,k4,k5⟩:=b4e (P:=Try.prog) hr hb (ty':=26) a1a hti htz (by rw [hts];rfl) (by omega) (by omega) (cons:=true) h1 h3
      (l0:=l) (l1:=v) (n:=l.length) (m:=v.length) (ks0:=[0]) (ks1:=[1]) (by simp [b7e,hts]) (by simp [b2j,hts]) (fun _ h => by cases h) (fun _ _ _ h => by cases h) (fun _ => by decide) hlim
    have key:∀ a c,v1 = .slice a l.length c → (a ≠ none ∨ (l.length = 0 ∧ c = 0)) → Calls Try.prog 103 #[.slice a l.length c,.int .i64 l.length,.slice (some ⟨vb,0,none⟩) v.length vc] w fun e' w'' => e' = .returned u ∧ w'' = w':=by
      rintro a c rfl hu
      exact a7l w a _ l.length c v.length vc u w' hm k1 hu
    have:Calls Try.prog 103 #[v1,.int .i64 l.length,.slice (some ⟨vb,0,none⟩) v.length vc] w fun e' w'' => e' = .returned u ∧ w'' = w':=by
      rcases hraw with ⟨rfl,rfl,_⟩ | ⟨g,c,cur,e,_,rfl,_⟩
      · exact key _ _ rfl (.inr ⟨rfl,rfl⟩)
      · exact key _ _ rfl (.inl (by simp))
    refine this.mono ?_
    rintro e' w'' ⟨rfl,rfl⟩
    rw [hts] at k2 k3 k4
    have hL:l.take l.length ++ v ++ l.drop l.length = l ++ v:=by simp
    rw [hL]
    exact ⟨σ',φ',k2,k3.x,k4,k5⟩
  · have hil:i < l.length:=by omega
    rcases hraw with ⟨_,rfl,_⟩ | ⟨g,c,cur,e,hσ,rfl,hnc,hcm,hg,hcs,hrep⟩
    · simp at hil
    obtain ⟨n,hn⟩:∃ n,n = l.length:=⟨_,rfl⟩
    obtain ⟨m,hmm⟩:∃ m,m = v.length:=⟨_,rfl⟩
    rw [← hn] at hil hnc hi hlim h1 ⊢
    rw [← hmm] at hm hmc hlim h3 ⊢
    have hlen:=hrep.length
    have hlenv:=hrepv.length
    rw [← hn] at hlen
    rw [← hmm] at hlenv
    have hcl:cur.toList.length = c * 2:=by rw [← hcs];simp
    have hone0:=hrep.oneCell
    have honev:=hrepv.oneCell
    rw [← hn] at hone0
    rw [← hmm] at honev
    have hvl:(curv.toList.take (m * 2)).length = m * 2:=by rw [List.length_take];omega
    have hcl2:((cur.toList.take (n * 2)).drop (i * 2)).length = (n - i) * 2:=by rw [List.length_drop,List.length_take];omega
    have hvg:vb ≠ g:=by
      rintro rfl
      have:=hr.inj 0 1 _ _ vb c vc rfl rfl rfl rfl hσ hσv
      cases this
    have hgb:C.mine g:=hr.base 0 _ g c rfl rfl hσ
    have hsv:∀ j x,(curv.toList.take (m * 2))[j]? = some x → ∀ W:World,W.heap[vb]? = some (.cells curv ev (0,0)) → W.cell? ((⟨vb,0,none⟩:Addr).add j) = some x:=fun j x hj W hW => c8p hW 0 (m * 2) j x (by simpa using hj)
    by_cases hroom:n + m ≤ c
    · have hmin1:Nat.min (n + m - i) (n + m - (i + m)) = n - i:=by simp only [Nat.min_def];split <;> omega
      have hmin2:Nat.min m (n + m - i) = m:=by simp only [Nat.min_def];split <;> omega
      obtain ⟨A1,hA1⟩:∃ A1,A1 = (cur.toList.take ((i + m) * 2) ++ (cur.toList.take (n * 2)).drop (i * 2) ++ cur.toList.drop ((i + m) * 2 + ((cur.toList.take (n * 2)).drop (i * 2)).length)).toArray:=⟨_,rfl⟩
      obtain ⟨A2,hA2⟩:∃ A2,A2 = (A1.toList.take (i * 2) ++ curv.toList.take (m * 2) ++ A1.toList.drop (i * 2 + (curv.toList.take (m * 2)).length)).toArray:=⟨_,rfl⟩
      obtain ⟨s1,s2,s3⟩:=d4y (z:=2) hi (by omega) hvl hA1 hA2
      have hg1:w.drew.heap[g]? = some (.cells cur e (0,0)):=hg
      have hg2:(w.drew.setRow g A1).heap[g]? = some (.cells A1 e (0,0)):=setRow_heap _ g cur A1 e _ hg1
      have hv2:(w.drew.setRow g A1).heap[vb]? = some (.cells curv ev (0,0)):=(setRow_other _ g vb A1 hvg).trans hgv
      have c1:=fun ty dc sc => b1n (P:=Try.prog) (ty:=ty) w.drew 26 26 70 ti g ((i + m) * 2) (n + m - (i + m)) dc ⟨g,i * 2,none⟩ (n + m - i) sc cur e ((cur.toList.take (n * 2)).drop (i * 2)) a1a hti hg1 (by rw [hmin1,hts];exact hcl2) (c8p hg1 (i * 2) (n * 2)) (by omega) (fun x hx => hone0 x (List.mem_of_mem_drop hx))
      rw [← hA1,hmin1] at c1
      have c2:=fun ty dc => b1n (P:=Try.prog) (ty:=ty) (w.drew.setRow g A1) 26 26 70 ti g (i * 2) (n + m - i) dc ⟨vb,0,none⟩ m vc A1 e (curv.toList.take (m * 2)) a1a hti hg2 (by rw [hmin2,hts];exact hvl) (fun j x hj => hsv j x hj _ hv2) (by rw [hvl];omega) honev
      rw [← hA2,hmin2] at c2
      refine (a7a w g n c i vb m vc A1 A2 hil hm hroom hcm (fun o lb cb => a9b w g vb o m vc lb cb cur curv e ev hg hgv hvg (by omega)) c1 c2).mono ?_
      rintro e' w' ⟨rfl,rfl⟩
      obtain ⟨σ',φ',k1,k2,k3⟩:=d3u (w':=(w.drew.setRow g A1).setRow g A2) hr hb (by simp) hrep hrepv i (by omega) (.inr ⟨c,hσ⟩) (fun b _ hbg => by rw [setRow_other _ _ _ _ hbg,setRow_other _ _ _ _ hbg];rfl) (setRow_heap _ g A1 A2 e _ hg2) (by omega) hcm (by rw [← hn,← hmm];exact s3.trans (by simp))
      refine ⟨σ',φ',k1,k2.x,?_,⟨rfl,rfl,rfl,by simp,fun k hk => by rw [setRow_other _ _ _ _ (by have:=hgb.1;omega),setRow_other _ _ _ _ (by have:=hgb.1;omega)];rfl⟩⟩
      simp only [RV,List.getElem?_cons_succ,List.getElem?_cons_zero]
      exact ⟨_,c,rfl,by simp only [List.length_append,List.length_take,List.length_drop];omega,by omega,hcm,by rw [k3];simp⟩
    · have hmin1:Nat.min (n - i) (n + m - (i + m)) = n - i:=by simp only [Nat.min_def];split <;> omega
      have hmin2:Nat.min m (n + m - i) = m:=by simp only [Nat.min_def];split <;> omega
      obtain ⟨G,hG⟩:∃ G,G = grownCap w (n + m) c 70:=⟨_,rfl⟩
      have hGe:n + m ≤ G:=by rw [hG];exact grownCap_ge w (n + m) c 70
      have hGm:G ≤ maxLen:=by rw [hG];exact grownCap_le_maxLen w (n + m) c 70 (by simp only [maxLen];omega)
      have hoT:(cur.toList.take (i * 2)).length = i * 2:=by rw [List.length_take];omega
      have hold:(Builtin.firstCells ti.size i (.slice (some ⟨g,0,none⟩) i c)).run Try.prog w.drew = .ok (cur.toList.take (i * 2)).toArray w.drew:=by
        refine run_firstCells_some (P:=Try.prog) w.drew ti.size i ⟨g,0,none⟩ i c _ (by rw [hoT,hts]) ?_
        intro j x hj
        have:=c8p (w:=w.drew) hg 0 (i * 2) j x (by simpa using hj)
        exact this
      have hik:i + (n + m - i) = n + m:=by omega
      have hkk:(n:Int) + (m:Int) - (i:Int) = ((n + m - i:Nat):Int):=by omega
      have hz:=fun ty => Lib.run_append_grow_zeros (P:=Try.prog) w 26 3 ty 70 ti _ .i64 .i64 a1a a8b hti htz (some ⟨g,0,none⟩) i c _ hold (n + m - i) (by omega) (by omega) (by omega) (by omega) (by rw [htb];omega) (by rw [htb,hik];exact growslice_fits (by omega) (by omega))
      rw [hik,← hG] at hz
      obtain ⟨R,hR⟩:∃ R,R = (Builtin.zeroCells (Value.agg #[.int .i64 0,.slice none 0 0]).cells (n + m - i)).toList ++ (Builtin.zeroCells (Value.agg #[.int .i64 0,.slice none 0 0]).cells (G - (n + m))).toList:=⟨_,rfl⟩
      have hRl:R.length = (n + m - i) * 2 + (G - (n + m)) * 2:=by
        rw [hR,List.length_append,Array.length_toList,Array.length_toList,size_zeroCells,size_zeroCells]
        rfl
      have hrow:((cur.toList.take (i * 2)).toArray ++ Builtin.zeroCells (Value.agg #[.int .i64 0,.slice none 0 0]).cells (n + m - i) ++ Builtin.zeroCells (Value.agg #[.int .i64 0,.slice none 0 0]).cells (G - (n + m))) = (cur.toList.take (i * 2) ++ R).toArray:=by
        rw [hR]
        apply Array.toList_inj.1
        simp
      rw [hrow] at hz
      obtain ⟨W1,hW1⟩:∃ W1,W1 = w.drew.alloc (.cells (cur.toList.take (i * 2) ++ R).toArray 70):=⟨_,rfl⟩
      rw [← hW1] at hz
      have hn1:W1.heap[w.heap.size]? = some (.cells (cur.toList.take (i * 2) ++ R).toArray 70 (0,0)):=by rw [hW1];exact heap_alloc_new w.drew _
      have hold1:∀ b,b < w.heap.size → W1.heap[b]? = w.heap[b]?:=fun b hb => by rw [hW1];exact heap_alloc_old w.drew _ hb
      have hgl:g < w.heap.size:=lt_of_heap hg
      have hvl2:vb < w.heap.size:=lt_of_heap hgv
      obtain ⟨B1,hB1⟩:∃ B1,B1 = (cur.toList.take (i * 2) ++ curv.toList.take (m * 2) ++ R.drop (curv.toList.take (m * 2)).length).toArray:=⟨_,rfl⟩
      obtain ⟨B2,hB2⟩:∃ B2,B2 = (B1.toList.take ((i + m) * 2) ++ (cur.toList.take (n * 2)).drop (i * 2) ++ B1.toList.drop ((i + m) * 2 + ((cur.toList.take (n * 2)).drop (i * 2)).length)).toArray:=⟨_,rfl⟩
      obtain ⟨s1,s2,s3⟩:=d2p (z:=2) (R:=R) hi hlen hvl (by omega) hB1 hB2
      have c1:=fun ty dc => b1n (P:=Try.prog) (ty:=ty) W1 26 26 70 ti w.heap.size (i * 2) (n + m - i) dc ⟨vb,0,none⟩ m vc _ 70 (curv.toList.take (m * 2)) a1a hti hn1 (by rw [hmin2,hts];exact hvl) (fun j x hj => hsv j x hj _ ((hold1 vb hvl2).trans hgv)) (by rw [hvl,List.size_toArray,List.length_append,hoT,hRl];omega) honev
      have hb1:((cur.toList.take (i * 2) ++ R).toArray.toList.take (i * 2) ++ curv.toList.take (m * 2) ++ (cur.toList.take (i * 2) ++ R).toArray.toList.drop (i * 2 + (curv.toList.take (m * 2)).length)).toArray = B1:=by
        rw [hB1]
        simp only []
        rw [List.take_left' hoT,← List.drop_drop,List.drop_left' hoT]
      rw [hb1,hmin2] at c1
      obtain ⟨W2,hW2⟩:∃ W2,W2 = W1.setRow w.heap.size B1:=⟨_,rfl⟩
      rw [← hW2] at c1
      have hn2:W2.drew.heap[w.heap.size]? = some (.cells B1 70 (0,0)):=by rw [hW2];exact setRow_heap W1 _ _ B1 70 _ hn1
      have hg2:W2.drew.heap[g]? = some (.cells cur e (0,0)):=by rw [hW2];exact (setRow_other W1 _ g B1 (by omega)).trans ((hold1 g hgl).trans hg)
      have c2:=fun ty dc sc => b1n (P:=Try.prog) (ty:=ty) W2.drew 26 26 70 ti w.heap.size ((i + m) * 2) (n + m - (i + m)) dc ⟨g,i * 2,none⟩ (n - i) sc B1 70 ((cur.toList.take (n * 2)).drop (i * 2)) a1a hti hn2 (by rw [hmin1,hts];exact hcl2) (c8p hg2 (i * 2) (n * 2)) (by omega) (fun x hx => hone0 x (List.mem_of_mem_drop hx))
      rw [← hB2,hmin1] at c2
      rw [← hkk] at hz
      refine (a7i w g n c i vb m vc G W1 W2 _ hil hm hnc (by omega) hGe hGm hz c1 c2).mono ?_
      rintro e' w' ⟨rfl,rfl⟩
      have hblk:∀ b,b < w.heap.size → (W2.drew.setRow w.heap.size B2).heap[b]? = w.heap[b]?:=fun b hb => by
        rw [setRow_other _ _ _ _ (by omega)]
        show W2.heap[b]? = _
        rw [hW2,setRow_other _ _ _ _ (by omega),hold1 b hb]
      have hsz:(W2.drew.setRow w.heap.size B2).heap.size = w.heap.size + 1:=by
        rw [hW2,hW1]
        simp [World.alloc]
      obtain ⟨σ',φ',k1,k2,k3⟩:=d3u (w':=W2.drew.setRow w.heap.size B2) (c':=G) hr hb (by omega) hrep hrepv i (by omega) (.inl (Nat.le_refl _)) (fun b hb _ => hblk b hb) (setRow_heap _ _ B1 B2 70 _ hn2) (by omega) hGm (by rw [← hn,← hmm];exact s3.trans (by simp))
      refine ⟨σ',φ',k1,k2.x,?_,⟨by rw [hW2,hW1];rfl,by rw [hW2,hW1];rfl,by rw [hW2,hW1];rfl,by omega,fun k hk => hblk k (by have:=(hb _ (Nat.le_refl _)).1;omega)⟩⟩
      simp only [RV,List.getElem?_cons_succ,List.getElem?_cons_zero]
      exact ⟨_,G,rfl,by simp only [List.length_append,List.length_take,List.length_drop];omega,hGe,hGm,by rw [k3];simp⟩
theorem a9k (a0:List x8) (a1:Int) (a2:List x8) (r:List x8) (hf:a2n a0 a1 a2 = some r):a0u Try.prog ⟨true,true,false⟩ 103 [.own 0 0 a0.length,.int .i64 a1,.own 1 0 a2.length] [.row 2 (a0.map o5),.row 2 (a2.map o5)] (.own 2 0 r.length) [.dead,.dead,.row 2 (r.map o5)]:=by
  unfold a2n at hf
  split at hf
  · rename_i h
    obtain rfl:=os hf
    obtain ⟨i,rfl⟩:∃ i:Nat,a1 = i:=⟨a1.toNat,by omega⟩
    have:=a8c ⟨true,true,false⟩ (a0.map o5) (a2.map o5) i (by rw [List.length_map];omega) (by rw [List.length_map];omega) (by rw [List.length_map,List.length_map];omega)
    rw [List.length_map,List.length_map] at this
    simp only [Int.toNat_natCast,List.map_append,List.map_take,List.map_drop,List.length_append,List.length_take,List.length_drop]
    rw [Nat.min_eq_left (by omega),show i + a2.length + (a0.length - i) = a0.length + a2.length by omega]
    exact this
  · cases hf

end Go.R
