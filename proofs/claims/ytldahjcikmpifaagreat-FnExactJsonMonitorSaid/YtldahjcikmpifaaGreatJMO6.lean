import Derived.Test.YtldahjcikmpifaaGreatJMO5
set_option linter.all false
namespace Go.R
open Go Go.Proofs
set_option maxHeartbeats 8000000
def c9:a0q :=
 (.seq (.reg (tq 3 (.box 5 (.t 1)) (tm 4 (.c (.bool false)) .done)))
 (.seq (.seq (.reg (tm 16 (.t 0) (tq 17 (.lenS (.t 16)) (tq 18 (.bin .gtr (.t 17) (.c (.int .i64 1048576))) .done))))
 (.cond (.t 18) (.seq (.reg (tm 4 (.c (.bool true)) .done))
 .ret)
 .skip))
 (.seq (.reg (tm 5 (.c (.int .i64 1048576)) .done))
 (.seq (.reg (tq 19 (.load 5 true (.t 3)) (tm 20 (.t 5) (tq 21 (.call 65 [(.t 19),(.t 20)]) (tm 5 (.t 21) .done)))))
 (.seq (.seq (.reg (tm 22 (.t 5) (tq 23 (.bin .lss (.t 22) (.c (.int .i64 0))) .done)))
 (.cond (.t 23) (.seq (.reg (tm 4 (.c (.bool true)) .done))
 .ret)
 .skip))
 (.seq (.reg (tm 25 (.t 0) (tq 26 (.load 5 true (.t 3)) (tq 27 (.call 67 [(.t 26)]) (tq 28 (.call 66 [(.t 25),(.t 27)]) (tm 24 (.t 28) (tq 29 (.extract 0 (.t 24)) (tq 30 (.extract 1 (.t 24)) (tq 6 (.box 8 (.c (.agg [(.str []),(.str []),.nil,(.bool false),(.bool false),(.bool false),(.bool false),.nil]))) (.q ⟨none,none,.store 8 (.t 6) (.t 29)⟩
 (tm 7 (.t 30) .done)))))))))))
 (.seq (.reg (tq 31 (.load 5 true (.t 3)) (tq 32 (.call 67 [(.t 31)]) (tq 8 (.box 5 (.c (.agg [(.int .i64 0),(.int .i64 0),(.str []),.nil,.nil]))) (.q ⟨none,none,.store 5 (.t 8) (.t 32)⟩
 .done)))))
 (.seq (.reg (tm 34 (.t 0) (tq 35 (.load 5 true (.t 8)) (tq 36 (.call 68 [(.t 34),(.t 35)]) (tm 33 (.t 36) (tq 37 (.extract 0 (.t 33)) (tq 38 (.extract 1 (.t 33)) (tq 9 (.box 8 (.c (.agg [(.str []),(.str []),.nil,(.bool false),(.bool false),(.bool false),(.bool false),.nil]))) (.q ⟨none,none,.store 8 (.t 9) (.t 37)⟩
 (tm 10 (.t 38) .done))))))))))
 (.seq (.seq (.reg (tq 39 (.load 8 true (.t 9)) (tq 40 (.load 8 true (.t 6)) (tq 41 (.call 69 [(.t 39),(.t 40)]) (tq 42 (.not (.t 41)) (tm 43 (.t 42) (tg 44 43 false (.mov (.t 10)) (tg 45 43 false (.mov (.t 7)) (tg 46 43 false (.bin .neq (.t 44) (.t 45)) (tq 47 (.pick (.t 43) (.c (.bool true)) (.t 46)) .done))))))))))
 (.cut (.cond (.t 47) (.seq (.reg (tm 4 (.c (.bool false)) .done))
 .ret)
 .skip)))
 (.seq (.seq (.reg (tq 48 (.load 5 true (.t 8)) (tq 49 (.load 5 true (.t 3)) (.l ⟨(some 50),none,.call 67 [(.t 49)]⟩ [⟨(some 48),none,.load 5 true (.t 8)⟩]
 (.l ⟨(some 51),none,.call 23 [(.t 48),(.t 50)]⟩ []
 (tq 52 (.not (.t 51)) .done) .non) .non))))
 (.cond (.t 52) (.seq (.reg (tm 4 (.c (.bool false)) .done))
 .ret)
 .skip))
 (.seq (.reg (tm 11 (.c (.int .i64 1)) .done))
 (.seq (.reg (tq 53 (.load 5 true (.t 8)) (tm 54 (.t 11) (tq 55 (.call 28 [(.t 53),(.t 54)]) (tm 11 (.t 55) .done)))))
 (.seq (.seq (.reg (tm 56 (.t 11) (tq 57 (.bin .lss (.t 56) (.c (.int .i64 0))) (tm 58 (.t 57) (tg 59 58 false (.load 8 true (.t 9)) (tg 60 58 false (.load 8 true (.t 6)) (tg 61 58 false (.call 69 [(.t 59),(.t 60)]) (tg 62 58 false (.not (.t 61)) (tq 63 (.pick (.t 58) (.c (.bool true)) (.t 62)) (tm 64 (.t 63) (tg 65 64 false (.mov (.t 10)) (tg 66 64 false (.mov (.t 7)) (tg 67 64 false (.bin .neq (.t 65) (.t 66)) (tq 68 (.pick (.t 64) (.c (.bool true)) (.t 67)) .done))))))))))))))
 (.cut (.cond (.t 68) (.seq (.reg (tm 4 (.c (.bool false)) .done))
 .ret)
 .skip)))
 (.seq (.reg (tm 12 (.c (.int .i64 1)) .done))
 (.seq (.reg (tq 69 (.load 8 true (.t 9)) (tm 70 (.t 12) (tq 71 (.call 70 [(.t 69),(.t 70)]) (tm 12 (.t 71) .done)))))
 (.seq (.reg (tm 13 (.c (.int .i64 1)) .done))
 (.seq (.reg (tq 72 (.load 8 true (.t 9)) (tm 73 (.t 13) (tq 74 (.call 71 [(.t 72),(.t 73)]) (tm 13 (.t 74) .done)))))
 (.seq (.seq (.reg (tm 75 (.t 13) (tq 76 (.bin .lss (.t 75) (.c (.int .i64 0))) .done)))
 (.cond (.t 76) (.seq (.reg (tm 4 (.c (.bool false)) .done))
 .ret)
 .skip))
 (.seq (.seq (.reg (tm 77 (.t 13) (tm 78 (.t 12) (tq 79 (.bin .neq (.t 77) (.t 78)) .done))))
 (.cond (.t 79) (.seq (.reg (tm 4 (.c (.bool false)) .done))
 .ret)
 .skip))
 (.seq (.reg (tm 81 (.t 0) (tq 82 (.load 5 true (.t 3)) (tq 83 (.call 67 [(.t 82)]) (tq 84 (.call 68 [(.t 81),(.t 83)]) (tm 80 (.t 84) (tq 85 (.extract 0 (.t 80)) (tq 86 (.extract 1 (.t 80)) (tq 14 (.box 8 (.c (.agg [(.str []),(.str []),.nil,(.bool false),(.bool false),(.bool false),(.bool false),.nil]))) (.q ⟨none,none,.store 8 (.t 14) (.t 85)⟩
 (tm 15 (.t 86) .done)))))))))))
 (.seq (.seq (.reg (tq 87 (.load 8 true (.t 14)) (tq 88 (.load 8 true (.t 6)) (tq 89 (.call 69 [(.t 87),(.t 88)]) (tq 90 (.not (.t 89)) (tm 91 (.t 90) (tg 92 91 false (.mov (.t 15)) (tg 93 91 false (.mov (.t 7)) (tg 94 91 false (.bin .neq (.t 92) (.t 93)) (tq 95 (.pick (.t 91) (.c (.bool true)) (.t 94)) .done))))))))))
 (.cut (.cond (.t 95) (.seq (.reg (tm 4 (.c (.bool false)) .done))
 .ret)
 .skip)))
 (.seq (.reg (tm 13 (.c (.int .i64 1)) .done))
 (.seq (.reg (tq 96 (.load 8 true (.t 9)) (tm 97 (.t 13) (tq 98 (.call 71 [(.t 96),(.t 97)]) (tm 13 (.t 98) .done)))))
 (.seq (.seq (.reg (tm 99 (.t 13) (tq 100 (.bin .lss (.t 99) (.c (.int .i64 0))) .done)))
 (.cond (.t 100) (.seq (.reg (tm 4 (.c (.bool false)) .done))
 .ret)
 .skip))
 (.seq (.seq (.reg (tm 101 (.t 13) (tm 102 (.t 12) (tq 103 (.bin .neq (.t 101) (.t 102)) .done))))
 (.cond (.t 103) (.seq (.reg (tm 4 (.c (.bool false)) .done))
 .ret)
 .skip))
 (.seq (.reg (tm 4 (.c (.bool true)) .done))
 .ret))))))))))))))))))))))))))
theorem fc9:a1b Tryz.prog Tryz.f9 = some (c9.erase,[.mov (.t 4)],104):=by kernel_rfl
def a6h (G:Str) (E:y8):Option Bool :=
    if (decide ((G.length:Int) > 1048576)) then
    some true
    else
    (a6u FUEL E 1048576).bind fun Aa =>
    if (decide (Aa < 0)) then
    some true
    else
    (a5r FUEL E).bind fun M =>
    (a8a G M).bind fun B =>
    (a5r FUEL E).bind fun F =>
    (a7a G F).bind fun A =>
    (((a7d A.1 B.1).bind fun U =>
    if (!U) then
    some true
    else
    some (A.2 != B.2):Option Bool)).bind fun W =>
    if W then
    some false
    else
    (a5r FUEL E).bind fun J =>
    (a6x FUEL F J).bind fun Ab =>
    if (!Ab) then
    some false
    else
    (b0l F 1).bind fun L =>
    ((if (decide (L.1 < 0)) then
    some true
    else
    (a7d A.1 B.1).bind fun O =>
    some (bif (!O) then true else (A.2 != B.2)):Option Bool)).bind fun Y =>
    if Y then
    some false
    else
    (a8g A.1 1).bind fun H =>
    (a5z (⟨A.1.Name,A.1.Table,H.2.Columns,A.1.Initial,A.1.Insert,A.1.Delete,A.1.Modify,H.2.Where⟩:a0k) 1).bind fun P =>
    if (decide (P < 0)) then
    some false
    else
    if (P != H.1) then
    some false
    else
    (a5r FUEL E).bind fun K =>
    (a7a G K).bind fun D =>
    (((a7d D.1 B.1).bind fun V =>
    if (!V) then
    some true
    else
    some (D.2 != B.2):Option Bool)).bind fun Z =>
    if Z then
    some false
    else
    (a5z (⟨A.1.Name,A.1.Table,H.2.Columns,A.1.Initial,A.1.Insert,A.1.Delete,A.1.Modify,H.2.Where⟩:a0k) 1).bind fun S =>
    if (decide (S < 0)) then
    some false
    else
    if (S != H.1) then
    some false
    else
    some true
theorem b4p (G:Str) (E:y8) (r:Bool) (hf:a6h G E = some r):a0a Tryz.prog 9 .flat [(.str G),(l9 E)] (.bool r):=by
 refine a0a.of_awp' (md:=⟨true,true,true⟩) (fun _ => rfl) (fun _ => rfl) (fun h => by cases h) mixed Tryz.func9 fc9 nle ?_;rw [a0l];rw [o9 E];unfold a6h at hf;unfold c9;refine (show awp Tryz.prog ⟨true,true,true⟩ 0 _ (ofL [(0,(.str G)),(1,(.agg [(.I E.Kind),(.I E.N),(.str E.T),(.lst 1 (E.Keys.map AV.str)),(.lst 5 (E.Items.map l9))]))]) [] _ from ?_);refine sr<|y7 (a1i (j:=0) (c:=(.agg [(.I E.Kind),(.I E.N),(.str E.T),(.lst 1 (E.Keys.map AV.str)),(.lst 5 (E.Items.map l9))])) rfl tr rfl rfl)<|l7 (.bool false) rfl<|dk<|o6<|o6<|?_
 refine a0t<|l7 (.str G) rfl<|a1a (a9m rfl) fun hl3 => o7 (.bool (decide ((G.length:Int) > 1048576))) rfl (.of rfl tr) rfl<|dk<|?_
 rcases oi hf with ⟨c4,hf⟩ | ⟨c4,hf⟩
 ·refine x9 rfl c4<|sr<|l7 (.bool true) rfl<|dk<|a0d<|?_;obtain rfl:=os hf;exact a0f ⟨.of tr tr,tr⟩ rfl .r
 ·refine x8 rfl (bf c4)<|a0h<|a0j<|sr<|l7 (.I 1048576) rfl<|dk<|sr<|?_
  obtain ⟨Aa,er6,hf⟩:=ob hf
  refine o7 (.agg [(.I E.Kind),(.I E.N),(.str E.T),(.lst 1 (E.Keys.map AV.str)),(.lst 5 (E.Items.map l9))]) rfl (.of nle tr) rfl<|l7 (.I 1048576) rfl<|y7 (a0p (b9e FUEL _ _ _ er6) rfl (.cons (.of_eq (o9 E).symm) (.cons .r .nil)) rfl)<|l7 (.I Aa) rfl<|dk<|o6<|sr<|l7 (.I Aa) rfl<|o7 (.bool (decide (Aa < 0))) rfl (.of rfl tr) rfl<|dk<|?_
  rcases oi hf with ⟨c7,hf⟩ | ⟨c7,hf⟩
  ·refine x9 rfl c7<|sr<|l7 (.bool true) rfl<|dk<|a0d<|?_;obtain rfl:=os hf;exact a0f ⟨.of tr tr,tr⟩ rfl .r
  ·refine x8 rfl (bf c7)<|a0h<|a0j<|sr<|?_
   obtain ⟨M,er9,hf⟩:=ob hf
   obtain ⟨B,er11,hf⟩:=ob hf
   refine l7 (.str G) rfl<|o7 (.agg [(.I E.Kind),(.I E.N),(.str E.T),(.lst 1 (E.Keys.map AV.str)),(.lst 5 (E.Items.map l9))]) rfl (.of nle tr) rfl<|y7 (a5i (v:=(.agg [(.I M.Kind),(.I M.N),(.str M.T),(.own 1 0 M.Keys.length),(.own 2 0 M.Items.length)])) (h':=[.row 1 (M.Keys.map AV.str),.row 5 (M.Items.map l9)]) (b0i FUEL _ _ er9) rfl (.cons (.of_eq (o9 E).symm) .nil) (by simp only [a2r,a2z,List.length_map,o9,List.nil_append,List.append_nil,List.cons_append];rfl))<|y7 (a5i (v:=(.tup [(.agg [(.str B.1.Name),(.str B.1.Table),(.own 3 0 B.1.Columns.length),(.bool B.1.Initial),(.bool B.1.Insert),(.bool B.1.Delete),(.bool B.1.Modify),(.own 4 0 B.1.Where.length)]),(.I B.2)])) (h':=[.row 1 (B.1.Columns.map AV.str),.row 3 (B.1.Where.map o8)]) (c0f _ _ _ er11) rfl (.cons .r (.cons (leJ (x:=M) (.agg (.cons .r (.cons .r (.cons .r (.cons (.of_eq (congrArg (AV.lst _) (tko (enc:=AV.str) M.Keys))) (.cons (.of_eq (congrArg (AV.lst _) (tko (enc:=l9) M.Items))) .nil))))))) .nil)) (by simp only [a2r,a2z,List.length_map,a9n,List.nil_append,List.append_nil,List.cons_append];rfl))<|?_
   refine l7 (.tup [(.agg [(.str B.1.Name),(.str B.1.Table),(.own 3 0 B.1.Columns.length),(.bool B.1.Initial),(.bool B.1.Insert),(.bool B.1.Delete),(.bool B.1.Modify),(.own 4 0 B.1.Where.length)]),(.I B.2)]) rfl<|o7 (.agg [(.str B.1.Name),(.str B.1.Table),(.own 3 0 B.1.Columns.length),(.bool B.1.Initial),(.bool B.1.Insert),(.bool B.1.Delete),(.bool B.1.Modify),(.own 4 0 B.1.Where.length)]) rfl (.of nle tr) rfl<|o7 (.I B.2) rfl (.of nle tr) rfl<|y7 (a1i (j:=5) (c:=(.agg [(.str []),(.str []),.nil,(.bool false),(.bool false),(.bool false),(.bool false),.nil])) rfl tr rfl rfl)<|a1k (a0i (v:=(.agg [(.str B.1.Name),(.str B.1.Table),(.own 3 0 B.1.Columns.length),(.bool B.1.Initial),(.bool B.1.Insert),(.bool B.1.Delete),(.bool B.1.Modify),(.own 4 0 B.1.Where.length)])) (y':=(.agg [(.str B.1.Name),(.str B.1.Table),(.own 3 0 B.1.Columns.length),(.bool B.1.Initial),(.bool B.1.Insert),(.bool B.1.Delete),(.bool B.1.Modify),(.own 4 0 B.1.Where.length)])) rfl rfl rfl tr ⟨rfl,nle⟩ ⟨⟨rfl,tr⟩,⟨⟨rfl,tr⟩,⟨⟨rfl,tr⟩,⟨⟨rfl,tr⟩,⟨⟨rfl,tr⟩,⟨⟨rfl,tr⟩,⟨⟨rfl,tr⟩,⟨⟨rfl,tr⟩,tr⟩⟩⟩⟩⟩⟩⟩⟩ rfl)<|?_
   refine l7 (.I B.2) rfl<|dk<|sr<|?_
   obtain ⟨F,er13,hf⟩:=ob hf
   refine o7 (.agg [(.I E.Kind),(.I E.N),(.str E.T),(.lst 1 (E.Keys.map AV.str)),(.lst 5 (E.Items.map l9))]) rfl (.of nle tr) rfl<|y7 (a5i (v:=(.agg [(.I F.Kind),(.I F.N),(.str F.T),(.own 6 0 F.Keys.length),(.own 7 0 F.Items.length)])) (h':=[.row 1 (F.Keys.map AV.str),.row 5 (F.Items.map l9)]) (b0i FUEL _ _ er13) rfl (.cons (.of_eq (o9 E).symm) .nil) (by simp only [a2r,a2z,List.length_map,o9,List.nil_append,List.append_nil,List.cons_append];rfl))<|y7 (a1i (j:=8) (c:=(.agg [(.I 0),(.I 0),(.str []),.nil,.nil])) rfl tr rfl rfl)<|a1k (a0i (v:=(.agg [(.I F.Kind),(.I F.N),(.str F.T),(.own 6 0 F.Keys.length),(.own 7 0 F.Items.length)])) (y':=(.agg [(.I F.Kind),(.I F.N),(.str F.T),(.own 6 0 F.Keys.length),(.own 7 0 F.Items.length)])) rfl rfl rfl tr ⟨rfl,nle⟩ ⟨⟨rfl,tr⟩,⟨⟨rfl,tr⟩,⟨⟨rfl,tr⟩,⟨⟨rfl,tr⟩,⟨⟨rfl,tr⟩,tr⟩⟩⟩⟩⟩ rfl)<|?_
   refine dk<|sr<|?_
   obtain ⟨A,er15,hf⟩:=ob hf
   refine l7 (.str G) rfl<|o7 (.agg [(.I F.Kind),(.I F.N),(.str F.T),(.own 6 0 F.Keys.length),(.own 7 0 F.Items.length)]) rfl (.of nle tr) rfl<|y7 (a5i (v:=(.tup [(.agg [(.str A.1.Name),(.str A.1.Table),(.own 9 0 A.1.Columns.length),(.bool A.1.Initial),(.bool A.1.Insert),(.bool A.1.Delete),(.bool A.1.Modify),(.own 10 0 A.1.Where.length)]),(.I A.2)])) (h':=[.row 1 (A.1.Columns.map AV.str),.row 3 (A.1.Where.map o8)]) (b4l _ _ _ er15) rfl (.cons .r (.cons (leJ (x:=F) (.agg (.cons .r (.cons .r (.cons .r (.cons (.of_eq (congrArg (AV.lst _) (tko (enc:=AV.str) F.Keys))) (.cons (.of_eq (congrArg (AV.lst _) (tko (enc:=l9) F.Items))) .nil))))))) .nil)) (by simp only [a2r,a2z,List.length_map,a9n,List.nil_append,List.append_nil,List.cons_append];rfl))<|?_
   refine l7 (.tup [(.agg [(.str A.1.Name),(.str A.1.Table),(.own 9 0 A.1.Columns.length),(.bool A.1.Initial),(.bool A.1.Insert),(.bool A.1.Delete),(.bool A.1.Modify),(.own 10 0 A.1.Where.length)]),(.I A.2)]) rfl<|o7 (.agg [(.str A.1.Name),(.str A.1.Table),(.own 9 0 A.1.Columns.length),(.bool A.1.Initial),(.bool A.1.Insert),(.bool A.1.Delete),(.bool A.1.Modify),(.own 10 0 A.1.Where.length)]) rfl (.of nle tr) rfl<|o7 (.I A.2) rfl (.of nle tr) rfl<|y7 (a1i (j:=11) (c:=(.agg [(.str []),(.str []),.nil,(.bool false),(.bool false),(.bool false),(.bool false),.nil])) rfl tr rfl rfl)<|a1k (a0i (v:=(.agg [(.str A.1.Name),(.str A.1.Table),(.own 9 0 A.1.Columns.length),(.bool A.1.Initial),(.bool A.1.Insert),(.bool A.1.Delete),(.bool A.1.Modify),(.own 10 0 A.1.Where.length)])) (y':=(.agg [(.str A.1.Name),(.str A.1.Table),(.own 9 0 A.1.Columns.length),(.bool A.1.Initial),(.bool A.1.Insert),(.bool A.1.Delete),(.bool A.1.Modify),(.own 10 0 A.1.Where.length)])) rfl rfl rfl tr ⟨rfl,nle⟩ ⟨⟨rfl,tr⟩,⟨⟨rfl,tr⟩,⟨⟨rfl,tr⟩,⟨⟨rfl,tr⟩,⟨⟨rfl,tr⟩,⟨⟨rfl,tr⟩,⟨⟨rfl,tr⟩,⟨⟨rfl,tr⟩,tr⟩⟩⟩⟩⟩⟩⟩⟩ rfl)<|?_
   refine l7 (.I A.2) rfl<|dk<|o6<|o6<|?_
   obtain ⟨W,hb1,hf⟩:=ob hf
   refine a2d ([(0,(.str G)),(3,(.ptr 0 0 0)),(6,(.ptr 1 0 0)),(7,(.I B.2)),(8,(.ptr 2 0 0)),(9,(.ptr 3 0 0)),(10,(.I A.2)),(47,(.bool W))],[.box 5 (.agg [(.I E.Kind),(.I E.N),(.str E.T),(.lst 1 (E.Keys.map AV.str)),(.lst 5 (E.Items.map l9))]),.box 8 (.agg [(.str B.1.Name),(.str B.1.Table),(.own 4 0 B.1.Columns.length),(.bool B.1.Initial),(.bool B.1.Insert),(.bool B.1.Delete),(.bool B.1.Modify),(.own 5 0 B.1.Where.length)]),.box 5 (.agg [(.I F.Kind),(.I F.N),(.str F.T),(.own 6 0 F.Keys.length),(.own 7 0 F.Items.length)]),.box 8 (.agg [(.str A.1.Name),(.str A.1.Table),(.own 8 0 A.1.Columns.length),(.bool A.1.Initial),(.bool A.1.Insert),(.bool A.1.Delete),(.bool A.1.Modify),(.own 9 0 A.1.Where.length)]),.row 1 (B.1.Columns.map AV.str),.row 3 (B.1.Where.map o8),.row 1 (F.Keys.map AV.str),.row 5 (F.Items.map l9),.row 1 (A.1.Columns.map AV.str),.row 3 (A.1.Where.map o8)]) ?_ ?_
   ·refine a0t ?_
    obtain ⟨U,er22,hb1⟩:=ob hb1
    rcases oi hb1 with ⟨c23,hb1⟩ | ⟨c23,hb1⟩
    ·refine o7 (.agg [(.str A.1.Name),(.str A.1.Table),(.own 9 0 A.1.Columns.length),(.bool A.1.Initial),(.bool A.1.Insert),(.bool A.1.Delete),(.bool A.1.Modify),(.own 10 0 A.1.Where.length)]) rfl (.of nle tr) rfl<|o7 (.agg [(.str B.1.Name),(.str B.1.Table),(.own 3 0 B.1.Columns.length),(.bool B.1.Initial),(.bool B.1.Insert),(.bool B.1.Delete),(.bool B.1.Modify),(.own 4 0 B.1.Where.length)]) rfl (.of nle tr) rfl<|y7 (a0p (a8f _ _ _ er22) rfl (.cons (.agg (.cons .r (.cons .r (.cons (.of_eq (congrArg (AV.lst _) (tko (enc:=AV.str) A.1.Columns))) (.cons .r (.cons .r (.cons .r (.cons .r (.cons (.of_eq (congrArg (AV.lst _) (tko (enc:=o8) A.1.Where))) .nil))))))))) (.cons (.agg (.cons .r (.cons .r (.cons (.of_eq (congrArg (AV.lst _) (tko (enc:=AV.str) B.1.Columns))) (.cons .r (.cons .r (.cons .r (.cons .r (.cons (.of_eq (congrArg (AV.lst _) (tko (enc:=o8) B.1.Where))) .nil))))))))) .nil)) rfl)<|?_
     refine o7 (.bool (!U)) rfl (.of tr tr) rfl<|l7 (.bool (!U)) rfl<|a0x (s:=43) (b:=true) rfl c23<|y5 rfl rfl<|y5 rfl rfl<|y5 rfl rfl<|o7 (.bool true) rfl (.of tr tr) rfl<|a0e<|?_;obtain rfl:=os hb1;exact ⟨[],[0,5,8,11,3,4,6,7,9,10],_,_,rfl,rfl,⟨.r,⟨.r,⟨.r,⟨.r,⟨.r,⟨.r,⟨.r,⟨.r,tr⟩⟩⟩⟩⟩⟩⟩⟩,.r⟩
    ·refine o7 (.agg [(.str A.1.Name),(.str A.1.Table),(.own 9 0 A.1.Columns.length),(.bool A.1.Initial),(.bool A.1.Insert),(.bool A.1.Delete),(.bool A.1.Modify),(.own 10 0 A.1.Where.length)]) rfl (.of nle tr) rfl<|o7 (.agg [(.str B.1.Name),(.str B.1.Table),(.own 3 0 B.1.Columns.length),(.bool B.1.Initial),(.bool B.1.Insert),(.bool B.1.Delete),(.bool B.1.Modify),(.own 4 0 B.1.Where.length)]) rfl (.of nle tr) rfl<|y7 (a0p (a8f _ _ _ er22) rfl (.cons (.agg (.cons .r (.cons .r (.cons (.of_eq (congrArg (AV.lst _) (tko (enc:=AV.str) A.1.Columns))) (.cons .r (.cons .r (.cons .r (.cons .r (.cons (.of_eq (congrArg (AV.lst _) (tko (enc:=o8) A.1.Where))) .nil))))))))) (.cons (.agg (.cons .r (.cons .r (.cons (.of_eq (congrArg (AV.lst _) (tko (enc:=AV.str) B.1.Columns))) (.cons .r (.cons .r (.cons .r (.cons .r (.cons (.of_eq (congrArg (AV.lst _) (tko (enc:=o8) B.1.Where))) .nil))))))))) .nil)) rfl)<|?_
     refine o7 (.bool (!U)) rfl (.of tr tr) rfl<|l7 (.bool (!U)) rfl<|a0x (s:=43) (b:=false) rfl (bf c23)<|s_on rfl<|l7 (.I A.2) rfl<|s_on rfl<|l7 (.I B.2) rfl<|s_on rfl<|o7 (.bool (A.2 != B.2)) rfl (.of rfl tr) rfl<|o7 (.bool (A.2 != B.2)) rfl (.of tr tr) rfl<|a0e<|?_;obtain rfl:=os hb1;exact ⟨[],[0,5,8,11,3,4,6,7,9,10],_,_,rfl,rfl,⟨.r,⟨.r,⟨.r,⟨.r,⟨.r,⟨.r,⟨.r,⟨.r,tr⟩⟩⟩⟩⟩⟩⟩⟩,.r⟩
   ·rcases oi hf with ⟨c24,hf⟩ | ⟨c24,hf⟩
    ·refine x9 rfl c24<|sr<|l7 (.bool false) rfl<|dk<|a0d<|?_;obtain rfl:=os hf;exact a0f ⟨.of tr tr,tr⟩ rfl .r
    ·refine x8 rfl (bf c24)<|a0h<|a0j<|o6<|sr<|?_
     obtain ⟨J,er26,hf⟩:=ob hf
     obtain ⟨Ab,er28,hf⟩:=ob hf
     refine o7 (.agg [(.I F.Kind),(.I F.N),(.str F.T),(.own 6 0 F.Keys.length),(.own 7 0 F.Items.length)]) rfl (.of nle tr) rfl<|o7 (.agg [(.I E.Kind),(.I E.N),(.str E.T),(.lst 1 (E.Keys.map AV.str)),(.lst 5 (E.Items.map l9))]) rfl (.of nle tr) rfl<|a2e (a5i (v:=(.agg [(.I J.Kind),(.I J.N),(.str J.T),(.own 10 0 J.Keys.length),(.own 11 0 J.Items.length)])) (h':=[.row 1 (J.Keys.map AV.str),.row 5 (J.Items.map l9)]) (b0i FUEL _ _ er26) rfl (.cons (.of_eq (o9 E).symm) .nil) (by simp only [a2r,a2z,List.length_map,o9,List.nil_append,List.append_nil,List.cons_append];rfl)) (.inr ⟨⟨(.of nle tr),rfl⟩,tr⟩) tr<|?_
     refine a2e (a0p (b9f FUEL _ _ _ er28) rfl (.cons (leJ (x:=F) (.agg (.cons .r (.cons .r (.cons .r (.cons (.of_eq (congrArg (AV.lst _) (tko (enc:=AV.str) F.Keys))) (.cons (.of_eq (congrArg (AV.lst _) (tko (enc:=l9) F.Items))) .nil))))))) (.cons (leJ (x:=J) (.agg (.cons .r (.cons .r (.cons .r (.cons (.of_eq (congrArg (AV.lst _) (tko (enc:=AV.str) J.Keys))) (.cons (.of_eq (congrArg (AV.lst _) (tko (enc:=l9) J.Items))) .nil))))))) .nil)) rfl) a2j tr<|o7 (.bool (!Ab)) rfl (.of tr tr) rfl<|dk<|?_
     rcases oi hf with ⟨c29,hf⟩ | ⟨c29,hf⟩
     ·refine x9 rfl c29<|sr<|l7 (.bool false) rfl<|dk<|a0d<|?_;obtain rfl:=os hf;exact a0f ⟨.of tr tr,tr⟩ rfl .r
     ·refine x8 rfl (bf c29)<|a0h<|a0j<|sr<|l7 (.I 1) rfl<|dk<|sr<|?_
      obtain ⟨L,er31,hf⟩:=ob hf
      refine o7 (.agg [(.I F.Kind),(.I F.N),(.str F.T),(.own 6 0 F.Keys.length),(.own 7 0 F.Items.length)]) rfl (.of nle tr) rfl<|l7 (.I 1) rfl<|?_;refine a1a (b4f (v:=(.I L.1)) (h2:=[.box 5 (.agg [(.I E.Kind),(.I E.N),(.str E.T),(.lst 1 (E.Keys.map AV.str)),(.lst 5 (E.Items.map l9))]),.box 8 (.agg [(.str B.1.Name),(.str B.1.Table),(.own 4 0 B.1.Columns.length),(.bool B.1.Initial),(.bool B.1.Insert),(.bool B.1.Delete),(.bool B.1.Modify),(.own 5 0 B.1.Where.length)]),.box 5 (.agg [(.I F.Kind),(.I F.N),(.str F.T),(.own 6 0 F.Keys.length),(.own 7 0 F.Items.length)]),.box 8 (.agg [(.str A.1.Name),(.str A.1.Table),(.own 8 0 A.1.Columns.length),(.bool A.1.Initial),(.bool A.1.Insert),(.bool A.1.Delete),(.bool A.1.Modify),(.own 9 0 A.1.Where.length)]),.row 1 (B.1.Columns.map AV.str),.row 3 (B.1.Where.map o8),.row 1 (L.2.Keys.map AV.str),.row 5 (L.2.Items.map l9),.row 1 (A.1.Columns.map AV.str),.row 3 (A.1.Where.map o8),.row 1 (J.Keys.map AV.str),.row 5 (J.Items.map l9)]) [] [6,7] (fun _ => rfl) (c5h _ _ _ er31) rfl .r .r rfl rfl) fun hl32 => ?_
      refine l7 (.I L.1) rfl<|dk<|o6<|o6<|?_
      obtain ⟨Y,hb1,hf⟩:=ob hf
      refine a2d ([(0,(.str G)),(3,(.ptr 0 0 0)),(6,(.ptr 1 0 0)),(7,(.I B.2)),(9,(.ptr 2 0 0)),(68,(.bool Y))],[.box 5 (.agg [(.I E.Kind),(.I E.N),(.str E.T),(.lst 1 (E.Keys.map AV.str)),(.lst 5 (E.Items.map l9))]),.box 8 (.agg [(.str B.1.Name),(.str B.1.Table),(.own 3 0 B.1.Columns.length),(.bool B.1.Initial),(.bool B.1.Insert),(.bool B.1.Delete),(.bool B.1.Modify),(.own 4 0 B.1.Where.length)]),.box 8 (.agg [(.str A.1.Name),(.str A.1.Table),(.own 5 0 A.1.Columns.length),(.bool A.1.Initial),(.bool A.1.Insert),(.bool A.1.Delete),(.bool A.1.Modify),(.own 6 0 A.1.Where.length)]),.row 1 (B.1.Columns.map AV.str),.row 3 (B.1.Where.map o8),.row 1 (A.1.Columns.map AV.str),.row 3 (A.1.Where.map o8)]) ?_ ?_
      ·refine a0t<|l7 (.I L.1) rfl<|o7 (.bool (decide (L.1 < 0))) rfl (.of rfl tr) rfl<|l7 (.bool (decide (L.1 < 0))) rfl<|?_
       rcases oi hb1 with ⟨c38,hb1⟩ | ⟨c38,hb1⟩
       ·refine a0x (s:=58) (b:=true) rfl c38<|y5 rfl rfl<|y5 rfl rfl<|y5 rfl rfl<|y5 rfl rfl<|o7 (.bool true) rfl (.of tr tr) rfl<|l7 (.bool true) rfl<|y5 rfl rfl<|y5 rfl rfl<|y5 rfl rfl<|o7 (.bool true) rfl (.of tr tr) rfl<|a0e<|?_;obtain rfl:=os hb1;exact ⟨[],[0,1,3,4,5,8,9],_,_,rfl,rfl,⟨.r,⟨.r,⟨.r,⟨.r,⟨.r,⟨.r,tr⟩⟩⟩⟩⟩⟩,.r⟩
       ·refine a0x (s:=58) (b:=false) rfl (bf c38)<|s_on rfl<|o7 (.agg [(.str A.1.Name),(.str A.1.Table),(.own 8 0 A.1.Columns.length),(.bool A.1.Initial),(.bool A.1.Insert),(.bool A.1.Delete),(.bool A.1.Modify),(.own 9 0 A.1.Where.length)]) rfl (.of nle tr) rfl<|s_on rfl<|o7 (.agg [(.str B.1.Name),(.str B.1.Table),(.own 4 0 B.1.Columns.length),(.bool B.1.Initial),(.bool B.1.Insert),(.bool B.1.Delete),(.bool B.1.Modify),(.own 5 0 B.1.Where.length)]) rfl (.of nle tr) rfl<|s_on rfl<|?_
        obtain ⟨O,er40,hb1⟩:=ob hb1
        refine y7 (a0p (a8f _ _ _ er40) rfl (.cons (.agg (.cons .r (.cons .r (.cons (.of_eq (congrArg (AV.lst _) (tko (enc:=AV.str) A.1.Columns))) (.cons .r (.cons .r (.cons .r (.cons .r (.cons (.of_eq (congrArg (AV.lst _) (tko (enc:=o8) A.1.Where))) .nil))))))))) (.cons (.agg (.cons .r (.cons .r (.cons (.of_eq (congrArg (AV.lst _) (tko (enc:=AV.str) B.1.Columns))) (.cons .r (.cons .r (.cons .r (.cons .r (.cons (.of_eq (congrArg (AV.lst _) (tko (enc:=o8) B.1.Where))) .nil))))))))) .nil)) rfl)<|s_on rfl<|o7 (.bool (!O)) rfl (.of tr tr) rfl<|o7 (.bool (!O)) rfl (.of tr tr) rfl<|?_
        refine l7 (.bool (!O)) rfl ?_;refine s_g (v:=(!O)) (.I A.2) rfl (fun hv => by (try simp only [a0c hv]);exact ⟨rfl,.of tr tr,rfl⟩) ?_;refine s_g (v:=(!O)) (.I B.2) rfl (fun hv => by (try simp only [a0c hv]);exact ⟨rfl,.of tr tr,rfl⟩) ?_;refine s_g (v:=(!O)) (.bool (A.2 != B.2)) rfl (fun hv => by (try simp only [a0c hv]);exact ⟨rfl,(.of rfl tr),rfl⟩) ?_;refine a3a (x:=true) (y:=(A.2 != B.2)) rfl (fun hv => by (try simp only [a0c hv]);rfl) (fun hv => by (try simp only [a0c hv]);rfl) ?_;refine a0e ?_;obtain rfl:=os hb1;exact ⟨[],[0,1,3,4,5,8,9],_,_,rfl,rfl,⟨.r,⟨.r,⟨.r,⟨.r,⟨.r,⟨.r,tr⟩⟩⟩⟩⟩⟩,.r⟩
      ·rcases oi hf with ⟨c41,hf⟩ | ⟨c41,hf⟩
       ·refine x9 rfl c41<|sr<|l7 (.bool false) rfl<|dk<|a0d<|?_;obtain rfl:=os hf;exact a0f ⟨.of tr tr,tr⟩ rfl .r
       ·refine x8 rfl (bf c41)<|a0h<|a0j<|sr<|l7 (.I 1) rfl<|dk<|sr<|?_
        obtain ⟨H,er43,hf⟩:=ob hf
        refine o7 (.agg [(.str A.1.Name),(.str A.1.Table),(.own 5 0 A.1.Columns.length),(.bool A.1.Initial),(.bool A.1.Insert),(.bool A.1.Delete),(.bool A.1.Modify),(.own 6 0 A.1.Where.length)]) rfl (.of nle tr) rfl<|l7 (.I 1) rfl<|?_;refine a1a (b4f (v:=(.I H.1)) (h2:=[.box 5 (.agg [(.I E.Kind),(.I E.N),(.str E.T),(.lst 1 (E.Keys.map AV.str)),(.lst 5 (E.Items.map l9))]),.box 8 (.agg [(.str B.1.Name),(.str B.1.Table),(.own 3 0 B.1.Columns.length),(.bool B.1.Initial),(.bool B.1.Insert),(.bool B.1.Delete),(.bool B.1.Modify),(.own 4 0 B.1.Where.length)]),.box 8 (.agg [(.str A.1.Name),(.str A.1.Table),(.own 5 0 A.1.Columns.length),(.bool A.1.Initial),(.bool A.1.Insert),(.bool A.1.Delete),(.bool A.1.Modify),(.own 6 0 A.1.Where.length)]),.row 1 (B.1.Columns.map AV.str),.row 3 (B.1.Where.map o8),.row 1 (H.2.Columns.map AV.str),.row 3 (H.2.Where.map o8)]) [] [5,6] (fun _ => rfl) (c0k _ _ _ er43) rfl .r .r rfl rfl) fun hl44 => ?_
        refine l7 (.I H.1) rfl<|dk<|sr<|l7 (.I 1) rfl<|dk<|sr<|?_
        obtain ⟨P,er46,hf⟩:=ob hf
        refine o7 (.agg [(.str A.1.Name),(.str A.1.Table),(.own 5 0 A.1.Columns.length),(.bool A.1.Initial),(.bool A.1.Insert),(.bool A.1.Delete),(.bool A.1.Modify),(.own 6 0 A.1.Where.length)]) rfl (.of nle tr) rfl<|l7 (.I 1) rfl<|y7 (a0p (b4m _ _ _ er46) rfl (.cons (.agg (.cons .r (.cons .r (.cons (.of_eq (congrArg (AV.lst _) (e5u (hl44 0 _ _ _ _ rfl rfl)))) (.cons .r (.cons .r (.cons .r (.cons .r (.cons (.of_eq (congrArg (AV.lst _) (e5u (hl44 1 _ _ _ _ rfl rfl)))) .nil))))))))) (.cons .r .nil)) rfl)<|l7 (.I P) rfl<|dk<|o6<|sr<|l7 (.I P) rfl<|?_
        refine o7 (.bool (decide (P < 0))) rfl (.of rfl tr) rfl<|dk<|?_
        rcases oi hf with ⟨c47,hf⟩ | ⟨c47,hf⟩
        ·refine x9 rfl c47<|sr<|l7 (.bool false) rfl<|dk<|a0d<|?_;obtain rfl:=os hf;exact a0f ⟨.of tr tr,tr⟩ rfl .r
        ·refine x8 rfl (bf c47)<|a0h<|a0j<|o6<|sr<|l7 (.I P) rfl<|l7 (.I H.1) rfl<|o7 (.bool (P != H.1)) rfl (.of rfl tr) rfl<|dk<|?_
         rcases oi hf with ⟨c48,hf⟩ | ⟨c48,hf⟩
         ·refine x9 rfl c48<|sr<|l7 (.bool false) rfl<|dk<|a0d<|?_;obtain rfl:=os hf;exact a0f ⟨.of tr tr,tr⟩ rfl .r
         ·refine x8 rfl (bf c48)<|a0h<|a0j<|sr<|?_
          obtain ⟨K,er50,hf⟩:=ob hf
          obtain ⟨D,er52,hf⟩:=ob hf
          refine l7 (.str G) rfl<|o7 (.agg [(.I E.Kind),(.I E.N),(.str E.T),(.lst 1 (E.Keys.map AV.str)),(.lst 5 (E.Items.map l9))]) rfl (.of nle tr) rfl<|y7 (a5i (v:=(.agg [(.I K.Kind),(.I K.N),(.str K.T),(.own 7 0 K.Keys.length),(.own 8 0 K.Items.length)])) (h':=[.row 1 (K.Keys.map AV.str),.row 5 (K.Items.map l9)]) (b0i FUEL _ _ er50) rfl (.cons (.of_eq (o9 E).symm) .nil) (by simp only [a2r,a2z,List.length_map,o9,List.nil_append,List.append_nil,List.cons_append];rfl))<|y7 (a5i (v:=(.tup [(.agg [(.str D.1.Name),(.str D.1.Table),(.own 9 0 D.1.Columns.length),(.bool D.1.Initial),(.bool D.1.Insert),(.bool D.1.Delete),(.bool D.1.Modify),(.own 10 0 D.1.Where.length)]),(.I D.2)])) (h':=[.row 1 (D.1.Columns.map AV.str),.row 3 (D.1.Where.map o8)]) (b4l _ _ _ er52) rfl (.cons .r (.cons (leJ (x:=K) (.agg (.cons .r (.cons .r (.cons .r (.cons (.of_eq (congrArg (AV.lst _) (tko (enc:=AV.str) K.Keys))) (.cons (.of_eq (congrArg (AV.lst _) (tko (enc:=l9) K.Items))) .nil))))))) .nil)) (by simp only [a2r,a2z,List.length_map,a9n,List.nil_append,List.append_nil,List.cons_append];rfl))<|?_
          refine l7 (.tup [(.agg [(.str D.1.Name),(.str D.1.Table),(.own 9 0 D.1.Columns.length),(.bool D.1.Initial),(.bool D.1.Insert),(.bool D.1.Delete),(.bool D.1.Modify),(.own 10 0 D.1.Where.length)]),(.I D.2)]) rfl<|o7 (.agg [(.str D.1.Name),(.str D.1.Table),(.own 9 0 D.1.Columns.length),(.bool D.1.Initial),(.bool D.1.Insert),(.bool D.1.Delete),(.bool D.1.Modify),(.own 10 0 D.1.Where.length)]) rfl (.of nle tr) rfl<|o7 (.I D.2) rfl (.of nle tr) rfl<|y7 (a1i (j:=11) (c:=(.agg [(.str []),(.str []),.nil,(.bool false),(.bool false),(.bool false),(.bool false),.nil])) rfl tr rfl rfl)<|a1k (a0i (v:=(.agg [(.str D.1.Name),(.str D.1.Table),(.own 9 0 D.1.Columns.length),(.bool D.1.Initial),(.bool D.1.Insert),(.bool D.1.Delete),(.bool D.1.Modify),(.own 10 0 D.1.Where.length)])) (y':=(.agg [(.str D.1.Name),(.str D.1.Table),(.own 9 0 D.1.Columns.length),(.bool D.1.Initial),(.bool D.1.Insert),(.bool D.1.Delete),(.bool D.1.Modify),(.own 10 0 D.1.Where.length)])) rfl rfl rfl tr ⟨rfl,nle⟩ ⟨⟨rfl,tr⟩,⟨⟨rfl,tr⟩,⟨⟨rfl,tr⟩,⟨⟨rfl,tr⟩,⟨⟨rfl,tr⟩,⟨⟨rfl,tr⟩,⟨⟨rfl,tr⟩,⟨⟨rfl,tr⟩,tr⟩⟩⟩⟩⟩⟩⟩⟩ rfl)<|?_
          refine l7 (.I D.2) rfl<|dk<|o6<|o6<|?_
          obtain ⟨Z,hb1,hf⟩:=ob hf
          refine a2d ([(9,(.ptr 0 0 0)),(12,(.I H.1)),(95,(.bool Z))],[.box 8 (.agg [(.str A.1.Name),(.str A.1.Table),(.own 1 0 H.2.Columns.length),(.bool A.1.Initial),(.bool A.1.Insert),(.bool A.1.Delete),(.bool A.1.Modify),(.own 2 0 H.2.Where.length)]),.row 1 (H.2.Columns.map AV.str),.row 3 (H.2.Where.map o8)]) ?_ ?_
          ·refine a0t ?_
           obtain ⟨V,er59,hb1⟩:=ob hb1
           rcases oi hb1 with ⟨c60,hb1⟩ | ⟨c60,hb1⟩
           ·refine o7 (.agg [(.str D.1.Name),(.str D.1.Table),(.own 9 0 D.1.Columns.length),(.bool D.1.Initial),(.bool D.1.Insert),(.bool D.1.Delete),(.bool D.1.Modify),(.own 10 0 D.1.Where.length)]) rfl (.of nle tr) rfl<|o7 (.agg [(.str B.1.Name),(.str B.1.Table),(.own 3 0 B.1.Columns.length),(.bool B.1.Initial),(.bool B.1.Insert),(.bool B.1.Delete),(.bool B.1.Modify),(.own 4 0 B.1.Where.length)]) rfl (.of nle tr) rfl<|y7 (a0p (a8f _ _ _ er59) rfl (.cons (.agg (.cons .r (.cons .r (.cons (.of_eq (congrArg (AV.lst _) (tko (enc:=AV.str) D.1.Columns))) (.cons .r (.cons .r (.cons .r (.cons .r (.cons (.of_eq (congrArg (AV.lst _) (tko (enc:=o8) D.1.Where))) .nil))))))))) (.cons (.agg (.cons .r (.cons .r (.cons (.of_eq (congrArg (AV.lst _) (tko (enc:=AV.str) B.1.Columns))) (.cons .r (.cons .r (.cons .r (.cons .r (.cons (.of_eq (congrArg (AV.lst _) (tko (enc:=o8) B.1.Where))) .nil))))))))) .nil)) rfl)<|?_
            refine o7 (.bool (!V)) rfl (.of tr tr) rfl<|l7 (.bool (!V)) rfl<|a0x (s:=91) (b:=true) rfl c60<|y5 rfl rfl<|y5 rfl rfl<|y5 rfl rfl<|o7 (.bool true) rfl (.of tr tr) rfl<|a0e<|?_;obtain rfl:=os hb1;exact ⟨[],[2,5,6],_,_,rfl,rfl,⟨.r,⟨.r,⟨.r,tr⟩⟩⟩,(.cons (.box (.agg (.cons .r (.cons .r (.cons (.of_eq (congrArg (AV.own _ 0) (by have h:=(hl44 0 _ _ _ _ rfl rfl);simpa using h.symm))) (.cons .r (.cons .r (.cons .r (.cons .r (.cons (.of_eq (congrArg (AV.own _ 0) (by have h:=(hl44 1 _ _ _ _ rfl rfl);simpa using h.symm))) .nil)))))))))) (.cons .r (.cons .r .nil)))⟩
           ·refine o7 (.agg [(.str D.1.Name),(.str D.1.Table),(.own 9 0 D.1.Columns.length),(.bool D.1.Initial),(.bool D.1.Insert),(.bool D.1.Delete),(.bool D.1.Modify),(.own 10 0 D.1.Where.length)]) rfl (.of nle tr) rfl<|o7 (.agg [(.str B.1.Name),(.str B.1.Table),(.own 3 0 B.1.Columns.length),(.bool B.1.Initial),(.bool B.1.Insert),(.bool B.1.Delete),(.bool B.1.Modify),(.own 4 0 B.1.Where.length)]) rfl (.of nle tr) rfl<|y7 (a0p (a8f _ _ _ er59) rfl (.cons (.agg (.cons .r (.cons .r (.cons (.of_eq (congrArg (AV.lst _) (tko (enc:=AV.str) D.1.Columns))) (.cons .r (.cons .r (.cons .r (.cons .r (.cons (.of_eq (congrArg (AV.lst _) (tko (enc:=o8) D.1.Where))) .nil))))))))) (.cons (.agg (.cons .r (.cons .r (.cons (.of_eq (congrArg (AV.lst _) (tko (enc:=AV.str) B.1.Columns))) (.cons .r (.cons .r (.cons .r (.cons .r (.cons (.of_eq (congrArg (AV.lst _) (tko (enc:=o8) B.1.Where))) .nil))))))))) .nil)) rfl)<|?_
            refine o7 (.bool (!V)) rfl (.of tr tr) rfl<|l7 (.bool (!V)) rfl<|a0x (s:=91) (b:=false) rfl (bf c60)<|s_on rfl<|l7 (.I D.2) rfl<|s_on rfl<|l7 (.I B.2) rfl<|s_on rfl<|o7 (.bool (D.2 != B.2)) rfl (.of rfl tr) rfl<|o7 (.bool (D.2 != B.2)) rfl (.of tr tr) rfl<|a0e<|?_;obtain rfl:=os hb1;exact ⟨[],[2,5,6],_,_,rfl,rfl,⟨.r,⟨.r,⟨.r,tr⟩⟩⟩,(.cons (.box (.agg (.cons .r (.cons .r (.cons (.of_eq (congrArg (AV.own _ 0) (by have h:=(hl44 0 _ _ _ _ rfl rfl);simpa using h.symm))) (.cons .r (.cons .r (.cons .r (.cons .r (.cons (.of_eq (congrArg (AV.own _ 0) (by have h:=(hl44 1 _ _ _ _ rfl rfl);simpa using h.symm))) .nil)))))))))) (.cons .r (.cons .r .nil)))⟩
          ·rcases oi hf with ⟨c61,hf⟩ | ⟨c61,hf⟩
           ·refine x9 rfl c61<|sr<|l7 (.bool false) rfl<|dk<|a0d<|?_;obtain rfl:=os hf;exact a0f ⟨.of tr tr,tr⟩ rfl .r
           ·refine x8 rfl (bf c61)<|a0h<|a0j<|sr<|l7 (.I 1) rfl<|dk<|sr<|?_
            obtain ⟨S,er63,hf⟩:=ob hf
            refine o7 (.agg [(.str A.1.Name),(.str A.1.Table),(.own 1 0 H.2.Columns.length),(.bool A.1.Initial),(.bool A.1.Insert),(.bool A.1.Delete),(.bool A.1.Modify),(.own 2 0 H.2.Where.length)]) rfl (.of nle tr) rfl<|l7 (.I 1) rfl<|y7 (a0p (b4m _ _ _ er63) rfl (.cons (.agg (.cons .r (.cons .r (.cons (.of_eq (congrArg (AV.lst _) (tko (enc:=AV.str) H.2.Columns))) (.cons .r (.cons .r (.cons .r (.cons .r (.cons (.of_eq (congrArg (AV.lst _) (tko (enc:=o8) H.2.Where))) .nil))))))))) (.cons .r .nil)) rfl)<|l7 (.I S) rfl<|dk<|o6<|sr<|?_
            refine l7 (.I S) rfl<|o7 (.bool (decide (S < 0))) rfl (.of rfl tr) rfl<|dk<|?_
            rcases oi hf with ⟨c64,hf⟩ | ⟨c64,hf⟩
            ·refine x9 rfl c64<|sr<|l7 (.bool false) rfl<|dk<|a0d<|?_;obtain rfl:=os hf;exact a0f ⟨.of tr tr,tr⟩ rfl .r
            ·refine x8 rfl (bf c64)<|a0h<|a0j<|o6<|sr<|l7 (.I S) rfl<|l7 (.I H.1) rfl<|o7 (.bool (S != H.1)) rfl (.of rfl tr) rfl<|dk<|?_
             rcases oi hf with ⟨c65,hf⟩ | ⟨c65,hf⟩
             ·refine x9 rfl c65<|sr<|l7 (.bool false) rfl<|dk<|a0d<|?_;obtain rfl:=os hf;exact a0f ⟨.of tr tr,tr⟩ rfl .r
             ·refine x8 rfl (bf c65)<|a0h<|a0j<|sr<|l7 (.bool true) rfl<|dk<|a0d<|?_;obtain rfl:=os hf;exact a0f ⟨.of tr tr,tr⟩ rfl .r
end Go.R
