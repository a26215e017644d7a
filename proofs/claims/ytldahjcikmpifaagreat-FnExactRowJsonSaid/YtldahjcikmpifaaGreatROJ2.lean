/- Walks. -/
import Derived.Test.YtldahjcikmpifaaGreatROJ1
set_option linter.all false
namespace Go.R
open Go Go.Proofs
set_option linter.unusedVariables false
set_option linter.unusedSimpArgs false
set_option maxHeartbeats 8000000
/- spec.l13Row -/
def c94:a0m :=
 (.seq (.reg (tq 3 (.box 2 (.t 1)) (tq 4 (.box 5 (.c (.agg [(.int .i64 0),(.int .i64 0),(.str []),.nil,.nil]))) .done)))
 (.seq (.reg (tq 7 (.bslice 5 []) (tm 5 (.t 7) .done)))
 (.seq (.seq (.reg (tm 6 (.c (.int .i64 0)) .done))
 (.block 0 (.loop (.seq (.seq (.reg (tm 8 (.t 6) (tm 9 (.t 0) (tq 10 (.len (.t 9)) (tq 11 (.bin .lss (.t 8) (.t 10)) .done)))))
 (.cond (.t 11) .skip
 (.exit 0)))
 (.seq (.block 1 (.reg (tm 14 (.t 5) (tq 15 (.faddr 1 (.t 3)) (tq 16 (.load 1 false (.t 15)) (tm 17 (.t 6) (tq 18 (.iaddr 1 (.t 16) (.t 17)) (tq 19 (.load 1 false (.t 18)) (tq 20 (.call 132 [(.t 19)]) (tq 21 (.bslice 5 [(.t 20)]) (tq 22 (.append 5 80 (.t 14) (.t 21)) (tm 5 (.t 22) .done))))))))))))
 (.reg (tm 12 (.t 6) (tq 13 (.bin .add (.t 12) (.c (.int .i64 1))) (tm 6 (.t 13) .done)))))))))
 (.cut (.seq (.reg (tm 23 (.t 0) (tm 24 (.t 5) (tq 25 (.call 192 [(.t 23),(.t 24)]) (.q ⟨none,none,.store 5 (.t 4) (.t 25)⟩
 .done)))))
 .ret)))))
theorem e6c:a1a Tryz.prog Tryz.f94 = some (c94.erase,[.load 5 true (.t 4)],26):=by kernel_rfl
def a4q (r_2:a3r):List Str → Nat → (List o8) → Option (List o8)
  | [],i_19,items_20 =>
    some items_20
  | x_37 :: xs,i_19,items_20 =>
    (idx r_2.Cells (i_19:Int)).bind fun x_40 =>
    (a7h x_40).bind fun r_42 =>
    if (items_20 ++ [r_42]).length ≤ 2 ^ 30 then
    a4q r_2 xs (i_19 + 1) (items_20 ++ [r_42])
    else none

def a9p (columns_1:(List Str)) (r_2:a3r):Option o8 :=
    (a4q r_2 columns_1 0 []).bind fun items_29 =>
    (b4b columns_1 items_29).bind fun r_45 =>
    some r_45
theorem c6g (columns_1:(List Str)) (r_2:a3r) (r:o8) (hf:a9p columns_1 r_2 = some r):x9 Tryz.prog 94 .weak [(.lst 1 (columns_1.map AV.str)),(a3t r_2)] (o5 r):=by
 refine x9.of_awp mixed Tryz.func94 e6c nle ?_;rw [a0j];unfold a9p at hf;unfold c94;refine (show awp Tryz.prog false 0 _ (ofL [(0,(.lst 1 (columns_1.map AV.str))),(1,(a3t r_2))]) [] _ from ?_);refine sr<|y5 (a1i (j:=0) (c:=(.agg [(.int .i64 r_2.Id),(.lst 1 (r_2.Cells.map (a0t 3 l9)))])) rfl trivial rfl rfl)<|y5 (a1i (j:=1) (c:=(.agg [(.int .i64 0),(.int .i64 0),(.str []),.nil,.nil])) rfl trivial rfl rfl)<|dk<|sr<|?_;refine y5 (a1f (j:=2) (as':=[]) rfl (fun _ => by decide) trivial (.refl _) rfl rfl rfl) ?_;refine l7 (.own 2 0 0) rfl<|dk<|o6<|sr<|l7 (.int .i64 0) rfl<|a0b<|?_
 refine a0f ?_
 obtain ⟨items_29,hb1,hf⟩:=ob hf
 refine a2a ([(0,(.lst 1 (columns_1.map AV.str))),(4,(.ptr 0 0 0)),(5,(.own 1 0 items_29.length))],[.box 5 (.agg [(.int .i64 0),(.int .i64 0),(.str []),.nil,.nil]),.row 5 (items_29.map o5)]) ?_ ?_
 ·refine a1g (X:={q:(Nat × (List o8)) // a4q r_2 (columns_1.drop q.1) q.1 q.2 = some items_29}) (fun q => ([(0,(.lst 1 (columns_1.map AV.str))),(3,(.ptr 0 0 0)),(4,(.ptr 1 0 0)),(5,(.own 2 0 q.1.2.length)),(6,(.int .i64 (q.1.1:Int)))],[.box 2 (.agg [(.int .i64 r_2.Id),(.lst 1 (r_2.Cells.map (a0t 3 l9)))]),.box 5 (.agg [(.int .i64 0),(.int .i64 0),(.str []),.nil,.nil]),.row 5 (q.1.2.map o5)])) (fun q => columns_1.length - q.1.1) ⟨(0,[]),hb1⟩ ⟨[],[0,1,2],_,_,rfl,rfl,⟨.refl _,⟨.refl _,⟨.refl _,⟨.of_eq (congrArg (AV.own _ 0) (by simp)),⟨.refl _,trivial⟩⟩⟩⟩⟩,(.refl _)⟩ ?_
  rintro ⟨⟨i_19,items_20⟩,hc1⟩
  have hc1:a4q r_2 (columns_1.drop i_19) i_19 items_20 = some items_29:=hc1
  refine (show awp Tryz.prog false 0 _ (ofL [(0,(.lst 1 (columns_1.map AV.str))),(3,(.ptr 0 0 0)),(4,(.ptr 1 0 0)),(5,(.own 2 0 items_20.length)),(6,(.int .i64 (i_19:Int)))]) [.box 2 (.agg [(.int .i64 r_2.Id),(.lst 1 (r_2.Cells.map (a0t 3 l9)))]),.box 5 (.agg [(.int .i64 0),(.int .i64 0),(.str []),.nil,.nil]),.row 5 (items_20.map o5)] _ from ?_)
  rcases a5z columns_1 i_19 with ⟨hie33,hd36⟩ | ⟨hlt31,x_37,hx32,hd36⟩
  ·rw [hd36,a4q.eq_1] at hc1
   have hq35:=dlf hie33
   refine o6<|sr<|l7 (.int .i64 (i_19:Int)) rfl<|l7 (.lst 1 (columns_1.map AV.str)) rfl<|a0w (a1r (enc:=AV.str) rfl) fun hl38 => x8 (.bool (decide ((i_19:Int) < (columns_1.length:Int)))) rfl rfl rfl<|dk<|y8 rfl hq35<|a2t<|a2s<|a1y<|a2r<|?_;obtain rfl:=os hc1;exact ⟨[],[1,2],_,_,rfl,rfl,⟨.refl _,⟨.refl _,⟨.refl _,trivial⟩⟩⟩,(.refl _)⟩
  ·rw [hd36,a4q.eq_2] at hc1
   have hq35:=dlt hlt31
   refine o6<|sr<|l7 (.int .i64 (i_19:Int)) rfl<|l7 (.lst 1 (columns_1.map AV.str)) rfl<|a0w (a1r (enc:=AV.str) rfl) fun hl39 => x8 (.bool (decide ((i_19:Int) < (columns_1.length:Int)))) rfl rfl rfl<|dk<|y7 rfl hq35<|a0h<|a0f<|o6<|a3g<|a0s<|?_
   obtain ⟨x_40,ex41,hc1⟩:=ob hc1
   obtain ⟨r_42,er43,hc1⟩:=ob hc1
   obtain ⟨g44,hc1⟩:=og hc1
   refine l7 (.own 2 0 items_20.length) rfl<|x8 (.ptr 0 0 1) rfl trivial rfl<|x8 (.lst 1 (r_2.Cells.map (a0t 3 l9))) rfl nle rfl<|l7 (.int .i64 (i_19:Int)) rfl<|y5 (a6n (enc:=(a0t 3 l9)) rfl rfl (b3h ex41) (b3i ex41))<|x8 (.lst 3 (x_40.map l9)) rfl ⟨rfl,rfl⟩ rfl<|y5 (d9k (v:=(.agg [(.int .i64 r_42.Kind),(.int .i64 r_42.N),(.str r_42.T),(.lst 1 (r_42.Keys.map AV.str)),(.lst 5 (r_42.Items.map o5))])) rfl (c2o _ _ er43) rfl (.refl _) (by simp only [y9]))<|?_;refine y5 (a1f (j:=3) (as':=[(o5 r_42)]) rfl (fun _ => by decide) ⟨rfl,trivial⟩ (.cons (.of_eq (y9 r_42).symm) .nil) rfl rfl rfl) ?_
   refine y5 (a3j (j:=4) (L:=((items_20 ++ [r_42]).map o5)) (len:=(items_20 ++ [r_42]).length) rfl rfl (c4n (enc:=o5) items_20 [r_42] _ (by rfl)) (by simp <;> omega) g44 rfl rfl) ?_
   refine l7 (.own 4 0 ((items_20 ++ [r_42]).length)) rfl<|a0b<|a3f<|a0f<|a0s<|l7 (.int .i64 (i_19:Int)) rfl<|x8 (.int .i64 (w64 ((i_19:Int) + 1))) rfl rfl rfl<|l7 (.int .i64 (w64 ((i_19:Int) + 1))) rfl<|a0b<|?_;exact a1q ⟨((i_19 + 1),items_20 ++ [r_42]),hc1⟩ (mul hlt31) ⟨[],[0,1,4],_,_,rfl,rfl,⟨.refl _,⟨.refl _,⟨.refl _,⟨.refl _,⟨.of_eq (congrArg (AV.int _) (a1w hlt31 hl39)),trivial⟩⟩⟩⟩⟩,(.refl _)⟩
 ·refine sr<|?_
  obtain ⟨r_45,er46,hf⟩:=ob hf
  refine l7 (.lst 1 (columns_1.map AV.str)) rfl<|l7 (.own 1 0 items_29.length) rfl<|y5 (d3s (v:=(.agg [(.int .i64 r_45.Kind),(.int .i64 r_45.N),(.str r_45.T),(.lst 1 (r_45.Keys.map AV.str)),(.lst 5 (r_45.Items.map o5))])) rfl (d1g _ _ _ er46) rfl (.cons (.refl _) (.cons (.of_eq (congrArg (AV.lst _) (tko items_29))) .nil)) (by simp only [y9]) rfl)<|a2i (a0c (v:=(.agg [(.int .i64 r_45.Kind),(.int .i64 r_45.N),(.str r_45.T),(.lst 1 (r_45.Keys.map AV.str)),(.lst 5 (r_45.Items.map o5))])) (y':=(.agg [(.int .i64 r_45.Kind),(.int .i64 r_45.N),(.str r_45.T),(.lst 1 (r_45.Keys.map AV.str)),(.lst 5 (r_45.Items.map o5))])) rfl rfl rfl trivial ⟨rfl,nle⟩ ⟨⟨rfl,trivial⟩,⟨⟨rfl,trivial⟩,⟨⟨rfl,trivial⟩,⟨⟨rfl,trivial⟩,⟨⟨rfl,trivial⟩,trivial⟩⟩⟩⟩⟩ rfl)<|?_
  refine dk<|a0d<|?_;obtain rfl:=os hf;exact d7c ⟨nle,trivial⟩ rfl (.of_eq (y9 r_45).symm)

/- spec.l01Own -/
def c93:a0m :=
 (.seq (.reg (tq 1 (.box 5 (.t 0)) (tq 2 (.box 5 (.c (.agg [(.int .i64 0),(.int .i64 0),(.str []),.nil,.nil]))) .done)))
 (.seq (.reg (tq 5 (.faddr 0 (.t 1)) (tq 6 (.load 1 false (.t 5)) (tq 7 (.faddr 1 (.t 1)) (tq 8 (.load 1 false (.t 7)) (tq 9 (.faddr 2 (.t 1)) (tq 10 (.load 1 false (.t 9)) (tq 12 (.faddr 3 (.t 1)) (tq 13 (.load 1 false (.t 12)) (.l ⟨(some 11),none,.bslice 1 []⟩ [⟨(some 13),none,.load 1 false (.t 12)⟩,⟨(some 12),none,.faddr 3 (.t 1)⟩,⟨(some 10),none,.load 1 false (.t 9)⟩,⟨(some 9),none,.faddr 2 (.t 1)⟩,⟨(some 8),none,.load 1 false (.t 7)⟩,⟨(some 7),none,.faddr 1 (.t 1)⟩,⟨(some 6),none,.load 1 false (.t 5)⟩,⟨(some 5),none,.faddr 0 (.t 1)⟩]
 (.l ⟨(some 14),none,.append 1 16 (.t 11) (.t 13)⟩ [⟨(some 10),none,.load 1 false (.t 9)⟩,⟨(some 9),none,.faddr 2 (.t 1)⟩,⟨(some 8),none,.load 1 false (.t 7)⟩,⟨(some 7),none,.faddr 1 (.t 1)⟩,⟨(some 6),none,.load 1 false (.t 5)⟩,⟨(some 5),none,.faddr 0 (.t 1)⟩]
 (.l ⟨(some 15),none,.bslice 5 []⟩ [⟨(some 13),none,.load 1 false (.t 12)⟩,⟨(some 12),none,.faddr 3 (.t 1)⟩,⟨(some 10),none,.load 1 false (.t 9)⟩,⟨(some 9),none,.faddr 2 (.t 1)⟩,⟨(some 8),none,.load 1 false (.t 7)⟩,⟨(some 7),none,.faddr 1 (.t 1)⟩,⟨(some 6),none,.load 1 false (.t 5)⟩,⟨(some 5),none,.faddr 0 (.t 1)⟩]
 (tq 16 (.build [(.int .i64 0),(.int .i64 0),(.str []),.nil,.nil] [(0,1,(.t 6)),(1,1,(.t 8)),(2,1,(.t 10)),(3,1,(.t 14)),(4,1,(.t 15))]) (.l ⟨(some 3),none,.box 5 (.c (.agg [(.int .i64 0),(.int .i64 0),(.str []),.nil,.nil]))⟩ [⟨(some 16),none,.build [(.int .i64 0),(.int .i64 0),(.str []),.nil,.nil] [(0,1,(.t 6)),(1,1,(.t 8)),(2,1,(.t 10)),(3,1,(.t 14)),(4,1,(.t 15))]⟩,⟨(some 13),none,.load 1 false (.t 12)⟩,⟨(some 12),none,.faddr 3 (.t 1)⟩,⟨(some 10),none,.load 1 false (.t 9)⟩,⟨(some 9),none,.faddr 2 (.t 1)⟩,⟨(some 8),none,.load 1 false (.t 7)⟩,⟨(some 7),none,.faddr 1 (.t 1)⟩,⟨(some 6),none,.load 1 false (.t 5)⟩,⟨(some 5),none,.faddr 0 (.t 1)⟩]
 (.l ⟨none,none,.store 5 (.t 3) (.t 16)⟩ []
 .done .non) .non)) (.l ⟨(some 3),none,.box 5 (.c (.agg [(.int .i64 0),(.int .i64 0),(.str []),.nil,.nil]))⟩ [⟨(some 13),none,.load 1 false (.t 12)⟩,⟨(some 12),none,.faddr 3 (.t 1)⟩,⟨(some 10),none,.load 1 false (.t 9)⟩,⟨(some 9),none,.faddr 2 (.t 1)⟩,⟨(some 8),none,.load 1 false (.t 7)⟩,⟨(some 7),none,.faddr 1 (.t 1)⟩,⟨(some 6),none,.load 1 false (.t 5)⟩,⟨(some 5),none,.faddr 0 (.t 1)⟩]
 (.l ⟨(some 15),none,.bslice 5 []⟩ [⟨(some 13),none,.load 1 false (.t 12)⟩,⟨(some 12),none,.faddr 3 (.t 1)⟩,⟨(some 10),none,.load 1 false (.t 9)⟩,⟨(some 9),none,.faddr 2 (.t 1)⟩,⟨(some 8),none,.load 1 false (.t 7)⟩,⟨(some 7),none,.faddr 1 (.t 1)⟩,⟨(some 6),none,.load 1 false (.t 5)⟩,⟨(some 5),none,.faddr 0 (.t 1)⟩]
 (tq 16 (.build [(.int .i64 0),(.int .i64 0),(.str []),.nil,.nil] [(0,1,(.t 6)),(1,1,(.t 8)),(2,1,(.t 10)),(3,1,(.t 14)),(4,1,(.t 15))]) (.l ⟨none,none,.store 5 (.t 3) (.t 16)⟩ []
 .done .non)) .non) .non)) (.l ⟨(some 15),none,.bslice 5 []⟩ [⟨(some 13),none,.load 1 false (.t 12)⟩,⟨(some 12),none,.faddr 3 (.t 1)⟩,⟨(some 10),none,.load 1 false (.t 9)⟩,⟨(some 9),none,.faddr 2 (.t 1)⟩,⟨(some 8),none,.load 1 false (.t 7)⟩,⟨(some 7),none,.faddr 1 (.t 1)⟩,⟨(some 6),none,.load 1 false (.t 5)⟩,⟨(some 5),none,.faddr 0 (.t 1)⟩]
 (.l ⟨(some 14),none,.append 1 16 (.t 11) (.t 13)⟩ [⟨(some 10),none,.load 1 false (.t 9)⟩,⟨(some 9),none,.faddr 2 (.t 1)⟩,⟨(some 8),none,.load 1 false (.t 7)⟩,⟨(some 7),none,.faddr 1 (.t 1)⟩,⟨(some 6),none,.load 1 false (.t 5)⟩,⟨(some 5),none,.faddr 0 (.t 1)⟩]
 (tq 16 (.build [(.int .i64 0),(.int .i64 0),(.str []),.nil,.nil] [(0,1,(.t 6)),(1,1,(.t 8)),(2,1,(.t 10)),(3,1,(.t 14)),(4,1,(.t 15))]) (.l ⟨(some 3),none,.box 5 (.c (.agg [(.int .i64 0),(.int .i64 0),(.str []),.nil,.nil]))⟩ [⟨(some 16),none,.build [(.int .i64 0),(.int .i64 0),(.str []),.nil,.nil] [(0,1,(.t 6)),(1,1,(.t 8)),(2,1,(.t 10)),(3,1,(.t 14)),(4,1,(.t 15))]⟩,⟨(some 13),none,.load 1 false (.t 12)⟩,⟨(some 12),none,.faddr 3 (.t 1)⟩,⟨(some 10),none,.load 1 false (.t 9)⟩,⟨(some 9),none,.faddr 2 (.t 1)⟩,⟨(some 8),none,.load 1 false (.t 7)⟩,⟨(some 7),none,.faddr 1 (.t 1)⟩,⟨(some 6),none,.load 1 false (.t 5)⟩,⟨(some 5),none,.faddr 0 (.t 1)⟩]
 (.l ⟨none,none,.store 5 (.t 3) (.t 16)⟩ []
 .done .non) .non)) (.l ⟨(some 3),none,.box 5 (.c (.agg [(.int .i64 0),(.int .i64 0),(.str []),.nil,.nil]))⟩ [⟨(some 13),none,.load 1 false (.t 12)⟩,⟨(some 12),none,.faddr 3 (.t 1)⟩,⟨(some 10),none,.load 1 false (.t 9)⟩,⟨(some 9),none,.faddr 2 (.t 1)⟩,⟨(some 8),none,.load 1 false (.t 7)⟩,⟨(some 7),none,.faddr 1 (.t 1)⟩,⟨(some 6),none,.load 1 false (.t 5)⟩,⟨(some 5),none,.faddr 0 (.t 1)⟩]
 (.l ⟨(some 14),none,.append 1 16 (.t 11) (.t 13)⟩ [⟨(some 10),none,.load 1 false (.t 9)⟩,⟨(some 9),none,.faddr 2 (.t 1)⟩,⟨(some 8),none,.load 1 false (.t 7)⟩,⟨(some 7),none,.faddr 1 (.t 1)⟩,⟨(some 6),none,.load 1 false (.t 5)⟩,⟨(some 5),none,.faddr 0 (.t 1)⟩]
 (tq 16 (.build [(.int .i64 0),(.int .i64 0),(.str []),.nil,.nil] [(0,1,(.t 6)),(1,1,(.t 8)),(2,1,(.t 10)),(3,1,(.t 14)),(4,1,(.t 15))]) (.l ⟨none,none,.store 5 (.t 3) (.t 16)⟩ []
 .done .non)) .non) .non)) (.l ⟨(some 3),none,.box 5 (.c (.agg [(.int .i64 0),(.int .i64 0),(.str []),.nil,.nil]))⟩ [⟨(some 13),none,.load 1 false (.t 12)⟩,⟨(some 12),none,.faddr 3 (.t 1)⟩,⟨(some 10),none,.load 1 false (.t 9)⟩,⟨(some 9),none,.faddr 2 (.t 1)⟩,⟨(some 8),none,.load 1 false (.t 7)⟩,⟨(some 7),none,.faddr 1 (.t 1)⟩,⟨(some 6),none,.load 1 false (.t 5)⟩,⟨(some 5),none,.faddr 0 (.t 1)⟩]
 (.l ⟨(some 14),none,.append 1 16 (.t 11) (.t 13)⟩ [⟨(some 10),none,.load 1 false (.t 9)⟩,⟨(some 9),none,.faddr 2 (.t 1)⟩,⟨(some 8),none,.load 1 false (.t 7)⟩,⟨(some 7),none,.faddr 1 (.t 1)⟩,⟨(some 6),none,.load 1 false (.t 5)⟩,⟨(some 5),none,.faddr 0 (.t 1)⟩]
 (.l ⟨(some 15),none,.bslice 5 []⟩ [⟨(some 13),none,.load 1 false (.t 12)⟩,⟨(some 12),none,.faddr 3 (.t 1)⟩,⟨(some 10),none,.load 1 false (.t 9)⟩,⟨(some 9),none,.faddr 2 (.t 1)⟩,⟨(some 8),none,.load 1 false (.t 7)⟩,⟨(some 7),none,.faddr 1 (.t 1)⟩,⟨(some 6),none,.load 1 false (.t 5)⟩,⟨(some 5),none,.faddr 0 (.t 1)⟩]
 (tq 16 (.build [(.int .i64 0),(.int .i64 0),(.str []),.nil,.nil] [(0,1,(.t 6)),(1,1,(.t 8)),(2,1,(.t 10)),(3,1,(.t 14)),(4,1,(.t 15))]) (.l ⟨none,none,.store 5 (.t 3) (.t 16)⟩ []
 .done .non)) .non) (.l ⟨(some 15),none,.bslice 5 []⟩ [⟨(some 13),none,.load 1 false (.t 12)⟩,⟨(some 12),none,.faddr 3 (.t 1)⟩,⟨(some 10),none,.load 1 false (.t 9)⟩,⟨(some 9),none,.faddr 2 (.t 1)⟩,⟨(some 8),none,.load 1 false (.t 7)⟩,⟨(some 7),none,.faddr 1 (.t 1)⟩,⟨(some 6),none,.load 1 false (.t 5)⟩,⟨(some 5),none,.faddr 0 (.t 1)⟩]
 (.l ⟨(some 14),none,.append 1 16 (.t 11) (.t 13)⟩ [⟨(some 10),none,.load 1 false (.t 9)⟩,⟨(some 9),none,.faddr 2 (.t 1)⟩,⟨(some 8),none,.load 1 false (.t 7)⟩,⟨(some 7),none,.faddr 1 (.t 1)⟩,⟨(some 6),none,.load 1 false (.t 5)⟩,⟨(some 5),none,.faddr 0 (.t 1)⟩]
 (tq 16 (.build [(.int .i64 0),(.int .i64 0),(.str []),.nil,.nil] [(0,1,(.t 6)),(1,1,(.t 8)),(2,1,(.t 10)),(3,1,(.t 14)),(4,1,(.t 15))]) (.l ⟨none,none,.store 5 (.t 3) (.t 16)⟩ []
 .done .non)) .non) .non)) .non))) (.l ⟨(some 15),none,.bslice 5 []⟩ [⟨(some 13),none,.load 1 false (.t 12)⟩,⟨(some 12),none,.faddr 3 (.t 1)⟩,⟨(some 10),none,.load 1 false (.t 9)⟩,⟨(some 9),none,.faddr 2 (.t 1)⟩,⟨(some 8),none,.load 1 false (.t 7)⟩,⟨(some 7),none,.faddr 1 (.t 1)⟩,⟨(some 6),none,.load 1 false (.t 5)⟩,⟨(some 5),none,.faddr 0 (.t 1)⟩]
 (.l ⟨(some 11),none,.bslice 1 []⟩ [⟨(some 13),none,.load 1 false (.t 12)⟩,⟨(some 12),none,.faddr 3 (.t 1)⟩,⟨(some 10),none,.load 1 false (.t 9)⟩,⟨(some 9),none,.faddr 2 (.t 1)⟩,⟨(some 8),none,.load 1 false (.t 7)⟩,⟨(some 7),none,.faddr 1 (.t 1)⟩,⟨(some 6),none,.load 1 false (.t 5)⟩,⟨(some 5),none,.faddr 0 (.t 1)⟩]
 (.l ⟨(some 14),none,.append 1 16 (.t 11) (.t 13)⟩ [⟨(some 10),none,.load 1 false (.t 9)⟩,⟨(some 9),none,.faddr 2 (.t 1)⟩,⟨(some 8),none,.load 1 false (.t 7)⟩,⟨(some 7),none,.faddr 1 (.t 1)⟩,⟨(some 6),none,.load 1 false (.t 5)⟩,⟨(some 5),none,.faddr 0 (.t 1)⟩]
 (tq 16 (.build [(.int .i64 0),(.int .i64 0),(.str []),.nil,.nil] [(0,1,(.t 6)),(1,1,(.t 8)),(2,1,(.t 10)),(3,1,(.t 14)),(4,1,(.t 15))]) (.l ⟨(some 3),none,.box 5 (.c (.agg [(.int .i64 0),(.int .i64 0),(.str []),.nil,.nil]))⟩ [⟨(some 16),none,.build [(.int .i64 0),(.int .i64 0),(.str []),.nil,.nil] [(0,1,(.t 6)),(1,1,(.t 8)),(2,1,(.t 10)),(3,1,(.t 14)),(4,1,(.t 15))]⟩,⟨(some 13),none,.load 1 false (.t 12)⟩,⟨(some 12),none,.faddr 3 (.t 1)⟩,⟨(some 10),none,.load 1 false (.t 9)⟩,⟨(some 9),none,.faddr 2 (.t 1)⟩,⟨(some 8),none,.load 1 false (.t 7)⟩,⟨(some 7),none,.faddr 1 (.t 1)⟩,⟨(some 6),none,.load 1 false (.t 5)⟩,⟨(some 5),none,.faddr 0 (.t 1)⟩]
 (.l ⟨none,none,.store 5 (.t 3) (.t 16)⟩ []
 .done .non) .non)) (.l ⟨(some 3),none,.box 5 (.c (.agg [(.int .i64 0),(.int .i64 0),(.str []),.nil,.nil]))⟩ [⟨(some 13),none,.load 1 false (.t 12)⟩,⟨(some 12),none,.faddr 3 (.t 1)⟩,⟨(some 10),none,.load 1 false (.t 9)⟩,⟨(some 9),none,.faddr 2 (.t 1)⟩,⟨(some 8),none,.load 1 false (.t 7)⟩,⟨(some 7),none,.faddr 1 (.t 1)⟩,⟨(some 6),none,.load 1 false (.t 5)⟩,⟨(some 5),none,.faddr 0 (.t 1)⟩]
 (.l ⟨(some 14),none,.append 1 16 (.t 11) (.t 13)⟩ [⟨(some 10),none,.load 1 false (.t 9)⟩,⟨(some 9),none,.faddr 2 (.t 1)⟩,⟨(some 8),none,.load 1 false (.t 7)⟩,⟨(some 7),none,.faddr 1 (.t 1)⟩,⟨(some 6),none,.load 1 false (.t 5)⟩,⟨(some 5),none,.faddr 0 (.t 1)⟩]
 (tq 16 (.build [(.int .i64 0),(.int .i64 0),(.str []),.nil,.nil] [(0,1,(.t 6)),(1,1,(.t 8)),(2,1,(.t 10)),(3,1,(.t 14)),(4,1,(.t 15))]) (.l ⟨none,none,.store 5 (.t 3) (.t 16)⟩ []
 .done .non)) .non) .non)) (.l ⟨(some 3),none,.box 5 (.c (.agg [(.int .i64 0),(.int .i64 0),(.str []),.nil,.nil]))⟩ [⟨(some 13),none,.load 1 false (.t 12)⟩,⟨(some 12),none,.faddr 3 (.t 1)⟩,⟨(some 10),none,.load 1 false (.t 9)⟩,⟨(some 9),none,.faddr 2 (.t 1)⟩,⟨(some 8),none,.load 1 false (.t 7)⟩,⟨(some 7),none,.faddr 1 (.t 1)⟩,⟨(some 6),none,.load 1 false (.t 5)⟩,⟨(some 5),none,.faddr 0 (.t 1)⟩]
 (.l ⟨(some 11),none,.bslice 1 []⟩ [⟨(some 13),none,.load 1 false (.t 12)⟩,⟨(some 12),none,.faddr 3 (.t 1)⟩,⟨(some 10),none,.load 1 false (.t 9)⟩,⟨(some 9),none,.faddr 2 (.t 1)⟩,⟨(some 8),none,.load 1 false (.t 7)⟩,⟨(some 7),none,.faddr 1 (.t 1)⟩,⟨(some 6),none,.load 1 false (.t 5)⟩,⟨(some 5),none,.faddr 0 (.t 1)⟩]
 (.l ⟨(some 14),none,.append 1 16 (.t 11) (.t 13)⟩ [⟨(some 10),none,.load 1 false (.t 9)⟩,⟨(some 9),none,.faddr 2 (.t 1)⟩,⟨(some 8),none,.load 1 false (.t 7)⟩,⟨(some 7),none,.faddr 1 (.t 1)⟩,⟨(some 6),none,.load 1 false (.t 5)⟩,⟨(some 5),none,.faddr 0 (.t 1)⟩]
 (tq 16 (.build [(.int .i64 0),(.int .i64 0),(.str []),.nil,.nil] [(0,1,(.t 6)),(1,1,(.t 8)),(2,1,(.t 10)),(3,1,(.t 14)),(4,1,(.t 15))]) (.l ⟨none,none,.store 5 (.t 3) (.t 16)⟩ []
 .done .non)) .non) .non) .non)) (.l ⟨(some 3),none,.box 5 (.c (.agg [(.int .i64 0),(.int .i64 0),(.str []),.nil,.nil]))⟩ [⟨(some 13),none,.load 1 false (.t 12)⟩,⟨(some 12),none,.faddr 3 (.t 1)⟩,⟨(some 10),none,.load 1 false (.t 9)⟩,⟨(some 9),none,.faddr 2 (.t 1)⟩,⟨(some 8),none,.load 1 false (.t 7)⟩,⟨(some 7),none,.faddr 1 (.t 1)⟩,⟨(some 6),none,.load 1 false (.t 5)⟩,⟨(some 5),none,.faddr 0 (.t 1)⟩]
 (.l ⟨(some 11),none,.bslice 1 []⟩ [⟨(some 13),none,.load 1 false (.t 12)⟩,⟨(some 12),none,.faddr 3 (.t 1)⟩,⟨(some 10),none,.load 1 false (.t 9)⟩,⟨(some 9),none,.faddr 2 (.t 1)⟩,⟨(some 8),none,.load 1 false (.t 7)⟩,⟨(some 7),none,.faddr 1 (.t 1)⟩,⟨(some 6),none,.load 1 false (.t 5)⟩,⟨(some 5),none,.faddr 0 (.t 1)⟩]
 (.l ⟨(some 14),none,.append 1 16 (.t 11) (.t 13)⟩ [⟨(some 10),none,.load 1 false (.t 9)⟩,⟨(some 9),none,.faddr 2 (.t 1)⟩,⟨(some 8),none,.load 1 false (.t 7)⟩,⟨(some 7),none,.faddr 1 (.t 1)⟩,⟨(some 6),none,.load 1 false (.t 5)⟩,⟨(some 5),none,.faddr 0 (.t 1)⟩]
 (.l ⟨(some 15),none,.bslice 5 []⟩ [⟨(some 13),none,.load 1 false (.t 12)⟩,⟨(some 12),none,.faddr 3 (.t 1)⟩,⟨(some 10),none,.load 1 false (.t 9)⟩,⟨(some 9),none,.faddr 2 (.t 1)⟩,⟨(some 8),none,.load 1 false (.t 7)⟩,⟨(some 7),none,.faddr 1 (.t 1)⟩,⟨(some 6),none,.load 1 false (.t 5)⟩,⟨(some 5),none,.faddr 0 (.t 1)⟩]
 (tq 16 (.build [(.int .i64 0),(.int .i64 0),(.str []),.nil,.nil] [(0,1,(.t 6)),(1,1,(.t 8)),(2,1,(.t 10)),(3,1,(.t 14)),(4,1,(.t 15))]) (.l ⟨none,none,.store 5 (.t 3) (.t 16)⟩ []
 .done .non)) .non) (.l ⟨(some 15),none,.bslice 5 []⟩ [⟨(some 13),none,.load 1 false (.t 12)⟩,⟨(some 12),none,.faddr 3 (.t 1)⟩,⟨(some 10),none,.load 1 false (.t 9)⟩,⟨(some 9),none,.faddr 2 (.t 1)⟩,⟨(some 8),none,.load 1 false (.t 7)⟩,⟨(some 7),none,.faddr 1 (.t 1)⟩,⟨(some 6),none,.load 1 false (.t 5)⟩,⟨(some 5),none,.faddr 0 (.t 1)⟩]
 (.l ⟨(some 14),none,.append 1 16 (.t 11) (.t 13)⟩ [⟨(some 10),none,.load 1 false (.t 9)⟩,⟨(some 9),none,.faddr 2 (.t 1)⟩,⟨(some 8),none,.load 1 false (.t 7)⟩,⟨(some 7),none,.faddr 1 (.t 1)⟩,⟨(some 6),none,.load 1 false (.t 5)⟩,⟨(some 5),none,.faddr 0 (.t 1)⟩]
 (tq 16 (.build [(.int .i64 0),(.int .i64 0),(.str []),.nil,.nil] [(0,1,(.t 6)),(1,1,(.t 8)),(2,1,(.t 10)),(3,1,(.t 14)),(4,1,(.t 15))]) (.l ⟨none,none,.store 5 (.t 3) (.t 16)⟩ []
 .done .non)) .non) .non)) (.l ⟨(some 15),none,.bslice 5 []⟩ [⟨(some 13),none,.load 1 false (.t 12)⟩,⟨(some 12),none,.faddr 3 (.t 1)⟩,⟨(some 10),none,.load 1 false (.t 9)⟩,⟨(some 9),none,.faddr 2 (.t 1)⟩,⟨(some 8),none,.load 1 false (.t 7)⟩,⟨(some 7),none,.faddr 1 (.t 1)⟩,⟨(some 6),none,.load 1 false (.t 5)⟩,⟨(some 5),none,.faddr 0 (.t 1)⟩]
 (.l ⟨(some 11),none,.bslice 1 []⟩ [⟨(some 13),none,.load 1 false (.t 12)⟩,⟨(some 12),none,.faddr 3 (.t 1)⟩,⟨(some 10),none,.load 1 false (.t 9)⟩,⟨(some 9),none,.faddr 2 (.t 1)⟩,⟨(some 8),none,.load 1 false (.t 7)⟩,⟨(some 7),none,.faddr 1 (.t 1)⟩,⟨(some 6),none,.load 1 false (.t 5)⟩,⟨(some 5),none,.faddr 0 (.t 1)⟩]
 (.l ⟨(some 14),none,.append 1 16 (.t 11) (.t 13)⟩ [⟨(some 10),none,.load 1 false (.t 9)⟩,⟨(some 9),none,.faddr 2 (.t 1)⟩,⟨(some 8),none,.load 1 false (.t 7)⟩,⟨(some 7),none,.faddr 1 (.t 1)⟩,⟨(some 6),none,.load 1 false (.t 5)⟩,⟨(some 5),none,.faddr 0 (.t 1)⟩]
 (tq 16 (.build [(.int .i64 0),(.int .i64 0),(.str []),.nil,.nil] [(0,1,(.t 6)),(1,1,(.t 8)),(2,1,(.t 10)),(3,1,(.t 14)),(4,1,(.t 15))]) (.l ⟨none,none,.store 5 (.t 3) (.t 16)⟩ []
 .done .non)) .non) .non) .non)) .non))))))))))))
 (.cut (.seq (.seq (.reg (tm 4 (.c (.int .i64 0)) .done))
 (.block 0 (.loop (.seq (.seq (.reg (tm 17 (.t 4) (tq 18 (.faddr 4 (.t 1)) (tq 19 (.load 1 false (.t 18)) (tq 20 (.len (.t 19)) (tq 21 (.bin .lss (.t 17) (.t 20)) .done))))))
 (.cond (.t 21) .skip
 (.exit 0)))
 (.seq (.block 1 (.reg (tq 24 (.faddr 4 (.t 3)) (tq 25 (.load 1 false (.t 24)) (tq 26 (.faddr 4 (.t 1)) (tq 27 (.load 1 false (.t 26)) (tm 28 (.t 4) (tq 29 (.iaddr 5 (.t 27) (.t 28)) (tq 30 (.load 5 true (.t 29)) (.l ⟨(some 31),none,.call 93 [(.t 30)]⟩ [⟨(some 25),none,.load 1 false (.t 24)⟩,⟨(some 24),none,.faddr 4 (.t 3)⟩]
 (.l ⟨(some 32),none,.bslice 5 [(.t 31)]⟩ [⟨(some 25),none,.load 1 false (.t 24)⟩,⟨(some 24),none,.faddr 4 (.t 3)⟩]
 (.l ⟨(some 33),none,.append 5 80 (.t 25) (.t 32)⟩ []
 (tq 34 (.faddr 4 (.t 3)) (.l ⟨none,none,.store 1 (.t 34) (.t 33)⟩ []
 .done .non)) .non) .non) .non))))))))))
 (.reg (tm 22 (.t 4) (tq 23 (.bin .add (.t 22) (.c (.int .i64 1))) (tm 4 (.t 23) .done)))))))))
 (.cut (.seq (.reg (tq 35 (.load 5 true (.t 3)) (.q ⟨none,none,.store 5 (.t 2) (.t 35)⟩
 .done)))
 .ret))))))
theorem e6d:a1a Tryz.prog Tryz.f93 = some (c93.erase,[.load 5 true (.t 2)],36):=by kernel_rfl
def a3n (rec:(o8 → Option o8)):List o8 → (List o8) → Option (List o8)
  | [],x_22 =>
    some x_22
  | x_39 :: xs,x_22 =>
    (rec x_39).bind fun r_42 =>
    if (x_22 ++ [r_42]).length ≤ 2 ^ 30 then
    a3n rec xs  (x_22 ++ [r_42])
    else none

def b1g (rec:(o8 → Option o8)) (j_1:o8):Option o8 :=
    ((if ([] ++ j_1.Keys).length ≤ 2 ^ 30 then
    some ()
    else none:Option Unit)).bind fun _ =>
    (a3n rec j_1.Items []).bind fun x_31 =>
    some (⟨j_1.Kind,j_1.N,j_1.T,[] ++ j_1.Keys,x_31⟩:o8)
theorem c2p (rec:(o8 → Option o8)) (hrec:∀ a0 r,rec a0 = some r → x9 Tryz.prog 93 .fresh [(o5 a0)] (o5 r)) (j_1:o8) (r:o8) (hf:b1g rec j_1 = some r):x9 Tryz.prog 93 .fresh [(o5 j_1)] (o5 r):=by
 refine x9.of_awp mixed Tryz.func93 e6d nle ?_;rw [a0j];rw [y9 j_1];unfold b1g at hf;unfold c93;refine (show awp Tryz.prog true 0 _ (ofL [(0,(.agg [(.int .i64 j_1.Kind),(.int .i64 j_1.N),(.str j_1.T),(.lst 1 (j_1.Keys.map AV.str)),(.lst 5 (j_1.Items.map o5))]))]) [] _ from ?_);refine sr<|y5 (a1i (j:=0) (c:=(.agg [(.int .i64 j_1.Kind),(.int .i64 j_1.N),(.str j_1.T),(.lst 1 (j_1.Keys.map AV.str)),(.lst 5 (j_1.Items.map o5))])) rfl trivial rfl rfl)<|y5 (a1i (j:=1) (c:=(.agg [(.int .i64 0),(.int .i64 0),(.str []),.nil,.nil])) rfl trivial rfl rfl)<|dk<|o6<|?_
 obtain ⟨p3,hb1,hf⟩:=ob hf
 refine a2a ([(1,(.ptr 0 0 0)),(2,(.ptr 1 0 0)),(3,(.ptr 2 0 0))],[.box 5 (.agg [(.int .i64 j_1.Kind),(.int .i64 j_1.N),(.str j_1.T),(.lst 1 (j_1.Keys.map AV.str)),(.lst 5 (j_1.Items.map o5))]),.box 5 (.agg [(.int .i64 0),(.int .i64 0),(.str []),.nil,.nil]),.box 5 (.agg [(.int .i64 j_1.Kind),(.int .i64 j_1.N),(.str j_1.T),(.own 3 0 (([] ++ j_1.Keys).length)),(.own 4 0 0)]),.row 1 (([] ++ j_1.Keys).map AV.str),.row 5 ([].map o5)]) ?_ ?_
 ·refine a0s ?_
  obtain ⟨g4,hb1⟩:=og hb1
  refine x8 (.ptr 0 0 0) rfl trivial rfl<|x8 (.int .i64 j_1.Kind) rfl nle rfl<|x8 (.ptr 0 0 1) rfl trivial rfl<|x8 (.int .i64 j_1.N) rfl nle rfl<|x8 (.ptr 0 0 2) rfl trivial rfl<|x8 (.str j_1.T) rfl nle rfl<|x8 (.ptr 0 0 3) rfl trivial rfl<|x8 (.lst 1 (j_1.Keys.map AV.str)) rfl nle rfl<|?_;refine a0r (a1f (j:=2) (as':=[]) rfl (fun _ => by decide) trivial (.refl _) rfl rfl rfl) (.inr ⟨⟨nle,rfl⟩,⟨⟨trivial,rfl⟩,⟨⟨nle,rfl⟩,⟨⟨trivial,rfl⟩,⟨⟨nle,rfl⟩,⟨⟨trivial,rfl⟩,⟨⟨nle,rfl⟩,⟨⟨trivial,rfl⟩,trivial⟩⟩⟩⟩⟩⟩⟩⟩) ?_ ?_
  ·refine a0r (a1f (j:=2) (as':=[]) rfl (fun _ => by decide) trivial (.refl _) rfl rfl rfl) (.inr ⟨⟨nle,rfl⟩,⟨⟨trivial,rfl⟩,⟨⟨nle,rfl⟩,⟨⟨trivial,rfl⟩,⟨⟨nle,rfl⟩,⟨⟨trivial,rfl⟩,⟨⟨nle,rfl⟩,⟨⟨trivial,rfl⟩,trivial⟩⟩⟩⟩⟩⟩⟩⟩) ?_ ?_
   ·refine a0r (a1i (j:=2) (c:=(.agg [(.int .i64 0),(.int .i64 0),(.str []),.nil,.nil])) rfl trivial rfl rfl) (.inr ⟨⟨nle,rfl⟩,⟨⟨trivial,rfl⟩,⟨⟨nle,rfl⟩,⟨⟨trivial,rfl⟩,⟨⟨nle,rfl⟩,⟨⟨trivial,rfl⟩,⟨⟨nle,rfl⟩,⟨⟨trivial,rfl⟩,trivial⟩⟩⟩⟩⟩⟩⟩⟩) trivial ?_;refine a0r (a1f (j:=3) (as':=[]) rfl (fun _ => by decide) trivial (.refl _) rfl rfl rfl) (.inr ⟨⟨nle,rfl⟩,⟨⟨trivial,rfl⟩,⟨⟨nle,rfl⟩,⟨⟨trivial,rfl⟩,⟨⟨nle,rfl⟩,⟨⟨trivial,rfl⟩,⟨⟨nle,rfl⟩,⟨⟨trivial,rfl⟩,trivial⟩⟩⟩⟩⟩⟩⟩⟩) ?_ ?_
    ·refine a0r (a1f (j:=3) (as':=[]) rfl (fun _ => by decide) trivial (.refl _) rfl rfl rfl) (.inr ⟨⟨nle,rfl⟩,⟨⟨trivial,rfl⟩,⟨⟨nle,rfl⟩,⟨⟨trivial,rfl⟩,⟨⟨nle,rfl⟩,⟨⟨trivial,rfl⟩,⟨⟨nle,rfl⟩,⟨⟨trivial,rfl⟩,trivial⟩⟩⟩⟩⟩⟩⟩⟩) trivial ?_;refine a0r (a1f (j:=4) (as':=[]) rfl (fun _ => by decide) trivial (.refl _) rfl rfl rfl) (.inr ⟨⟨nle,rfl⟩,⟨⟨trivial,rfl⟩,⟨⟨nle,rfl⟩,⟨⟨trivial,rfl⟩,⟨⟨nle,rfl⟩,⟨⟨trivial,rfl⟩,⟨⟨nle,rfl⟩,⟨⟨trivial,rfl⟩,trivial⟩⟩⟩⟩⟩⟩⟩⟩) trivial ?_
     refine a0r (a3u (j:=5) (L:=(([] ++ j_1.Keys).map AV.str)) (len:=([] ++ j_1.Keys).length) rfl false rfl rfl (fun _ => flm (fun _ => rfl) _) (fun _ _ _ => flm (fun _ => rfl) _) (by decide) ((by simp)) (by simp <;> omega) g4 rfl rfl) (.inr ⟨⟨nle,rfl⟩,⟨⟨trivial,rfl⟩,⟨⟨nle,rfl⟩,⟨⟨trivial,rfl⟩,⟨⟨nle,rfl⟩,⟨⟨trivial,rfl⟩,trivial⟩⟩⟩⟩⟩⟩) trivial ?_
     refine x8 (.agg [(.int .i64 j_1.Kind),(.int .i64 j_1.N),(.str j_1.T),(.own 5 0 (([] ++ j_1.Keys).length)),(.own 3 0 0)]) rfl ⟨⟨rfl,nle,trivial⟩,⟨⟨rfl,nle,trivial⟩,⟨⟨rfl,nle,trivial⟩,⟨⟨rfl,nle,trivial⟩,⟨⟨rfl,nle,trivial⟩,trivial⟩⟩⟩⟩⟩ rfl<|a3i (a0c (v:=(.agg [(.int .i64 j_1.Kind),(.int .i64 j_1.N),(.str j_1.T),(.own 5 0 (([] ++ j_1.Keys).length)),(.own 3 0 0)])) (y':=(.agg [(.int .i64 j_1.Kind),(.int .i64 j_1.N),(.str j_1.T),(.own 5 0 (([] ++ j_1.Keys).length)),(.own 3 0 0)])) rfl rfl rfl trivial ⟨rfl,nle⟩ ⟨⟨rfl,trivial⟩,⟨⟨rfl,trivial⟩,⟨⟨rfl,trivial⟩,⟨⟨rfl,trivial⟩,⟨⟨rfl,trivial⟩,trivial⟩⟩⟩⟩⟩ rfl) trivial trivial<|a0b<|?_;obtain rfl:=os hb1;exact ⟨[],[0,1,2,5,3],_,_,rfl,rfl,⟨.refl _,⟨.refl _,⟨.refl _,trivial⟩⟩⟩,(.cons (.refl _) (.cons (.refl _) (.cons (.box (.agg (.cons (.refl _) (.cons (.refl _) (.cons (.refl _) (.cons (.refl _) (.cons (.of_eq (congrArg (AV.own _ 0) (by simp))) .nil))))))) (.cons (.refl _) (.cons (.refl _) .nil)))))⟩
    ·refine a0r (a3u (j:=4) (L:=(([] ++ j_1.Keys).map AV.str)) (len:=([] ++ j_1.Keys).length) rfl false rfl rfl (fun _ => flm (fun _ => rfl) _) (fun _ _ _ => flm (fun _ => rfl) _) (by decide) ((by simp)) (by simp <;> omega) g4 rfl rfl) (.inr ⟨⟨nle,rfl⟩,⟨⟨trivial,rfl⟩,⟨⟨nle,rfl⟩,⟨⟨trivial,rfl⟩,⟨⟨nle,rfl⟩,⟨⟨trivial,rfl⟩,trivial⟩⟩⟩⟩⟩⟩) ?_ ?_
     ·refine a0r (a1f (j:=4) (as':=[]) rfl (fun _ => by decide) trivial (.refl _) rfl rfl rfl) (.inr ⟨⟨nle,rfl⟩,⟨⟨trivial,rfl⟩,⟨⟨nle,rfl⟩,⟨⟨trivial,rfl⟩,⟨⟨nle,rfl⟩,⟨⟨trivial,rfl⟩,⟨⟨nle,rfl⟩,⟨⟨trivial,rfl⟩,trivial⟩⟩⟩⟩⟩⟩⟩⟩) trivial ?_
      refine a0r (a3u (j:=5) (L:=(([] ++ j_1.Keys).map AV.str)) (len:=([] ++ j_1.Keys).length) rfl false rfl rfl (fun _ => flm (fun _ => rfl) _) (fun _ _ _ => flm (fun _ => rfl) _) (by decide) ((by simp)) (by simp <;> omega) g4 rfl rfl) (.inr ⟨⟨nle,rfl⟩,⟨⟨trivial,rfl⟩,⟨⟨nle,rfl⟩,⟨⟨trivial,rfl⟩,⟨⟨nle,rfl⟩,⟨⟨trivial,rfl⟩,trivial⟩⟩⟩⟩⟩⟩) trivial ?_
      refine x8 (.agg [(.int .i64 j_1.Kind),(.int .i64 j_1.N),(.str j_1.T),(.own 5 0 (([] ++ j_1.Keys).length)),(.own 4 0 0)]) rfl ⟨⟨rfl,nle,trivial⟩,⟨⟨rfl,nle,trivial⟩,⟨⟨rfl,nle,trivial⟩,⟨⟨rfl,nle,trivial⟩,⟨⟨rfl,nle,trivial⟩,trivial⟩⟩⟩⟩⟩ rfl<|a3i (a0c (v:=(.agg [(.int .i64 j_1.Kind),(.int .i64 j_1.N),(.str j_1.T),(.own 5 0 (([] ++ j_1.Keys).length)),(.own 4 0 0)])) (y':=(.agg [(.int .i64 j_1.Kind),(.int .i64 j_1.N),(.str j_1.T),(.own 5 0 (([] ++ j_1.Keys).length)),(.own 4 0 0)])) rfl rfl rfl trivial ⟨rfl,nle⟩ ⟨⟨rfl,trivial⟩,⟨⟨rfl,trivial⟩,⟨⟨rfl,trivial⟩,⟨⟨rfl,trivial⟩,⟨⟨rfl,trivial⟩,trivial⟩⟩⟩⟩⟩ rfl) trivial trivial<|a0b<|?_;obtain rfl:=os hb1;exact ⟨[],[0,1,2,5,4],_,_,rfl,rfl,⟨.refl _,⟨.refl _,⟨.refl _,trivial⟩⟩⟩,(.cons (.refl _) (.cons (.refl _) (.cons (.box (.agg (.cons (.refl _) (.cons (.refl _) (.cons (.refl _) (.cons (.refl _) (.cons (.of_eq (congrArg (AV.own _ 0) (by simp))) .nil))))))) (.cons (.refl _) (.cons (.refl _) .nil)))))⟩
     ·refine a0r (a1f (j:=5) (as':=[]) rfl (fun _ => by decide) trivial (.refl _) rfl rfl rfl) (.inr ⟨⟨nle,rfl⟩,⟨⟨trivial,rfl⟩,⟨⟨nle,rfl⟩,⟨⟨trivial,rfl⟩,⟨⟨nle,rfl⟩,⟨⟨trivial,rfl⟩,⟨⟨nle,rfl⟩,⟨⟨trivial,rfl⟩,trivial⟩⟩⟩⟩⟩⟩⟩⟩) trivial ?_;refine x8 (.agg [(.int .i64 j_1.Kind),(.int .i64 j_1.N),(.str j_1.T),(.own 4 0 (([] ++ j_1.Keys).length)),(.own 5 0 0)]) rfl ⟨⟨rfl,nle,trivial⟩,⟨⟨rfl,nle,trivial⟩,⟨⟨rfl,nle,trivial⟩,⟨⟨rfl,nle,trivial⟩,⟨⟨rfl,nle,trivial⟩,trivial⟩⟩⟩⟩⟩ rfl<|a3i (a0c (v:=(.agg [(.int .i64 j_1.Kind),(.int .i64 j_1.N),(.str j_1.T),(.own 4 0 (([] ++ j_1.Keys).length)),(.own 5 0 0)])) (y':=(.agg [(.int .i64 j_1.Kind),(.int .i64 j_1.N),(.str j_1.T),(.own 4 0 (([] ++ j_1.Keys).length)),(.own 5 0 0)])) rfl rfl rfl trivial ⟨rfl,nle⟩ ⟨⟨rfl,trivial⟩,⟨⟨rfl,trivial⟩,⟨⟨rfl,trivial⟩,⟨⟨rfl,trivial⟩,⟨⟨rfl,trivial⟩,trivial⟩⟩⟩⟩⟩ rfl) trivial trivial<|?_
      refine a0b ?_;obtain rfl:=os hb1;exact ⟨[],[0,1,2,4,5],_,_,rfl,rfl,⟨.refl _,⟨.refl _,⟨.refl _,trivial⟩⟩⟩,(.cons (.refl _) (.cons (.refl _) (.cons (.box (.agg (.cons (.refl _) (.cons (.refl _) (.cons (.refl _) (.cons (.refl _) (.cons (.of_eq (congrArg (AV.own _ 0) (by simp))) .nil))))))) (.cons (.refl _) (.cons (.refl _) .nil)))))⟩
   ·refine a0r (a1f (j:=3) (as':=[]) rfl (fun _ => by decide) trivial (.refl _) rfl rfl rfl) (.inr ⟨⟨nle,rfl⟩,⟨⟨trivial,rfl⟩,⟨⟨nle,rfl⟩,⟨⟨trivial,rfl⟩,⟨⟨nle,rfl⟩,⟨⟨trivial,rfl⟩,⟨⟨nle,rfl⟩,⟨⟨trivial,rfl⟩,trivial⟩⟩⟩⟩⟩⟩⟩⟩) ?_ ?_
    ·refine a0r (a1i (j:=3) (c:=(.agg [(.int .i64 0),(.int .i64 0),(.str []),.nil,.nil])) rfl trivial rfl rfl) (.inr ⟨⟨nle,rfl⟩,⟨⟨trivial,rfl⟩,⟨⟨nle,rfl⟩,⟨⟨trivial,rfl⟩,⟨⟨nle,rfl⟩,⟨⟨trivial,rfl⟩,⟨⟨nle,rfl⟩,⟨⟨trivial,rfl⟩,trivial⟩⟩⟩⟩⟩⟩⟩⟩) trivial ?_;refine a0r (a1f (j:=4) (as':=[]) rfl (fun _ => by decide) trivial (.refl _) rfl rfl rfl) (.inr ⟨⟨nle,rfl⟩,⟨⟨trivial,rfl⟩,⟨⟨nle,rfl⟩,⟨⟨trivial,rfl⟩,⟨⟨nle,rfl⟩,⟨⟨trivial,rfl⟩,⟨⟨nle,rfl⟩,⟨⟨trivial,rfl⟩,trivial⟩⟩⟩⟩⟩⟩⟩⟩) trivial ?_
     refine a0r (a3u (j:=5) (L:=(([] ++ j_1.Keys).map AV.str)) (len:=([] ++ j_1.Keys).length) rfl false rfl rfl (fun _ => flm (fun _ => rfl) _) (fun _ _ _ => flm (fun _ => rfl) _) (by decide) ((by simp)) (by simp <;> omega) g4 rfl rfl) (.inr ⟨⟨nle,rfl⟩,⟨⟨trivial,rfl⟩,⟨⟨nle,rfl⟩,⟨⟨trivial,rfl⟩,⟨⟨nle,rfl⟩,⟨⟨trivial,rfl⟩,trivial⟩⟩⟩⟩⟩⟩) trivial ?_
     refine x8 (.agg [(.int .i64 j_1.Kind),(.int .i64 j_1.N),(.str j_1.T),(.own 5 0 (([] ++ j_1.Keys).length)),(.own 2 0 0)]) rfl ⟨⟨rfl,nle,trivial⟩,⟨⟨rfl,nle,trivial⟩,⟨⟨rfl,nle,trivial⟩,⟨⟨rfl,nle,trivial⟩,⟨⟨rfl,nle,trivial⟩,trivial⟩⟩⟩⟩⟩ rfl<|a3i (a0c (v:=(.agg [(.int .i64 j_1.Kind),(.int .i64 j_1.N),(.str j_1.T),(.own 5 0 (([] ++ j_1.Keys).length)),(.own 2 0 0)])) (y':=(.agg [(.int .i64 j_1.Kind),(.int .i64 j_1.N),(.str j_1.T),(.own 5 0 (([] ++ j_1.Keys).length)),(.own 2 0 0)])) rfl rfl rfl trivial ⟨rfl,nle⟩ ⟨⟨rfl,trivial⟩,⟨⟨rfl,trivial⟩,⟨⟨rfl,trivial⟩,⟨⟨rfl,trivial⟩,⟨⟨rfl,trivial⟩,trivial⟩⟩⟩⟩⟩ rfl) trivial trivial<|a0b<|?_;obtain rfl:=os hb1;exact ⟨[],[0,1,3,5,2],_,_,rfl,rfl,⟨.refl _,⟨.refl _,⟨.refl _,trivial⟩⟩⟩,(.cons (.refl _) (.cons (.refl _) (.cons (.box (.agg (.cons (.refl _) (.cons (.refl _) (.cons (.refl _) (.cons (.refl _) (.cons (.of_eq (congrArg (AV.own _ 0) (by simp))) .nil))))))) (.cons (.refl _) (.cons (.refl _) .nil)))))⟩
    ·refine a0r (a3u (j:=4) (L:=(([] ++ j_1.Keys).map AV.str)) (len:=([] ++ j_1.Keys).length) rfl false rfl rfl (fun _ => flm (fun _ => rfl) _) (fun _ _ _ => flm (fun _ => rfl) _) (by decide) ((by simp)) (by simp <;> omega) g4 rfl rfl) (.inr ⟨⟨nle,rfl⟩,⟨⟨trivial,rfl⟩,⟨⟨nle,rfl⟩,⟨⟨trivial,rfl⟩,⟨⟨nle,rfl⟩,⟨⟨trivial,rfl⟩,trivial⟩⟩⟩⟩⟩⟩) ?_ ?_
     ·refine a0r (a1i (j:=4) (c:=(.agg [(.int .i64 0),(.int .i64 0),(.str []),.nil,.nil])) rfl trivial rfl rfl) (.inr ⟨⟨nle,rfl⟩,⟨⟨trivial,rfl⟩,⟨⟨nle,rfl⟩,⟨⟨trivial,rfl⟩,⟨⟨nle,rfl⟩,⟨⟨trivial,rfl⟩,⟨⟨nle,rfl⟩,⟨⟨trivial,rfl⟩,trivial⟩⟩⟩⟩⟩⟩⟩⟩) trivial ?_
      refine a0r (a3u (j:=5) (L:=(([] ++ j_1.Keys).map AV.str)) (len:=([] ++ j_1.Keys).length) rfl false rfl rfl (fun _ => flm (fun _ => rfl) _) (fun _ _ _ => flm (fun _ => rfl) _) (by decide) ((by simp)) (by simp <;> omega) g4 rfl rfl) (.inr ⟨⟨nle,rfl⟩,⟨⟨trivial,rfl⟩,⟨⟨nle,rfl⟩,⟨⟨trivial,rfl⟩,⟨⟨nle,rfl⟩,⟨⟨trivial,rfl⟩,trivial⟩⟩⟩⟩⟩⟩) trivial ?_
      refine x8 (.agg [(.int .i64 j_1.Kind),(.int .i64 j_1.N),(.str j_1.T),(.own 5 0 (([] ++ j_1.Keys).length)),(.own 2 0 0)]) rfl ⟨⟨rfl,nle,trivial⟩,⟨⟨rfl,nle,trivial⟩,⟨⟨rfl,nle,trivial⟩,⟨⟨rfl,nle,trivial⟩,⟨⟨rfl,nle,trivial⟩,trivial⟩⟩⟩⟩⟩ rfl<|a3i (a0c (v:=(.agg [(.int .i64 j_1.Kind),(.int .i64 j_1.N),(.str j_1.T),(.own 5 0 (([] ++ j_1.Keys).length)),(.own 2 0 0)])) (y':=(.agg [(.int .i64 j_1.Kind),(.int .i64 j_1.N),(.str j_1.T),(.own 5 0 (([] ++ j_1.Keys).length)),(.own 2 0 0)])) rfl rfl rfl trivial ⟨rfl,nle⟩ ⟨⟨rfl,trivial⟩,⟨⟨rfl,trivial⟩,⟨⟨rfl,trivial⟩,⟨⟨rfl,trivial⟩,⟨⟨rfl,trivial⟩,trivial⟩⟩⟩⟩⟩ rfl) trivial trivial<|a0b<|?_;obtain rfl:=os hb1;exact ⟨[],[0,1,4,5,2],_,_,rfl,rfl,⟨.refl _,⟨.refl _,⟨.refl _,trivial⟩⟩⟩,(.cons (.refl _) (.cons (.refl _) (.cons (.box (.agg (.cons (.refl _) (.cons (.refl _) (.cons (.refl _) (.cons (.refl _) (.cons (.of_eq (congrArg (AV.own _ 0) (by simp))) .nil))))))) (.cons (.refl _) (.cons (.refl _) .nil)))))⟩
     ·refine x8 (.agg [(.int .i64 j_1.Kind),(.int .i64 j_1.N),(.str j_1.T),(.own 4 0 (([] ++ j_1.Keys).length)),(.own 2 0 0)]) rfl ⟨⟨rfl,nle,trivial⟩,⟨⟨rfl,nle,trivial⟩,⟨⟨rfl,nle,trivial⟩,⟨⟨rfl,nle,trivial⟩,⟨⟨rfl,nle,trivial⟩,trivial⟩⟩⟩⟩⟩ rfl<|a0r (a1i (j:=5) (c:=(.agg [(.int .i64 0),(.int .i64 0),(.str []),.nil,.nil])) rfl trivial rfl rfl) (.inr ⟨⟨⟨⟨rfl,nle,trivial⟩,⟨⟨rfl,nle,trivial⟩,⟨⟨rfl,nle,trivial⟩,⟨⟨rfl,nle,trivial⟩,⟨⟨rfl,nle,trivial⟩,trivial⟩⟩⟩⟩⟩,rfl⟩,⟨⟨nle,rfl⟩,⟨⟨trivial,rfl⟩,⟨⟨nle,rfl⟩,⟨⟨trivial,rfl⟩,⟨⟨nle,rfl⟩,⟨⟨trivial,rfl⟩,⟨⟨nle,rfl⟩,⟨⟨trivial,rfl⟩,trivial⟩⟩⟩⟩⟩⟩⟩⟩⟩) trivial<|a3i (a0c (v:=(.agg [(.int .i64 j_1.Kind),(.int .i64 j_1.N),(.str j_1.T),(.own 4 0 (([] ++ j_1.Keys).length)),(.own 2 0 0)])) (y':=(.agg [(.int .i64 j_1.Kind),(.int .i64 j_1.N),(.str j_1.T),(.own 4 0 (([] ++ j_1.Keys).length)),(.own 2 0 0)])) rfl rfl rfl trivial ⟨rfl,nle⟩ ⟨⟨rfl,trivial⟩,⟨⟨rfl,trivial⟩,⟨⟨rfl,trivial⟩,⟨⟨rfl,trivial⟩,⟨⟨rfl,trivial⟩,trivial⟩⟩⟩⟩⟩ rfl) trivial trivial<|?_
      refine a0b ?_;obtain rfl:=os hb1;exact ⟨[],[0,1,5,4,2],_,_,rfl,rfl,⟨.refl _,⟨.refl _,⟨.refl _,trivial⟩⟩⟩,(.cons (.refl _) (.cons (.refl _) (.cons (.box (.agg (.cons (.refl _) (.cons (.refl _) (.cons (.refl _) (.cons (.refl _) (.cons (.of_eq (congrArg (AV.own _ 0) (by simp))) .nil))))))) (.cons (.refl _) (.cons (.refl _) .nil)))))⟩
  ·refine a0r (a3u (j:=3) (L:=(([] ++ j_1.Keys).map AV.str)) (len:=([] ++ j_1.Keys).length) rfl false rfl rfl (fun _ => flm (fun _ => rfl) _) (fun _ _ _ => flm (fun _ => rfl) _) (by decide) ((by simp)) (by simp <;> omega) g4 rfl rfl) (.inr ⟨⟨nle,rfl⟩,⟨⟨trivial,rfl⟩,⟨⟨nle,rfl⟩,⟨⟨trivial,rfl⟩,⟨⟨nle,rfl⟩,⟨⟨trivial,rfl⟩,trivial⟩⟩⟩⟩⟩⟩) ?_ ?_
   ·refine a0r (a1f (j:=3) (as':=[]) rfl (fun _ => by decide) trivial (.refl _) rfl rfl rfl) (.inr ⟨⟨nle,rfl⟩,⟨⟨trivial,rfl⟩,⟨⟨nle,rfl⟩,⟨⟨trivial,rfl⟩,⟨⟨nle,rfl⟩,⟨⟨trivial,rfl⟩,⟨⟨nle,rfl⟩,⟨⟨trivial,rfl⟩,trivial⟩⟩⟩⟩⟩⟩⟩⟩) ?_ ?_
    ·refine a0r (a1i (j:=3) (c:=(.agg [(.int .i64 0),(.int .i64 0),(.str []),.nil,.nil])) rfl trivial rfl rfl) (.inr ⟨⟨nle,rfl⟩,⟨⟨trivial,rfl⟩,⟨⟨nle,rfl⟩,⟨⟨trivial,rfl⟩,⟨⟨nle,rfl⟩,⟨⟨trivial,rfl⟩,⟨⟨nle,rfl⟩,⟨⟨trivial,rfl⟩,trivial⟩⟩⟩⟩⟩⟩⟩⟩) trivial ?_
     refine a0r (a3u (j:=4) (L:=(([] ++ j_1.Keys).map AV.str)) (len:=([] ++ j_1.Keys).length) rfl false rfl rfl (fun _ => flm (fun _ => rfl) _) (fun _ _ _ => flm (fun _ => rfl) _) (by decide) ((by simp)) (by simp <;> omega) g4 rfl rfl) (.inr ⟨⟨nle,rfl⟩,⟨⟨trivial,rfl⟩,⟨⟨nle,rfl⟩,⟨⟨trivial,rfl⟩,⟨⟨nle,rfl⟩,⟨⟨trivial,rfl⟩,trivial⟩⟩⟩⟩⟩⟩) ?_ ?_
     ·refine a0r (a1f (j:=4) (as':=[]) rfl (fun _ => by decide) trivial (.refl _) rfl rfl rfl) (.inr ⟨⟨nle,rfl⟩,⟨⟨trivial,rfl⟩,⟨⟨nle,rfl⟩,⟨⟨trivial,rfl⟩,⟨⟨nle,rfl⟩,⟨⟨trivial,rfl⟩,⟨⟨nle,rfl⟩,⟨⟨trivial,rfl⟩,trivial⟩⟩⟩⟩⟩⟩⟩⟩) trivial ?_
      refine a0r (a3u (j:=5) (L:=(([] ++ j_1.Keys).map AV.str)) (len:=([] ++ j_1.Keys).length) rfl false rfl rfl (fun _ => flm (fun _ => rfl) _) (fun _ _ _ => flm (fun _ => rfl) _) (by decide) ((by simp)) (by simp <;> omega) g4 rfl rfl) (.inr ⟨⟨nle,rfl⟩,⟨⟨trivial,rfl⟩,⟨⟨nle,rfl⟩,⟨⟨trivial,rfl⟩,⟨⟨nle,rfl⟩,⟨⟨trivial,rfl⟩,trivial⟩⟩⟩⟩⟩⟩) trivial ?_
      refine x8 (.agg [(.int .i64 j_1.Kind),(.int .i64 j_1.N),(.str j_1.T),(.own 5 0 (([] ++ j_1.Keys).length)),(.own 4 0 0)]) rfl ⟨⟨rfl,nle,trivial⟩,⟨⟨rfl,nle,trivial⟩,⟨⟨rfl,nle,trivial⟩,⟨⟨rfl,nle,trivial⟩,⟨⟨rfl,nle,trivial⟩,trivial⟩⟩⟩⟩⟩ rfl<|a3i (a0c (v:=(.agg [(.int .i64 j_1.Kind),(.int .i64 j_1.N),(.str j_1.T),(.own 5 0 (([] ++ j_1.Keys).length)),(.own 4 0 0)])) (y':=(.agg [(.int .i64 j_1.Kind),(.int .i64 j_1.N),(.str j_1.T),(.own 5 0 (([] ++ j_1.Keys).length)),(.own 4 0 0)])) rfl rfl rfl trivial ⟨rfl,nle⟩ ⟨⟨rfl,trivial⟩,⟨⟨rfl,trivial⟩,⟨⟨rfl,trivial⟩,⟨⟨rfl,trivial⟩,⟨⟨rfl,trivial⟩,trivial⟩⟩⟩⟩⟩ rfl) trivial trivial<|a0b<|?_;obtain rfl:=os hb1;exact ⟨[],[0,1,3,5,4],_,_,rfl,rfl,⟨.refl _,⟨.refl _,⟨.refl _,trivial⟩⟩⟩,(.cons (.refl _) (.cons (.refl _) (.cons (.box (.agg (.cons (.refl _) (.cons (.refl _) (.cons (.refl _) (.cons (.refl _) (.cons (.of_eq (congrArg (AV.own _ 0) (by simp))) .nil))))))) (.cons (.refl _) (.cons (.refl _) .nil)))))⟩
     ·refine a0r (a1f (j:=5) (as':=[]) rfl (fun _ => by decide) trivial (.refl _) rfl rfl rfl) (.inr ⟨⟨nle,rfl⟩,⟨⟨trivial,rfl⟩,⟨⟨nle,rfl⟩,⟨⟨trivial,rfl⟩,⟨⟨nle,rfl⟩,⟨⟨trivial,rfl⟩,⟨⟨nle,rfl⟩,⟨⟨trivial,rfl⟩,trivial⟩⟩⟩⟩⟩⟩⟩⟩) trivial ?_;refine x8 (.agg [(.int .i64 j_1.Kind),(.int .i64 j_1.N),(.str j_1.T),(.own 4 0 (([] ++ j_1.Keys).length)),(.own 5 0 0)]) rfl ⟨⟨rfl,nle,trivial⟩,⟨⟨rfl,nle,trivial⟩,⟨⟨rfl,nle,trivial⟩,⟨⟨rfl,nle,trivial⟩,⟨⟨rfl,nle,trivial⟩,trivial⟩⟩⟩⟩⟩ rfl<|a3i (a0c (v:=(.agg [(.int .i64 j_1.Kind),(.int .i64 j_1.N),(.str j_1.T),(.own 4 0 (([] ++ j_1.Keys).length)),(.own 5 0 0)])) (y':=(.agg [(.int .i64 j_1.Kind),(.int .i64 j_1.N),(.str j_1.T),(.own 4 0 (([] ++ j_1.Keys).length)),(.own 5 0 0)])) rfl rfl rfl trivial ⟨rfl,nle⟩ ⟨⟨rfl,trivial⟩,⟨⟨rfl,trivial⟩,⟨⟨rfl,trivial⟩,⟨⟨rfl,trivial⟩,⟨⟨rfl,trivial⟩,trivial⟩⟩⟩⟩⟩ rfl) trivial trivial<|?_
      refine a0b ?_;obtain rfl:=os hb1;exact ⟨[],[0,1,3,4,5],_,_,rfl,rfl,⟨.refl _,⟨.refl _,⟨.refl _,trivial⟩⟩⟩,(.cons (.refl _) (.cons (.refl _) (.cons (.box (.agg (.cons (.refl _) (.cons (.refl _) (.cons (.refl _) (.cons (.refl _) (.cons (.of_eq (congrArg (AV.own _ 0) (by simp))) .nil))))))) (.cons (.refl _) (.cons (.refl _) .nil)))))⟩
    ·refine a0r (a3u (j:=4) (L:=(([] ++ j_1.Keys).map AV.str)) (len:=([] ++ j_1.Keys).length) rfl false rfl rfl (fun _ => flm (fun _ => rfl) _) (fun _ _ _ => flm (fun _ => rfl) _) (by decide) ((by simp)) (by simp <;> omega) g4 rfl rfl) (.inr ⟨⟨nle,rfl⟩,⟨⟨trivial,rfl⟩,⟨⟨nle,rfl⟩,⟨⟨trivial,rfl⟩,⟨⟨nle,rfl⟩,⟨⟨trivial,rfl⟩,trivial⟩⟩⟩⟩⟩⟩) ?_ ?_
     ·refine a0r (a1i (j:=4) (c:=(.agg [(.int .i64 0),(.int .i64 0),(.str []),.nil,.nil])) rfl trivial rfl rfl) (.inr ⟨⟨nle,rfl⟩,⟨⟨trivial,rfl⟩,⟨⟨nle,rfl⟩,⟨⟨trivial,rfl⟩,⟨⟨nle,rfl⟩,⟨⟨trivial,rfl⟩,⟨⟨nle,rfl⟩,⟨⟨trivial,rfl⟩,trivial⟩⟩⟩⟩⟩⟩⟩⟩) trivial ?_
      refine a0r (a3u (j:=5) (L:=(([] ++ j_1.Keys).map AV.str)) (len:=([] ++ j_1.Keys).length) rfl false rfl rfl (fun _ => flm (fun _ => rfl) _) (fun _ _ _ => flm (fun _ => rfl) _) (by decide) ((by simp)) (by simp <;> omega) g4 rfl rfl) (.inr ⟨⟨nle,rfl⟩,⟨⟨trivial,rfl⟩,⟨⟨nle,rfl⟩,⟨⟨trivial,rfl⟩,⟨⟨nle,rfl⟩,⟨⟨trivial,rfl⟩,trivial⟩⟩⟩⟩⟩⟩) trivial ?_
      refine x8 (.agg [(.int .i64 j_1.Kind),(.int .i64 j_1.N),(.str j_1.T),(.own 5 0 (([] ++ j_1.Keys).length)),(.own 3 0 0)]) rfl ⟨⟨rfl,nle,trivial⟩,⟨⟨rfl,nle,trivial⟩,⟨⟨rfl,nle,trivial⟩,⟨⟨rfl,nle,trivial⟩,⟨⟨rfl,nle,trivial⟩,trivial⟩⟩⟩⟩⟩ rfl<|a3i (a0c (v:=(.agg [(.int .i64 j_1.Kind),(.int .i64 j_1.N),(.str j_1.T),(.own 5 0 (([] ++ j_1.Keys).length)),(.own 3 0 0)])) (y':=(.agg [(.int .i64 j_1.Kind),(.int .i64 j_1.N),(.str j_1.T),(.own 5 0 (([] ++ j_1.Keys).length)),(.own 3 0 0)])) rfl rfl rfl trivial ⟨rfl,nle⟩ ⟨⟨rfl,trivial⟩,⟨⟨rfl,trivial⟩,⟨⟨rfl,trivial⟩,⟨⟨rfl,trivial⟩,⟨⟨rfl,trivial⟩,trivial⟩⟩⟩⟩⟩ rfl) trivial trivial<|a0b<|?_;obtain rfl:=os hb1;exact ⟨[],[0,1,4,5,3],_,_,rfl,rfl,⟨.refl _,⟨.refl _,⟨.refl _,trivial⟩⟩⟩,(.cons (.refl _) (.cons (.refl _) (.cons (.box (.agg (.cons (.refl _) (.cons (.refl _) (.cons (.refl _) (.cons (.refl _) (.cons (.of_eq (congrArg (AV.own _ 0) (by simp))) .nil))))))) (.cons (.refl _) (.cons (.refl _) .nil)))))⟩
     ·refine x8 (.agg [(.int .i64 j_1.Kind),(.int .i64 j_1.N),(.str j_1.T),(.own 4 0 (([] ++ j_1.Keys).length)),(.own 3 0 0)]) rfl ⟨⟨rfl,nle,trivial⟩,⟨⟨rfl,nle,trivial⟩,⟨⟨rfl,nle,trivial⟩,⟨⟨rfl,nle,trivial⟩,⟨⟨rfl,nle,trivial⟩,trivial⟩⟩⟩⟩⟩ rfl<|a0r (a1i (j:=5) (c:=(.agg [(.int .i64 0),(.int .i64 0),(.str []),.nil,.nil])) rfl trivial rfl rfl) (.inr ⟨⟨⟨⟨rfl,nle,trivial⟩,⟨⟨rfl,nle,trivial⟩,⟨⟨rfl,nle,trivial⟩,⟨⟨rfl,nle,trivial⟩,⟨⟨rfl,nle,trivial⟩,trivial⟩⟩⟩⟩⟩,rfl⟩,⟨⟨nle,rfl⟩,⟨⟨trivial,rfl⟩,⟨⟨nle,rfl⟩,⟨⟨trivial,rfl⟩,⟨⟨nle,rfl⟩,⟨⟨trivial,rfl⟩,⟨⟨nle,rfl⟩,⟨⟨trivial,rfl⟩,trivial⟩⟩⟩⟩⟩⟩⟩⟩⟩) trivial<|a3i (a0c (v:=(.agg [(.int .i64 j_1.Kind),(.int .i64 j_1.N),(.str j_1.T),(.own 4 0 (([] ++ j_1.Keys).length)),(.own 3 0 0)])) (y':=(.agg [(.int .i64 j_1.Kind),(.int .i64 j_1.N),(.str j_1.T),(.own 4 0 (([] ++ j_1.Keys).length)),(.own 3 0 0)])) rfl rfl rfl trivial ⟨rfl,nle⟩ ⟨⟨rfl,trivial⟩,⟨⟨rfl,trivial⟩,⟨⟨rfl,trivial⟩,⟨⟨rfl,trivial⟩,⟨⟨rfl,trivial⟩,trivial⟩⟩⟩⟩⟩ rfl) trivial trivial<|?_
      refine a0b ?_;obtain rfl:=os hb1;exact ⟨[],[0,1,5,4,3],_,_,rfl,rfl,⟨.refl _,⟨.refl _,⟨.refl _,trivial⟩⟩⟩,(.cons (.refl _) (.cons (.refl _) (.cons (.box (.agg (.cons (.refl _) (.cons (.refl _) (.cons (.refl _) (.cons (.refl _) (.cons (.of_eq (congrArg (AV.own _ 0) (by simp))) .nil))))))) (.cons (.refl _) (.cons (.refl _) .nil)))))⟩
   ·refine a0r (a1f (j:=4) (as':=[]) rfl (fun _ => by decide) trivial (.refl _) rfl rfl rfl) (.inr ⟨⟨nle,rfl⟩,⟨⟨trivial,rfl⟩,⟨⟨nle,rfl⟩,⟨⟨trivial,rfl⟩,⟨⟨nle,rfl⟩,⟨⟨trivial,rfl⟩,⟨⟨nle,rfl⟩,⟨⟨trivial,rfl⟩,trivial⟩⟩⟩⟩⟩⟩⟩⟩) ?_ ?_
    ·refine a0r (a1i (j:=4) (c:=(.agg [(.int .i64 0),(.int .i64 0),(.str []),.nil,.nil])) rfl trivial rfl rfl) (.inr ⟨⟨nle,rfl⟩,⟨⟨trivial,rfl⟩,⟨⟨nle,rfl⟩,⟨⟨trivial,rfl⟩,⟨⟨nle,rfl⟩,⟨⟨trivial,rfl⟩,⟨⟨nle,rfl⟩,⟨⟨trivial,rfl⟩,trivial⟩⟩⟩⟩⟩⟩⟩⟩) trivial ?_;refine a0r (a1f (j:=5) (as':=[]) rfl (fun _ => by decide) trivial (.refl _) rfl rfl rfl) (.inr ⟨⟨nle,rfl⟩,⟨⟨trivial,rfl⟩,⟨⟨nle,rfl⟩,⟨⟨trivial,rfl⟩,⟨⟨nle,rfl⟩,⟨⟨trivial,rfl⟩,⟨⟨nle,rfl⟩,⟨⟨trivial,rfl⟩,trivial⟩⟩⟩⟩⟩⟩⟩⟩) trivial ?_;refine x8 (.agg [(.int .i64 j_1.Kind),(.int .i64 j_1.N),(.str j_1.T),(.own 3 0 (([] ++ j_1.Keys).length)),(.own 5 0 0)]) rfl ⟨⟨rfl,nle,trivial⟩,⟨⟨rfl,nle,trivial⟩,⟨⟨rfl,nle,trivial⟩,⟨⟨rfl,nle,trivial⟩,⟨⟨rfl,nle,trivial⟩,trivial⟩⟩⟩⟩⟩ rfl ?_
     refine a3i (a0c (v:=(.agg [(.int .i64 j_1.Kind),(.int .i64 j_1.N),(.str j_1.T),(.own 3 0 (([] ++ j_1.Keys).length)),(.own 5 0 0)])) (y':=(.agg [(.int .i64 j_1.Kind),(.int .i64 j_1.N),(.str j_1.T),(.own 3 0 (([] ++ j_1.Keys).length)),(.own 5 0 0)])) rfl rfl rfl trivial ⟨rfl,nle⟩ ⟨⟨rfl,trivial⟩,⟨⟨rfl,trivial⟩,⟨⟨rfl,trivial⟩,⟨⟨rfl,trivial⟩,⟨⟨rfl,trivial⟩,trivial⟩⟩⟩⟩⟩ rfl) trivial trivial<|a0b<|?_;obtain rfl:=os hb1;exact ⟨[],[0,1,4,3,5],_,_,rfl,rfl,⟨.refl _,⟨.refl _,⟨.refl _,trivial⟩⟩⟩,(.cons (.refl _) (.cons (.refl _) (.cons (.box (.agg (.cons (.refl _) (.cons (.refl _) (.cons (.refl _) (.cons (.refl _) (.cons (.of_eq (congrArg (AV.own _ 0) (by simp))) .nil))))))) (.cons (.refl _) (.cons (.refl _) .nil)))))⟩
    ·refine x8 (.agg [(.int .i64 j_1.Kind),(.int .i64 j_1.N),(.str j_1.T),(.own 3 0 (([] ++ j_1.Keys).length)),(.own 4 0 0)]) rfl ⟨⟨rfl,nle,trivial⟩,⟨⟨rfl,nle,trivial⟩,⟨⟨rfl,nle,trivial⟩,⟨⟨rfl,nle,trivial⟩,⟨⟨rfl,nle,trivial⟩,trivial⟩⟩⟩⟩⟩ rfl<|a0r (a1i (j:=5) (c:=(.agg [(.int .i64 0),(.int .i64 0),(.str []),.nil,.nil])) rfl trivial rfl rfl) (.inr ⟨⟨⟨⟨rfl,nle,trivial⟩,⟨⟨rfl,nle,trivial⟩,⟨⟨rfl,nle,trivial⟩,⟨⟨rfl,nle,trivial⟩,⟨⟨rfl,nle,trivial⟩,trivial⟩⟩⟩⟩⟩,rfl⟩,⟨⟨nle,rfl⟩,⟨⟨trivial,rfl⟩,⟨⟨nle,rfl⟩,⟨⟨trivial,rfl⟩,⟨⟨nle,rfl⟩,⟨⟨trivial,rfl⟩,⟨⟨nle,rfl⟩,⟨⟨trivial,rfl⟩,trivial⟩⟩⟩⟩⟩⟩⟩⟩⟩) trivial<|a3i (a0c (v:=(.agg [(.int .i64 j_1.Kind),(.int .i64 j_1.N),(.str j_1.T),(.own 3 0 (([] ++ j_1.Keys).length)),(.own 4 0 0)])) (y':=(.agg [(.int .i64 j_1.Kind),(.int .i64 j_1.N),(.str j_1.T),(.own 3 0 (([] ++ j_1.Keys).length)),(.own 4 0 0)])) rfl rfl rfl trivial ⟨rfl,nle⟩ ⟨⟨rfl,trivial⟩,⟨⟨rfl,trivial⟩,⟨⟨rfl,trivial⟩,⟨⟨rfl,trivial⟩,⟨⟨rfl,trivial⟩,trivial⟩⟩⟩⟩⟩ rfl) trivial trivial<|?_
     refine a0b ?_;obtain rfl:=os hb1;exact ⟨[],[0,1,5,3,4],_,_,rfl,rfl,⟨.refl _,⟨.refl _,⟨.refl _,trivial⟩⟩⟩,(.cons (.refl _) (.cons (.refl _) (.cons (.box (.agg (.cons (.refl _) (.cons (.refl _) (.cons (.refl _) (.cons (.refl _) (.cons (.of_eq (congrArg (AV.own _ 0) (by simp))) .nil))))))) (.cons (.refl _) (.cons (.refl _) .nil)))))⟩
 ·refine o6<|sr<|l7 (.int .i64 0) rfl<|dk<|?_
  obtain ⟨x_31,hb1,hf⟩:=ob hf
  refine a2a ([(2,(.ptr 0 0 0)),(3,(.ptr 1 0 0))],[.box 5 (.agg [(.int .i64 0),(.int .i64 0),(.str []),.nil,.nil]),.box 5 (.agg [(.int .i64 j_1.Kind),(.int .i64 j_1.N),(.str j_1.T),(.own 2 0 (([] ++ j_1.Keys).length)),(.own 3 0 x_31.length)]),.row 1 (([] ++ j_1.Keys).map AV.str),.row 5 (x_31.map o5)]) ?_ ?_
  ·refine a1g (X:={q:(Nat × (List o8)) // a3n rec (j_1.Items.drop q.1) q.2 = some x_31}) (fun q => ([(1,(.ptr 0 0 0)),(2,(.ptr 1 0 0)),(3,(.ptr 2 0 0)),(4,(.int .i64 (q.1.1:Int)))],[.box 5 (.agg [(.int .i64 j_1.Kind),(.int .i64 j_1.N),(.str j_1.T),(.lst 1 (j_1.Keys.map AV.str)),(.lst 5 (j_1.Items.map o5))]),.box 5 (.agg [(.int .i64 0),(.int .i64 0),(.str []),.nil,.nil]),.box 5 (.agg [(.int .i64 j_1.Kind),(.int .i64 j_1.N),(.str j_1.T),(.own 3 0 (([] ++ j_1.Keys).length)),(.own 4 0 q.1.2.length)]),.row 1 (([] ++ j_1.Keys).map AV.str),.row 5 (q.1.2.map o5)])) (fun q => j_1.Items.length - q.1.1) ⟨(0,[]),hb1⟩ ⟨[],[0,1,2,3,4],_,_,rfl,rfl,⟨.refl _,⟨.refl _,⟨.refl _,⟨.refl _,trivial⟩⟩⟩⟩,(.refl _)⟩ ?_
   rintro ⟨⟨i_21,x_22⟩,hc1⟩
   have hc1:a3n rec (j_1.Items.drop i_21) x_22 = some x_31:=hc1
   refine (show awp Tryz.prog true 0 _ (ofL [(1,(.ptr 0 0 0)),(2,(.ptr 1 0 0)),(3,(.ptr 2 0 0)),(4,(.int .i64 (i_21:Int)))]) [.box 5 (.agg [(.int .i64 j_1.Kind),(.int .i64 j_1.N),(.str j_1.T),(.lst 1 (j_1.Keys.map AV.str)),(.lst 5 (j_1.Items.map o5))]),.box 5 (.agg [(.int .i64 0),(.int .i64 0),(.str []),.nil,.nil]),.box 5 (.agg [(.int .i64 j_1.Kind),(.int .i64 j_1.N),(.str j_1.T),(.own 3 0 (([] ++ j_1.Keys).length)),(.own 4 0 x_22.length)]),.row 1 (([] ++ j_1.Keys).map AV.str),.row 5 (x_22.map o5)] _ from ?_)
   rcases a5z j_1.Items i_21 with ⟨hie35,hd38⟩ | ⟨hlt33,x_39,hx34,hd38⟩
   ·rw [hd38,a3n.eq_1] at hc1
    have hq37:=dlf hie35
    refine o6<|sr<|l7 (.int .i64 (i_21:Int)) rfl<|x8 (.ptr 0 0 4) rfl trivial rfl<|x8 (.lst 5 (j_1.Items.map o5)) rfl nle rfl<|a0w (a1r (enc:=o5) rfl) fun hl40 => x8 (.bool (decide ((i_21:Int) < (j_1.Items.length:Int)))) rfl rfl rfl<|dk<|y8 rfl hq37<|a2t<|a2s<|a1y<|a2r<|?_;obtain rfl:=os hc1;exact ⟨[],[1,2,3,4],_,_,rfl,rfl,⟨.refl _,⟨.refl _,trivial⟩⟩,(.refl _)⟩
   ·rw [hd38,a3n.eq_2] at hc1
    have hq37:=dlt hlt33
    refine o6<|sr<|l7 (.int .i64 (i_21:Int)) rfl<|x8 (.ptr 0 0 4) rfl trivial rfl<|x8 (.lst 5 (j_1.Items.map o5)) rfl nle rfl<|a0w (a1r (enc:=o5) rfl) fun hl41 => x8 (.bool (decide ((i_21:Int) < (j_1.Items.length:Int)))) rfl rfl rfl<|dk<|y7 rfl hq37<|a0h<|a0f<|o6<|a3g<|a0s<|?_
    obtain ⟨r_42,er43,hc1⟩:=ob hc1
    obtain ⟨g44,hc1⟩:=og hc1
    refine x8 (.ptr 2 0 4) rfl trivial rfl<|x8 (.own 4 0 x_22.length) rfl nle rfl<|x8 (.ptr 0 0 4) rfl trivial rfl<|x8 (.lst 5 (j_1.Items.map o5)) rfl nle rfl<|l7 (.int .i64 (i_21:Int)) rfl<|y5 (a2c (enc:=o5) rfl rfl hx34)<|y5 (a7u (v:=(.agg [(.int .i64 x_39.Kind),(.int .i64 x_39.N),(.str x_39.T),(.lst 1 (x_39.Keys.map AV.str)),(.lst 5 (x_39.Items.map o5))])) rfl (y9 _) nle rfl)<|a0r (a1m (v:=(.agg [(.int .i64 r_42.Kind),(.int .i64 r_42.N),(.str r_42.T),(.own 5 0 r_42.Keys.length),(.own 6 0 r_42.Items.length)])) (h':=[.row 1 (r_42.Keys.map AV.str),.row 5 (r_42.Items.map o5)]) (hrec _ _ er43) rfl (.cons (.of_eq (y9 x_39).symm) .nil) (by simp only [a1e,a1c,List.length_map,y9,List.nil_append,List.append_nil,List.cons_append];rfl)) (.inr ⟨⟨nle,rfl⟩,⟨⟨trivial,rfl⟩,trivial⟩⟩) trivial<|?_
    refine a0r (a1f (j:=7) (as':=[(o5 r_42)]) rfl (fun _ => by decide) ⟨rfl,trivial⟩ (.cons (leJ (x:=r_42) (.agg (.cons (.refl _) (.cons (.refl _) (.cons (.refl _) (.cons (.of_eq (congrArg (AV.lst _) (tk (enc:=AV.str) r_42.Keys))) (.cons (.of_eq (congrArg (AV.lst _) (tk (enc:=o5) r_42.Items))) .nil))))))) .nil) rfl rfl rfl) (.inr ⟨⟨nle,rfl⟩,⟨⟨trivial,rfl⟩,trivial⟩⟩) trivial ?_
    refine a0r (a3u (j:=8) (L:=((x_22 ++ [r_42]).map o5)) (len:=(x_22 ++ [r_42]).length) rfl true rfl rfl (fun h => Bool.noConfusion h) (fun _ _ h => (d7j (show AV.own _ _ _ = AV.lst _ _ from h)).elim) (by decide) (c4n (enc:=o5) x_22 [r_42] _ (by rfl)) (by simp <;> omega) g44 rfl rfl) trivial trivial ?_
    refine x8 (.ptr 2 0 4) rfl trivial rfl<|a3i (a0c (v:=(.own 8 0 ((x_22 ++ [r_42]).length))) (y':=(.agg [(.int .i64 j_1.Kind),(.int .i64 j_1.N),(.str j_1.T),(.own 3 0 (([] ++ j_1.Keys).length)),(.own 8 0 ((x_22 ++ [r_42]).length))])) rfl rfl rfl trivial ⟨rfl,nle⟩ ⟨⟨rfl,trivial⟩,trivial⟩ rfl) trivial trivial<|a0b<|a3f<|a0f<|a0s<|l7 (.int .i64 (i_21:Int)) rfl<|x8 (.int .i64 (w64 ((i_21:Int) + 1))) rfl rfl rfl<|l7 (.int .i64 (w64 ((i_21:Int) + 1))) rfl<|a0b<|?_;exact a1q ⟨((i_21 + 1),x_22 ++ [r_42]),hc1⟩ (mul hlt33) ⟨[],[0,1,2,3,8],_,_,rfl,rfl,⟨.refl _,⟨.refl _,⟨.refl _,⟨.of_eq (congrArg (AV.int _) (a1w hlt33 hl41)),trivial⟩⟩⟩⟩,(.refl _)⟩
  ·refine sr<|x8 (.agg [(.int .i64 j_1.Kind),(.int .i64 j_1.N),(.str j_1.T),(.own 2 0 (([] ++ j_1.Keys).length)),(.own 3 0 x_31.length)]) rfl nle rfl<|a2i (a0c (v:=(.agg [(.int .i64 j_1.Kind),(.int .i64 j_1.N),(.str j_1.T),(.own 2 0 (([] ++ j_1.Keys).length)),(.own 3 0 x_31.length)])) (y':=(.agg [(.int .i64 j_1.Kind),(.int .i64 j_1.N),(.str j_1.T),(.own 2 0 (([] ++ j_1.Keys).length)),(.own 3 0 x_31.length)])) rfl rfl rfl trivial ⟨rfl,nle⟩ ⟨⟨rfl,trivial⟩,⟨⟨rfl,trivial⟩,⟨⟨rfl,trivial⟩,⟨⟨rfl,trivial⟩,⟨⟨rfl,trivial⟩,trivial⟩⟩⟩⟩⟩ rfl)<|dk<|a0d<|?_;obtain rfl:=os hf;exact a2k ⟨nle,trivial⟩ rfl (by decide) (leJ (x:=(⟨j_1.Kind,j_1.N,j_1.T,[] ++ j_1.Keys,x_31⟩:o8)) (.agg (.cons (.refl _) (.cons (.refl _) (.cons (.refl _) (.cons (.of_eq (congrArg (AV.lst _) (tk (enc:=AV.str) ([] ++ j_1.Keys)))) (.cons (.of_eq (congrArg (AV.lst _) (tk (enc:=o5) x_31))) .nil)))))))
def a6h:Nat → o8 → Option o8
 | 0,_ => none
 | k + 1,j_1 => b1g (a6h k) j_1
theorem b7f:∀ (k:Nat) (j_1:o8) (r:o8),a6h k j_1 = some r → x9 Tryz.prog 93 .fresh [(o5 j_1)] (o5 r)
 | 0,j_1,r,h => by rw [a6h.eq_1] at h;cases h
 | k + 1,j_1,r,h => by
  rw [a6h.eq_2] at h;exact c2p _ (b7f k) j_1 r h

/- spec.RowJson -/
def c19:a0m :=
 (.seq (.reg (tq 3 (.box 2 (.t 1)) (tq 4 (.box 5 (.c (.agg [(.int .i64 0),(.int .i64 0),(.str []),.nil,.nil]))) (tm 5 (.c (.int .i64 0)) .done))))
 (.seq (.seq (.reg (tm 6 (.t 0) (tq 7 (.len (.t 6)) (tq 8 (.bin .gtr (.t 7) (.c (.int .i64 4096))) .done))))
 (.cond (.t 8) (.seq (.reg (tq 9 (.build [(.int .i64 0),(.int .i64 0),(.str []),.nil,.nil] []) (.q ⟨none,none,.store 5 (.t 4) (.t 9)⟩
 (tm 5 (.c (.int .i64 2)) .done))))
 .ret)
 .skip))
 (.seq (.seq (.reg (tm 10 (.t 0) (tq 11 (.load 2 true (.t 3)) (tq 12 (.call 92 [(.t 10),(.t 11)]) (tq 13 (.not (.t 12)) .done)))))
 (.cond (.t 13) (.seq (.reg (tq 14 (.build [(.int .i64 0),(.int .i64 0),(.str []),.nil,.nil] []) (.q ⟨none,none,.store 5 (.t 4) (.t 14)⟩
 (tm 5 (.c (.int .i64 1)) .done))))
 .ret)
 .skip))
 (.seq (.reg (tm 15 (.t 0) (tq 16 (.load 2 true (.t 3)) (tq 17 (.call 94 [(.t 15),(.t 16)]) (tq 18 (.call 93 [(.t 17)]) (.q ⟨none,none,.store 5 (.t 4) (.t 18)⟩
 (tm 5 (.c (.int .i64 0)) .done)))))))
 .ret))))
theorem e6e:a1a Tryz.prog Tryz.f19 = some (c19.erase,[.load 5 true (.t 4),.mov (.t 5)],19):=by kernel_rfl
def b0d (columns_1:(List Str)) (r_2:a3r):Option (o8 × Int) :=
    if (decide ((columns_1.length:Int) > 4096)) then
    some ((⟨0,0,[],[],[]⟩:o8),2)
    else
    (a8t columns_1 r_2).bind fun r_5 =>
    if (!r_5) then
    some ((⟨0,0,[],[],[]⟩:o8),1)
    else
    (a9p columns_1 r_2).bind fun r_8 =>
    (a6h FUEL r_8).bind fun r_10 =>
    some (r_10,0)
theorem b0e (columns_1:(List Str)) (r_2:a3r) (r:(o8 × Int)) (hf:b0d columns_1 r_2 = some r):x9 Tryz.prog 19 .fresh [(.lst 1 (columns_1.map AV.str)),(a3t r_2)] (.tup [(o5 r.1),(.int .i64 r.2)]):=by
 refine x9.of_awp mixed Tryz.func19 e6e nle ?_;rw [a0j];unfold b0d at hf;unfold c19;refine (show awp Tryz.prog true 0 _ (ofL [(0,(.lst 1 (columns_1.map AV.str))),(1,(a3t r_2))]) [] _ from ?_);refine sr<|y5 (a1i (j:=0) (c:=(.agg [(.int .i64 r_2.Id),(.lst 1 (r_2.Cells.map (a0t 3 l9)))])) rfl trivial rfl rfl)<|y5 (a1i (j:=1) (c:=(.agg [(.int .i64 0),(.int .i64 0),(.str []),.nil,.nil])) rfl trivial rfl rfl)<|l7 (.int .i64 0) rfl<|dk<|o6<|sr<|l7 (.lst 1 (columns_1.map AV.str)) rfl<|a0w (a1r (enc:=AV.str) rfl) fun hl3 => x8 (.bool (decide ((columns_1.length:Int) > 4096))) rfl rfl rfl<|a0b<|?_
 refine a0f ?_
 rcases oi hf with ⟨c4,hf⟩ | ⟨c4,hf⟩
 ·refine y7 rfl c4<|sr<|x8 (.agg [(.int .i64 0),(.int .i64 0),(.str []),.nil,.nil]) rfl trivial rfl<|a2i (a0c (v:=(.agg [(.int .i64 0),(.int .i64 0),(.str []),.nil,.nil])) (y':=(.agg [(.int .i64 0),(.int .i64 0),(.str []),.nil,.nil])) rfl rfl rfl trivial ⟨rfl,nle⟩ ⟨⟨rfl,trivial⟩,⟨⟨rfl,trivial⟩,⟨⟨rfl,trivial⟩,⟨⟨rfl,trivial⟩,⟨⟨rfl,trivial⟩,trivial⟩⟩⟩⟩⟩ rfl)<|l7 (.int .i64 2) rfl<|dk<|a0d<|?_;obtain rfl:=os hf;exact a2k ⟨nle,⟨trivial,trivial⟩⟩ rfl (by decide) (.tup (.cons (leJ (x:=(⟨0,0,[],[],[]⟩:o8)) (.agg (.cons (.refl _) (.cons (.refl _) (.cons (.refl _) (.cons (.nil _) (.cons (.nil _) .nil))))))) (.cons (.refl _) .nil)))
 ·refine y8 rfl (bf c4)<|a0h<|a0f<|o6<|sr<|?_
  obtain ⟨r_5,er6,hf⟩:=ob hf
  refine l7 (.lst 1 (columns_1.map AV.str)) rfl<|x8 (.agg [(.int .i64 r_2.Id),(.lst 1 (r_2.Cells.map (a0t 3 l9)))]) rfl nle rfl<|y5 (a0v (c2n _ _ _ er6) rfl (.refl _) rfl)<|x8 (.bool (!r_5)) rfl trivial rfl<|dk<|?_
  rcases oi hf with ⟨c7,hf⟩ | ⟨c7,hf⟩
  ·refine y7 rfl c7<|sr<|x8 (.agg [(.int .i64 0),(.int .i64 0),(.str []),.nil,.nil]) rfl trivial rfl<|a2i (a0c (v:=(.agg [(.int .i64 0),(.int .i64 0),(.str []),.nil,.nil])) (y':=(.agg [(.int .i64 0),(.int .i64 0),(.str []),.nil,.nil])) rfl rfl rfl trivial ⟨rfl,nle⟩ ⟨⟨rfl,trivial⟩,⟨⟨rfl,trivial⟩,⟨⟨rfl,trivial⟩,⟨⟨rfl,trivial⟩,⟨⟨rfl,trivial⟩,trivial⟩⟩⟩⟩⟩ rfl)<|l7 (.int .i64 1) rfl<|dk<|a0d<|?_;obtain rfl:=os hf;exact a2k ⟨nle,⟨trivial,trivial⟩⟩ rfl (by decide) (.tup (.cons (leJ (x:=(⟨0,0,[],[],[]⟩:o8)) (.agg (.cons (.refl _) (.cons (.refl _) (.cons (.refl _) (.cons (.nil _) (.cons (.nil _) .nil))))))) (.cons (.refl _) .nil)))
  ·refine y8 rfl (bf c7)<|a0h<|a0f<|sr<|?_
   obtain ⟨r_8,er9,hf⟩:=ob hf
   obtain ⟨r_10,er11,hf⟩:=ob hf
   refine l7 (.lst 1 (columns_1.map AV.str)) rfl<|x8 (.agg [(.int .i64 r_2.Id),(.lst 1 (r_2.Cells.map (a0t 3 l9)))]) rfl nle rfl<|y5 (d3s (v:=(.agg [(.int .i64 r_8.Kind),(.int .i64 r_8.N),(.str r_8.T),(.lst 1 (r_8.Keys.map AV.str)),(.lst 5 (r_8.Items.map o5))])) rfl (c6g _ _ _ er9) rfl (.refl _) (by simp only [y9]) rfl)<|y5 (a1m (v:=(.agg [(.int .i64 r_10.Kind),(.int .i64 r_10.N),(.str r_10.T),(.own 2 0 r_10.Keys.length),(.own 3 0 r_10.Items.length)])) (h':=[.row 1 (r_10.Keys.map AV.str),.row 5 (r_10.Items.map o5)]) (b7f FUEL _ _ er11) rfl (.cons (.of_eq (y9 r_8).symm) .nil) (by simp only [a1e,a1c,List.length_map,y9,List.nil_append,List.append_nil,List.cons_append];rfl))<|?_
   refine a2i (a0c (v:=(.agg [(.int .i64 r_10.Kind),(.int .i64 r_10.N),(.str r_10.T),(.own 2 0 r_10.Keys.length),(.own 3 0 r_10.Items.length)])) (y':=(.agg [(.int .i64 r_10.Kind),(.int .i64 r_10.N),(.str r_10.T),(.own 2 0 r_10.Keys.length),(.own 3 0 r_10.Items.length)])) rfl rfl rfl trivial ⟨rfl,nle⟩ ⟨⟨rfl,trivial⟩,⟨⟨rfl,trivial⟩,⟨⟨rfl,trivial⟩,⟨⟨rfl,trivial⟩,⟨⟨rfl,trivial⟩,trivial⟩⟩⟩⟩⟩ rfl)<|l7 (.int .i64 0) rfl<|dk<|a0d<|?_;obtain rfl:=os hf;exact a2k ⟨nle,⟨trivial,trivial⟩⟩ rfl (by decide) (.tup (.cons (leJ (x:=r_10) (.agg (.cons (.refl _) (.cons (.refl _) (.cons (.refl _) (.cons (.of_eq (congrArg (AV.lst _) (tk (enc:=AV.str) r_10.Keys))) (.cons (.of_eq (congrArg (AV.lst _) (tk (enc:=o5) r_10.Items))) .nil))))))) (.cons (.refl _) .nil)))

/- impl.isList[string] -/
def c96:a0m :=
 (.seq (.reg (tm 2 (.c (.bool false)) .done))
 (.seq (.reg (tm 3 (.t 0) (tq 4 (.len (.t 3)) (tq 5 (.bin .leq (.t 4) (.c (.int .i64 4096))) (tm 2 (.t 5) .done)))))
 .ret))
theorem e6f:a1a Tryz.prog Tryz.f96 = some (c96.erase,[.mov (.t 2)],6):=by kernel_rfl
def a7a (list_1:(List Str)):Option Bool :=
    some (decide ((list_1.length:Int) ≤ 4096))
theorem b6e (list_1:(List Str)) (r:Bool) (hf:a7a list_1 = some r):x9 Tryz.prog 96 .flat [(.lst 1 (list_1.map AV.str))] (.bool r):=by
  refine x9.of_awp mixed Tryz.func96 e6f nle ?_
  rw [a0j]
  unfold a7a at hf
  unfold c96
  refine (show awp Tryz.prog false 0 _ (ofL [(0,(.lst 1 (list_1.map AV.str)))]) [] _ from ?_)
  refine o6 ?_
  refine a0s ?_
  refine y5 (a2x (.bool false) rfl) ?_
  refine a0b ?_
  refine a0f ?_
  refine o6 ?_
  refine a0s ?_
  refine y5 (a2x (.lst 1 (list_1.map AV.str)) rfl) ?_
  refine a0w (a1r (enc:=AV.str) rfl) fun hl2 => ?_
  refine y5 (o_q (.bool (decide ((list_1.length:Int) ≤ 4096))) rfl rfl rfl) ?_
  refine y5 (a2x (.bool (decide ((list_1.length:Int) ≤ 4096))) rfl) ?_
  refine a0b ?_
  refine a0f ?_
  refine a0d ?_
  obtain rfl:=os hf
  exact a0e ⟨trivial,trivial⟩ rfl (.refl _)

/- slices.IndexFunc[[]string,string] -/
def e3j:a0m :=
 (.seq (.reg (tm 4 (.c (.int .i64 0)) .done))
 (.seq (.seq (.reg (tm 6 (.t 0) (tq 7 (.len (.t 6)) (tm 8 (.c (.int .i64 0)) .done))))
 (.block 0 (.loop (.seq (.reg (tq 9 (.bin .lss (.t 8) (.t 7)) .done))
 (.seq (.cond (.t 9) .skip
 (.exit 0))
 (.seq (.block 1 (.seq (.reg (tm 10 (.t 8) (tm 5 (.t 10) .done)))
 (.seq (.reg (tm 11 (.t 1) (tm 12 (.t 0) (tm 13 (.t 5) (tq 14 (.iaddr 1 (.t 12) (.t 13)) (tq 15 (.load 1 false (.t 14)) (tq 16 (.calv (.t 11) [(.t 15)]) .done)))))))
 (.cond (.t 16) (.seq (.reg (tm 17 (.t 5) (tm 4 (.t 17) .done)))
 .ret)
 .skip))))
 (.reg (tq 18 (.bin .add (.t 8) (.c (.int .i64 1))) (tm 8 (.t 18) .done)))))))))
 (.cut (.seq (.reg (tq 4 (.mov (.c (.int .i64 (-1)))) .done))
 .ret))))
theorem e3k:a1a Tryz.prog Tryz.f284 = some (e3j.erase,[.mov (.t 4)],19):=by kernel_rfl
def a0x (f_2:(Str → Option Bool)):List Str → Nat → Option (Fl Int Unit)
  | [],s8_17 =>
    some (.go ())
  | x_31 :: xs,s8_17 =>
    (f_2 x_31).bind fun r_32 =>
    if r_32 then
    some (.ret (s8_17:Int))
    else
    a0x f_2 xs (s8_17 + 1)

def a2q (s_1:(List Str)) (f_2:(Str → Option Bool)):Option Int :=
    (a0x f_2 s_1 0).bind fun q => (match q with
    | .ret r => some r
    | .go _ =>
    some (-1))
theorem b0f (s_1:(List Str)) (f_2:(Str → Option Bool)) (r:Int) (hf:a2q s_1 f_2 = some r) (kf_f_2:Nat) (cf_f_2:List AV) (okf_f_2:d2k Tryz.prog kf_f_2 = true) (hcf_f_2:∀ h p,a3h h p cf_f_2 = some cf_f_2) (hrf_f_2:∀ f,a6j f cf_f_2 = cf_f_2) (hpf_f_2:∀ a0 r,f_2 a0 = some r → x9 Tryz.prog kf_f_2 .flat ([(.str a0)] ++ cf_f_2) (.bool r)):x9 Tryz.prog 284 .flat [(.lst 1 (s_1.map AV.str)),(.fn kf_f_2 cf_f_2)] (.int .i64 r):=by
 refine x9.of_awp mixed Tryz.func284 e3k nle ?_;rw [a0j];unfold a2q at hf;unfold e3j;refine (show awp Tryz.prog false 0 _ (ofL [(0,(.lst 1 (s_1.map AV.str))),(1,(.fn kf_f_2 cf_f_2))]) [] _ from ?_);refine sr<|l7 (.int .i64 0) rfl<|dk<|o6<|sr<|l7 (.lst 1 (s_1.map AV.str)) rfl<|a0w (a1r (enc:=AV.str) rfl) fun hl3 => l7 (.int .i64 0) rfl<|dk<|?_
 obtain ⟨p24,hb1,hf⟩:=ob hf
 refine a4n (X:={q:Unit // p24 = .go q}) (fun q => ([],[])) ?_ ?_
 ·refine a1g (X:={q:Nat // a0x f_2 (s_1.drop q) q = some p24}) (fun q => ([(0,(.lst 1 (s_1.map AV.str))),(1,(.fn kf_f_2 cf_f_2)),(7,(.int .i64 (s_1.length:Int))),(8,(.int .i64 (q.1:Int)))],[])) (fun q => s_1.length - q.1) ⟨0,hb1⟩ ⟨[],[],_,_,rfl,rfl,⟨.refl _,⟨.of_eq (congrArg (AV.fn _) (hrf_f_2 _)),⟨.refl _,⟨.refl _,trivial⟩⟩⟩⟩,(.refl _)⟩ ?_
  rintro ⟨s8_17,hc1⟩
  have hc1:a0x f_2 (s_1.drop s8_17) s8_17 = some p24:=hc1
  refine (show awp Tryz.prog false 0 _ (ofL [(0,(.lst 1 (s_1.map AV.str))),(1,(.fn kf_f_2 cf_f_2)),(7,(.int .i64 (s_1.length:Int))),(8,(.int .i64 (s8_17:Int)))]) [] _ from ?_)
  rcases a5z s_1 s8_17 with ⟨hie27,hd30⟩ | ⟨hlt25,x_31,hx26,hd30⟩
  ·rw [hd30,a0x.eq_1] at hc1
   have hq29:=dlf hie27
   refine sr<|x8 (.bool (decide ((s8_17:Int) < (s_1.length:Int)))) rfl rfl rfl<|dk<|o6<|y8 rfl hq29<|a2t<|a2s<|a1y<|a2r<|?_;obtain rfl:=os hc1;exact a6r ⟨_,rfl⟩ ⟨[],[],_,_,rfl,rfl,trivial,(.refl _)⟩
  ·rw [hd30,a0x.eq_2] at hc1
   have hq29:=dlt hlt25
   refine sr<|x8 (.bool (decide ((s8_17:Int) < (s_1.length:Int)))) rfl rfl rfl<|dk<|o6<|y7 rfl hq29<|a0h<|a0f<|o6<|a3g<|sr<|l7 (.int .i64 (s8_17:Int)) rfl<|l7 (.int .i64 (s8_17:Int)) rfl<|dk<|sr<|?_
   obtain ⟨r_32,er33,hc1⟩:=ob hc1
   refine l7 (.fn kf_f_2 cf_f_2) rfl<|l7 (.lst 1 (s_1.map AV.str)) rfl<|l7 (.int .i64 (s8_17:Int)) rfl<|y5 (a2c (enc:=AV.str) rfl rfl hx26)<|x8 (.str x_31) rfl ⟨rfl,rfl⟩ rfl<|y5 (d3t (v:=(.bool r_32)) rfl okf_f_2 hcf_f_2 (hpf_f_2 _ _ er33) rfl (.refl _) rfl)<|dk<|?_
   rcases oi hc1 with ⟨c34,hc1⟩ | ⟨c34,hc1⟩
   ·refine y7 rfl c34<|sr<|l7 (.int .i64 (s8_17:Int)) rfl<|l7 (.int .i64 (s8_17:Int)) rfl<|dk<|a0d<|?_;obtain rfl:=os hc1;obtain rfl:=os hf;exact a0e ⟨trivial,trivial⟩ rfl (.refl _)
   ·refine y8 rfl (bf c34)<|a0h<|a3f<|a0f<|a0s<|x8 (.int .i64 (w64 ((s8_17:Int) + 1))) rfl rfl rfl<|l7 (.int .i64 (w64 ((s8_17:Int) + 1))) rfl<|a0b<|?_;exact a1q ⟨(s8_17 + 1),hc1⟩ (mul hlt25) ⟨[],[],_,_,rfl,rfl,⟨.refl _,⟨.of_eq (congrArg (AV.fn _) (hrf_f_2 _)),⟨.refl _,⟨.of_eq (congrArg (AV.int _) (a1w hlt25 hl3)),trivial⟩⟩⟩⟩,(.refl _)⟩
 ·rintro ⟨_,rfl⟩
  refine sr<|l7 (.int .i64 (-1)) rfl<|dk<|a0d<|?_;obtain rfl:=os hf;exact a0e ⟨trivial,trivial⟩ rfl (.refl _)

/- slices.ContainsFunc[[]string,string] -/
def c194:a0m :=
 (.seq (.reg (tm 4 (.c (.bool false)) .done))
 (.seq (.reg (tm 5 (.t 0) (tm 6 (.t 1) (tq 7 (.call 284 [(.t 5),(.t 6)]) (tq 8 (.bin .geq (.t 7) (.c (.int .i64 0))) (tm 4 (.t 8) .done))))))
 .ret))
theorem e3l:a1a Tryz.prog Tryz.f194 = some (c194.erase,[.mov (.t 4)],9):=by kernel_rfl
def a2e (s_1:(List Str)) (f_2:(Str → Option Bool)):Option Bool :=
    (a2q s_1 f_2).bind fun r_3 =>
    some (decide (r_3 ≥ 0))
theorem a8u (s_1:(List Str)) (f_2:(Str → Option Bool)) (r:Bool) (hf:a2e s_1 f_2 = some r) (kf_f_2:Nat) (cf_f_2:List AV) (okf_f_2:d2k Tryz.prog kf_f_2 = true) (hcf_f_2:∀ h p,a3h h p cf_f_2 = some cf_f_2) (hrf_f_2:∀ f,a6j f cf_f_2 = cf_f_2) (hpf_f_2:∀ a0 r,f_2 a0 = some r → x9 Tryz.prog kf_f_2 .flat ([(.str a0)] ++ cf_f_2) (.bool r)):x9 Tryz.prog 194 .flat [(.lst 1 (s_1.map AV.str)),(.fn kf_f_2 cf_f_2)] (.bool r):=by
  refine x9.of_awp mixed Tryz.func194 e3l nle ?_
  rw [a0j]
  unfold a2e at hf
  unfold c194
  refine (show awp Tryz.prog false 0 _ (ofL [(0,(.lst 1 (s_1.map AV.str))),(1,(.fn kf_f_2 cf_f_2))]) [] _ from ?_)
  refine o6 ?_
  refine a0s ?_
  refine y5 (a2x (.bool false) rfl) ?_
  refine a0b ?_
  refine a0f ?_
  refine o6 ?_
  refine a0s ?_
  obtain ⟨r_3,er4,hf⟩:=ob hf
  refine y5 (a2x (.lst 1 (s_1.map AV.str)) rfl) ?_
  refine y5 (a2x (.fn kf_f_2 cf_f_2) rfl) ?_
  refine y5 (a0v (b0f _ _ _ er4 kf_f_2 cf_f_2 okf_f_2 hcf_f_2 hrf_f_2 hpf_f_2) (b9i rfl (b9i (d7f hcf_f_2) rfl)) (.refl _) rfl) ?_
  refine y5 (o_q (.bool (decide (r_3 ≥ 0))) rfl rfl rfl) ?_
  refine y5 (a2x (.bool (decide (r_3 ≥ 0))) rfl) ?_
  refine a0b ?_
  refine a0f ?_
  refine a0d ?_
  obtain rfl:=os hf
  exact a0e ⟨trivial,trivial⟩ rfl (.refl _)

/- impl.isDigit -/
def e3m:a0m :=
 (.seq (.reg (tm 2 (.c (.bool false)) .done))
 (.seq (.reg (tm 3 (.t 0) (tq 4 (.bin .geq (.t 3) (.c (.int .u8 48))) (tm 5 (.t 4) (tg 6 5 true (.mov (.t 0)) (tg 7 5 true (.bin .leq (.t 6) (.c (.int .u8 57))) (tq 8 (.pick (.t 5) (.t 7) (.c (.bool false))) (tm 2 (.t 8) .done))))))))
 .ret))
theorem e3n:a1a Tryz.prog Tryz.f278 = some (e3m.erase,[.mov (.t 2)],9):=by kernel_rfl
def b0g (b_1:Int):Option Bool :=
    if (decide (b_1 ≥ 48)) then
    some (decide (b_1 ≤ 57))
    else
    some false
theorem c4v (b_1:Int) (r:Bool) (hf:b0g b_1 = some r):x9 Tryz.prog 278 .flat [(.int .u8 b_1)] (.bool r):=by
 refine x9.of_awp mixed Tryz.func278 e3n nle ?_;rw [a0j];unfold b0g at hf;unfold e3m;refine (show awp Tryz.prog false 0 _ (ofL [(0,(.int .u8 b_1))]) [] _ from ?_);refine sr<|l7 (.bool false) rfl<|dk<|sr<|?_
 rcases oi hf with ⟨c2,hf⟩ | ⟨c2,hf⟩
 ·refine l7 (.int .u8 b_1) rfl<|x8 (.bool (decide (b_1 ≥ 48))) rfl rfl rfl<|l7 (.bool (decide (b_1 ≥ 48))) rfl<|a1p (s:=5) (b:=true) rfl c2<|s_on rfl<|l7 (.int .u8 b_1) rfl<|s_on rfl<|x8 (.bool (decide (b_1 ≤ 57))) rfl rfl rfl<|x8 (.bool (decide (b_1 ≤ 57))) rfl trivial rfl<|l7 (.bool (decide (b_1 ≤ 57))) rfl<|dk<|a0d<|?_;obtain rfl:=os hf;exact a0e ⟨trivial,trivial⟩ rfl (.refl _)
 ·refine l7 (.int .u8 b_1) rfl<|x8 (.bool (decide (b_1 ≥ 48))) rfl rfl rfl<|l7 (.bool (decide (b_1 ≥ 48))) rfl<|a1p (s:=5) (b:=false) rfl (bf c2)<|a0g rfl rfl<|a0g rfl rfl<|x8 (.bool false) rfl trivial rfl<|l7 (.bool false) rfl<|dk<|a0d<|?_;obtain rfl:=os hf;exact a0e ⟨trivial,trivial⟩ rfl (.refl _)

/- impl.within -/
def c81:a0m :=
 (.seq (.reg (tm 6 (.c (.bool false)) .done))
 (.seq (.reg (tm 7 (.t 0) (tm 8 (.t 1) (tq 9 (.bin .geq (.t 7) (.t 8)) (tm 10 (.t 9) (tg 11 10 true (.mov (.t 0)) (tg 12 10 true (.mov (.t 2)) (tg 13 10 true (.bin .leq (.t 11) (.t 12)) (tq 14 (.pick (.t 10) (.t 13) (.c (.bool false))) (tm 6 (.t 14) .done))))))))))
 .ret))
theorem e6g:a1a Tryz.prog Tryz.f81 = some (c81.erase,[.mov (.t 6)],15):=by kernel_rfl
def a6y (n_1:Int) (low_2:Int) (high_3:Int):Option Bool :=
    if (decide (n_1 ≥ low_2)) then
    some (decide (n_1 ≤ high_3))
    else
    some false
theorem a8v (n_1:Int) (low_2:Int) (high_3:Int) (r:Bool) (hf:a6y n_1 low_2 high_3 = some r):x9 Tryz.prog 81 .flat [(.int .i64 n_1),(.int .i64 low_2),(.int .i64 high_3)] (.bool r):=by
 refine x9.of_awp mixed Tryz.func81 e6g nle ?_;rw [a0j];unfold a6y at hf;unfold c81;refine (show awp Tryz.prog false 0 _ (ofL [(0,(.int .i64 n_1)),(1,(.int .i64 low_2)),(2,(.int .i64 high_3))]) [] _ from ?_);refine sr<|l7 (.bool false) rfl<|dk<|sr<|?_
 rcases oi hf with ⟨c4,hf⟩ | ⟨c4,hf⟩
 ·refine l7 (.int .i64 n_1) rfl<|l7 (.int .i64 low_2) rfl<|x8 (.bool (decide (n_1 ≥ low_2))) rfl rfl rfl<|l7 (.bool (decide (n_1 ≥ low_2))) rfl<|a1p (s:=10) (b:=true) rfl c4<|s_on rfl<|l7 (.int .i64 n_1) rfl<|s_on rfl<|l7 (.int .i64 high_3) rfl<|s_on rfl<|x8 (.bool (decide (n_1 ≤ high_3))) rfl rfl rfl<|x8 (.bool (decide (n_1 ≤ high_3))) rfl trivial rfl<|l7 (.bool (decide (n_1 ≤ high_3))) rfl<|dk<|a0d<|?_;obtain rfl:=os hf;exact a0e ⟨trivial,trivial⟩ rfl (.refl _)
 ·refine l7 (.int .i64 n_1) rfl<|l7 (.int .i64 low_2) rfl<|x8 (.bool (decide (n_1 ≥ low_2))) rfl rfl rfl<|l7 (.bool (decide (n_1 ≥ low_2))) rfl<|a1p (s:=10) (b:=false) rfl (bf c4)<|a0g rfl rfl<|a0g rfl rfl<|a0g rfl rfl<|x8 (.bool false) rfl trivial rfl<|l7 (.bool false) rfl<|dk<|a0d<|?_;obtain rfl:=os hf;exact a0e ⟨trivial,trivial⟩ rfl (.refl _)

/- impl.NameOK -/
def e3o:a0m :=
 (.seq (.reg (tm 2 (.c (.bool false)) .done))
 (.seq (.seq (.reg (tm 6 (.t 0) (tq 7 (.lenS (.t 6)) (tm 8 (.c (.int .i64 0)) .done))))
 (.block 0 (.loop (.seq (.reg (tq 9 (.bin .lss (.t 8) (.t 7)) .done))
 (.seq (.cond (.t 9) .skip
 (.exit 0))
 (.seq (.block 1 (.seq (.reg (tm 10 (.t 8) (tm 3 (.t 10) .done)))
 (.seq (.reg (tm 11 (.t 0) (tm 12 (.t 3) (tq 13 (.idxs (.t 11) (.t 12)) (tm 4 (.t 13) .done)))))
 (.seq (.reg (tm 14 (.t 4) (tq 15 (.bin .geq (.t 14) (.c (.int .u8 97))) (tm 16 (.t 15) (tg 17 16 true (.mov (.t 4)) (tg 18 16 true (.bin .leq (.t 17) (.c (.int .u8 122))) (tq 19 (.pick (.t 16) (.t 18) (.c (.bool false))) (tm 20 (.t 19) (tg 21 20 false (.mov (.t 4)) (tg 22 20 false (.bin .geq (.t 21) (.c (.int .u8 65))) (tg 23 20 false (.mov (.t 22)) (tg 24 23 true (.mov (.t 4)) (tg 25 23 true (.bin .leq (.t 24) (.c (.int .u8 90))) (tg 26 20 false (.pick (.t 23) (.t 25) (.c (.bool false))) (tq 27 (.pick (.t 20) (.c (.bool true)) (.t 26)) (tm 28 (.t 27) (tg 29 28 false (.mov (.t 4)) (tg 30 28 false (.bin .eql (.t 29) (.c (.int .u8 95))) (tq 31 (.pick (.t 28) (.c (.bool true)) (.t 30)) (tm 5 (.t 31) .done))))))))))))))))))))
 (.cut (.seq (.reg (tm 32 (.t 5) (tq 33 (.not (.t 32)) (tm 34 (.t 33) (tg 35 34 true (.mov (.t 3)) (tg 36 34 true (.bin .eql (.t 35) (.c (.int .i64 0))) (tg 37 34 true (.mov (.t 36)) (tg 38 37 false (.mov (.t 4)) (tg 39 37 false (.call 278 [(.t 38)]) (tg 40 37 false (.not (.t 39)) (tg 41 34 true (.pick (.t 37) (.c (.bool true)) (.t 40)) (tq 42 (.pick (.t 34) (.t 41) (.c (.bool false))) .done))))))))))))
 (.cut (.cond (.t 42) (.seq (.reg (tm 2 (.c (.bool false)) .done))
 .ret)
 .skip))))))))
 (.reg (tq 43 (.bin .add (.t 8) (.c (.int .i64 1))) (tm 8 (.t 43) .done)))))))))
 (.cut (.seq (.reg (tm 44 (.t 0) (tq 45 (.lenS (.t 44)) (tq 46 (.call 81 [(.t 45),(.c (.int .i64 1)),(.c (.int .i64 40))]) (tm 2 (.t 46) .done)))))
 .ret))))
theorem e3p:a1a Tryz.prog Tryz.f186 = some (e3o.erase,[.mov (.t 2)],47):=by kernel_rfl
def a4r :List UInt8 → Nat → Option (Fl Bool Unit)
  | [],s8_28 =>
    some (.go ())
  | x_51 :: xs,s8_28 =>
    ((some ():Option Unit)).bind fun _ =>
    ((if (!(bif (bif (bif (decide ((x_51.toNat:Int) ≥ 97)) then (decide ((x_51.toNat:Int) ≤ 122)) else false) then true else (bif (decide ((x_51.toNat:Int) ≥ 65)) then (decide ((x_51.toNat:Int) ≤ 90)) else false)) then true else ((x_51.toNat:Int) == 95))) then
    if ((s8_28:Int) == 0) then
    some true
    else
    (b0g (x_51.toNat:Int)).bind fun r_61 =>
    some (!r_61)
    else
    some false:Option Bool)).bind fun s42_57 =>
    if s42_57 then
    some (.ret false)
    else
    a4r xs (s8_28 + 1)

def b1s (t_1:Str):Option Bool :=
    (a4r t_1 0).bind fun q => (match q with
    | .ret r => some r
    | .go _ =>
    (a6y (t_1.length:Int) 1 40).bind fun r_65 =>
    some r_65)
theorem c6h (t_1:Str) (r:Bool) (hf:b1s t_1 = some r):x9 Tryz.prog 186 .flat [(.str t_1)] (.bool r):=by
 refine x9.of_awp mixed Tryz.func186 e3p nle ?_;rw [a0j];unfold b1s at hf;unfold e3o;refine (show awp Tryz.prog false 0 _ (ofL [(0,(.str t_1))]) [] _ from ?_);refine sr<|l7 (.bool false) rfl<|dk<|o6<|sr<|l7 (.str t_1) rfl<|a0w (b2d rfl) fun hl2 => l7 (.int .i64 0) rfl<|dk<|?_
 obtain ⟨p44,hb1,hf⟩:=ob hf
 refine a4n (X:={q:Unit // p44 = .go q}) (fun q => ([(0,(.str t_1))],[])) ?_ ?_
 ·refine a1g (X:={q:Nat // a4r (t_1.drop q) q = some p44}) (fun q => ([(0,(.str t_1)),(7,(.int .i64 (t_1.length:Int))),(8,(.int .i64 (q.1:Int)))],[])) (fun q => t_1.length - q.1) ⟨0,hb1⟩ ⟨[],[],_,_,rfl,rfl,⟨.refl _,⟨.refl _,⟨.refl _,trivial⟩⟩⟩,(.refl _)⟩ ?_
  rintro ⟨s8_28,hc1⟩
  have hc1:a4r (t_1.drop s8_28) s8_28 = some p44:=hc1
  refine (show awp Tryz.prog false 0 _ (ofL [(0,(.str t_1)),(7,(.int .i64 (t_1.length:Int))),(8,(.int .i64 (s8_28:Int)))]) [] _ from ?_)
  rcases a5z t_1 s8_28 with ⟨hie47,hd50⟩ | ⟨hlt45,x_51,hx46,hd50⟩
  ·rw [hd50,a4r.eq_1] at hc1
   have hq49:=dlf hie47
   refine sr<|x8 (.bool (decide ((s8_28:Int) < (t_1.length:Int)))) rfl rfl rfl<|dk<|o6<|y8 rfl hq49<|a2t<|a2s<|a1y<|a2r<|?_;obtain rfl:=os hc1;exact a6r ⟨_,rfl⟩ ⟨[],[],_,_,rfl,rfl,⟨.refl _,trivial⟩,(.refl _)⟩
  ·rw [hd50,a4r.eq_2] at hc1
   have hq49:=dlt hlt45
   refine sr<|x8 (.bool (decide ((s8_28:Int) < (t_1.length:Int)))) rfl rfl rfl<|dk<|o6<|y7 rfl hq49<|a0h<|a0f<|o6<|a3g<|sr<|l7 (.int .i64 (s8_28:Int)) rfl<|l7 (.int .i64 (s8_28:Int)) rfl<|dk<|sr<|l7 (.str t_1) rfl<|l7 (.int .i64 (s8_28:Int)) rfl<|y5 (b1d rfl rfl hx46)<|l7 (.int .u8 (x_51.toNat:Int)) rfl<|dk<|o6<|?_
   obtain ⟨p52,hb2,hc1⟩:=ob hc1
   refine a2a ([(0,(.str t_1)),(3,(.int .i64 (s8_28:Int))),(4,(.int .u8 (x_51.toNat:Int))),(5,(.bool (bif (bif (bif (decide ((x_51.toNat:Int) ≥ 97)) then (decide ((x_51.toNat:Int) ≤ 122)) else false) then true else (bif (decide ((x_51.toNat:Int) ≥ 65)) then (decide ((x_51.toNat:Int) ≤ 90)) else false)) then true else ((x_51.toNat:Int) == 95)))),(7,(.int .i64 (t_1.length:Int))),(8,(.int .i64 (s8_28:Int)))],[]) ?_ ?_
   ·refine a0s<|l7 (.int .u8 (x_51.toNat:Int)) rfl<|x8 (.bool (decide ((x_51.toNat:Int) ≥ 97))) rfl rfl rfl<|l7 (.bool (decide ((x_51.toNat:Int) ≥ 97))) rfl<|?_;refine s_g (v:=(decide ((x_51.toNat:Int) ≥ 97))) (.int .u8 (x_51.toNat:Int)) rfl (fun hv => by (try simp only [a1s hv]);exact ⟨rfl,trivial,rfl⟩) ?_;refine s_g (v:=(decide ((x_51.toNat:Int) ≥ 97))) (.bool (decide ((x_51.toNat:Int) ≤ 122))) rfl (fun hv => by (try simp only [a1s hv]);exact ⟨rfl,rfl,rfl⟩) ?_;refine b3q (x:=(decide ((x_51.toNat:Int) ≤ 122))) (y:=false) rfl (fun hv => by (try simp only [a1s hv]);rfl) (fun hv => by (try simp only [a1s hv]);rfl) ?_;refine l7 (.bool (bif (decide ((x_51.toNat:Int) ≥ 97)) then (decide ((x_51.toNat:Int) ≤ 122)) else false)) rfl ?_
    refine s_g (v:=(bif (decide ((x_51.toNat:Int) ≥ 97)) then (decide ((x_51.toNat:Int) ≤ 122)) else false)) (.int .u8 (x_51.toNat:Int)) rfl (fun hv => by (try simp only [a1s hv]);exact ⟨rfl,trivial,rfl⟩) ?_;refine s_g (v:=(bif (decide ((x_51.toNat:Int) ≥ 97)) then (decide ((x_51.toNat:Int) ≤ 122)) else false)) (.bool (decide ((x_51.toNat:Int) ≥ 65))) rfl (fun hv => by (try simp only [a1s hv]);exact ⟨rfl,rfl,rfl⟩) ?_;refine s_g (v:=(bif (decide ((x_51.toNat:Int) ≥ 97)) then (decide ((x_51.toNat:Int) ≤ 122)) else false)) (.bool (decide ((x_51.toNat:Int) ≥ 65))) rfl (fun hv => by (try simp only [a1s hv]);exact ⟨rfl,trivial,rfl⟩) ?_;refine d9n (v1:=(bif (decide ((x_51.toNat:Int) ≥ 97)) then (decide ((x_51.toNat:Int) ≤ 122)) else false)) (b1:=false) (v2:=(decide ((x_51.toNat:Int) ≥ 65))) (.int .u8 (x_51.toNat:Int)) rfl (fun hv hw => by (try simp only [a1s hv,a1s hw]);exact ⟨rfl,trivial,rfl⟩) ?_
    refine d9n (v1:=(bif (decide ((x_51.toNat:Int) ≥ 97)) then (decide ((x_51.toNat:Int) ≤ 122)) else false)) (b1:=false) (v2:=(decide ((x_51.toNat:Int) ≥ 65))) (.bool (decide ((x_51.toNat:Int) ≤ 90))) rfl (fun hv hw => by (try simp only [a1s hv,a1s hw]);exact ⟨rfl,rfl,rfl⟩) ?_;refine e1y (v1:=(bif (decide ((x_51.toNat:Int) ≥ 97)) then (decide ((x_51.toNat:Int) ≤ 122)) else false)) (b1:=false) (v2:=(decide ((x_51.toNat:Int) ≥ 65))) (x:=(decide ((x_51.toNat:Int) ≤ 90))) (y:=false) rfl (fun hv => by (try simp only [a1s hv]);rfl) (fun hv hw => by (try simp only [a1s hv,a1s hw]);rfl) (fun hv hw => by (try simp only [a1s hv,a1s hw]);rfl) ?_;refine b3q (x:=true) (y:=(bif (decide ((x_51.toNat:Int) ≥ 65)) then (decide ((x_51.toNat:Int) ≤ 90)) else false)) rfl (fun hv => by (try simp only [a1s hv]);rfl) (fun hv => by (try simp only [a1s hv]);rfl) ?_
    refine l7 (.bool (bif (bif (decide ((x_51.toNat:Int) ≥ 97)) then (decide ((x_51.toNat:Int) ≤ 122)) else false) then true else (bif (decide ((x_51.toNat:Int) ≥ 65)) then (decide ((x_51.toNat:Int) ≤ 90)) else false))) rfl ?_;refine s_g (v:=(bif (bif (decide ((x_51.toNat:Int) ≥ 97)) then (decide ((x_51.toNat:Int) ≤ 122)) else false) then true else (bif (decide ((x_51.toNat:Int) ≥ 65)) then (decide ((x_51.toNat:Int) ≤ 90)) else false))) (.int .u8 (x_51.toNat:Int)) rfl (fun hv => by (try simp only [a1s hv]);exact ⟨rfl,trivial,rfl⟩) ?_;refine s_g (v:=(bif (bif (decide ((x_51.toNat:Int) ≥ 97)) then (decide ((x_51.toNat:Int) ≤ 122)) else false) then true else (bif (decide ((x_51.toNat:Int) ≥ 65)) then (decide ((x_51.toNat:Int) ≤ 90)) else false))) (.bool ((x_51.toNat:Int) == 95)) rfl (fun hv => by (try simp only [a1s hv]);exact ⟨rfl,rfl,rfl⟩) ?_
    refine b3q (x:=true) (y:=((x_51.toNat:Int) == 95)) rfl (fun hv => by (try simp only [a1s hv]);rfl) (fun hv => by (try simp only [a1s hv]);rfl) ?_;refine l7 (.bool (bif (bif (bif (decide ((x_51.toNat:Int) ≥ 97)) then (decide ((x_51.toNat:Int) ≤ 122)) else false) then true else (bif (decide ((x_51.toNat:Int) ≥ 65)) then (decide ((x_51.toNat:Int) ≤ 90)) else false)) then true else ((x_51.toNat:Int) == 95))) rfl<|a0b<|?_;obtain rfl:=os hb2;exact ⟨[],[],_,_,rfl,rfl,⟨.refl _,⟨.refl _,⟨.refl _,⟨.refl _,⟨.refl _,⟨.refl _,trivial⟩⟩⟩⟩⟩⟩,(.refl _)⟩
   ·refine o6 ?_
    obtain ⟨s42_57,hb2,hc1⟩:=ob hc1
    refine a2a ([(0,(.str t_1)),(7,(.int .i64 (t_1.length:Int))),(8,(.int .i64 (s8_28:Int))),(42,(.bool s42_57))],[]) ?_ ?_
    ·refine a0s ?_
     rcases oi hb2 with ⟨c59,hb2⟩ | ⟨c59,hb2⟩
     ·rcases oi hb2 with ⟨c60,hb2⟩ | ⟨c60,hb2⟩
      ·refine l7 (.bool (bif (bif (bif (decide ((x_51.toNat:Int) ≥ 97)) then (decide ((x_51.toNat:Int) ≤ 122)) else false) then true else (bif (decide ((x_51.toNat:Int) ≥ 65)) then (decide ((x_51.toNat:Int) ≤ 90)) else false)) then true else ((x_51.toNat:Int) == 95))) rfl<|x8 (.bool (!(bif (bif (bif (decide ((x_51.toNat:Int) ≥ 97)) then (decide ((x_51.toNat:Int) ≤ 122)) else false) then true else (bif (decide ((x_51.toNat:Int) ≥ 65)) then (decide ((x_51.toNat:Int) ≤ 90)) else false)) then true else ((x_51.toNat:Int) == 95)))) rfl trivial rfl<|l7 (.bool (!(bif (bif (bif (decide ((x_51.toNat:Int) ≥ 97)) then (decide ((x_51.toNat:Int) ≤ 122)) else false) then true else (bif (decide ((x_51.toNat:Int) ≥ 65)) then (decide ((x_51.toNat:Int) ≤ 90)) else false)) then true else ((x_51.toNat:Int) == 95)))) rfl<|?_
       refine a1p (s:=34) (b:=true) rfl c59<|s_on rfl<|l7 (.int .i64 (s8_28:Int)) rfl<|s_on rfl<|x8 (.bool ((s8_28:Int) == 0)) rfl rfl rfl<|s_on rfl<|l7 (.bool ((s8_28:Int) == 0)) rfl<|a1p (s:=37) (b:=true) rfl c60<|a0g rfl rfl<|a0g rfl rfl<|a0g rfl rfl<|s_on rfl<|x8 (.bool true) rfl trivial rfl<|x8 (.bool true) rfl trivial rfl<|a0b<|?_;obtain rfl:=os hb2;exact ⟨[],[],_,_,rfl,rfl,⟨.refl _,⟨.refl _,⟨.refl _,⟨.refl _,trivial⟩⟩⟩⟩,(.refl _)⟩
      ·obtain ⟨r_61,er62,hb2⟩:=ob hb2
       refine l7 (.bool (bif (bif (bif (decide ((x_51.toNat:Int) ≥ 97)) then (decide ((x_51.toNat:Int) ≤ 122)) else false) then true else (bif (decide ((x_51.toNat:Int) ≥ 65)) then (decide ((x_51.toNat:Int) ≤ 90)) else false)) then true else ((x_51.toNat:Int) == 95))) rfl<|x8 (.bool (!(bif (bif (bif (decide ((x_51.toNat:Int) ≥ 97)) then (decide ((x_51.toNat:Int) ≤ 122)) else false) then true else (bif (decide ((x_51.toNat:Int) ≥ 65)) then (decide ((x_51.toNat:Int) ≤ 90)) else false)) then true else ((x_51.toNat:Int) == 95)))) rfl trivial rfl<|l7 (.bool (!(bif (bif (bif (decide ((x_51.toNat:Int) ≥ 97)) then (decide ((x_51.toNat:Int) ≤ 122)) else false) then true else (bif (decide ((x_51.toNat:Int) ≥ 65)) then (decide ((x_51.toNat:Int) ≤ 90)) else false)) then true else ((x_51.toNat:Int) == 95)))) rfl<|?_
       refine a1p (s:=34) (b:=true) rfl c59<|s_on rfl<|l7 (.int .i64 (s8_28:Int)) rfl<|s_on rfl<|x8 (.bool ((s8_28:Int) == 0)) rfl rfl rfl<|s_on rfl<|l7 (.bool ((s8_28:Int) == 0)) rfl<|a1p (s:=37) (b:=false) rfl (bf c60)<|s_on rfl<|l7 (.int .u8 (x_51.toNat:Int)) rfl<|s_on rfl<|y5 (a0v (c4v _ _ er62) rfl (.refl _) rfl)<|s_on rfl<|x8 (.bool (!r_61)) rfl trivial rfl<|s_on rfl<|x8 (.bool (!r_61)) rfl trivial rfl<|x8 (.bool (!r_61)) rfl trivial rfl<|a0b<|?_;obtain rfl:=os hb2;exact ⟨[],[],_,_,rfl,rfl,⟨.refl _,⟨.refl _,⟨.refl _,⟨.refl _,trivial⟩⟩⟩⟩,(.refl _)⟩
     ·refine l7 (.bool (bif (bif (bif (decide ((x_51.toNat:Int) ≥ 97)) then (decide ((x_51.toNat:Int) ≤ 122)) else false) then true else (bif (decide ((x_51.toNat:Int) ≥ 65)) then (decide ((x_51.toNat:Int) ≤ 90)) else false)) then true else ((x_51.toNat:Int) == 95))) rfl<|x8 (.bool (!(bif (bif (bif (decide ((x_51.toNat:Int) ≥ 97)) then (decide ((x_51.toNat:Int) ≤ 122)) else false) then true else (bif (decide ((x_51.toNat:Int) ≥ 65)) then (decide ((x_51.toNat:Int) ≤ 90)) else false)) then true else ((x_51.toNat:Int) == 95)))) rfl trivial rfl<|l7 (.bool (!(bif (bif (bif (decide ((x_51.toNat:Int) ≥ 97)) then (decide ((x_51.toNat:Int) ≤ 122)) else false) then true else (bif (decide ((x_51.toNat:Int) ≥ 65)) then (decide ((x_51.toNat:Int) ≤ 90)) else false)) then true else ((x_51.toNat:Int) == 95)))) rfl<|?_
      refine a1p (s:=34) (b:=false) rfl (bf c59)<|a0g rfl rfl<|a0g rfl rfl<|a0g rfl rfl<|a2w rfl<|a2w rfl<|a2w rfl<|a0g rfl rfl<|x8 (.bool false) rfl trivial rfl<|a0b<|?_;obtain rfl:=os hb2;exact ⟨[],[],_,_,rfl,rfl,⟨.refl _,⟨.refl _,⟨.refl _,⟨.refl _,trivial⟩⟩⟩⟩,(.refl _)⟩
    ·rcases oi hc1 with ⟨c63,hc1⟩ | ⟨c63,hc1⟩
     ·refine y7 rfl c63<|sr<|l7 (.bool false) rfl<|dk<|a0d<|?_;obtain rfl:=os hc1;obtain rfl:=os hf;exact a0e ⟨trivial,trivial⟩ rfl (.refl _)
     ·refine y8 rfl (bf c63)<|a0h<|a3f<|a0f<|a0s<|x8 (.int .i64 (w64 ((s8_28:Int) + 1))) rfl rfl rfl<|l7 (.int .i64 (w64 ((s8_28:Int) + 1))) rfl<|a0b<|?_;exact a1q ⟨(s8_28 + 1),hc1⟩ (mul hlt45) ⟨[],[],_,_,rfl,rfl,⟨.refl _,⟨.refl _,⟨.of_eq (congrArg (AV.int _) (a1w hlt45 hl2)),trivial⟩⟩⟩,(.refl _)⟩
 ·rintro ⟨_,rfl⟩
  refine sr<|?_
  obtain ⟨r_65,er66,hf⟩:=ob hf
  refine l7 (.str t_1) rfl<|a0w (b2d rfl) fun hl64 => y5 (a0v (a8v _ _ _ _ er66) rfl (.refl _) rfl)<|l7 (.bool r_65) rfl<|dk<|a0d<|?_;obtain rfl:=os hf;exact a0e ⟨trivial,trivial⟩ rfl (.refl _)

/- impl.rowFits$1 -/
def e3q:a0m :=
 (.seq (.reg (tm 2 (.c (.bool false)) .done))
 (.seq (.reg (tm 3 (.t 0) (tq 4 (.call 186 [(.t 3)]) (tq 5 (.not (.t 4)) (tm 2 (.t 5) .done)))))
 .ret))
theorem e3r:a1a Tryz.prog Tryz.f195 = some (e3q.erase,[.mov (.t 2)],6):=by kernel_rfl
def b0h (name_1:Str):Option Bool :=
    (b1s name_1).bind fun r_2 =>
    some (!r_2)
theorem c0u (name_1:Str) (r:Bool) (hf:b0h name_1 = some r):x9 Tryz.prog 195 .flat [(.str name_1)] (.bool r):=by
  refine x9.of_awp mixed Tryz.func195 e3r nle ?_
  rw [a0j]
  unfold b0h at hf
  unfold e3q
  refine (show awp Tryz.prog false 0 _ (ofL [(0,(.str name_1))]) [] _ from ?_)
  refine o6 ?_
  refine a0s ?_
  refine y5 (a2x (.bool false) rfl) ?_
  refine a0b ?_
  refine a0f ?_
  refine o6 ?_
  refine a0s ?_
  obtain ⟨r_2,er3,hf⟩:=ob hf
  refine y5 (a2x (.str name_1) rfl) ?_
  refine y5 (a0v (c6h _ _ er3) rfl (.refl _) rfl) ?_
  refine y5 (o_q (.bool (!r_2)) rfl trivial rfl) ?_
  refine y5 (a2x (.bool (!r_2)) rfl) ?_
  refine a0b ?_
  refine a0f ?_
  refine a0d ?_
  obtain rfl:=os hf
  exact a0e ⟨trivial,trivial⟩ rfl (.refl _)

/- slices.IndexFunc[[][]impl.Atom,[]impl.Atom] -/
def e3s:a0m :=
 (.seq (.reg (tm 4 (.c (.int .i64 0)) .done))
 (.seq (.seq (.reg (tm 6 (.t 0) (tq 7 (.len (.t 6)) (tm 8 (.c (.int .i64 0)) .done))))
 (.block 0 (.loop (.seq (.reg (tq 9 (.bin .lss (.t 8) (.t 7)) .done))
 (.seq (.cond (.t 9) .skip
 (.exit 0))
 (.seq (.block 1 (.seq (.reg (tm 10 (.t 8) (tm 5 (.t 10) .done)))
 (.seq (.reg (tm 11 (.t 1) (tm 12 (.t 0) (tm 13 (.t 5) (tq 14 (.iaddr 1 (.t 12) (.t 13)) (tq 15 (.load 1 false (.t 14)) (tq 16 (.calv (.t 11) [(.t 15)]) .done)))))))
 (.cond (.t 16) (.seq (.reg (tm 17 (.t 5) (tm 4 (.t 17) .done)))
 .ret)
 .skip))))
 (.reg (tq 18 (.bin .add (.t 8) (.c (.int .i64 1))) (tm 8 (.t 18) .done)))))))))
 (.cut (.seq (.reg (tq 4 (.mov (.c (.int .i64 (-1)))) .done))
 .ret))))
theorem e3t:a1a Tryz.prog Tryz.f334 = some (e3s.erase,[.mov (.t 4)],19):=by kernel_rfl
def a0p (f_2:((List a0a) → Option Bool)):List (List a0a) → Nat → Option (Fl Int Unit)
  | [],s8_17 =>
    some (.go ())
  | x_31 :: xs,s8_17 =>
    (f_2 x_31).bind fun r_32 =>
    if r_32 then
    some (.ret (s8_17:Int))
    else
    a0p f_2 xs (s8_17 + 1)

def a1t (s_1:(List (List a0a))) (f_2:((List a0a) → Option Bool)):Option Int :=
    (a0p f_2 s_1 0).bind fun q => (match q with
    | .ret r => some r
    | .go _ =>
    some (-1))
theorem a7n (s_1:(List (List a0a))) (f_2:((List a0a) → Option Bool)) (r:Int) (hf:a1t s_1 f_2 = some r) (kf_f_2:Nat) (cf_f_2:List AV) (okf_f_2:d2k Tryz.prog kf_f_2 = true) (hcf_f_2:∀ h p,a3h h p cf_f_2 = some cf_f_2) (hrf_f_2:∀ f,a6j f cf_f_2 = cf_f_2) (hpf_f_2:∀ a0 r,f_2 a0 = some r → x9 Tryz.prog kf_f_2 .flat ([(.lst 3 (a0.map l9))] ++ cf_f_2) (.bool r)):x9 Tryz.prog 334 .flat [(.lst 1 (s_1.map (a0t 3 l9))),(.fn kf_f_2 cf_f_2)] (.int .i64 r):=by
 refine x9.of_awp mixed Tryz.func334 e3t nle ?_;rw [a0j];unfold a1t at hf;unfold e3s;refine (show awp Tryz.prog false 0 _ (ofL [(0,(.lst 1 (s_1.map (a0t 3 l9)))),(1,(.fn kf_f_2 cf_f_2))]) [] _ from ?_);refine sr<|l7 (.int .i64 0) rfl<|dk<|o6<|sr<|l7 (.lst 1 (s_1.map (a0t 3 l9))) rfl<|a0w (a1r (enc:=(a0t 3 l9)) rfl) fun hl3 => l7 (.int .i64 0) rfl<|dk<|?_
 obtain ⟨p24,hb1,hf⟩:=ob hf
 refine a4n (X:={q:Unit // p24 = .go q}) (fun q => ([],[])) ?_ ?_
 ·refine a1g (X:={q:Nat // a0p f_2 (s_1.drop q) q = some p24}) (fun q => ([(0,(.lst 1 (s_1.map (a0t 3 l9)))),(1,(.fn kf_f_2 cf_f_2)),(7,(.int .i64 (s_1.length:Int))),(8,(.int .i64 (q.1:Int)))],[])) (fun q => s_1.length - q.1) ⟨0,hb1⟩ ⟨[],[],_,_,rfl,rfl,⟨.refl _,⟨.of_eq (congrArg (AV.fn _) (hrf_f_2 _)),⟨.refl _,⟨.refl _,trivial⟩⟩⟩⟩,(.refl _)⟩ ?_
  rintro ⟨s8_17,hc1⟩
  have hc1:a0p f_2 (s_1.drop s8_17) s8_17 = some p24:=hc1
  refine (show awp Tryz.prog false 0 _ (ofL [(0,(.lst 1 (s_1.map (a0t 3 l9)))),(1,(.fn kf_f_2 cf_f_2)),(7,(.int .i64 (s_1.length:Int))),(8,(.int .i64 (s8_17:Int)))]) [] _ from ?_)
  rcases a5z s_1 s8_17 with ⟨hie27,hd30⟩ | ⟨hlt25,x_31,hx26,hd30⟩
  ·rw [hd30,a0p.eq_1] at hc1
   have hq29:=dlf hie27
   refine sr<|x8 (.bool (decide ((s8_17:Int) < (s_1.length:Int)))) rfl rfl rfl<|dk<|o6<|y8 rfl hq29<|a2t<|a2s<|a1y<|a2r<|?_;obtain rfl:=os hc1;exact a6r ⟨_,rfl⟩ ⟨[],[],_,_,rfl,rfl,trivial,(.refl _)⟩
  ·rw [hd30,a0p.eq_2] at hc1
   have hq29:=dlt hlt25
   refine sr<|x8 (.bool (decide ((s8_17:Int) < (s_1.length:Int)))) rfl rfl rfl<|dk<|o6<|y7 rfl hq29<|a0h<|a0f<|o6<|a3g<|sr<|l7 (.int .i64 (s8_17:Int)) rfl<|l7 (.int .i64 (s8_17:Int)) rfl<|dk<|sr<|?_
   obtain ⟨r_32,er33,hc1⟩:=ob hc1
   refine l7 (.fn kf_f_2 cf_f_2) rfl<|l7 (.lst 1 (s_1.map (a0t 3 l9))) rfl<|l7 (.int .i64 (s8_17:Int)) rfl<|y5 (a2c (enc:=(a0t 3 l9)) rfl rfl hx26)<|x8 (.lst 3 (x_31.map l9)) rfl ⟨rfl,rfl⟩ rfl<|y5 (d3t (v:=(.bool r_32)) rfl okf_f_2 hcf_f_2 (hpf_f_2 _ _ er33) rfl (.refl _) rfl)<|dk<|?_
   rcases oi hc1 with ⟨c34,hc1⟩ | ⟨c34,hc1⟩
   ·refine y7 rfl c34<|sr<|l7 (.int .i64 (s8_17:Int)) rfl<|l7 (.int .i64 (s8_17:Int)) rfl<|dk<|a0d<|?_;obtain rfl:=os hc1;obtain rfl:=os hf;exact a0e ⟨trivial,trivial⟩ rfl (.refl _)
   ·refine y8 rfl (bf c34)<|a0h<|a3f<|a0f<|a0s<|x8 (.int .i64 (w64 ((s8_17:Int) + 1))) rfl rfl rfl<|l7 (.int .i64 (w64 ((s8_17:Int) + 1))) rfl<|a0b<|?_;exact a1q ⟨(s8_17 + 1),hc1⟩ (mul hlt25) ⟨[],[],_,_,rfl,rfl,⟨.refl _,⟨.of_eq (congrArg (AV.fn _) (hrf_f_2 _)),⟨.refl _,⟨.of_eq (congrArg (AV.int _) (a1w hlt25 hl3)),trivial⟩⟩⟩⟩,(.refl _)⟩
 ·rintro ⟨_,rfl⟩
  refine sr<|l7 (.int .i64 (-1)) rfl<|dk<|a0d<|?_;obtain rfl:=os hf;exact a0e ⟨trivial,trivial⟩ rfl (.refl _)

/- slices.ContainsFunc[[][]impl.Atom,[]impl.Atom] -/
def e3u:a0m :=
 (.seq (.reg (tm 4 (.c (.bool false)) .done))
 (.seq (.reg (tm 5 (.t 0) (tm 6 (.t 1) (tq 7 (.call 334 [(.t 5),(.t 6)]) (tq 8 (.bin .geq (.t 7) (.c (.int .i64 0))) (tm 4 (.t 8) .done))))))
 .ret))
theorem e3v:a1a Tryz.prog Tryz.f285 = some (e3u.erase,[.mov (.t 4)],9):=by kernel_rfl
def a1o (s_1:(List (List a0a))) (f_2:((List a0a) → Option Bool)):Option Bool :=
    (a1t s_1 f_2).bind fun r_3 =>
    some (decide (r_3 ≥ 0))
theorem a7b (s_1:(List (List a0a))) (f_2:((List a0a) → Option Bool)) (r:Bool) (hf:a1o s_1 f_2 = some r) (kf_f_2:Nat) (cf_f_2:List AV) (okf_f_2:d2k Tryz.prog kf_f_2 = true) (hcf_f_2:∀ h p,a3h h p cf_f_2 = some cf_f_2) (hrf_f_2:∀ f,a6j f cf_f_2 = cf_f_2) (hpf_f_2:∀ a0 r,f_2 a0 = some r → x9 Tryz.prog kf_f_2 .flat ([(.lst 3 (a0.map l9))] ++ cf_f_2) (.bool r)):x9 Tryz.prog 285 .flat [(.lst 1 (s_1.map (a0t 3 l9))),(.fn kf_f_2 cf_f_2)] (.bool r):=by
 refine x9.of_awp mixed Tryz.func285 e3v nle ?_;rw [a0j];unfold a1o at hf;unfold e3u;refine (show awp Tryz.prog false 0 _ (ofL [(0,(.lst 1 (s_1.map (a0t 3 l9)))),(1,(.fn kf_f_2 cf_f_2))]) [] _ from ?_);refine sr<|l7 (.bool false) rfl<|dk<|sr<|?_
 obtain ⟨r_3,er4,hf⟩:=ob hf
 refine l7 (.lst 1 (s_1.map (a0t 3 l9))) rfl<|l7 (.fn kf_f_2 cf_f_2) rfl<|y5 (a0v (a7n _ _ _ er4 kf_f_2 cf_f_2 okf_f_2 hcf_f_2 hrf_f_2 hpf_f_2) (b9i rfl (b9i (d7f hcf_f_2) rfl)) (.refl _) rfl)<|x8 (.bool (decide (r_3 ≥ 0))) rfl rfl rfl<|l7 (.bool (decide (r_3 ≥ 0))) rfl<|dk<|a0d<|?_;obtain rfl:=os hf;exact a0e ⟨trivial,trivial⟩ rfl (.refl _)

/- impl.isNumber -/
def c233:a0m :=
 (.seq (.reg (tm 2 (.c (.bool false)) .done))
 (.seq (.reg (tm 3 (.t 0) (tq 4 (.call 81 [(.t 3),(.c (.int .i64 (-1000000000))),(.c (.int .i64 1000000000))]) (tm 2 (.t 4) .done))))
 .ret))
theorem e3w:a1a Tryz.prog Tryz.f233 = some (c233.erase,[.mov (.t 2)],5):=by kernel_rfl
def b1h (n_1:Int):Option Bool :=
    (a6y n_1 (-1000000000) 1000000000).bind fun r_2 =>
    some r_2
theorem b5i (n_1:Int) (r:Bool) (hf:b1h n_1 = some r):x9 Tryz.prog 233 .flat [(.int .i64 n_1)] (.bool r):=by
  refine x9.of_awp mixed Tryz.func233 e3w nle ?_
  rw [a0j]
  unfold b1h at hf
  unfold c233
  refine (show awp Tryz.prog false 0 _ (ofL [(0,(.int .i64 n_1))]) [] _ from ?_)
  refine o6 ?_
  refine a0s ?_
  refine y5 (a2x (.bool false) rfl) ?_
  refine a0b ?_
  refine a0f ?_
  refine o6 ?_
  refine a0s ?_
  obtain ⟨r_2,er3,hf⟩:=ob hf
  refine y5 (a2x (.int .i64 n_1) rfl) ?_
  refine y5 (a0v (a8v _ _ _ _ er3) rfl (.refl _) rfl) ?_
  refine y5 (a2x (.bool r_2) rfl) ?_
  refine a0b ?_
  refine a0f ?_
  refine a0d ?_
  obtain rfl:=os hf
  exact a0e ⟨trivial,trivial⟩ rfl (.refl _)

/- impl.isPlain -/
def c234:a0m :=
 (.seq (.reg (tm 2 (.c (.bool false)) .done))
 (.seq (.seq (.reg (tm 4 (.t 0) (tq 5 (.lenS (.t 4)) (tm 6 (.c (.int .i64 0)) .done))))
 (.block 0 (.loop (.seq (.reg (tq 7 (.bin .lss (.t 6) (.t 5)) .done))
 (.seq (.cond (.t 7) .skip
 (.exit 0))
 (.seq (.block 1 (.seq (.reg (tm 8 (.t 6) (tm 3 (.t 8) .done)))
 (.seq (.reg (tm 9 (.t 0) (tm 10 (.t 3) (tq 11 (.idxs (.t 9) (.t 10)) (tq 12 (.bin .lss (.t 11) (.c (.int .u8 32))) (tm 13 (.t 12) (tg 14 13 false (.mov (.t 0)) (tg 15 13 false (.mov (.t 3)) (tg 16 13 false (.idxs (.t 14) (.t 15)) (tg 17 13 false (.bin .gtr (.t 16) (.c (.int .u8 126))) (tq 18 (.pick (.t 13) (.c (.bool true)) (.t 17)) .done)))))))))))
 (.cut (.cond (.t 18) (.seq (.reg (tm 2 (.c (.bool false)) .done))
 .ret)
 .skip)))))
 (.reg (tq 19 (.bin .add (.t 6) (.c (.int .i64 1))) (tm 6 (.t 19) .done)))))))))
 (.cut (.seq (.reg (tm 20 (.t 0) (tq 21 (.lenS (.t 20)) (tq 22 (.bin .leq (.t 21) (.c (.int .i64 200))) (tm 2 (.t 22) .done)))))
 .ret))))
theorem e3x:a1a Tryz.prog Tryz.f234 = some (c234.erase,[.mov (.t 2)],23):=by kernel_rfl
def a4e :List UInt8 → Option (Fl Bool Unit)
  | [] =>
    some (.go ())
  | x_54 :: xs =>
    ((if (decide ((x_54.toNat:Int) < 32)) then
    some true
    else
    some (decide ((x_54.toNat:Int) > 126)):Option Bool)).bind fun s18_56 =>
    if s18_56 then
    some (.ret false)
    else
    a4e xs 

def b0i (t_1:Str):Option Bool :=
    (a4e t_1 ).bind fun q => (match q with
    | .ret r => some r
    | .go _ =>
    some (decide ((t_1.length:Int) ≤ 200)))
theorem c4w (t_1:Str) (r:Bool) (hf:b0i t_1 = some r):x9 Tryz.prog 234 .flat [(.str t_1)] (.bool r):=by
 refine x9.of_awp mixed Tryz.func234 e3x nle ?_;rw [a0j];unfold b0i at hf;unfold c234;refine (show awp Tryz.prog false 0 _ (ofL [(0,(.str t_1))]) [] _ from ?_);refine sr<|l7 (.bool false) rfl<|dk<|o6<|sr<|l7 (.str t_1) rfl<|a0w (b2d rfl) fun hl2 => l7 (.int .i64 0) rfl<|dk<|?_
 obtain ⟨p47,hb1,hf⟩:=ob hf
 refine a4n (X:={q:Unit // p47 = .go q}) (fun q => ([(0,(.str t_1))],[])) ?_ ?_
 ·refine a1g (X:={q:Nat // a4e (t_1.drop q)  = some p47}) (fun q => ([(0,(.str t_1)),(5,(.int .i64 (t_1.length:Int))),(6,(.int .i64 (q.1:Int)))],[])) (fun q => t_1.length - q.1) ⟨0,hb1⟩ ⟨[],[],_,_,rfl,rfl,⟨.refl _,⟨.refl _,⟨.refl _,trivial⟩⟩⟩,(.refl _)⟩ ?_
  rintro ⟨s6_32,hc1⟩
  have hc1:a4e (t_1.drop s6_32)  = some p47:=hc1
  refine (show awp Tryz.prog false 0 _ (ofL [(0,(.str t_1)),(5,(.int .i64 (t_1.length:Int))),(6,(.int .i64 (s6_32:Int)))]) [] _ from ?_)
  rcases a5z t_1 s6_32 with ⟨hie50,hd53⟩ | ⟨hlt48,x_54,hx49,hd53⟩
  ·rw [hd53,a4e.eq_1] at hc1
   have hq52:=dlf hie50
   refine sr<|x8 (.bool (decide ((s6_32:Int) < (t_1.length:Int)))) rfl rfl rfl<|dk<|o6<|y8 rfl hq52<|a2t<|a2s<|a1y<|a2r<|?_;obtain rfl:=os hc1;exact a6r ⟨_,rfl⟩ ⟨[],[],_,_,rfl,rfl,⟨.refl _,trivial⟩,(.refl _)⟩
  ·rw [hd53,a4e.eq_2] at hc1
   have hq52:=dlt hlt48
   refine sr<|x8 (.bool (decide ((s6_32:Int) < (t_1.length:Int)))) rfl rfl rfl<|dk<|o6<|y7 rfl hq52<|a0h<|a0f<|o6<|a3g<|sr<|l7 (.int .i64 (s6_32:Int)) rfl<|l7 (.int .i64 (s6_32:Int)) rfl<|dk<|o6<|?_
   obtain ⟨s18_56,hb2,hc1⟩:=ob hc1
   refine a2a ([(0,(.str t_1)),(5,(.int .i64 (t_1.length:Int))),(6,(.int .i64 (s6_32:Int))),(18,(.bool s18_56))],[]) ?_ ?_
   ·refine a0s ?_
    rcases oi hb2 with ⟨c58,hb2⟩ | ⟨c58,hb2⟩
    ·refine l7 (.str t_1) rfl<|l7 (.int .i64 (s6_32:Int)) rfl<|y5 (b1d rfl rfl hx49)<|x8 (.bool (decide ((x_54.toNat:Int) < 32))) rfl rfl rfl<|l7 (.bool (decide ((x_54.toNat:Int) < 32))) rfl<|a1p (s:=13) (b:=true) rfl c58<|a0g rfl rfl<|a0g rfl rfl<|a0g rfl rfl<|a0g rfl rfl<|x8 (.bool true) rfl trivial rfl<|a0b<|?_;obtain rfl:=os hb2;exact ⟨[],[],_,_,rfl,rfl,⟨.refl _,⟨.refl _,⟨.refl _,⟨.refl _,trivial⟩⟩⟩⟩,(.refl _)⟩
    ·refine l7 (.str t_1) rfl<|l7 (.int .i64 (s6_32:Int)) rfl<|y5 (b1d rfl rfl hx49)<|x8 (.bool (decide ((x_54.toNat:Int) < 32))) rfl rfl rfl<|l7 (.bool (decide ((x_54.toNat:Int) < 32))) rfl<|a1p (s:=13) (b:=false) rfl (bf c58)<|s_on rfl<|l7 (.str t_1) rfl<|s_on rfl<|l7 (.int .i64 (s6_32:Int)) rfl<|s_on rfl<|y5 (b1d rfl rfl hx49)<|s_on rfl<|x8 (.bool (decide ((x_54.toNat:Int) > 126))) rfl rfl rfl<|x8 (.bool (decide ((x_54.toNat:Int) > 126))) rfl trivial rfl<|a0b<|?_;obtain rfl:=os hb2;exact ⟨[],[],_,_,rfl,rfl,⟨.refl _,⟨.refl _,⟨.refl _,⟨.refl _,trivial⟩⟩⟩⟩,(.refl _)⟩
   ·rcases oi hc1 with ⟨c59,hc1⟩ | ⟨c59,hc1⟩
    ·refine y7 rfl c59<|sr<|l7 (.bool false) rfl<|dk<|a0d<|?_;obtain rfl:=os hc1;obtain rfl:=os hf;exact a0e ⟨trivial,trivial⟩ rfl (.refl _)
    ·refine y8 rfl (bf c59)<|a0h<|a3f<|a0f<|a0s<|x8 (.int .i64 (w64 ((s6_32:Int) + 1))) rfl rfl rfl<|l7 (.int .i64 (w64 ((s6_32:Int) + 1))) rfl<|a0b<|?_;exact a1q ⟨(s6_32 + 1),hc1⟩ (mul hlt48) ⟨[],[],_,_,rfl,rfl,⟨.refl _,⟨.refl _,⟨.of_eq (congrArg (AV.int _) (a1w hlt48 hl2)),trivial⟩⟩⟩,(.refl _)⟩
 ·rintro ⟨_,rfl⟩
  refine sr<|l7 (.str t_1) rfl<|a0w (b2d rfl) fun hl60 => x8 (.bool (decide ((t_1.length:Int) ≤ 200))) rfl rfl rfl<|l7 (.bool (decide ((t_1.length:Int) ≤ 200))) rfl<|dk<|a0d<|?_;obtain rfl:=os hf;exact a0e ⟨trivial,trivial⟩ rfl (.refl _)

/- impl.isId -/
def c89:a0m :=
 (.seq (.reg (tm 2 (.c (.bool false)) .done))
 (.seq (.reg (tm 3 (.t 0) (tq 4 (.call 81 [(.t 3),(.c (.int .i64 1)),(.c (.int .i64 1000000))]) (tm 2 (.t 4) .done))))
 .ret))
theorem e6h:a1a Tryz.prog Tryz.f89 = some (c89.erase,[.mov (.t 2)],5):=by kernel_rfl
def b6w (n_1:Int):Option Bool :=
    (a6y n_1 1 1000000).bind fun r_2 =>
    some r_2
theorem c1q (n_1:Int) (r:Bool) (hf:b6w n_1 = some r):x9 Tryz.prog 89 .flat [(.int .i64 n_1)] (.bool r):=by
  refine x9.of_awp mixed Tryz.func89 e6h nle ?_
  rw [a0j]
  unfold b6w at hf
  unfold c89
  refine (show awp Tryz.prog false 0 _ (ofL [(0,(.int .i64 n_1))]) [] _ from ?_)
  refine o6 ?_
  refine a0s ?_
  refine y5 (a2x (.bool false) rfl) ?_
  refine a0b ?_
  refine a0f ?_
  refine o6 ?_
  refine a0s ?_
  obtain ⟨r_2,er3,hf⟩:=ob hf
  refine y5 (a2x (.int .i64 n_1) rfl) ?_
  refine y5 (a0v (a8v _ _ _ _ er3) rfl (.refl _) rfl) ?_
  refine y5 (a2x (.bool r_2) rfl) ?_
  refine a0b ?_
  refine a0f ?_
  refine a0d ?_
  obtain rfl:=os hf
  exact a0e ⟨trivial,trivial⟩ rfl (.refl _)

/- impl.AtomOK -/
def d5a:a0m :=
 (.seq (.reg (tq 1 (.box 3 (.t 0)) (tm 2 (.c (.bool false)) .done)))
 (.seq (.seq (.reg (tq 3 (.faddr 0 (.t 1)) (tq 4 (.load 1 false (.t 3)) .done)))
 (.block 0 (.seq (.reg (tq 6 (.bin .eql (.t 4) (.c (.int .i64 1))) (tm 5 (.t 6) .done)))
 (.cond (.t 5) (.seq (.reg (tq 7 (.faddr 1 (.t 1)) (tq 8 (.load 1 false (.t 7)) (tq 9 (.call 233 [(.t 8)]) (tm 10 (.t 9) (tg 11 10 true (.faddr 2 (.t 1)) (tg 12 10 true (.load 1 false (.t 11)) (tg 13 10 true (.bin .eql (.t 12) (.c (.str []))) (tq 14 (.pick (.t 10) (.t 13) (.c (.bool false))) (tm 2 (.t 14) .done))))))))))
 .ret)
 (.seq (.reg (tq 16 (.bin .eql (.t 4) (.c (.int .i64 2))) (tm 15 (.t 16) .done)))
 (.cond (.t 15) (.seq (.reg (tq 17 (.faddr 1 (.t 1)) (tq 18 (.load 1 false (.t 17)) (tq 19 (.bin .eql (.t 18) (.c (.int .i64 0))) (tm 20 (.t 19) (tg 21 20 true (.faddr 2 (.t 1)) (tg 22 20 true (.load 1 false (.t 21)) (tg 23 20 true (.call 234 [(.t 22)]) (tq 24 (.pick (.t 20) (.t 23) (.c (.bool false))) (tm 2 (.t 24) .done))))))))))
 .ret)
 (.seq (.reg (tq 26 (.bin .eql (.t 4) (.c (.int .i64 3))) (tm 25 (.t 26) .done)))
 (.cond (.t 25) (.seq (.reg (tq 27 (.faddr 1 (.t 1)) (tq 28 (.load 1 false (.t 27)) (tq 29 (.call 81 [(.t 28),(.c (.int .i64 0)),(.c (.int .i64 1))]) (tm 30 (.t 29) (tg 31 30 true (.faddr 2 (.t 1)) (tg 32 30 true (.load 1 false (.t 31)) (tg 33 30 true (.bin .eql (.t 32) (.c (.str []))) (tq 34 (.pick (.t 30) (.t 33) (.c (.bool false))) (tm 2 (.t 34) .done))))))))))
 .ret)
 (.seq (.reg (tq 36 (.bin .eql (.t 4) (.c (.int .i64 4))) (tm 35 (.t 36) .done)))
 (.cond (.t 35) (.seq (.reg (tq 37 (.faddr 1 (.t 1)) (tq 38 (.load 1 false (.t 37)) (tq 39 (.call 89 [(.t 38)]) (tm 40 (.t 39) (tg 41 40 true (.faddr 2 (.t 1)) (tg 42 40 true (.load 1 false (.t 41)) (tg 43 40 true (.bin .eql (.t 42) (.c (.str []))) (tq 44 (.pick (.t 40) (.t 43) (.c (.bool false))) (tm 2 (.t 44) .done))))))))))
 .ret)
 .skip))))))))))
 (.seq (.reg (tm 2 (.c (.bool false)) .done))
 .ret)))
theorem e3y:a1a Tryz.prog Tryz.f135 = some (d5a.erase,[.mov (.t 2)],45):=by kernel_rfl
def a9q (a_1:a0a):Option Bool :=
    if (a_1.Kind == 1) then
    (b1h a_1.N).bind fun r_3 =>
    if r_3 then
    some (a_1.T == [])
    else
    some false
    else
    if (a_1.Kind == 2) then
    if (a_1.N == 0) then
    (b0i a_1.T).bind fun r_8 =>
    some r_8
    else
    some false
    else
    if (a_1.Kind == 3) then
    (a6y a_1.N 0 1).bind fun r_11 =>
    if r_11 then
    some (a_1.T == [])
    else
    some false
    else
    if (a_1.Kind == 4) then
    (b6w a_1.N).bind fun r_15 =>
    if r_15 then
    some (a_1.T == [])
    else
    some false
    else
    some false
theorem c6i (a_1:a0a) (r:Bool) (hf:a9q a_1 = some r):x9 Tryz.prog 135 .flat [(l9 a_1)] (.bool r):=by
 refine x9.of_awp mixed Tryz.func135 e3y nle ?_;rw [a0j];unfold a9q at hf;unfold d5a;refine (show awp Tryz.prog false 0 _ (ofL [(0,(l9 a_1))]) [] _ from ?_);refine sr<|y5 (a1i (j:=0) (c:=(.agg [(.int .i64 a_1.Kind),(.int .i64 a_1.N),(.str a_1.T)])) rfl trivial rfl rfl)<|l7 (.bool false) rfl<|dk<|o6<|sr<|x8 (.ptr 0 0 0) rfl trivial rfl<|x8 (.int .i64 a_1.Kind) rfl nle rfl<|dk<|a3g<|sr<|x8 (.bool (a_1.Kind == 1)) rfl rfl rfl<|l7 (.bool (a_1.Kind == 1)) rfl<|dk<|?_
 rcases oi hf with ⟨c2,hf⟩ | ⟨c2,hf⟩
 ·refine y7 rfl c2<|sr<|?_
  obtain ⟨r_3,er4,hf⟩:=ob hf
  rcases oi hf with ⟨c5,hf⟩ | ⟨c5,hf⟩
  ·refine x8 (.ptr 0 0 1) rfl trivial rfl<|x8 (.int .i64 a_1.N) rfl nle rfl<|y5 (a0v (b5i _ _ er4) rfl (.refl _) rfl)<|l7 (.bool r_3) rfl<|a1p (s:=10) (b:=true) rfl c5<|s_on rfl<|x8 (.ptr 0 0 2) rfl trivial rfl<|s_on rfl<|x8 (.str a_1.T) rfl nle rfl<|s_on rfl<|x8 (.bool (a_1.T == [])) rfl trivial rfl<|x8 (.bool (a_1.T == [])) rfl trivial rfl<|l7 (.bool (a_1.T == [])) rfl<|dk<|a0d<|?_;obtain rfl:=os hf;exact a0e ⟨trivial,trivial⟩ rfl (.refl _)
  ·refine x8 (.ptr 0 0 1) rfl trivial rfl<|x8 (.int .i64 a_1.N) rfl nle rfl<|y5 (a0v (b5i _ _ er4) rfl (.refl _) rfl)<|l7 (.bool r_3) rfl<|a1p (s:=10) (b:=false) rfl (bf c5)<|a0g rfl rfl<|a0g rfl rfl<|a0g rfl rfl<|x8 (.bool false) rfl trivial rfl<|l7 (.bool false) rfl<|dk<|a0d<|?_;obtain rfl:=os hf;exact a0e ⟨trivial,trivial⟩ rfl (.refl _)
 ·refine y8 rfl (bf c2)<|sr<|x8 (.bool (a_1.Kind == 2)) rfl rfl rfl<|l7 (.bool (a_1.Kind == 2)) rfl<|dk<|?_
  rcases oi hf with ⟨c6,hf⟩ | ⟨c6,hf⟩
  ·refine y7 rfl c6<|sr<|?_
   rcases oi hf with ⟨c7,hf⟩ | ⟨c7,hf⟩
   ·obtain ⟨r_8,er9,hf⟩:=ob hf
    refine x8 (.ptr 0 0 1) rfl trivial rfl<|x8 (.int .i64 a_1.N) rfl nle rfl<|x8 (.bool (a_1.N == 0)) rfl rfl rfl<|l7 (.bool (a_1.N == 0)) rfl<|a1p (s:=20) (b:=true) rfl c7<|s_on rfl<|x8 (.ptr 0 0 2) rfl trivial rfl<|s_on rfl<|x8 (.str a_1.T) rfl nle rfl<|s_on rfl<|y5 (a0v (c4w _ _ er9) rfl (.refl _) rfl)<|x8 (.bool r_8) rfl trivial rfl<|l7 (.bool r_8) rfl<|dk<|a0d<|?_;obtain rfl:=os hf;exact a0e ⟨trivial,trivial⟩ rfl (.refl _)
   ·refine x8 (.ptr 0 0 1) rfl trivial rfl<|x8 (.int .i64 a_1.N) rfl nle rfl<|x8 (.bool (a_1.N == 0)) rfl rfl rfl<|l7 (.bool (a_1.N == 0)) rfl<|a1p (s:=20) (b:=false) rfl (bf c7)<|a0g rfl rfl<|a0g rfl rfl<|a0g rfl rfl<|x8 (.bool false) rfl trivial rfl<|l7 (.bool false) rfl<|dk<|a0d<|?_;obtain rfl:=os hf;exact a0e ⟨trivial,trivial⟩ rfl (.refl _)
  ·refine y8 rfl (bf c6)<|sr<|x8 (.bool (a_1.Kind == 3)) rfl rfl rfl<|l7 (.bool (a_1.Kind == 3)) rfl<|dk<|?_
   rcases oi hf with ⟨c10,hf⟩ | ⟨c10,hf⟩
   ·refine y7 rfl c10<|sr<|?_
    obtain ⟨r_11,er12,hf⟩:=ob hf
    rcases oi hf with ⟨c13,hf⟩ | ⟨c13,hf⟩
    ·refine x8 (.ptr 0 0 1) rfl trivial rfl<|x8 (.int .i64 a_1.N) rfl nle rfl<|y5 (a0v (a8v _ _ _ _ er12) rfl (.refl _) rfl)<|l7 (.bool r_11) rfl<|a1p (s:=30) (b:=true) rfl c13<|s_on rfl<|x8 (.ptr 0 0 2) rfl trivial rfl<|s_on rfl<|x8 (.str a_1.T) rfl nle rfl<|s_on rfl<|x8 (.bool (a_1.T == [])) rfl trivial rfl<|x8 (.bool (a_1.T == [])) rfl trivial rfl<|l7 (.bool (a_1.T == [])) rfl<|dk<|a0d<|?_;obtain rfl:=os hf;exact a0e ⟨trivial,trivial⟩ rfl (.refl _)
    ·refine x8 (.ptr 0 0 1) rfl trivial rfl<|x8 (.int .i64 a_1.N) rfl nle rfl<|y5 (a0v (a8v _ _ _ _ er12) rfl (.refl _) rfl)<|l7 (.bool r_11) rfl<|a1p (s:=30) (b:=false) rfl (bf c13)<|a0g rfl rfl<|a0g rfl rfl<|a0g rfl rfl<|x8 (.bool false) rfl trivial rfl<|l7 (.bool false) rfl<|dk<|a0d<|?_;obtain rfl:=os hf;exact a0e ⟨trivial,trivial⟩ rfl (.refl _)
   ·refine y8 rfl (bf c10)<|sr<|x8 (.bool (a_1.Kind == 4)) rfl rfl rfl<|l7 (.bool (a_1.Kind == 4)) rfl<|dk<|?_
    rcases oi hf with ⟨c14,hf⟩ | ⟨c14,hf⟩
    ·refine y7 rfl c14<|sr<|?_
     obtain ⟨r_15,er16,hf⟩:=ob hf
     rcases oi hf with ⟨c17,hf⟩ | ⟨c17,hf⟩
     ·refine x8 (.ptr 0 0 1) rfl trivial rfl<|x8 (.int .i64 a_1.N) rfl nle rfl<|y5 (a0v (c1q _ _ er16) rfl (.refl _) rfl)<|l7 (.bool r_15) rfl<|a1p (s:=40) (b:=true) rfl c17<|s_on rfl<|x8 (.ptr 0 0 2) rfl trivial rfl<|s_on rfl<|x8 (.str a_1.T) rfl nle rfl<|s_on rfl<|x8 (.bool (a_1.T == [])) rfl trivial rfl<|x8 (.bool (a_1.T == [])) rfl trivial rfl<|l7 (.bool (a_1.T == [])) rfl<|dk<|a0d<|?_;obtain rfl:=os hf;exact a0e ⟨trivial,trivial⟩ rfl (.refl _)
     ·refine x8 (.ptr 0 0 1) rfl trivial rfl<|x8 (.int .i64 a_1.N) rfl nle rfl<|y5 (a0v (c1q _ _ er16) rfl (.refl _) rfl)<|l7 (.bool r_15) rfl<|a1p (s:=40) (b:=false) rfl (bf c17)<|a0g rfl rfl<|a0g rfl rfl<|a0g rfl rfl<|x8 (.bool false) rfl trivial rfl<|l7 (.bool false) rfl<|dk<|a0d<|?_;obtain rfl:=os hf;exact a0e ⟨trivial,trivial⟩ rfl (.refl _)
    ·refine y8 rfl (bf c14)<|a0h<|a3f<|a0f<|sr<|l7 (.bool false) rfl<|dk<|a0d<|?_;obtain rfl:=os hf;exact a0e ⟨trivial,trivial⟩ rfl (.refl _)

/- cmp.isNaN[int] -/
def e3z:a0m :=
 (.seq (.reg (tm 2 (.c (.bool false)) .done))
 (.seq (.reg (tm 3 (.t 0) (tm 4 (.t 0) (tq 5 (.bin .neq (.t 3) (.t 4)) (tm 2 (.t 5) .done)))))
 .ret))
theorem e4a:a1a Tryz.prog Tryz.f311 = some (e3z.erase,[.mov (.t 2)],6):=by kernel_rfl
def cmp_isNaN_int (x_1:Int):Option Bool :=
    some (x_1 != x_1)
theorem b5j (x_1:Int) (r:Bool) (hf:cmp_isNaN_int x_1 = some r):x9 Tryz.prog 311 .flat [(.int .i64 x_1)] (.bool r):=by
  refine x9.of_awp mixed Tryz.func311 e4a nle ?_
  rw [a0j]
  unfold cmp_isNaN_int at hf
  unfold e3z
  refine (show awp Tryz.prog false 0 _ (ofL [(0,(.int .i64 x_1))]) [] _ from ?_)
  refine o6 ?_
  refine a0s ?_
  refine y5 (a2x (.bool false) rfl) ?_
  refine a0b ?_
  refine a0f ?_
  refine o6 ?_
  refine a0s ?_
  refine y5 (a2x (.int .i64 x_1) rfl) ?_
  refine y5 (a2x (.int .i64 x_1) rfl) ?_
  refine y5 (o_q (.bool (x_1 != x_1)) rfl rfl rfl) ?_
  refine y5 (a2x (.bool (x_1 != x_1)) rfl) ?_
  refine a0b ?_
  refine a0f ?_
  refine a0d ?_
  obtain rfl:=os hf
  exact a0e ⟨trivial,trivial⟩ rfl (.refl _)

/- cmp.Compare[int] -/
def e4c:a0m :=
 (.seq (.reg (tm 4 (.c (.int .i64 0)) .done))
 (.seq (.reg (tm 7 (.t 0) (tq 8 (.call 311 [(.t 7)]) (tm 5 (.t 8) .done))))
 (.seq (.reg (tm 9 (.t 1) (tq 10 (.call 311 [(.t 9)]) (tm 6 (.t 10) .done))))
 (.seq (.seq (.reg (tm 11 (.t 5) .done))
 (.cond (.t 11) (.seq (.seq (.reg (tm 12 (.t 6) .done))
 (.cond (.t 12) (.seq (.reg (tm 4 (.c (.int .i64 0)) .done))
 .ret)
 .skip))
 (.seq (.reg (tq 4 (.mov (.c (.int .i64 (-1)))) .done))
 .ret))
 .skip))
 (.seq (.seq (.reg (tm 13 (.t 6) .done))
 (.cond (.t 13) (.seq (.reg (tm 4 (.c (.int .i64 1)) .done))
 .ret)
 .skip))
 (.seq (.seq (.reg (tm 14 (.t 0) (tm 15 (.t 1) (tq 16 (.bin .lss (.t 14) (.t 15)) .done))))
 (.cond (.t 16) (.seq (.reg (tq 4 (.mov (.c (.int .i64 (-1)))) .done))
 .ret)
 .skip))
 (.seq (.seq (.reg (tm 17 (.t 0) (tm 18 (.t 1) (tq 19 (.bin .gtr (.t 17) (.t 18)) .done))))
 (.cond (.t 19) (.seq (.reg (tm 4 (.c (.int .i64 1)) .done))
 .ret)
 .skip))
 (.seq (.reg (tm 4 (.c (.int .i64 0)) .done))
 .ret))))))))
theorem e4d:a1a Tryz.prog Tryz.f249 = some (e4c.erase,[.mov (.t 4)],20):=by kernel_rfl
def cmp_Compare_int (x_1:Int) (y_2:Int):Option Int :=
    (cmp_isNaN_int x_1).bind fun r_3 =>
    (cmp_isNaN_int y_2).bind fun r_5 =>
    if r_3 then
    if r_5 then
    some 0
    else
    some (-1)
    else
    if r_5 then
    some 1
    else
    if (decide (x_1 < y_2)) then
    some (-1)
    else
    if (decide (x_1 > y_2)) then
    some 1
    else
    some 0
theorem b3l (x_1:Int) (y_2:Int) (r:Int) (hf:cmp_Compare_int x_1 y_2 = some r):x9 Tryz.prog 249 .flat [(.int .i64 x_1),(.int .i64 y_2)] (.int .i64 r):=by
 refine x9.of_awp mixed Tryz.func249 e4d nle ?_;rw [a0j];unfold cmp_Compare_int at hf;unfold e4c;refine (show awp Tryz.prog false 0 _ (ofL [(0,(.int .i64 x_1)),(1,(.int .i64 y_2))]) [] _ from ?_);refine sr<|l7 (.int .i64 0) rfl<|dk<|sr<|?_
 obtain ⟨r_3,er4,hf⟩:=ob hf
 refine l7 (.int .i64 x_1) rfl<|y5 (a0v (b5j _ _ er4) rfl (.refl _) rfl)<|l7 (.bool r_3) rfl<|dk<|sr<|?_
 obtain ⟨r_5,er6,hf⟩:=ob hf
 refine l7 (.int .i64 y_2) rfl<|y5 (a0v (b5j _ _ er6) rfl (.refl _) rfl)<|l7 (.bool r_5) rfl<|dk<|o6<|sr<|l7 (.bool r_3) rfl<|dk<|?_
 rcases oi hf with ⟨c7,hf⟩ | ⟨c7,hf⟩
 ·refine y7 rfl c7<|o6<|sr<|l7 (.bool r_5) rfl<|dk<|?_
  rcases oi hf with ⟨c8,hf⟩ | ⟨c8,hf⟩
  ·refine y7 rfl c8<|sr<|l7 (.int .i64 0) rfl<|dk<|a0d<|?_;obtain rfl:=os hf;exact a0e ⟨trivial,trivial⟩ rfl (.refl _)
  ·refine y8 rfl (bf c8)<|a0h<|a0f<|sr<|l7 (.int .i64 (-1)) rfl<|dk<|a0d<|?_;obtain rfl:=os hf;exact a0e ⟨trivial,trivial⟩ rfl (.refl _)
 ·refine y8 rfl (bf c7)<|a0h<|a0f<|o6<|sr<|l7 (.bool r_5) rfl<|dk<|?_
  rcases oi hf with ⟨c9,hf⟩ | ⟨c9,hf⟩
  ·refine y7 rfl c9<|sr<|l7 (.int .i64 1) rfl<|dk<|a0d<|?_;obtain rfl:=os hf;exact a0e ⟨trivial,trivial⟩ rfl (.refl _)
  ·refine y8 rfl (bf c9)<|a0h<|a0f<|o6<|sr<|l7 (.int .i64 x_1) rfl<|l7 (.int .i64 y_2) rfl<|x8 (.bool (decide (x_1 < y_2))) rfl rfl rfl<|dk<|?_
   rcases oi hf with ⟨c10,hf⟩ | ⟨c10,hf⟩
   ·refine y7 rfl c10<|sr<|l7 (.int .i64 (-1)) rfl<|dk<|a0d<|?_;obtain rfl:=os hf;exact a0e ⟨trivial,trivial⟩ rfl (.refl _)
   ·refine y8 rfl (bf c10)<|a0h<|a0f<|o6<|sr<|l7 (.int .i64 x_1) rfl<|l7 (.int .i64 y_2) rfl<|x8 (.bool (decide (x_1 > y_2))) rfl rfl rfl<|dk<|?_
    rcases oi hf with ⟨c11,hf⟩ | ⟨c11,hf⟩
    ·refine y7 rfl c11<|sr<|l7 (.int .i64 1) rfl<|dk<|a0d<|?_;obtain rfl:=os hf;exact a0e ⟨trivial,trivial⟩ rfl (.refl _)
    ·refine y8 rfl (bf c11)<|a0h<|a0f<|sr<|l7 (.int .i64 0) rfl<|dk<|a0d<|?_;obtain rfl:=os hf;exact a0e ⟨trivial,trivial⟩ rfl (.refl _)

/- internal/bytealg.CompareString -/
def a3o (a b:Str):Option Int:=some (Lib.compareBytes a b)
set_option maxRecDepth 100000 in
open Go.RowKit in
theorem d7o (a b:ByteArray) (w:World):Calls Tryz.prog 351 #[.string a,.string b] w fun e w' => e = .returned (.int .i64 (Lib.compareBytes a.data.toList b.data.toList)) ∧ w' = w:=by
  go_enter Tryz.func351,(show Tryz.f351.ntmps = _ from rfl)
  go_wp2
  rw [run_callFunc_extern Tryz.func384 (by kernel_rfl) (by kernel_rfl) (by kernel_rfl) (e:=Extern.BytealgCompare.compare) (by kernel_rfl),Lib.run_compareString]
  simp only [Result.andThen]
  rw [Oper.upon_value]
  go_wp2
  go_ret
  exact ⟨rfl,rfl⟩
open Go.RowKit in
theorem b0j (a b:Str) (r:Int) (hf:a3o a b = some r):x9 Tryz.prog 351 .flat [(.str a),(.str b)] (.int .i64 r):=by
  intro w vals fps hr
  simp only [a1j,Rep] at hr
  obtain ⟨v1,vs1,f1,f2,rfl,⟨rfl,h1,rfl⟩,⟨v2,vs2,f3,f4,rfl,⟨rfl,h2,rfl⟩,⟨rfl,rfl⟩,rfl⟩,rfl⟩:=hr
  unfold a3o at hf
  obtain rfl:=os hf
  refine (d7o ⟨a.toArray⟩ ⟨b.toArray⟩ w).mono ?_
  rintro e w' ⟨rfl,rfl⟩
  refine ⟨Below.refl _ _,?_⟩
  exact ⟨[.int .i64 (Lib.compareBytes a b)],rfl,by simp [Rep]⟩

/- strings.Compare -/
def e4e:a0m :=
 (.seq (.reg (tm 4 (.c (.int .i64 0)) .done))
 (.seq (.reg (tm 5 (.t 0) (tm 6 (.t 1) (tq 7 (.call 351 [(.t 5),(.t 6)]) (tm 4 (.t 7) .done)))))
 .ret))
theorem e4f:a1a Tryz.prog Tryz.f305 = some (e4e.erase,[.mov (.t 4)],8):=by kernel_rfl
def strings_Compare (a_1:Str) (b_2:Str):Option Int :=
    (a3o a_1 b_2).bind fun r_3 =>
    some r_3
theorem b9m (a_1:Str) (b_2:Str) (r:Int) (hf:strings_Compare a_1 b_2 = some r):x9 Tryz.prog 305 .flat [(.str a_1),(.str b_2)] (.int .i64 r):=by
  refine x9.of_awp mixed Tryz.func305 e4f nle ?_
  rw [a0j]
  unfold strings_Compare at hf
  unfold e4e
  refine (show awp Tryz.prog false 0 _ (ofL [(0,(.str a_1)),(1,(.str b_2))]) [] _ from ?_)
  refine o6 ?_
  refine a0s ?_
  refine y5 (a2x (.int .i64 0) rfl) ?_
  refine a0b ?_
  refine a0f ?_
  refine o6 ?_
  refine a0s ?_
  obtain ⟨r_3,er4,hf⟩:=ob hf
  refine y5 (a2x (.str a_1) rfl) ?_
  refine y5 (a2x (.str b_2) rfl) ?_
  refine y5 (a0v (b0j _ _ _ er4) rfl (.refl _) rfl) ?_
  refine y5 (a2x (.int .i64 r_3) rfl) ?_
  refine a0b ?_
  refine a0f ?_
  refine a0d ?_
  obtain rfl:=os hf
  exact a0e ⟨trivial,trivial⟩ rfl (.refl _)

/- cmp.Or[int] -/
def e4g:a0m :=
 (.seq (.reg (tm 2 (.c (.int .i64 0)) .done))
 (.seq (.reg (tm 3 (.c (.int .i64 0)) .done))
 (.seq (.seq (.reg (tm 6 (.t 0) (tq 7 (.len (.t 6)) (tm 8 (.c (.int .i64 0)) .done))))
 (.block 0 (.loop (.seq (.reg (tq 9 (.bin .lss (.t 8) (.t 7)) .done))
 (.seq (.cond (.t 9) .skip
 (.exit 0))
 (.seq (.block 1 (.seq (.reg (tq 10 (.iaddr 1 (.t 6) (.t 8)) (tq 11 (.load 1 false (.t 10)) (tm 5 (.t 11) .done))))
 (.seq (.reg (tm 12 (.t 5) (tm 13 (.t 3) (tq 14 (.bin .neq (.t 12) (.t 13)) .done))))
 (.cond (.t 14) (.seq (.reg (tm 15 (.t 5) (tm 2 (.t 15) .done)))
 .ret)
 .skip))))
 (.reg (tq 16 (.bin .add (.t 8) (.c (.int .i64 1))) (tm 8 (.t 16) .done)))))))))
 (.cut (.seq (.reg (tm 17 (.t 3) (tm 2 (.t 17) .done)))
 .ret)))))
theorem e4h:a1a Tryz.prog Tryz.f304 = some (e4g.erase,[.mov (.t 2)],18):=by kernel_rfl
def a3w :List Int → Option (Fl Int Unit)
  | [] =>
    some (.go ())
  | x_24 :: xs =>
    if (x_24 != 0) then
    some (.ret x_24)
    else
    a3w xs 

def b4w (vals_1:(List Int)):Option Int :=
    (a3w vals_1 ).bind fun q => (match q with
    | .ret r => some r
    | .go _ =>
    some 0)
theorem c9g (vals_1:(List Int)) (r:Int) (hf:b4w vals_1 = some r):x9 Tryz.prog 304 .flat [(.lst 1 (vals_1.map encI))] (.int .i64 r):=by
 refine x9.of_awp mixed Tryz.func304 e4h nle ?_;rw [a0j];unfold b4w at hf;unfold e4g;refine (show awp Tryz.prog false 0 _ (ofL [(0,(.lst 1 (vals_1.map encI)))]) [] _ from ?_);refine sr<|l7 (.int .i64 0) rfl<|dk<|sr<|l7 (.int .i64 0) rfl<|dk<|o6<|sr<|l7 (.lst 1 (vals_1.map encI)) rfl<|a0w (a1r (enc:=encI) rfl) fun hl2 => l7 (.int .i64 0) rfl<|dk<|?_
 obtain ⟨p17,hb1,hf⟩:=ob hf
 refine a4n (X:={q:Unit // p17 = .go q}) (fun q => ([(3,(.int .i64 0))],[])) ?_ ?_
 ·refine a1g (X:={q:Nat // a3w (vals_1.drop q)  = some p17}) (fun q => ([(3,(.int .i64 0)),(6,(.lst 1 (vals_1.map encI))),(7,(.int .i64 (vals_1.length:Int))),(8,(.int .i64 (q.1:Int)))],[])) (fun q => vals_1.length - q.1) ⟨0,hb1⟩ ⟨[],[],_,_,rfl,rfl,⟨.refl _,⟨.refl _,⟨.refl _,⟨.refl _,trivial⟩⟩⟩⟩,(.refl _)⟩ ?_
  rintro ⟨s8_12,hc1⟩
  have hc1:a3w (vals_1.drop s8_12)  = some p17:=hc1
  refine (show awp Tryz.prog false 0 _ (ofL [(3,(.int .i64 0)),(6,(.lst 1 (vals_1.map encI))),(7,(.int .i64 (vals_1.length:Int))),(8,(.int .i64 (s8_12:Int)))]) [] _ from ?_)
  rcases a5z vals_1 s8_12 with ⟨hie20,hd23⟩ | ⟨hlt18,x_24,hx19,hd23⟩
  ·rw [hd23,a3w.eq_1] at hc1
   have hq22:=dlf hie20
   refine sr<|x8 (.bool (decide ((s8_12:Int) < (vals_1.length:Int)))) rfl rfl rfl<|dk<|o6<|y8 rfl hq22<|a2t<|a2s<|a1y<|a2r<|?_;obtain rfl:=os hc1;exact a6r ⟨_,rfl⟩ ⟨[],[],_,_,rfl,rfl,⟨.refl _,trivial⟩,(.refl _)⟩
  ·rw [hd23,a3w.eq_2] at hc1
   have hq22:=dlt hlt18
   refine sr<|x8 (.bool (decide ((s8_12:Int) < (vals_1.length:Int)))) rfl rfl rfl<|dk<|o6<|y7 rfl hq22<|a0h<|a0f<|o6<|a3g<|sr<|y5 (a2c (enc:=encI) rfl rfl hx19)<|x8 (.int .i64 x_24) rfl ⟨rfl,rfl⟩ rfl<|l7 (.int .i64 x_24) rfl<|dk<|sr<|l7 (.int .i64 x_24) rfl<|l7 (.int .i64 0) rfl<|x8 (.bool (x_24 != 0)) rfl rfl rfl<|dk<|?_
   rcases oi hc1 with ⟨c25,hc1⟩ | ⟨c25,hc1⟩
   ·refine y7 rfl c25<|sr<|l7 (.int .i64 x_24) rfl<|l7 (.int .i64 x_24) rfl<|dk<|a0d<|?_;obtain rfl:=os hc1;obtain rfl:=os hf;exact a0e ⟨trivial,trivial⟩ rfl (.refl _)
   ·refine y8 rfl (bf c25)<|a0h<|a3f<|a0f<|a0s<|x8 (.int .i64 (w64 ((s8_12:Int) + 1))) rfl rfl rfl<|l7 (.int .i64 (w64 ((s8_12:Int) + 1))) rfl<|a0b<|?_;exact a1q ⟨(s8_12 + 1),hc1⟩ (mul hlt18) ⟨[],[],_,_,rfl,rfl,⟨.refl _,⟨.refl _,⟨.refl _,⟨.of_eq (congrArg (AV.int _) (a1w hlt18 hl2)),trivial⟩⟩⟩⟩,(.refl _)⟩
 ·rintro ⟨_,rfl⟩
  refine sr<|l7 (.int .i64 0) rfl<|l7 (.int .i64 0) rfl<|dk<|a0d<|?_;obtain rfl:=os hf;exact a0e ⟨trivial,trivial⟩ rfl (.refl _)

/- impl.compareAtoms -/
def c227:a0m :=
 (.seq (.reg (tq 2 (.box 3 (.t 0)) (tq 3 (.box 3 (.t 1)) (tm 4 (.c (.int .i64 0)) .done))))
 (.seq (.reg (tq 5 (.faddr 0 (.t 2)) (tq 6 (.load 1 false (.t 5)) (tq 7 (.faddr 0 (.t 3)) (tq 8 (.load 1 false (.t 7)) (tq 10 (.faddr 1 (.t 2)) (tq 11 (.load 1 false (.t 10)) (tq 12 (.faddr 1 (.t 3)) (tq 13 (.load 1 false (.t 12)) (tq 15 (.faddr 2 (.t 2)) (tq 16 (.load 1 false (.t 15)) (tq 17 (.faddr 2 (.t 3)) (tq 18 (.load 1 false (.t 17)) (.l ⟨(some 9),none,.call 249 [(.t 6),(.t 8)]⟩ [⟨(some 18),none,.load 1 false (.t 17)⟩,⟨(some 17),none,.faddr 2 (.t 3)⟩,⟨(some 16),none,.load 1 false (.t 15)⟩,⟨(some 15),none,.faddr 2 (.t 2)⟩,⟨(some 13),none,.load 1 false (.t 12)⟩,⟨(some 12),none,.faddr 1 (.t 3)⟩,⟨(some 11),none,.load 1 false (.t 10)⟩,⟨(some 10),none,.faddr 1 (.t 2)⟩]
 (.l ⟨(some 14),none,.call 249 [(.t 11),(.t 13)]⟩ [⟨(some 18),none,.load 1 false (.t 17)⟩,⟨(some 17),none,.faddr 2 (.t 3)⟩,⟨(some 16),none,.load 1 false (.t 15)⟩,⟨(some 15),none,.faddr 2 (.t 2)⟩]
 (.l ⟨(some 19),none,.call 305 [(.t 16),(.t 18)]⟩ []
 (.l ⟨(some 20),none,.bslice 1 [(.t 9),(.t 14),(.t 19)]⟩ []
 (.l ⟨(some 21),none,.call 304 [(.t 20)]⟩ []
 (tm 4 (.t 21) .done) .non) .non) .non) .non) .non))))))))))))))
 .ret))
theorem e4i:a1a Tryz.prog Tryz.f227 = some (c227.erase,[.mov (.t 4)],22):=by kernel_rfl
def a5o (a_1:a0a) (b_2:a0a):Option Int :=
    (cmp_Compare_int a_1.Kind b_2.Kind).bind fun r_3 =>
    (cmp_Compare_int a_1.N b_2.N).bind fun r_5 =>
    (strings_Compare a_1.T b_2.T).bind fun r_7 =>
    (b4w [r_3,r_5,r_7]).bind fun r_9 =>
    some r_9
theorem b7a (a_1:a0a) (b_2:a0a) (r:Int) (hf:a5o a_1 b_2 = some r):x9 Tryz.prog 227 .flat [(l9 a_1),(l9 b_2)] (.int .i64 r):=by
 refine x9.of_awp mixed Tryz.func227 e4i nle ?_;rw [a0j];unfold a5o at hf;unfold c227;refine (show awp Tryz.prog false 0 _ (ofL [(0,(l9 a_1)),(1,(l9 b_2))]) [] _ from ?_);refine sr<|y5 (a1i (j:=0) (c:=(.agg [(.int .i64 a_1.Kind),(.int .i64 a_1.N),(.str a_1.T)])) rfl trivial rfl rfl)<|y5 (a1i (j:=1) (c:=(.agg [(.int .i64 b_2.Kind),(.int .i64 b_2.N),(.str b_2.T)])) rfl trivial rfl rfl)<|l7 (.int .i64 0) rfl<|dk<|sr<|x8 (.ptr 0 0 0) rfl trivial rfl<|x8 (.int .i64 a_1.Kind) rfl nle rfl<|x8 (.ptr 1 0 0) rfl trivial rfl<|x8 (.int .i64 b_2.Kind) rfl nle rfl<|x8 (.ptr 0 0 1) rfl trivial rfl<|x8 (.int .i64 a_1.N) rfl nle rfl<|?_
 refine x8 (.ptr 1 0 1) rfl trivial rfl<|x8 (.int .i64 b_2.N) rfl nle rfl<|x8 (.ptr 0 0 2) rfl trivial rfl<|x8 (.str a_1.T) rfl nle rfl<|x8 (.ptr 1 0 2) rfl trivial rfl<|x8 (.str b_2.T) rfl nle rfl<|?_
 obtain ⟨r_3,er4,hf⟩:=ob hf
 refine a0r (a0v (b3l _ _ _ er4) rfl (.refl _) rfl) a7s trivial ?_
 obtain ⟨r_5,er6,hf⟩:=ob hf
 refine a0r (a0v (b3l _ _ _ er6) rfl (.refl _) rfl) a7s trivial ?_
 obtain ⟨r_7,er8,hf⟩:=ob hf
 refine a0r (a0v (b9m _ _ _ er8) rfl (.refl _) rfl) a7s trivial ?_;refine a0r (a1f (j:=2) (as':=[(.int .i64 r_3),(.int .i64 r_5),(.int .i64 r_7)]) rfl (fun _ => by decide) ⟨rfl,⟨rfl,⟨rfl,trivial⟩⟩⟩ (.refl _) rfl rfl rfl) trivial trivial ?_
 obtain ⟨r_9,er10,hf⟩:=ob hf
 refine a0r (a0v (c9g _ _ er10) rfl (.cons (.of_eq (congrArg (AV.lst _) (by rfl))) .nil) rfl) a7s trivial<|l7 (.int .i64 r_9) rfl<|dk<|a0d<|?_;obtain rfl:=os hf;exact a0e ⟨trivial,trivial⟩ rfl (.refl _)

/- impl.DatumOK -/
def e4j:a0m :=
 (.seq (.reg (tm 2 (.c (.bool false)) .done))
 (.seq (.seq (.reg (tm 5 (.t 0) (tq 6 (.len (.t 5)) (tm 7 (.c (.int .i64 0)) .done))))
 (.block 0 (.loop (.seq (.reg (tq 8 (.bin .lss (.t 7) (.t 6)) .done))
 (.seq (.cond (.t 8) .skip
 (.exit 0))
 (.seq (.block 1 (.seq (.reg (tm 9 (.t 7) (tq 10 (.iaddr 3 (.t 5) (.t 7)) (tq 11 (.load 3 true (.t 10)) (tq 4 (.box 3 (.c (.agg [(.int .i64 0),(.int .i64 0),(.str [])]))) (tm 3 (.t 9) (.q ⟨none,none,.store 3 (.t 4) (.t 11)⟩
 .done)))))))
 (.seq (.reg (tq 12 (.load 3 true (.t 4)) (.l ⟨(some 13),none,.call 135 [(.t 12)]⟩ []
 (tq 14 (.not (.t 13)) (tm 15 (.t 14) (tg 16 15 false (.faddr 0 (.t 4)) (tg 17 15 false (.load 1 false (.t 16)) (tg 18 15 false (.mov (.t 0)) (tg 19 15 false (.iaddr 3 (.t 18) (.c (.int .i64 0))) (tg 20 15 false (.faddr 0 (.t 19)) (tg 21 15 false (.load 1 false (.t 20)) (tg 22 15 false (.bin .neq (.t 17) (.t 21)) (tq 23 (.pick (.t 15) (.c (.bool true)) (.t 22)) (tm 24 (.t 23) (tg 25 24 false (.mov (.t 3)) (tg 26 24 false (.bin .gtr (.t 25) (.c (.int .i64 0))) (tg 27 24 false (.mov (.t 26)) (tg 28 27 true (.mov (.t 0)) (tg 29 27 true (.mov (.t 3)) (tg 30 27 true (.bin .sub (.t 29) (.c (.int .i64 1))) (tg 31 27 true (.iaddr 3 (.t 28) (.t 30)) (tg 32 27 true (.load 3 true (.t 31)) (tg 33 27 true (.load 3 true (.t 4)) (.l ⟨(some 34),(some (27,true)),.call 227 [(.t 32),(.t 33)]⟩ []
 (tg 35 27 true (.bin .geq (.t 34) (.c (.int .i64 0))) (tg 36 24 false (.pick (.t 27) (.t 35) (.c (.bool false))) (tq 37 (.pick (.t 24) (.c (.bool true)) (.t 36)) .done))) .non))))))))))))))))))))) .non)))
 (.cut (.cond (.t 37) (.seq (.reg (tm 2 (.c (.bool false)) .done))
 .ret)
 .skip)))))
 (.reg (tq 38 (.bin .add (.t 7) (.c (.int .i64 1))) (tm 7 (.t 38) .done)))))))))
 (.cut (.seq (.reg (tm 39 (.t 0) (tq 40 (.len (.t 39)) (tq 41 (.bin .leq (.t 40) (.c (.int .i64 8))) (tm 2 (.t 41) .done)))))
 .ret))))
theorem e4k:a1a Tryz.prog Tryz.f129 = some (e4j.erase,[.mov (.t 2)],42):=by kernel_rfl
def a4f (d_1:(List a0a)):List a0a → Nat → Option (Fl Bool Unit)
  | [],s7_50 =>
    some (.go ())
  | x_86 :: xs,s7_50 =>
    (((a9q x_86).bind fun r_100 =>
    if (!r_100) then
    some true
    else
    (idx d_1 0).bind fun x_103 =>
    if (x_86.Kind != x_103.Kind) then
    some true
    else
    if (decide ((s7_50:Int) > 0)) then
    (idx d_1 (w64 ((s7_50:Int) - 1))).bind fun x_107 =>
    (a5o x_107 x_86).bind fun r_109 =>
    some (decide (r_109 ≥ 0))
    else
    some false:Option Bool)).bind fun s37_98 =>
    if s37_98 then
    some (.ret false)
    else
    a4f d_1 xs (s7_50 + 1)

def b0k (d_1:(List a0a)):Option Bool :=
    (a4f d_1 d_1 0).bind fun q => (match q with
    | .ret r => some r
    | .go _ =>
    some (decide ((d_1.length:Int) ≤ 8)))
theorem c4x (d_1:(List a0a)) (r:Bool) (hf:b0k d_1 = some r):x9 Tryz.prog 129 .flat [(.lst 3 (d_1.map l9))] (.bool r):=by
 refine x9.of_awp mixed Tryz.func129 e4k nle ?_;rw [a0j];unfold b0k at hf;unfold e4j;refine (show awp Tryz.prog false 0 _ (ofL [(0,(.lst 3 (d_1.map l9)))]) [] _ from ?_);refine sr<|l7 (.bool false) rfl<|dk<|o6<|sr<|l7 (.lst 3 (d_1.map l9)) rfl<|a0w (a1r (enc:=l9) rfl) fun hl2 => l7 (.int .i64 0) rfl<|dk<|?_
 obtain ⟨p79,hb1,hf⟩:=ob hf
 refine a4n (X:={q:Unit // p79 = .go q}) (fun q => ([(0,(.lst 3 (d_1.map l9)))],[])) ?_ ?_
 ·refine a1g (X:={q:Nat // a4f d_1 (d_1.drop q) q = some p79}) (fun q => ([(0,(.lst 3 (d_1.map l9))),(5,(.lst 3 (d_1.map l9))),(6,(.int .i64 (d_1.length:Int))),(7,(.int .i64 (q.1:Int)))],[])) (fun q => d_1.length - q.1) ⟨0,hb1⟩ ⟨[],[],_,_,rfl,rfl,⟨.refl _,⟨.refl _,⟨.refl _,⟨.refl _,trivial⟩⟩⟩⟩,(.refl _)⟩ ?_
  rintro ⟨s7_50,hc1⟩
  have hc1:a4f d_1 (d_1.drop s7_50) s7_50 = some p79:=hc1
  refine (show awp Tryz.prog false 0 _ (ofL [(0,(.lst 3 (d_1.map l9))),(5,(.lst 3 (d_1.map l9))),(6,(.int .i64 (d_1.length:Int))),(7,(.int .i64 (s7_50:Int)))]) [] _ from ?_)
  rcases a5z d_1 s7_50 with ⟨hie82,hd85⟩ | ⟨hlt80,x_86,hx81,hd85⟩
  ·rw [hd85,a4f.eq_1] at hc1
   have hq84:=dlf hie82
   refine sr<|x8 (.bool (decide ((s7_50:Int) < (d_1.length:Int)))) rfl rfl rfl<|dk<|o6<|y8 rfl hq84<|a2t<|a2s<|a1y<|a2r<|?_;obtain rfl:=os hc1;exact a6r ⟨_,rfl⟩ ⟨[],[],_,_,rfl,rfl,⟨.refl _,trivial⟩,(.refl _)⟩
  ·rw [hd85,a4f.eq_2] at hc1
   have hq84:=dlt hlt80
   refine sr<|x8 (.bool (decide ((s7_50:Int) < (d_1.length:Int)))) rfl rfl rfl<|dk<|o6<|y7 rfl hq84<|a0h<|a0f<|o6<|a3g<|sr<|l7 (.int .i64 (s7_50:Int)) rfl<|y5 (a2c (enc:=l9) rfl rfl hx81)<|x8 (l9 x_86) rfl nle rfl<|y5 (a1i (j:=0) (c:=(.agg [(.int .i64 0),(.int .i64 0),(.str [])])) rfl trivial rfl rfl)<|l7 (.int .i64 (s7_50:Int)) rfl<|a2i (a0c (v:=(.agg [(.int .i64 x_86.Kind),(.int .i64 x_86.N),(.str x_86.T)])) (y':=(.agg [(.int .i64 x_86.Kind),(.int .i64 x_86.N),(.str x_86.T)])) rfl rfl rfl trivial ⟨rfl,nle⟩ ⟨⟨rfl,trivial⟩,⟨⟨rfl,trivial⟩,⟨⟨rfl,trivial⟩,trivial⟩⟩⟩ rfl)<|?_
   refine dk<|o6<|?_
   obtain ⟨s37_98,hb2,hc1⟩:=ob hc1
   refine a2a ([(0,(.lst 3 (d_1.map l9))),(5,(.lst 3 (d_1.map l9))),(6,(.int .i64 (d_1.length:Int))),(7,(.int .i64 (s7_50:Int))),(37,(.bool s37_98))],[]) ?_ ?_
   ·refine a0s<|x8 (.agg [(.int .i64 x_86.Kind),(.int .i64 x_86.N),(.str x_86.T)]) rfl nle rfl<|?_
    obtain ⟨r_100,er101,hb2⟩:=ob hb2
    refine a0r (a0v (c6i _ _ er101) rfl (.refl _) rfl) a7s trivial<|x8 (.bool (!r_100)) rfl trivial rfl<|l7 (.bool (!r_100)) rfl<|?_
    rcases oi hb2 with ⟨c102,hb2⟩ | ⟨c102,hb2⟩
    ·refine a1p (s:=15) (b:=true) rfl c102<|a0g rfl rfl<|a0g rfl rfl<|a0g rfl rfl<|a0g rfl rfl<|a0g rfl rfl<|a0g rfl rfl<|a0g rfl rfl<|x8 (.bool true) rfl trivial rfl<|l7 (.bool true) rfl<|a0g rfl rfl<|a0g rfl rfl<|a0g rfl rfl<|a2w rfl<|a2w rfl<|a2w rfl<|a2w rfl<|a2w rfl<|a2w rfl<|c3d rfl trivial<|a2w rfl<|a0g rfl rfl<|x8 (.bool true) rfl trivial rfl<|a0b<|?_;obtain rfl:=os hb2;exact ⟨[],[],_,_,rfl,rfl,⟨.refl _,⟨.refl _,⟨.refl _,⟨.refl _,⟨.refl _,trivial⟩⟩⟩⟩⟩,(.refl _)⟩
    ·refine a1p (s:=15) (b:=false) rfl (bf c102)<|s_on rfl<|x8 (.ptr 0 0 0) rfl trivial rfl<|s_on rfl<|x8 (.int .i64 x_86.Kind) rfl nle rfl<|s_on rfl<|l7 (.lst 3 (d_1.map l9)) rfl<|s_on rfl<|?_
     obtain ⟨x_103,ex104,hb2⟩:=ob hb2
     refine y5 (a6n (enc:=l9) rfl rfl (b3h ex104) (b3i ex104))<|s_on rfl<|x8 (.iptr (l9 x_103) 0) rfl trivial rfl<|s_on rfl<|x8 (.int .i64 x_103.Kind) rfl nle rfl<|s_on rfl<|x8 (.bool (x_86.Kind != x_103.Kind)) rfl rfl rfl<|x8 (.bool (x_86.Kind != x_103.Kind)) rfl trivial rfl<|l7 (.bool (x_86.Kind != x_103.Kind)) rfl<|?_
     rcases oi hb2 with ⟨c105,hb2⟩ | ⟨c105,hb2⟩
     ·refine a1p (s:=24) (b:=true) rfl c105<|a0g rfl rfl<|a0g rfl rfl<|a0g rfl rfl<|a2w rfl<|a2w rfl<|a2w rfl<|a2w rfl<|a2w rfl<|a2w rfl<|c3d rfl trivial<|a2w rfl<|a0g rfl rfl<|x8 (.bool true) rfl trivial rfl<|a0b<|?_;obtain rfl:=os hb2;exact ⟨[],[],_,_,rfl,rfl,⟨.refl _,⟨.refl _,⟨.refl _,⟨.refl _,⟨.refl _,trivial⟩⟩⟩⟩⟩,(.refl _)⟩
     ·refine a1p (s:=24) (b:=false) rfl (bf c105)<|s_on rfl<|l7 (.int .i64 (s7_50:Int)) rfl<|s_on rfl<|x8 (.bool (decide ((s7_50:Int) > 0))) rfl rfl rfl<|s_on rfl<|l7 (.bool (decide ((s7_50:Int) > 0))) rfl<|?_
      rcases oi hb2 with ⟨c106,hb2⟩ | ⟨c106,hb2⟩
      ·refine a1p (s:=27) (b:=true) rfl c106<|s_on rfl<|l7 (.lst 3 (d_1.map l9)) rfl<|s_on rfl<|l7 (.int .i64 (s7_50:Int)) rfl<|s_on rfl<|x8 (.int .i64 (w64 ((s7_50:Int) - 1))) rfl rfl rfl<|s_on rfl<|?_
       obtain ⟨x_107,ex108,hb2⟩:=ob hb2
       refine y5 (a6n (enc:=l9) rfl rfl (b3h ex108) (b3i ex108))<|s_on rfl<|x8 (l9 x_107) rfl nle rfl<|s_on rfl<|x8 (.agg [(.int .i64 x_86.Kind),(.int .i64 x_86.N),(.str x_86.T)]) rfl nle rfl<|d7a rfl<|?_
       obtain ⟨r_109,er110,hb2⟩:=ob hb2
       refine a0r (a0v (b7a _ _ _ er110) rfl (.refl _) rfl) a7s trivial<|s_on rfl<|x8 (.bool (decide (r_109 ≥ 0))) rfl rfl rfl<|s_on rfl<|x8 (.bool (decide (r_109 ≥ 0))) rfl trivial rfl<|x8 (.bool (decide (r_109 ≥ 0))) rfl trivial rfl<|a0b<|?_;obtain rfl:=os hb2;exact ⟨[],[],_,_,rfl,rfl,⟨.refl _,⟨.refl _,⟨.refl _,⟨.refl _,⟨.refl _,trivial⟩⟩⟩⟩⟩,(.refl _)⟩
      ·refine a1p (s:=27) (b:=false) rfl (bf c106)<|a0g rfl rfl<|a0g rfl rfl<|a0g rfl rfl<|a0g rfl rfl<|a0g rfl rfl<|a0g rfl rfl<|d2t rfl rfl trivial<|a0g rfl rfl<|s_on rfl<|x8 (.bool false) rfl trivial rfl<|x8 (.bool false) rfl trivial rfl<|a0b<|?_;obtain rfl:=os hb2;exact ⟨[],[],_,_,rfl,rfl,⟨.refl _,⟨.refl _,⟨.refl _,⟨.refl _,⟨.refl _,trivial⟩⟩⟩⟩⟩,(.refl _)⟩
   ·rcases oi hc1 with ⟨c111,hc1⟩ | ⟨c111,hc1⟩
    ·refine y7 rfl c111<|sr<|l7 (.bool false) rfl<|dk<|a0d<|?_;obtain rfl:=os hc1;obtain rfl:=os hf;exact a0e ⟨trivial,trivial⟩ rfl (.refl _)
    ·refine y8 rfl (bf c111)<|a0h<|a3f<|a0f<|a0s<|x8 (.int .i64 (w64 ((s7_50:Int) + 1))) rfl rfl rfl<|l7 (.int .i64 (w64 ((s7_50:Int) + 1))) rfl<|a0b<|?_;exact a1q ⟨(s7_50 + 1),hc1⟩ (mul hlt80) ⟨[],[],_,_,rfl,rfl,⟨.refl _,⟨.refl _,⟨.refl _,⟨.of_eq (congrArg (AV.int _) (a1w hlt80 hl2)),trivial⟩⟩⟩⟩,(.refl _)⟩
 ·rintro ⟨_,rfl⟩
  refine sr<|l7 (.lst 3 (d_1.map l9)) rfl<|a0w (a1r (enc:=l9) rfl) fun hl112 => x8 (.bool (decide ((d_1.length:Int) ≤ 8))) rfl rfl rfl<|l7 (.bool (decide ((d_1.length:Int) ≤ 8))) rfl<|dk<|a0d<|?_;obtain rfl:=os hf;exact a0e ⟨trivial,trivial⟩ rfl (.refl _)

/- impl.isRowOf$1 -/
def e4l:a0m :=
 (.seq (.reg (tm 2 (.c (.bool false)) .done))
 (.seq (.reg (tm 3 (.t 0) (tq 4 (.call 129 [(.t 3)]) (tq 5 (.not (.t 4)) (tm 2 (.t 5) .done)))))
 .ret))
theorem e4m:a1a Tryz.prog Tryz.f286 = some (e4l.erase,[.mov (.t 2)],6):=by kernel_rfl
def b0l (d_1:(List a0a)):Option Bool :=
    (b0k d_1).bind fun r_2 =>
    some (!r_2)
theorem c0w (d_1:(List a0a)) (r:Bool) (hf:b0l d_1 = some r):x9 Tryz.prog 286 .flat [(.lst 3 (d_1.map l9))] (.bool r):=by
  refine x9.of_awp mixed Tryz.func286 e4m nle ?_
  rw [a0j]
  unfold b0l at hf
  unfold e4l
  refine (show awp Tryz.prog false 0 _ (ofL [(0,(.lst 3 (d_1.map l9)))]) [] _ from ?_)
  refine o6 ?_
  refine a0s ?_
  refine y5 (a2x (.bool false) rfl) ?_
  refine a0b ?_
  refine a0f ?_
  refine o6 ?_
  refine a0s ?_
  obtain ⟨r_2,er3,hf⟩:=ob hf
  refine y5 (a2x (.lst 3 (d_1.map l9)) rfl) ?_
  refine y5 (a0v (c4x _ _ er3) rfl (.refl _) rfl) ?_
  refine y5 (o_q (.bool (!r_2)) rfl trivial rfl) ?_
  refine y5 (a2x (.bool (!r_2)) rfl) ?_
  refine a0b ?_
  refine a0f ?_
  refine a0d ?_
  obtain rfl:=os hf
  exact a0e ⟨trivial,trivial⟩ rfl (.refl _)

/- impl.isRowOf -/
def c196:a0m :=
 (.seq (.reg (tq 2 (.box 2 (.t 0)) (tm 4 (.c (.bool false)) .done)))
 (.seq (.reg (tq 5 (.faddr 1 (.t 2)) (tq 6 (.load 1 false (.t 5)) (tq 7 (.len (.t 6)) (tm 8 (.t 1) (tq 9 (.bin .eql (.t 7) (.t 8)) (tm 10 (.t 9) (tg 11 10 true (.faddr 1 (.t 2)) (tg 12 10 true (.load 1 false (.t 11)) (tg 13 10 true (.call 285 [(.t 12),(.c (.fn 286 []))]) (tg 14 10 true (.not (.t 13)) (tq 15 (.pick (.t 10) (.t 14) (.c (.bool false))) (tm 4 (.t 15) .done)))))))))))))
 .ret))
theorem e4n:a1a Tryz.prog Tryz.f196 = some (c196.erase,[.mov (.t 4)],16):=by kernel_rfl
def b0m (r_1:a3r) (many_2:Int):Option Bool :=
    if ((r_1.Cells.length:Int) == many_2) then
    (a1o r_1.Cells b0l).bind fun r_5 =>
    some (!r_5)
    else
    some false
theorem c4y (r_1:a3r) (many_2:Int) (r:Bool) (hf:b0m r_1 many_2 = some r):x9 Tryz.prog 196 .flat [(a3t r_1),(.int .i64 many_2)] (.bool r):=by
 refine x9.of_awp mixed Tryz.func196 e4n nle ?_;rw [a0j];unfold b0m at hf;unfold c196;refine (show awp Tryz.prog false 0 _ (ofL [(0,(a3t r_1)),(1,(.int .i64 many_2))]) [] _ from ?_);refine sr<|y5 (a1i (j:=0) (c:=(.agg [(.int .i64 r_1.Id),(.lst 1 (r_1.Cells.map (a0t 3 l9)))])) rfl trivial rfl rfl)<|l7 (.bool false) rfl<|dk<|sr<|?_
 rcases oi hf with ⟨c4,hf⟩ | ⟨c4,hf⟩
 ·obtain ⟨r_5,er6,hf⟩:=ob hf
  refine x8 (.ptr 0 0 1) rfl trivial rfl<|x8 (.lst 1 (r_1.Cells.map (a0t 3 l9))) rfl nle rfl<|a0w (a1r (enc:=(a0t 3 l9)) rfl) fun hl3 => l7 (.int .i64 many_2) rfl<|x8 (.bool ((r_1.Cells.length:Int) == many_2)) rfl rfl rfl<|l7 (.bool ((r_1.Cells.length:Int) == many_2)) rfl<|a1p (s:=10) (b:=true) rfl c4<|s_on rfl<|x8 (.ptr 0 0 1) rfl trivial rfl<|s_on rfl<|x8 (.lst 1 (r_1.Cells.map (a0t 3 l9))) rfl nle rfl<|s_on rfl<|?_;refine y5 (a0v (a7b _ _ _ er6 286 [] (by kernel_rfl) (fun _ _ => rfl) (fun _ => rfl) (fun a0 r h => c0w a0 r h)) rfl (.refl _) rfl) ?_;refine s_on rfl<|x8 (.bool (!r_5)) rfl trivial rfl<|?_
  refine x8 (.bool (!r_5)) rfl trivial rfl<|l7 (.bool (!r_5)) rfl<|dk<|a0d<|?_;obtain rfl:=os hf;exact a0e ⟨trivial,trivial⟩ rfl (.refl _)
 ·refine x8 (.ptr 0 0 1) rfl trivial rfl<|x8 (.lst 1 (r_1.Cells.map (a0t 3 l9))) rfl nle rfl<|a0w (a1r (enc:=(a0t 3 l9)) rfl) fun hl3 => l7 (.int .i64 many_2) rfl<|x8 (.bool ((r_1.Cells.length:Int) == many_2)) rfl rfl rfl<|l7 (.bool ((r_1.Cells.length:Int) == many_2)) rfl<|a1p (s:=10) (b:=false) rfl (bf c4)<|a0g rfl rfl<|a0g rfl rfl<|a0g rfl rfl<|a0g rfl rfl<|x8 (.bool false) rfl trivial rfl<|l7 (.bool false) rfl<|dk<|a0d<|?_;obtain rfl:=os hf;exact a0e ⟨trivial,trivial⟩ rfl (.refl _)

/- impl.rowFits -/
def c97:a0m :=
 (.seq (.reg (tq 3 (.box 2 (.t 1)) (tm 4 (.c (.bool false)) .done)))
 (.seq (.reg (tm 5 (.t 0) (tq 6 (.len (.t 5)) (tq 7 (.bin .leq (.t 6) (.c (.int .i64 6))) (tm 8 (.t 7) (tg 9 8 true (.mov (.t 0)) (tg 10 8 true (.call 194 [(.t 9),(.c (.fn 195 []))]) (tg 11 8 true (.not (.t 10)) (tq 12 (.pick (.t 8) (.t 11) (.c (.bool false))) (tm 13 (.t 12) (tg 14 13 true (.load 2 true (.t 3)) (tg 15 13 true (.mov (.t 0)) (tg 16 13 true (.len (.t 15)) (tg 17 13 true (.call 196 [(.t 14),(.t 16)]) (tq 18 (.pick (.t 13) (.t 17) (.c (.bool false))) (tm 4 (.t 18) .done))))))))))))))))
 .ret))
theorem e6i:a1a Tryz.prog Tryz.f97 = some (c97.erase,[.mov (.t 4)],19):=by kernel_rfl
def b0n (columns_1:(List Str)) (r_2:a3r):Option Bool :=
    if (decide ((columns_1.length:Int) ≤ 6)) then
    (a2e columns_1 b0h).bind fun r_5 =>
    if (!r_5) then
    (b0m r_2 (columns_1.length:Int)).bind fun r_9 =>
    some r_9
    else
    some false
    else
    some false
theorem c4z (columns_1:(List Str)) (r_2:a3r) (r:Bool) (hf:b0n columns_1 r_2 = some r):x9 Tryz.prog 97 .flat [(.lst 1 (columns_1.map AV.str)),(a3t r_2)] (.bool r):=by
 refine x9.of_awp mixed Tryz.func97 e6i nle ?_;rw [a0j];unfold b0n at hf;unfold c97;refine (show awp Tryz.prog false 0 _ (ofL [(0,(.lst 1 (columns_1.map AV.str))),(1,(a3t r_2))]) [] _ from ?_);refine sr<|y5 (a1i (j:=0) (c:=(.agg [(.int .i64 r_2.Id),(.lst 1 (r_2.Cells.map (a0t 3 l9)))])) rfl trivial rfl rfl)<|l7 (.bool false) rfl<|dk<|sr<|l7 (.lst 1 (columns_1.map AV.str)) rfl<|a0w (a1r (enc:=AV.str) rfl) fun hl3 => x8 (.bool (decide ((columns_1.length:Int) ≤ 6))) rfl rfl rfl<|l7 (.bool (decide ((columns_1.length:Int) ≤ 6))) rfl<|?_
 rcases oi hf with ⟨c4,hf⟩ | ⟨c4,hf⟩
 ·refine a1p (s:=8) (b:=true) rfl c4<|s_on rfl<|l7 (.lst 1 (columns_1.map AV.str)) rfl<|s_on rfl<|?_
  obtain ⟨r_5,er6,hf⟩:=ob hf
  refine y5 (a0v (a8u _ _ _ er6 195 [] (by kernel_rfl) (fun _ _ => rfl) (fun _ => rfl) (fun a0 r h => c0u a0 r h)) rfl (.refl _) rfl) ?_;refine s_on rfl<|x8 (.bool (!r_5)) rfl trivial rfl<|x8 (.bool (!r_5)) rfl trivial rfl<|l7 (.bool (!r_5)) rfl<|?_
  rcases oi hf with ⟨c7,hf⟩ | ⟨c7,hf⟩
  ·refine a1p (s:=13) (b:=true) rfl c7<|s_on rfl<|x8 (.agg [(.int .i64 r_2.Id),(.lst 1 (r_2.Cells.map (a0t 3 l9)))]) rfl nle rfl<|s_on rfl<|l7 (.lst 1 (columns_1.map AV.str)) rfl<|s_on rfl<|a0w (a1r (enc:=AV.str) rfl) fun hl8 => s_on rfl<|?_
   obtain ⟨r_9,er10,hf⟩:=ob hf
   refine y5 (a0v (c4y _ _ _ er10) rfl (.refl _) rfl)<|x8 (.bool r_9) rfl trivial rfl<|l7 (.bool r_9) rfl<|dk<|a0d<|?_;obtain rfl:=os hf;exact a0e ⟨trivial,trivial⟩ rfl (.refl _)
  ·refine a1p (s:=13) (b:=false) rfl (bf c7)<|a0g rfl rfl<|a0g rfl rfl<|a0g rfl rfl<|a0g rfl rfl<|x8 (.bool false) rfl trivial rfl<|l7 (.bool false) rfl<|dk<|a0d<|?_;obtain rfl:=os hf;exact a0e ⟨trivial,trivial⟩ rfl (.refl _)
 ·refine a1p (s:=8) (b:=false) rfl (bf c4)<|a0g rfl rfl<|a0g rfl rfl<|a0g rfl rfl<|x8 (.bool false) rfl trivial rfl<|l7 (.bool false) rfl<|a0g rfl rfl<|a0g rfl rfl<|a0g rfl rfl<|a0g rfl rfl<|x8 (.bool false) rfl trivial rfl<|l7 (.bool false) rfl<|dk<|a0d<|?_;obtain rfl:=os hf;exact a0e ⟨trivial,trivial⟩ rfl (.refl _)

/- slices.Clone[[]string,string] -/
def e4o:a0m :=
 (.seq (.reg (tm 2 (.c .nil) .done))
 (.seq (.seq (.reg (tm 3 (.t 0) (tq 4 (.isnil false (.t 3)) .done)))
 (.cond (.t 4) (.seq (.reg (tm 2 (.c .nil) .done))
 .ret)
 .skip))
 (.seq (.reg (tq 5 (.bslice 1 []) (tm 6 (.t 0) (tq 7 (.append 1 16 (.t 5) (.t 6)) (tm 2 (.t 7) .done)))))
 .ret)))
theorem e4p:a1a Tryz.prog Tryz.f197 = some (e4o.erase,[.mov (.t 2)],8):=by kernel_rfl
def a4s (s_1:(List Str)):Option (List Str) :=
    if ([] ++ s_1).length ≤ 2 ^ 30 then
    some ([] ++ s_1)
    else none
theorem b2e (s_1:(List Str)) (r:(List Str)) (hf:a4s s_1 = some r):x9 Tryz.prog 197 .fresh [(.lst 1 (s_1.map AV.str))] (.lst 1 (r.map AV.str)):=by
 refine x9.of_awp mixed Tryz.func197 e4p nle ?_;rw [a0j];unfold a4s at hf;unfold e4o;refine (show awp Tryz.prog true 0 _ (ofL [(0,(.lst 1 (s_1.map AV.str)))]) [] _ from ?_);refine sr<|l7 .nil rfl<|dk<|o6<|sr<|l7 (.lst 1 (s_1.map AV.str)) rfl<|e1t (l:=s_1.map AV.str) rfl<|?_
 intro b hb3
 rcases b with _ | _
 ·refine dk<|y8 rfl rfl<|a0h<|a0f<|sr<|?_
  obtain ⟨g2,hf⟩:=og hf
  refine y5 (a1f (j:=0) (as':=[]) rfl (fun _ => by decide) trivial (.refl _) rfl rfl rfl) ?_;refine l7 (.lst 1 (s_1.map AV.str)) rfl ?_
  refine y5 (a3u (j:=1) (L:=(([] ++ s_1).map AV.str)) (len:=([] ++ s_1).length) rfl false rfl rfl (fun _ => flm (fun _ => rfl) _) (fun _ _ _ => flm (fun _ => rfl) _) (by decide) ((by simp)) (by simp <;> omega) g2 rfl rfl) ?_
  refine l7 (.own 1 0 (([] ++ s_1).length)) rfl<|dk<|a0d<|?_;obtain rfl:=os hf;exact a2k ⟨trivial,trivial⟩ rfl (by decide) (.of_eq (congrArg (AV.lst _) (tk (enc:=AV.str) ([] ++ s_1))))
 ·have he4:s_1 = []:=e0t (hb3 rfl)
  have hE:(if ([] ++ s_1).length ≤ 2 ^ 30 then some ([] ++ s_1) else none) = (some []):=by simp [he4]
  rw [hE] at hf;refine dk<|y7 rfl rfl<|sr<|l7 .nil rfl<|dk<|a0d<|?_;obtain rfl:=os hf;exact a2k ⟨trivial,trivial⟩ rfl (by decide) (.nil _)

/- math/bits.Len64 -/
def e4q:a0m :=
 (.seq (.reg (tm 2 (.c (.int .i64 0)) .done))
 (.seq (.seq (.reg (tm 3 (.t 0) (tq 4 (.bin .geq (.t 3) (.c (.int .u64 4294967296))) .done)))
 (.cond (.t 4) (.seq (.reg (tm 5 (.t 0) (tq 6 (.bin .shr (.t 5) (.c (.int .u64 32))) (tm 0 (.t 6) .done))))
 (.reg (tm 2 (.c (.int .i64 32)) .done)))
 .skip))
 (.cut (.seq (.seq (.reg (tm 7 (.t 0) (tq 8 (.bin .geq (.t 7) (.c (.int .u64 65536))) .done)))
 (.cond (.t 8) (.seq (.reg (tm 9 (.t 0) (tq 10 (.bin .shr (.t 9) (.c (.int .u64 16))) (tm 0 (.t 10) .done))))
 (.reg (tm 11 (.t 2) (tq 12 (.bin .add (.t 11) (.c (.int .i64 16))) (tm 2 (.t 12) .done)))))
 .skip))
 (.cut (.seq (.seq (.reg (tm 13 (.t 0) (tq 14 (.bin .geq (.t 13) (.c (.int .u64 256))) .done)))
 (.cond (.t 14) (.seq (.reg (tm 15 (.t 0) (tq 16 (.bin .shr (.t 15) (.c (.int .u64 8))) (tm 0 (.t 16) .done))))
 (.reg (tm 17 (.t 2) (tq 18 (.bin .add (.t 17) (.c (.int .i64 8))) (tm 2 (.t 18) .done)))))
 .skip))
 (.seq (.reg (tm 19 (.t 2) (tm 20 (.t 0) (tq 21 (.convI .u8 (.t 20)) (tq 22 (.idxs (.c (.str [0,1,2,2,3,3,3,3,4,4,4,4,4,4,4,4,5,5,5,5,5,5,5,5,5,5,5,5,5,5,5,5,6,6,6,6,6,6,6,6,6,6,6,6,6,6,6,6,6,6,6,6,6,6,6,6,6,6,6,6,6,6,6,6,7,7,7,7,7,7,7,7,7,7,7,7,7,7,7,7,7,7,7,7,7,7,7,7,7,7,7,7,7,7,7,7,7,7,7,7,7,7,7,7,7,7,7,7,7,7,7,7,7,7,7,7,7,7,7,7,7,7,7,7,7,7,7,7,8,8,8,8,8,8,8,8,8,8,8,8,8,8,8,8,8,8,8,8,8,8,8,8,8,8,8,8,8,8,8,8,8,8,8,8,8,8,8,8,8,8,8,8,8,8,8,8,8,8,8,8,8,8,8,8,8,8,8,8,8,8,8,8,8,8,8,8,8,8,8,8,8,8,8,8,8,8,8,8,8,8,8,8,8,8,8,8,8,8,8,8,8,8,8,8,8,8,8,8,8,8,8,8,8,8,8,8,8,8,8,8,8,8,8,8,8,8,8,8,8,8,8,8,8,8,8,8])) (.t 21)) (tq 23 (.convI .i64 (.t 22)) (tq 24 (.bin .add (.t 19) (.t 23)) (tm 2 (.t 24) .done))))))))
 .ret)))))))
theorem e4r:a1a Tryz.prog Tryz.f345 = some (e4q.erase,[.mov (.t 2)],25):=by kernel_rfl
def b2f (x_1:Int):Option Int :=
    ((if (decide (x_1 ≥ 4294967296)) then
    some (Int.fdiv x_1 (2 ^ (min (Int.toNat 32) (IntKind.bits .u64))),32)
    else
    some (x_1,0):Option (Int × Int))).bind fun p5 =>
    (match p5 with
    | (x_3,n_4) =>
    ((if (decide (x_3 ≥ 65536)) then
    some (Int.fdiv x_3 (2 ^ (min (Int.toNat 16) (IntKind.bits .u64))),w64 (n_4 + 16))
    else
    some (x_3,n_4):Option (Int × Int))).bind fun p10 =>
    (match p10 with
    | (x_8,n_9) =>
    if (decide (x_8 ≥ 256)) then
    (idx ([0,1,2,2,3,3,3,3,4,4,4,4,4,4,4,4,5,5,5,5,5,5,5,5,5,5,5,5,5,5,5,5,6,6,6,6,6,6,6,6,6,6,6,6,6,6,6,6,6,6,6,6,6,6,6,6,6,6,6,6,6,6,6,6,7,7,7,7,7,7,7,7,7,7,7,7,7,7,7,7,7,7,7,7,7,7,7,7,7,7,7,7,7,7,7,7,7,7,7,7,7,7,7,7,7,7,7,7,7,7,7,7,7,7,7,7,7,7,7,7,7,7,7,7,7,7,7,7,8,8,8,8,8,8,8,8,8,8,8,8,8,8,8,8,8,8,8,8,8,8,8,8,8,8,8,8,8,8,8,8,8,8,8,8,8,8,8,8,8,8,8,8,8,8,8,8,8,8,8,8,8,8,8,8,8,8,8,8,8,8,8,8,8,8,8,8,8,8,8,8,8,8,8,8,8,8,8,8,8,8,8,8,8,8,8,8,8,8,8,8,8,8,8,8,8,8,8,8,8,8,8,8,8,8,8,8,8,8,8,8,8,8,8,8,8,8,8,8,8,8,8,8,8,8,8,8]:Str) (IntKind.u8.wrap (Int.fdiv x_8 (2 ^ (min (Int.toNat 8) (IntKind.bits .u64)))))).bind fun b_13 =>
    some (w64 ((w64 (n_9 + 8)) + (w64 (b_13.toNat:Int))))
    else
    (idx ([0,1,2,2,3,3,3,3,4,4,4,4,4,4,4,4,5,5,5,5,5,5,5,5,5,5,5,5,5,5,5,5,6,6,6,6,6,6,6,6,6,6,6,6,6,6,6,6,6,6,6,6,6,6,6,6,6,6,6,6,6,6,6,6,7,7,7,7,7,7,7,7,7,7,7,7,7,7,7,7,7,7,7,7,7,7,7,7,7,7,7,7,7,7,7,7,7,7,7,7,7,7,7,7,7,7,7,7,7,7,7,7,7,7,7,7,7,7,7,7,7,7,7,7,7,7,7,7,8,8,8,8,8,8,8,8,8,8,8,8,8,8,8,8,8,8,8,8,8,8,8,8,8,8,8,8,8,8,8,8,8,8,8,8,8,8,8,8,8,8,8,8,8,8,8,8,8,8,8,8,8,8,8,8,8,8,8,8,8,8,8,8,8,8,8,8,8,8,8,8,8,8,8,8,8,8,8,8,8,8,8,8,8,8,8,8,8,8,8,8,8,8,8,8,8,8,8,8,8,8,8,8,8,8,8,8,8,8,8,8,8,8,8,8,8,8,8,8,8,8,8,8,8,8,8,8]:Str) (IntKind.u8.wrap x_8)).bind fun b_15 =>
    some (w64 (n_9 + (w64 (b_15.toNat:Int))))))
theorem b9n (x_1:Int) (r:Int) (hf:b2f x_1 = some r):x9 Tryz.prog 345 .flat [(.int .u64 x_1)] (.int .i64 r):=by
 refine x9.of_awp mixed Tryz.func345 e4r nle ?_;rw [a0j];unfold b2f at hf;unfold e4q;refine (show awp Tryz.prog false 0 _ (ofL [(0,(.int .u64 x_1))]) [] _ from ?_);refine sr<|l7 (.int .i64 0) rfl<|dk<|o6<|?_
 obtain ⟨p5,hb1,hf⟩:=ob hf
 refine a2a ([(0,(.int .u64 p5.1)),(2,(.int .i64 p5.2))],[]) ?_ ?_
 ·refine sr<|l7 (.int .u64 x_1) rfl<|x8 (.bool (decide (x_1 ≥ 4294967296))) rfl rfl rfl<|dk<|?_
  rcases oi hb1 with ⟨c6,hb1⟩ | ⟨c6,hb1⟩
  ·refine y7 rfl c6<|sr<|l7 (.int .u64 x_1) rfl<|?_;refine y5 (o_q (.int .u64 (Int.fdiv x_1 (2 ^ (min (Int.toNat 32) (IntKind.bits .u64))))) rfl (show (0:Int) ≤ 32 by decide) rfl) ?_;refine l7 (.int .u64 (Int.fdiv x_1 (2 ^ (min (Int.toNat 32) (IntKind.bits .u64))))) rfl<|dk<|a0s<|l7 (.int .i64 32) rfl<|a0b<|?_;obtain rfl:=os hb1;exact ⟨[],[],_,_,rfl,rfl,⟨.refl _,⟨.refl _,trivial⟩⟩,(.refl _)⟩
  ·refine y8 rfl (bf c6)<|a0h<|?_;obtain rfl:=os hb1;exact ⟨[],[],_,_,rfl,rfl,⟨.refl _,⟨.refl _,trivial⟩⟩,(.refl _)⟩
 ·obtain ⟨x_3,n_4⟩:=p5
  refine o6 ?_
  obtain ⟨p10,hb1,hf⟩:=ob hf
  refine a2a ([(0,(.int .u64 p10.1)),(2,(.int .i64 p10.2))],[]) ?_ ?_
  ·refine sr<|l7 (.int .u64 x_3) rfl<|x8 (.bool (decide (x_3 ≥ 65536))) rfl rfl rfl<|dk<|?_
   rcases oi hb1 with ⟨c11,hb1⟩ | ⟨c11,hb1⟩
   ·refine y7 rfl c11<|sr<|l7 (.int .u64 x_3) rfl<|?_;refine y5 (o_q (.int .u64 (Int.fdiv x_3 (2 ^ (min (Int.toNat 16) (IntKind.bits .u64))))) rfl (show (0:Int) ≤ 16 by decide) rfl) ?_;refine l7 (.int .u64 (Int.fdiv x_3 (2 ^ (min (Int.toNat 16) (IntKind.bits .u64))))) rfl<|dk<|a0s<|l7 (.int .i64 n_4) rfl<|x8 (.int .i64 (w64 (n_4 + 16))) rfl rfl rfl<|l7 (.int .i64 (w64 (n_4 + 16))) rfl<|a0b<|?_;obtain rfl:=os hb1;exact ⟨[],[],_,_,rfl,rfl,⟨.refl _,⟨.refl _,trivial⟩⟩,(.refl _)⟩
   ·refine y8 rfl (bf c11)<|a0h<|?_;obtain rfl:=os hb1;exact ⟨[],[],_,_,rfl,rfl,⟨.refl _,⟨.refl _,trivial⟩⟩,(.refl _)⟩
  ·obtain ⟨x_8,n_9⟩:=p10
   refine o6<|sr<|l7 (.int .u64 x_8) rfl<|x8 (.bool (decide (x_8 ≥ 256))) rfl rfl rfl<|dk<|?_
   rcases oi hf with ⟨c12,hf⟩ | ⟨c12,hf⟩
   ·refine y7 rfl c12<|sr<|l7 (.int .u64 x_8) rfl<|?_;refine y5 (o_q (.int .u64 (Int.fdiv x_8 (2 ^ (min (Int.toNat 8) (IntKind.bits .u64))))) rfl (show (0:Int) ≤ 8 by decide) rfl) ?_;refine l7 (.int .u64 (Int.fdiv x_8 (2 ^ (min (Int.toNat 8) (IntKind.bits .u64))))) rfl<|dk<|a0s<|l7 (.int .i64 n_9) rfl<|x8 (.int .i64 (w64 (n_9 + 8))) rfl rfl rfl<|l7 (.int .i64 (w64 (n_9 + 8))) rfl<|dk<|sr<|?_
    obtain ⟨b_13,eb14,hf⟩:=ob hf
    refine l7 (.int .i64 (w64 (n_9 + 8))) rfl<|l7 (.int .u64 (Int.fdiv x_8 (2 ^ (min (Int.toNat 8) (IntKind.bits .u64))))) rfl<|x8 (.int .u8 (IntKind.u8.wrap (Int.fdiv x_8 (2 ^ (min (Int.toNat 8) (IntKind.bits .u64)))))) rfl trivial rfl<|y5 (c8y rfl rfl (b3h eb14) (b3i eb14))<|x8 (.int .i64 (w64 (b_13.toNat:Int))) rfl trivial rfl<|x8 (.int .i64 (w64 ((w64 (n_9 + 8)) + (w64 (b_13.toNat:Int))))) rfl rfl rfl<|l7 (.int .i64 (w64 ((w64 (n_9 + 8)) + (w64 (b_13.toNat:Int))))) rfl<|dk<|a0d<|?_;obtain rfl:=os hf;exact a0e ⟨trivial,trivial⟩ rfl (.refl _)
   ·refine y8 rfl (bf c12)<|a0h<|a0f<|sr<|?_
    obtain ⟨b_15,eb16,hf⟩:=ob hf
    refine l7 (.int .i64 n_9) rfl<|l7 (.int .u64 x_8) rfl<|x8 (.int .u8 (IntKind.u8.wrap x_8)) rfl trivial rfl<|y5 (c8y rfl rfl (b3h eb16) (b3i eb16))<|x8 (.int .i64 (w64 (b_15.toNat:Int))) rfl trivial rfl<|x8 (.int .i64 (w64 (n_9 + (w64 (b_15.toNat:Int))))) rfl rfl rfl<|l7 (.int .i64 (w64 (n_9 + (w64 (b_15.toNat:Int))))) rfl<|dk<|a0d<|?_;obtain rfl:=os hf;exact a0e ⟨trivial,trivial⟩ rfl (.refl _)

/- math/bits.Len -/
def e4s:a0m :=
 (.seq (.reg (tm 2 (.c (.int .i64 0)) .done))
 (.seq (.cond (.c (.bool false)) (.seq (.reg (tm 3 (.t 0) (tq 4 (.convI .u32 (.t 3)) (tq 5 (.call 344 [(.t 4)]) (tm 2 (.t 5) .done)))))
 .ret)
 .skip)
 (.seq (.reg (tm 6 (.t 0) (tq 7 (.call 345 [(.t 6)]) (tm 2 (.t 7) .done))))
 .ret)))
theorem e4t:a1a Tryz.prog Tryz.f288 = some (e4s.erase,[.mov (.t 2)],8):=by kernel_rfl
def a8w (x_1:Int):Option Int :=
    (b2f x_1).bind fun r_2 =>
    some r_2
theorem c2r (x_1:Int) (r:Int) (hf:a8w x_1 = some r):x9 Tryz.prog 288 .flat [(.int .u64 x_1)] (.int .i64 r):=by
  refine x9.of_awp mixed Tryz.func288 e4t nle ?_
  rw [a0j]
  unfold a8w at hf
  unfold e4s
  refine (show awp Tryz.prog false 0 _ (ofL [(0,(.int .u64 x_1))]) [] _ from ?_)
  refine o6 ?_
  refine a0s ?_
  refine y5 (a2x (.int .i64 0) rfl) ?_
  refine a0b ?_
  refine a0f ?_
  refine o6 ?_
  refine d7b ?_
  refine a0h ?_
  refine a0f ?_
  refine o6 ?_
  refine a0s ?_
  obtain ⟨r_2,er3,hf⟩:=ob hf
  refine y5 (a2x (.int .u64 x_1) rfl) ?_
  refine y5 (a0v (b9n _ _ er3) rfl (.refl _) rfl) ?_
  refine y5 (a2x (.int .i64 r_2) rfl) ?_
  refine a0b ?_
  refine a0f ?_
  refine a0d ?_
  obtain rfl:=os hf
  exact a0e ⟨trivial,trivial⟩ rfl (.refl _)

/- cmp.isNaN[string] -/
def e4u:a0m :=
 (.seq (.reg (tm 2 (.c (.bool false)) .done))
 (.seq (.reg (tm 3 (.t 0) (tm 4 (.t 0) (tq 5 (.bin .neq (.t 3) (.t 4)) (tm 2 (.t 5) .done)))))
 .ret))
theorem e4v:a1a Tryz.prog Tryz.f383 = some (e4u.erase,[.mov (.t 2)],6):=by kernel_rfl
def cmp_isNaN_string (x_1:Str):Option Bool :=
    some (!(x_1 == x_1))
theorem b3a (x_1:Str) (r:Bool) (hf:cmp_isNaN_string x_1 = some r):x9 Tryz.prog 383 .flat [(.str x_1)] (.bool r):=by
  refine x9.of_awp mixed Tryz.func383 e4v nle ?_
  rw [a0j]
  unfold cmp_isNaN_string at hf
  unfold e4u
  refine (show awp Tryz.prog false 0 _ (ofL [(0,(.str x_1))]) [] _ from ?_)
  refine o6 ?_
  refine a0s ?_
  refine y5 (a2x (.bool false) rfl) ?_
  refine a0b ?_
  refine a0f ?_
  refine o6 ?_
  refine a0s ?_
  refine y5 (a2x (.str x_1) rfl) ?_
  refine y5 (a2x (.str x_1) rfl) ?_
  refine y5 (o_q (.bool (!(x_1 == x_1))) rfl trivial rfl) ?_
  refine y5 (a2x (.bool (!(x_1 == x_1))) rfl) ?_
  refine a0b ?_
  refine a0f ?_
  refine a0d ?_
  obtain rfl:=os hf
  exact a0e ⟨trivial,trivial⟩ rfl (.refl _)

/- cmp.Less[string] -/
def e4w:a0m :=
 (.seq (.reg (tm 4 (.c (.bool false)) .done))
 (.seq (.reg (tm 5 (.t 0) (tq 6 (.call 383 [(.t 5)]) (tm 7 (.t 6) (tg 8 7 true (.mov (.t 1)) (tg 9 7 true (.call 383 [(.t 8)]) (tg 10 7 true (.not (.t 9)) (tq 11 (.pick (.t 7) (.t 10) (.c (.bool false))) (tm 12 (.t 11) (tg 13 12 false (.mov (.t 0)) (tg 14 12 false (.mov (.t 1)) (tg 15 12 false (.bin .lss (.t 13) (.t 14)) (tq 16 (.pick (.t 12) (.c (.bool true)) (.t 15)) (tm 4 (.t 16) .done))))))))))))))
 .ret))
theorem e4x:a1a Tryz.prog Tryz.f341 = some (e4w.erase,[.mov (.t 4)],17):=by kernel_rfl
def cmp_Less_string (x_1:Str) (y_2:Str):Option Bool :=
    (cmp_isNaN_string x_1).bind fun r_3 =>
    if r_3 then
    (cmp_isNaN_string y_2).bind fun r_6 =>
    some (bif (!r_6) then true else (Op.bytesLess x_1 y_2))
    else
    some (Op.bytesLess x_1 y_2)
theorem b9o (x_1:Str) (y_2:Str) (r:Bool) (hf:cmp_Less_string x_1 y_2 = some r):x9 Tryz.prog 341 .flat [(.str x_1),(.str y_2)] (.bool r):=by
 refine x9.of_awp mixed Tryz.func341 e4x nle ?_;rw [a0j];unfold cmp_Less_string at hf;unfold e4w;refine (show awp Tryz.prog false 0 _ (ofL [(0,(.str x_1)),(1,(.str y_2))]) [] _ from ?_);refine sr<|l7 (.bool false) rfl<|dk<|sr<|l7 (.str x_1) rfl<|?_
 obtain ⟨r_3,er4,hf⟩:=ob hf
 refine y5 (a0v (b3a _ _ er4) rfl (.refl _) rfl)<|l7 (.bool r_3) rfl<|?_
 rcases oi hf with ⟨c5,hf⟩ | ⟨c5,hf⟩
 ·refine a1p (s:=7) (b:=true) rfl c5<|s_on rfl<|l7 (.str y_2) rfl<|s_on rfl<|?_
  obtain ⟨r_6,er7,hf⟩:=ob hf
  refine y5 (a0v (b3a _ _ er7) rfl (.refl _) rfl)<|s_on rfl<|x8 (.bool (!r_6)) rfl trivial rfl<|x8 (.bool (!r_6)) rfl trivial rfl<|l7 (.bool (!r_6)) rfl<|?_;refine s_g (v:=(!r_6)) (.str x_1) rfl (fun hv => by (try simp only [a1s hv]);exact ⟨rfl,trivial,rfl⟩) ?_;refine s_g (v:=(!r_6)) (.str y_2) rfl (fun hv => by (try simp only [a1s hv]);exact ⟨rfl,trivial,rfl⟩) ?_;refine s_g (v:=(!r_6)) (.bool (Op.bytesLess x_1 y_2)) rfl (fun hv => by (try simp only [a1s hv]);exact ⟨rfl,trivial,rfl⟩) ?_;refine b3q (x:=true) (y:=(Op.bytesLess x_1 y_2)) rfl (fun hv => by (try simp only [a1s hv]);rfl) (fun hv => by (try simp only [a1s hv]);rfl) ?_;refine l7 (.bool (bif (!r_6) then true else (Op.bytesLess x_1 y_2))) rfl ?_
  refine dk<|a0d<|?_;obtain rfl:=os hf;exact a0e ⟨trivial,trivial⟩ rfl (.refl _)
 ·refine a1p (s:=7) (b:=false) rfl (bf c5)<|a0g rfl rfl<|a0g rfl rfl<|a0g rfl rfl<|x8 (.bool false) rfl trivial rfl<|l7 (.bool false) rfl<|s_on rfl<|l7 (.str x_1) rfl<|s_on rfl<|l7 (.str y_2) rfl<|s_on rfl<|x8 (.bool (Op.bytesLess x_1 y_2)) rfl trivial rfl<|x8 (.bool (Op.bytesLess x_1 y_2)) rfl trivial rfl<|l7 (.bool (Op.bytesLess x_1 y_2)) rfl<|dk<|a0d<|?_;obtain rfl:=os hf;exact a0e ⟨trivial,trivial⟩ rfl (.refl _)

/- slices.insertionSortOrdered[string] -/
def d3y:a0m :=
 (.seq (.reg (tm 8 (.t 1) (tq 9 (.bin .add (.t 8) (.c (.int .i64 1))) (tm 6 (.t 9) .done))))
 (.block 0 (.loop (.seq (.seq (.reg (tm 10 (.t 6) (tm 11 (.t 2) (tq 12 (.bin .lss (.t 10) (.t 11)) .done))))
 (.cond (.t 12) .skip
 (.exit 0)))
 (.seq (.block 1 (.seq (.reg (tm 15 (.t 6) (tm 7 (.t 15) .done)))
 (.block 2 (.loop (.seq (.seq (.reg (tm 16 (.t 7) (tm 17 (.t 1) (tq 18 (.bin .gtr (.t 16) (.t 17)) (tm 19 (.t 18) (tg 20 19 true (.mov (.t 0)) (tg 21 19 true (.mov (.t 7)) (tg 22 19 true (.iaddr 1 (.t 20) (.t 21)) (tg 23 19 true (.load 1 false (.t 22)) (tg 24 19 true (.mov (.t 0)) (tg 25 19 true (.mov (.t 7)) (tg 26 19 true (.bin .sub (.t 25) (.c (.int .i64 1))) (tg 27 19 true (.iaddr 1 (.t 24) (.t 26)) (tg 28 19 true (.load 1 false (.t 27)) (.l ⟨(some 29),(some (19,true)),.call 341 [(.t 23),(.t 28)]⟩ []
 (tq 30 (.pick (.t 19) (.t 29) (.c (.bool false))) .done) .non)))))))))))))))
 (.cut (.cond (.t 30) .skip
 (.exit 2))))
 (.seq (.block 3 (.reg (tm 33 (.t 0) (tm 34 (.t 7) (tm 35 (.t 0) (tm 36 (.t 7) (tq 37 (.bin .sub (.t 36) (.c (.int .i64 1))) (tm 38 (.t 0) (tm 39 (.t 7) (tq 40 (.bin .sub (.t 39) (.c (.int .i64 1))) (tq 41 (.iaddr 1 (.t 38) (.t 40)) (tq 42 (.load 1 false (.t 41)) (tm 43 (.t 0) (tm 44 (.t 7) (tq 45 (.iaddr 1 (.t 43) (.t 44)) (tq 46 (.load 1 false (.t 45)) (tq 47 (.iaddr 1 (.t 33) (.t 34)) (.l ⟨none,none,.store 1 (.t 47) (.t 42)⟩ []
 (tq 48 (.iaddr 1 (.t 35) (.t 37)) (.l ⟨none,none,.store 1 (.t 48) (.t 46)⟩ []
 .done .non)) .non))))))))))))))))))
 (.reg (tm 31 (.t 7) (tq 32 (.bin .sub (.t 31) (.c (.int .i64 1))) (tm 7 (.t 32) .done))))))))))
 (.cut (.reg (tm 13 (.t 6) (tq 14 (.bin .add (.t 13) (.c (.int .i64 1))) (tm 6 (.t 14) .done))))))))))
theorem d7p:a1a Tryz.prog Tryz.f335 = some (d3y.erase,[],49):=by kernel_rfl
def a0q (a_2:Int):Nat → Int → (List Str) → Option (List Str)
  | 0,_,_ => none
  | k + 1,j_864,data_865 =>
    ((if (decide (j_864 > a_2)) then
    if (0:Int) ≤ j_864 ∧ j_864 < (data_865.length:Int) then
    (data_865[(0 + j_864.toNat)]?).bind fun x_912 =>
    if (0:Int) ≤ w64 (j_864 - 1) ∧ w64 (j_864 - 1) < (data_865.length:Int) then
    (data_865[(0 + (w64 (j_864 - 1)).toNat)]?).bind fun x_915 =>
    (cmp_Less_string x_912 x_915).bind fun r_917 =>
    some r_917
    else none
    else none
    else
    some false:Option Bool)).bind fun s30_908 =>
    if s30_908 then
    if (0:Int) ≤ w64 (j_864 - 1) ∧ w64 (j_864 - 1) < (data_865.length:Int) then
    (data_865[(0 + (w64 (j_864 - 1)).toNat)]?).bind fun x_921 =>
    if (0:Int) ≤ j_864 ∧ j_864 < (data_865.length:Int) then
    (data_865[(0 + j_864.toNat)]?).bind fun x_924 =>
    if (0:Int) ≤ j_864 ∧ j_864 < (data_865.length:Int) then
    if (0:Int) ≤ w64 (j_864 - 1) ∧ w64 (j_864 - 1) < (data_865.length:Int) then
    ((data_865.set (0 + j_864.toNat) x_921)[(0 + (w64 (j_864 - 1)).toNat)]?).bind fun x_928 =>
    a0q a_2 k (w64 (j_864 - 1)) ((data_865.set (0 + j_864.toNat) x_921).set (0 + (w64 (j_864 - 1)).toNat) x_924)
    else none
    else none
    else none
    else none
    else
    some data_865

def a0l (b_3:Int) (a_2:Int):Nat → Int → (List Str) → Option (List Str)
  | 0,_,_ => none
  | k + 1,i_665,data_666 =>
    if (decide (i_665 < b_3)) then
    (a0q a_2 FUEL i_665 data_666).bind fun data_897 =>
    a0l b_3 a_2 k (w64 (i_665 + 1)) data_897
    else
    some data_666

def a1u (data_1:(List Str)) (a_2:Int) (b_3:Int):Option (List Str) :=
    a0l b_3 a_2 FUEL (w64 (a_2 + 1)) data_1
theorem a7o (data_1:(List Str)) (a_2:Int) (b_3:Int) (r:(List Str)) (hf:a1u data_1 a_2 b_3 = some r):a0z Tryz.prog true 335 [(.own 0 0 data_1.length),(.int .i64 a_2),(.int .i64 b_3)] [.row 1 (data_1.map AV.str)] (.tup []) [.row 1 (r.map AV.str)]:=by
 refine a0z.of_awp mixed Tryz.func335 d7p nle ?_;rw [a0j];unfold a1u at hf;unfold d3y;refine (show awp Tryz.prog true 1 _ (ofL [(0,(.own 0 0 data_1.length)),(1,(.int .i64 a_2)),(2,(.int .i64 b_3))]) [.row 1 (data_1.map AV.str)] _ from ?_);refine sr<|l7 (.int .i64 a_2) rfl<|x8 (.int .i64 (w64 (a_2 + 1))) rfl rfl rfl<|l7 (.int .i64 (w64 (a_2 + 1))) rfl<|dk<|?_;refine a1g (X:={q:(Nat × Int × (List Str)) // a0l b_3 a_2 q.1 q.2.1 q.2.2 = some r}) (fun q => ([(0,(.own 0 0 q.1.2.2.length)),(1,(.int .i64 a_2)),(2,(.int .i64 b_3)),(6,(.int .i64 q.1.2.1))],[.row 1 (q.1.2.2.map AV.str)])) (fun q => q.1.1) ⟨(FUEL,w64 (a_2 + 1),data_1),hf⟩ ⟨[],[0],_,_,rfl,rfl,⟨.refl _,⟨.refl _,⟨.refl _,⟨.refl _,trivial⟩⟩⟩⟩,(.refl _)⟩ ?_
 rintro ⟨⟨k,i_665,data_666⟩,hc1⟩
 have hc1:a0l b_3 a_2 k i_665 data_666 = some r:=hc1
 refine (show awp Tryz.prog true 1 _ (ofL [(0,(.own 0 0 data_666.length)),(1,(.int .i64 a_2)),(2,(.int .i64 b_3)),(6,(.int .i64 i_665))]) [.row 1 (data_666.map AV.str)] _ from ?_)
 rcases k with _ | k
 ·rw [a0l.eq_1] at hc1
  cases hc1
 ·rw [a0l.eq_2] at hc1;refine o6<|sr<|l7 (.int .i64 i_665) rfl<|l7 (.int .i64 b_3) rfl<|x8 (.bool (decide (i_665 < b_3))) rfl rfl rfl<|dk<|?_
  rcases oi hc1 with ⟨c799,hc1⟩ | ⟨c799,hc1⟩
  ·refine y7 rfl c799<|a0h<|a0f<|o6<|a3g<|sr<|l7 (.int .i64 i_665) rfl<|l7 (.int .i64 i_665) rfl<|dk<|?_
   obtain ⟨data_897,hb1,hc1⟩:=ob hc1
   refine d6x ([(0,(.own 0 0 data_897.length)),(1,(.int .i64 a_2)),(2,(.int .i64 b_3)),(6,(.int .i64 i_665))],[.row 1 (data_897.map AV.str)]) ?_ ?_
   ·refine a1g (X:={q:(Nat × Int × (List Str)) // a0q a_2 q.1 q.2.1 q.2.2 = some data_897}) (fun q => ([(0,(.own 0 0 q.1.2.2.length)),(1,(.int .i64 a_2)),(2,(.int .i64 b_3)),(6,(.int .i64 i_665)),(7,(.int .i64 q.1.2.1))],[.row 1 (q.1.2.2.map AV.str)])) (fun q => q.1.1) ⟨(FUEL,i_665,data_666),hb1⟩ ⟨[],[0],_,_,rfl,rfl,⟨.refl _,⟨.refl _,⟨.refl _,⟨.refl _,⟨.refl _,trivial⟩⟩⟩⟩⟩,(.refl _)⟩ ?_
    rintro ⟨⟨k,j_864,data_865⟩,hc1⟩
    have hc1:a0q a_2 k j_864 data_865 = some data_897:=hc1
    refine (show awp Tryz.prog true 1 _ (ofL [(0,(.own 0 0 data_865.length)),(1,(.int .i64 a_2)),(2,(.int .i64 b_3)),(6,(.int .i64 i_665)),(7,(.int .i64 j_864))]) [.row 1 (data_865.map AV.str)] _ from ?_)
    rcases k with _ | k
    ·rw [a0q.eq_1] at hc1
     cases hc1
    ·rw [a0q.eq_2] at hc1;refine o6<|o6<|?_
     obtain ⟨s30_908,hb2,hc1⟩:=ob hc1
     refine a2a ([(0,(.own 0 0 data_865.length)),(1,(.int .i64 a_2)),(2,(.int .i64 b_3)),(6,(.int .i64 i_665)),(7,(.int .i64 j_864)),(30,(.bool s30_908))],[.row 1 (data_865.map AV.str)]) ?_ ?_
     ·refine a0s<|l7 (.int .i64 j_864) rfl<|l7 (.int .i64 a_2) rfl<|x8 (.bool (decide (j_864 > a_2))) rfl rfl rfl<|l7 (.bool (decide (j_864 > a_2))) rfl<|?_
      rcases oi hb2 with ⟨c910,hb2⟩ | ⟨c910,hb2⟩
      ·refine a1p (s:=19) (b:=true) rfl c910<|s_on rfl<|l7 (.own 0 0 data_865.length) rfl<|s_on rfl<|l7 (.int .i64 j_864) rfl<|s_on rfl<|?_
       obtain ⟨g911,hb2⟩:=og hb2
       refine y5 (a1v rfl rfl g911.1 g911.2 rfl rfl)<|s_on rfl<|?_
       obtain ⟨x_912,ex913,hb2⟩:=ob hb2
       refine y5 (a6c (enc:=AV.str) (v:=(.str x_912)) rfl rfl ex913 ⟨rfl,rfl⟩ rfl)<|s_on rfl<|l7 (.own 0 0 data_865.length) rfl<|s_on rfl<|l7 (.int .i64 j_864) rfl<|s_on rfl<|x8 (.int .i64 (w64 (j_864 - 1))) rfl rfl rfl<|s_on rfl<|?_
       obtain ⟨g914,hb2⟩:=og hb2
       refine y5 (a1v rfl rfl g914.1 g914.2 rfl rfl)<|s_on rfl<|?_
       obtain ⟨x_915,ex916,hb2⟩:=ob hb2
       refine y5 (a6c (enc:=AV.str) (v:=(.str x_915)) rfl rfl ex916 ⟨rfl,rfl⟩ rfl)<|d7a rfl<|?_
       obtain ⟨r_917,er918,hb2⟩:=ob hb2
       refine a0r (a0v (b9o _ _ _ er918) rfl (.refl _) rfl) a7s trivial<|x8 (.bool r_917) rfl trivial rfl<|a0b<|?_;obtain rfl:=os hb2;exact ⟨[],[0],_,_,rfl,rfl,⟨.refl _,⟨.refl _,⟨.refl _,⟨.refl _,⟨.refl _,⟨.refl _,trivial⟩⟩⟩⟩⟩⟩,(.refl _)⟩
      ·refine a1p (s:=19) (b:=false) rfl (bf c910)<|a0g rfl rfl<|a0g rfl rfl<|a0g rfl rfl<|a0g rfl rfl<|a0g rfl rfl<|a0g rfl rfl<|a0g rfl rfl<|a0g rfl rfl<|a0g rfl rfl<|d2t rfl rfl trivial<|x8 (.bool false) rfl trivial rfl<|a0b<|?_;obtain rfl:=os hb2;exact ⟨[],[0],_,_,rfl,rfl,⟨.refl _,⟨.refl _,⟨.refl _,⟨.refl _,⟨.refl _,⟨.refl _,trivial⟩⟩⟩⟩⟩⟩,(.refl _)⟩
     ·rcases oi hc1 with ⟨c919,hc1⟩ | ⟨c919,hc1⟩
      ·refine y7 rfl c919<|a0h<|a0f<|o6<|a3g<|a0s<|l7 (.own 0 0 data_865.length) rfl<|l7 (.int .i64 j_864) rfl<|l7 (.own 0 0 data_865.length) rfl<|l7 (.int .i64 j_864) rfl<|x8 (.int .i64 (w64 (j_864 - 1))) rfl rfl rfl<|l7 (.own 0 0 data_865.length) rfl<|l7 (.int .i64 j_864) rfl<|x8 (.int .i64 (w64 (j_864 - 1))) rfl rfl rfl<|?_
       obtain ⟨g920,hc1⟩:=og hc1
       refine y5 (a1v rfl rfl g920.1 g920.2 rfl rfl) ?_
       obtain ⟨x_921,ex922,hc1⟩:=ob hc1
       refine y5 (a6c (enc:=AV.str) (v:=(.str x_921)) rfl rfl ex922 ⟨rfl,rfl⟩ rfl)<|l7 (.own 0 0 data_865.length) rfl<|l7 (.int .i64 j_864) rfl<|?_
       obtain ⟨g923,hc1⟩:=og hc1
       refine y5 (a1v rfl rfl g923.1 g923.2 rfl rfl) ?_
       obtain ⟨x_924,ex925,hc1⟩:=ob hc1
       refine y5 (a6c (enc:=AV.str) (v:=(.str x_924)) rfl rfl ex925 ⟨rfl,rfl⟩ rfl) ?_
       obtain ⟨g926,hc1⟩:=og hc1
       refine y5 (a1v rfl rfl g926.1 g926.2 rfl rfl) ?_;refine a3i (a5y (v':=(.str x_921)) (e':=x_921) rfl rfl ex925 rfl rfl rfl (by decide) (fun _ => by decide) ⟨rfl,rfl,rfl⟩ (.refl _) rfl) trivial trivial ?_
       obtain ⟨g927,hc1⟩:=og hc1
       refine y5 (a1v rfl rfl g927.1 g927.2 rfl rfl) ?_
       obtain ⟨x_928,ex929,hc1⟩:=ob hc1
       refine a3i (a5y (v':=(.str x_924)) (e':=x_924) rfl rfl ex929 rfl rfl rfl (by decide) (fun _ => by decide) ⟨rfl,rfl,rfl⟩ (.refl _) rfl) trivial trivial ?_;refine a0b<|a3f<|a0f<|a0s<|l7 (.int .i64 j_864) rfl<|x8 (.int .i64 (w64 (j_864 - 1))) rfl rfl rfl<|l7 (.int .i64 (w64 (j_864 - 1))) rfl<|a0b<|?_;exact a1q ⟨(k,w64 (j_864 - 1),(data_865.set (0 + j_864.toNat) x_921).set (0 + (w64 (j_864 - 1)).toNat) x_924),hc1⟩ (Nat.lt_succ_self _) ⟨[],[0],_,_,rfl,rfl,⟨.of_eq (congrArg (AV.own _ 0) (by simp)),⟨.refl _,⟨.refl _,⟨.refl _,⟨.refl _,trivial⟩⟩⟩⟩⟩,(.refl _)⟩
      ·refine y8 rfl (bf c919)<|a2t<|a2s<|a1y<|a2r<|?_;refine a3f ?_;obtain rfl:=os hc1;exact ⟨[],[0],_,_,rfl,rfl,⟨.refl _,⟨.refl _,⟨.refl _,⟨.refl _,trivial⟩⟩⟩⟩,(.refl _)⟩
   ·refine a0s<|l7 (.int .i64 i_665) rfl<|x8 (.int .i64 (w64 (i_665 + 1))) rfl rfl rfl<|l7 (.int .i64 (w64 (i_665 + 1))) rfl<|a0b<|?_;exact a1q ⟨(k,w64 (i_665 + 1),data_897),hc1⟩ (Nat.lt_succ_self _) ⟨[],[0],_,_,rfl,rfl,⟨.refl _,⟨.refl _,⟨.refl _,⟨.refl _,trivial⟩⟩⟩⟩,(.refl _)⟩
  ·refine y8 rfl (bf c799)<|a2t<|a2s<|a1y<|a2r<|?_;obtain rfl:=os hc1;exact a7t [] [0] rfl trivial rfl (.refl _) (.refl _)

/- slices.pdqsortOrdered[string] -/
def d3z:a0m :=
 (.seq (.reg (tm 8 (.c (.bool true)) .done))
 (.seq (.reg (tm 9 (.c (.bool true)) .done))
 (.block 0 (.loop (.block 1 (.seq (.reg (tm 19 (.t 2) (tm 20 (.t 1) (tq 21 (.bin .sub (.t 19) (.t 20)) (tm 10 (.t 21) .done)))))
 (.seq (.seq (.reg (tm 22 (.t 10) (tq 23 (.bin .leq (.t 22) (.c (.int .i64 12))) .done)))
 (.cond (.t 23) (.seq (.reg (tm 24 (.t 0) (tm 25 (.t 1) (tm 26 (.t 2) (tq 27 (.call 335 [(.t 24),(.t 25),(.t 26)]) .done)))))
 .ret)
 .skip))
 (.seq (.seq (.reg (tm 28 (.t 3) (tq 29 (.bin .eql (.t 28) (.c (.int .i64 0))) .done)))
 (.cond (.t 29) (.seq (.reg (tm 30 (.t 0) (tm 31 (.t 1) (tm 32 (.t 2) (tq 33 (.call 336 [(.t 30),(.t 31),(.t 32)]) .done)))))
 .ret)
 .skip))
 (.seq (.seq (.reg (tm 34 (.t 8) (tq 35 (.not (.t 34)) .done)))
 (.cond (.t 35) (.seq (.reg (tm 36 (.t 0) (tm 37 (.t 1) (tm 38 (.t 2) (tq 39 (.call 337 [(.t 36),(.t 37),(.t 38)]) .done)))))
 (.reg (tm 40 (.t 3) (tq 41 (.bin .sub (.t 40) (.c (.int .i64 1))) (tm 3 (.t 41) .done)))))
 .skip))
 (.seq (.reg (tm 43 (.t 0) (tm 44 (.t 1) (tm 45 (.t 2) (tq 46 (.call 338 [(.t 43),(.t 44),(.t 45)]) (tm 42 (.t 46) (tq 47 (.extract 0 (.t 42)) (tq 48 (.extract 1 (.t 42)) (tm 11 (.t 47) (tm 12 (.t 48) .done))))))))))
 (.seq (.seq (.reg (tm 49 (.t 12) (tq 50 (.bin .eql (.t 49) (.c (.int .i64 2))) .done)))
 (.cond (.t 50) (.seq (.reg (tm 51 (.t 0) (tm 52 (.t 1) (tm 53 (.t 2) (tq 54 (.call 339 [(.t 51),(.t 52),(.t 53)]) .done)))))
 (.seq (.reg (tm 55 (.t 2) (tq 56 (.bin .sub (.t 55) (.c (.int .i64 1))) (tm 57 (.t 11) (tm 58 (.t 1) (tq 59 (.bin .sub (.t 57) (.t 58)) (tq 60 (.bin .sub (.t 56) (.t 59)) (tm 11 (.t 60) .done))))))))
 (.reg (tm 12 (.c (.int .i64 1)) .done))))
 .skip))
 (.seq (.seq (.reg (tm 61 (.t 8) (tm 62 (.t 61) (tg 63 62 true (.mov (.t 9)) (tq 64 (.pick (.t 62) (.t 63) (.c (.bool false))) (tm 65 (.t 64) (tg 66 65 true (.mov (.t 12)) (tg 67 65 true (.bin .eql (.t 66) (.c (.int .i64 1))) (tq 68 (.pick (.t 65) (.t 67) (.c (.bool false))) .done)))))))))
 (.cond (.t 68) (.seq (.reg (tm 69 (.t 0) (tm 70 (.t 1) (tm 71 (.t 2) (tq 72 (.call 340 [(.t 69),(.t 70),(.t 71)]) .done)))))
 (.cond (.t 72) .ret
 .skip))
 .skip))
 (.seq (.seq (.reg (tm 73 (.t 1) (tq 74 (.bin .gtr (.t 73) (.c (.int .i64 0))) (tm 75 (.t 74) (tg 76 75 true (.mov (.t 0)) (tg 77 75 true (.mov (.t 1)) (tg 78 75 true (.bin .sub (.t 77) (.c (.int .i64 1))) (tg 79 75 true (.iaddr 1 (.t 76) (.t 78)) (tg 80 75 true (.load 1 false (.t 79)) (tg 81 75 true (.mov (.t 0)) (tg 82 75 true (.mov (.t 11)) (tg 83 75 true (.iaddr 1 (.t 81) (.t 82)) (tg 84 75 true (.load 1 false (.t 83)) (.l ⟨(some 85),(some (75,true)),.call 341 [(.t 80),(.t 84)]⟩ []
 (tg 86 75 true (.not (.t 85)) (tq 87 (.pick (.t 75) (.t 86) (.c (.bool false))) .done)) .non))))))))))))))
 (.cond (.t 87) (.seq (.reg (tm 88 (.t 0) (tm 89 (.t 1) (tm 90 (.t 2) (tm 91 (.t 11) (tq 92 (.call 342 [(.t 88),(.t 89),(.t 90),(.t 91)]) (tm 13 (.t 92) .done)))))))
 (.seq (.reg (tm 93 (.t 13) (tm 1 (.t 93) .done)))
 (.exit 1)))
 .skip))
 (.seq (.reg (tm 95 (.t 0) (tm 96 (.t 1) (tm 97 (.t 2) (tm 98 (.t 11) (tq 99 (.call 343 [(.t 95),(.t 96),(.t 97),(.t 98)]) (tm 94 (.t 99) (tq 100 (.extract 0 (.t 94)) (tq 101 (.extract 1 (.t 94)) (tm 14 (.t 100) (tm 15 (.t 101) .done)))))))))))
 (.seq (.reg (tm 102 (.t 15) (tm 9 (.t 102) .done)))
 (.seq (.reg (tm 103 (.t 14) (tm 104 (.t 1) (tq 105 (.bin .sub (.t 103) (.t 104)) (tm 106 (.t 2) (tm 107 (.t 14) (tq 108 (.bin .sub (.t 106) (.t 107)) (tm 16 (.t 105) (tm 17 (.t 108) .done)))))))))
 (.seq (.reg (tm 109 (.t 10) (tq 110 (.bin .quo (.t 109) (.c (.int .i64 8))) (tm 18 (.t 110) .done))))
 (.seq (.reg (tm 111 (.t 16) (tm 112 (.t 17) (tq 113 (.bin .lss (.t 111) (.t 112)) .done))))
 (.cond (.t 113) (.seq (.reg (tm 114 (.t 16) (tm 115 (.t 18) (tq 116 (.bin .geq (.t 114) (.t 115)) (tm 8 (.t 116) .done)))))
 (.seq (.reg (tm 117 (.t 0) (tm 118 (.t 1) (tm 119 (.t 14) (tm 120 (.t 3) (tq 121 (.call 287 [(.t 117),(.t 118),(.t 119),(.t 120)]) .done))))))
 (.reg (tm 122 (.t 14) (tq 123 (.bin .add (.t 122) (.c (.int .i64 1))) (tm 1 (.t 123) .done))))))
 (.seq (.reg (tm 124 (.t 17) (tm 125 (.t 18) (tq 126 (.bin .geq (.t 124) (.t 125)) (tm 8 (.t 126) .done)))))
 (.seq (.reg (tm 127 (.t 0) (tm 128 (.t 14) (tq 129 (.bin .add (.t 128) (.c (.int .i64 1))) (tm 130 (.t 2) (tm 131 (.t 3) (tq 132 (.call 287 [(.t 127),(.t 129),(.t 130),(.t 131)]) .done)))))))
 (.reg (tm 133 (.t 14) (tm 2 (.t 133) .done))))))))))))))))))))))))
theorem d7q:a1a Tryz.prog Tryz.f287 = some (d3z.erase,[],134):=by kernel_rfl
def a1h (b_3:Int) (a_2:Int) (data_1:(List Str)):Nat → Option (List Str)
  | 0 => none
  | k + 1 =>
    if (decide (w64 (b_3 - a_2) ≤ 12)) then
    (a1u data_1 a_2 b_3).bind fun r_15 =>
    some r_15
    else
    none

def a2z (rec:((List Str) → Int → Int → Int → Option (List Str))) (data_1:(List Str)) (a_2:Int) (b_3:Int) (limit_4:Int):Option (List Str) :=
    a1h b_3 a_2 data_1 FUEL 
theorem a8x (rec:((List Str) → Int → Int → Int → Option (List Str))) (hrec:∀ a0 a1 a2 a3 r,rec a0 a1 a2 a3 = some r → a0z Tryz.prog true 287 [(.own 0 0 a0.length),(.int .i64 a1),(.int .i64 a2),(.int .i64 a3)] [.row 1 (a0.map AV.str)] (.tup []) [.row 1 (r.map AV.str)]) (data_1:(List Str)) (a_2:Int) (b_3:Int) (limit_4:Int) (r:(List Str)) (hf:a2z rec data_1 a_2 b_3 limit_4 = some r):a0z Tryz.prog true 287 [(.own 0 0 data_1.length),(.int .i64 a_2),(.int .i64 b_3),(.int .i64 limit_4)] [.row 1 (data_1.map AV.str)] (.tup []) [.row 1 (r.map AV.str)]:=by
 refine a0z.of_awp mixed Tryz.func287 d7q nle ?_;rw [a0j];unfold a2z at hf;unfold d3z;refine (show awp Tryz.prog true 1 _ (ofL [(0,(.own 0 0 data_1.length)),(1,(.int .i64 a_2)),(2,(.int .i64 b_3)),(3,(.int .i64 limit_4))]) [.row 1 (data_1.map AV.str)] _ from ?_);refine sr<|l7 (.bool true) rfl<|dk<|sr<|l7 (.bool true) rfl<|dk<|?_;refine a1g (X:={q:Nat // a1h b_3 a_2 data_1 q = some r}) (fun q => ([(0,(.own 0 0 data_1.length)),(1,(.int .i64 a_2)),(2,(.int .i64 b_3)),(3,(.int .i64 limit_4)),(8,(.bool true)),(9,(.bool true))],[.row 1 (data_1.map AV.str)])) (fun q => q.1) ⟨FUEL,hf⟩ ⟨[],[0],_,_,rfl,rfl,⟨.refl _,⟨.refl _,⟨.refl _,⟨.refl _,⟨.refl _,⟨.refl _,trivial⟩⟩⟩⟩⟩⟩,(.refl _)⟩ ?_
 rintro ⟨k,hc1⟩
 have hc1:a1h b_3 a_2 data_1 k  = some r:=hc1
 refine (show awp Tryz.prog true 1 _ (ofL [(0,(.own 0 0 data_1.length)),(1,(.int .i64 a_2)),(2,(.int .i64 b_3)),(3,(.int .i64 limit_4)),(8,(.bool true)),(9,(.bool true))]) [.row 1 (data_1.map AV.str)] _ from ?_)
 rcases k with _ | k
 ·rw [a1h.eq_1] at hc1
  cases hc1
 ·rw [a1h.eq_2] at hc1;refine a3g<|sr<|l7 (.int .i64 b_3) rfl<|l7 (.int .i64 a_2) rfl<|x8 (.int .i64 (w64 (b_3 - a_2))) rfl rfl rfl<|l7 (.int .i64 (w64 (b_3 - a_2))) rfl<|dk<|o6<|sr<|l7 (.int .i64 (w64 (b_3 - a_2))) rfl<|x8 (.bool (decide (w64 (b_3 - a_2) ≤ 12))) rfl rfl rfl<|dk<|?_
  rcases oi hc1 with ⟨c14,hc1⟩ | ⟨c14,hc1⟩
  ·refine y7 rfl c14<|sr<|?_
   obtain ⟨r_15,er16,hc1⟩:=ob hc1
   refine l7 (.own 0 0 data_1.length) rfl<|l7 (.int .i64 a_2) rfl<|l7 (.int .i64 b_3) rfl<|?_;refine a0w (a9w (v:=(.tup [])) (h2:=[.row 1 (r_15.map AV.str)]) [] [0] (fun _ => rfl) (a7o _ _ _ _ er16) rfl (.refl _) (.refl _) rfl rfl) fun hl17 => ?_;refine dk<|a0d<|?_;obtain rfl:=os hc1;exact a7t [] [0] rfl trivial rfl (.refl _) (.refl _)
  ·cases hc1
def a1l:Nat → (List Str) → Int → Int → Int → Option (List Str)
 | 0,_,_,_,_ => none
 | k + 1,data_1,a_2,b_3,limit_4 => a2z (a1l k) data_1 a_2 b_3 limit_4
theorem a6a:∀ (k:Nat) (data_1:(List Str)) (a_2:Int) (b_3:Int) (limit_4:Int) (r:(List Str)),a1l k data_1 a_2 b_3 limit_4 = some r → a0z Tryz.prog true 287 [(.own 0 0 data_1.length),(.int .i64 a_2),(.int .i64 b_3),(.int .i64 limit_4)] [.row 1 (data_1.map AV.str)] (.tup []) [.row 1 (r.map AV.str)]
 | 0,data_1,a_2,b_3,limit_4,r,h => by rw [a1l.eq_1] at h;cases h
 | k + 1,data_1,a_2,b_3,limit_4,r,h => by
  rw [a1l.eq_2] at h;exact a8x _ (a6a k) data_1 a_2 b_3 limit_4 r h

/- slices.Sort[[]string,string] -/
def d4a:a0m :=
 (.seq (.reg (tm 3 (.t 0) (tq 4 (.len (.t 3)) (tm 2 (.t 4) .done))))
 (.reg (tm 5 (.t 0) (tm 6 (.t 2) (tm 7 (.t 2) (tq 8 (.convI .u64 (.t 7)) (tq 9 (.call 288 [(.t 8)]) (tq 10 (.call 287 [(.t 5),(.c (.int .i64 0)),(.t 6),(.t 9)]) .done))))))))
theorem d7r:a1a Tryz.prog Tryz.f198 = some (d4a.erase,[],11):=by kernel_rfl
def a2y (x_1:(List Str)):Option (List Str) :=
    (a8w (IntKind.u64.wrap (x_1.length:Int))).bind fun r_3 =>
    (a1l FUEL x_1 0 (x_1.length:Int) r_3).bind fun r_5 =>
    some r_5
theorem b0x (x_1:(List Str)) (r:(List Str)) (hf:a2y x_1 = some r):a0z Tryz.prog true 198 [(.own 0 0 x_1.length)] [.row 1 (x_1.map AV.str)] (.tup []) [.row 1 (r.map AV.str)]:=by
  refine a0z.of_awp mixed Tryz.func198 d7r nle ?_
  rw [a0j]
  unfold a2y at hf
  unfold d4a
  refine (show awp Tryz.prog true 1 _ (ofL [(0,(.own 0 0 x_1.length))]) [.row 1 (x_1.map AV.str)] _ from ?_)
  refine o6 ?_
  refine a0s ?_
  refine y5 (a2x (.own 0 0 x_1.length) rfl) ?_
  refine a0w (a6s rfl rfl) fun hl2 => ?_
  refine y5 (a2x (.int .i64 (x_1.length:Int)) rfl) ?_
  refine a0b ?_
  refine a0f ?_
  refine a0s ?_
  obtain ⟨r_3,er4,hf⟩:=ob hf
  obtain ⟨r_5,er6,hf⟩:=ob hf
  refine y5 (a2x (.own 0 0 x_1.length) rfl) ?_
  refine y5 (a2x (.int .i64 (x_1.length:Int)) rfl) ?_
  refine y5 (a2x (.int .i64 (x_1.length:Int)) rfl) ?_
  refine y5 (o_q (.int .u64 (IntKind.u64.wrap (x_1.length:Int))) rfl trivial rfl) ?_
  refine y5 (a0v (c2r _ _ er4) rfl (.refl _) rfl) ?_
  refine a0w (a9w (v:=(.tup [])) (h2:=[.row 1 (r_5.map AV.str)]) [] [0] (fun _ => rfl) (a6a FUEL _ _ _ _ _ er6) rfl (.refl _) (.refl _) rfl rfl) fun hl7 => ?_
  refine a0b ?_
  obtain rfl:=os hf
  exact a7t [] [0] rfl trivial rfl (.refl _) (.refl _)

end Go.R
