/- Walks. -/
import Derived.Test.YtldahjcikmpifaaGreatRSJ2
set_option linter.all false
namespace Go.R
open Go Go.Proofs
set_option linter.unusedVariables false
set_option linter.unusedSimpArgs false
set_option maxHeartbeats 8000000
/- spec.l01Own -/
abbrev wz11:List a4t:=[⟨(some 16),none,.build [(.int .i64 0),(.int .i64 0),(.str []),.nil,.nil] [(0,1,(.t 6)),(1,1,(.t 8)),(2,1,(.t 10)),(3,1,(.t 14)),(4,1,(.t 15))]⟩,⟨(some 13),none,.load 1 false (.t 12)⟩,⟨(some 12),none,.faddr 3 (.t 1)⟩,⟨(some 10),none,.load 1 false (.t 9)⟩,⟨(some 9),none,.faddr 2 (.t 1)⟩,⟨(some 8),none,.load 1 false (.t 7)⟩,⟨(some 7),none,.faddr 1 (.t 1)⟩,⟨(some 6),none,.load 1 false (.t 5)⟩,⟨(some 5),none,.faddr 0 (.t 1)⟩]
abbrev wz12:List a4t:=[⟨(some 13),none,.load 1 false (.t 12)⟩,⟨(some 12),none,.faddr 3 (.t 1)⟩,⟨(some 10),none,.load 1 false (.t 9)⟩,⟨(some 9),none,.faddr 2 (.t 1)⟩,⟨(some 8),none,.load 1 false (.t 7)⟩,⟨(some 7),none,.faddr 1 (.t 1)⟩,⟨(some 6),none,.load 1 false (.t 5)⟩,⟨(some 5),none,.faddr 0 (.t 1)⟩]
abbrev wz13:List a4t:=[⟨(some 10),none,.load 1 false (.t 9)⟩,⟨(some 9),none,.faddr 2 (.t 1)⟩,⟨(some 8),none,.load 1 false (.t 7)⟩,⟨(some 7),none,.faddr 1 (.t 1)⟩,⟨(some 6),none,.load 1 false (.t 5)⟩,⟨(some 5),none,.faddr 0 (.t 1)⟩]
abbrev wz14:List a4t:=[⟨(some 25),none,.load 1 false (.t 24)⟩,⟨(some 24),none,.faddr 4 (.t 3)⟩]
def c93:a0m :=
 (.seq (.reg (tq 1 (.box 5 (.t 0)) (tq 2 (.box 5 (.c (.agg [(.int .i64 0),(.int .i64 0),(.str []),.nil,.nil]))) .done)))
 (.seq (.reg (tq 5 (.faddr 0 (.t 1)) (tq 6 (.load 1 false (.t 5)) (tq 7 (.faddr 1 (.t 1)) (tq 8 (.load 1 false (.t 7)) (tq 9 (.faddr 2 (.t 1)) (tq 10 (.load 1 false (.t 9)) (tq 12 (.faddr 3 (.t 1)) (tq 13 (.load 1 false (.t 12)) (.l ⟨(some 11),none,.bslice 1 []⟩ wz12
 (.l ⟨(some 14),none,.append 1 16 (.t 11) (.t 13)⟩ wz13
 (.l ⟨(some 15),none,.bslice 5 []⟩ wz12
 (tq 16 (.build [(.int .i64 0),(.int .i64 0),(.str []),.nil,.nil] [(0,1,(.t 6)),(1,1,(.t 8)),(2,1,(.t 10)),(3,1,(.t 14)),(4,1,(.t 15))]) (.l ⟨(some 3),none,.box 5 (.c (.agg [(.int .i64 0),(.int .i64 0),(.str []),.nil,.nil]))⟩ wz11
 (.l ⟨none,none,.store 5 (.t 3) (.t 16)⟩ []
 .done .non) .non)) (.l ⟨(some 3),none,.box 5 (.c (.agg [(.int .i64 0),(.int .i64 0),(.str []),.nil,.nil]))⟩ wz12
 (.l ⟨(some 15),none,.bslice 5 []⟩ wz12
 (tq 16 (.build [(.int .i64 0),(.int .i64 0),(.str []),.nil,.nil] [(0,1,(.t 6)),(1,1,(.t 8)),(2,1,(.t 10)),(3,1,(.t 14)),(4,1,(.t 15))]) (.l ⟨none,none,.store 5 (.t 3) (.t 16)⟩ []
 .done .non)) .non) .non)) (.l ⟨(some 15),none,.bslice 5 []⟩ wz12
 (.l ⟨(some 14),none,.append 1 16 (.t 11) (.t 13)⟩ wz13
 (tq 16 (.build [(.int .i64 0),(.int .i64 0),(.str []),.nil,.nil] [(0,1,(.t 6)),(1,1,(.t 8)),(2,1,(.t 10)),(3,1,(.t 14)),(4,1,(.t 15))]) (.l ⟨(some 3),none,.box 5 (.c (.agg [(.int .i64 0),(.int .i64 0),(.str []),.nil,.nil]))⟩ wz11
 (.l ⟨none,none,.store 5 (.t 3) (.t 16)⟩ []
 .done .non) .non)) (.l ⟨(some 3),none,.box 5 (.c (.agg [(.int .i64 0),(.int .i64 0),(.str []),.nil,.nil]))⟩ wz12
 (.l ⟨(some 14),none,.append 1 16 (.t 11) (.t 13)⟩ wz13
 (tq 16 (.build [(.int .i64 0),(.int .i64 0),(.str []),.nil,.nil] [(0,1,(.t 6)),(1,1,(.t 8)),(2,1,(.t 10)),(3,1,(.t 14)),(4,1,(.t 15))]) (.l ⟨none,none,.store 5 (.t 3) (.t 16)⟩ []
 .done .non)) .non) .non)) (.l ⟨(some 3),none,.box 5 (.c (.agg [(.int .i64 0),(.int .i64 0),(.str []),.nil,.nil]))⟩ wz12
 (.l ⟨(some 14),none,.append 1 16 (.t 11) (.t 13)⟩ wz13
 (.l ⟨(some 15),none,.bslice 5 []⟩ wz12
 (tq 16 (.build [(.int .i64 0),(.int .i64 0),(.str []),.nil,.nil] [(0,1,(.t 6)),(1,1,(.t 8)),(2,1,(.t 10)),(3,1,(.t 14)),(4,1,(.t 15))]) (.l ⟨none,none,.store 5 (.t 3) (.t 16)⟩ []
 .done .non)) .non) (.l ⟨(some 15),none,.bslice 5 []⟩ wz12
 (.l ⟨(some 14),none,.append 1 16 (.t 11) (.t 13)⟩ wz13
 (tq 16 (.build [(.int .i64 0),(.int .i64 0),(.str []),.nil,.nil] [(0,1,(.t 6)),(1,1,(.t 8)),(2,1,(.t 10)),(3,1,(.t 14)),(4,1,(.t 15))]) (.l ⟨none,none,.store 5 (.t 3) (.t 16)⟩ []
 .done .non)) .non) .non)) .non))) (.l ⟨(some 15),none,.bslice 5 []⟩ wz12
 (.l ⟨(some 11),none,.bslice 1 []⟩ wz12
 (.l ⟨(some 14),none,.append 1 16 (.t 11) (.t 13)⟩ wz13
 (tq 16 (.build [(.int .i64 0),(.int .i64 0),(.str []),.nil,.nil] [(0,1,(.t 6)),(1,1,(.t 8)),(2,1,(.t 10)),(3,1,(.t 14)),(4,1,(.t 15))]) (.l ⟨(some 3),none,.box 5 (.c (.agg [(.int .i64 0),(.int .i64 0),(.str []),.nil,.nil]))⟩ wz11
 (.l ⟨none,none,.store 5 (.t 3) (.t 16)⟩ []
 .done .non) .non)) (.l ⟨(some 3),none,.box 5 (.c (.agg [(.int .i64 0),(.int .i64 0),(.str []),.nil,.nil]))⟩ wz12
 (.l ⟨(some 14),none,.append 1 16 (.t 11) (.t 13)⟩ wz13
 (tq 16 (.build [(.int .i64 0),(.int .i64 0),(.str []),.nil,.nil] [(0,1,(.t 6)),(1,1,(.t 8)),(2,1,(.t 10)),(3,1,(.t 14)),(4,1,(.t 15))]) (.l ⟨none,none,.store 5 (.t 3) (.t 16)⟩ []
 .done .non)) .non) .non)) (.l ⟨(some 3),none,.box 5 (.c (.agg [(.int .i64 0),(.int .i64 0),(.str []),.nil,.nil]))⟩ wz12
 (.l ⟨(some 11),none,.bslice 1 []⟩ wz12
 (.l ⟨(some 14),none,.append 1 16 (.t 11) (.t 13)⟩ wz13
 (tq 16 (.build [(.int .i64 0),(.int .i64 0),(.str []),.nil,.nil] [(0,1,(.t 6)),(1,1,(.t 8)),(2,1,(.t 10)),(3,1,(.t 14)),(4,1,(.t 15))]) (.l ⟨none,none,.store 5 (.t 3) (.t 16)⟩ []
 .done .non)) .non) .non) .non)) (.l ⟨(some 3),none,.box 5 (.c (.agg [(.int .i64 0),(.int .i64 0),(.str []),.nil,.nil]))⟩ wz12
 (.l ⟨(some 11),none,.bslice 1 []⟩ wz12
 (.l ⟨(some 14),none,.append 1 16 (.t 11) (.t 13)⟩ wz13
 (.l ⟨(some 15),none,.bslice 5 []⟩ wz12
 (tq 16 (.build [(.int .i64 0),(.int .i64 0),(.str []),.nil,.nil] [(0,1,(.t 6)),(1,1,(.t 8)),(2,1,(.t 10)),(3,1,(.t 14)),(4,1,(.t 15))]) (.l ⟨none,none,.store 5 (.t 3) (.t 16)⟩ []
 .done .non)) .non) (.l ⟨(some 15),none,.bslice 5 []⟩ wz12
 (.l ⟨(some 14),none,.append 1 16 (.t 11) (.t 13)⟩ wz13
 (tq 16 (.build [(.int .i64 0),(.int .i64 0),(.str []),.nil,.nil] [(0,1,(.t 6)),(1,1,(.t 8)),(2,1,(.t 10)),(3,1,(.t 14)),(4,1,(.t 15))]) (.l ⟨none,none,.store 5 (.t 3) (.t 16)⟩ []
 .done .non)) .non) .non)) (.l ⟨(some 15),none,.bslice 5 []⟩ wz12
 (.l ⟨(some 11),none,.bslice 1 []⟩ wz12
 (.l ⟨(some 14),none,.append 1 16 (.t 11) (.t 13)⟩ wz13
 (tq 16 (.build [(.int .i64 0),(.int .i64 0),(.str []),.nil,.nil] [(0,1,(.t 6)),(1,1,(.t 8)),(2,1,(.t 10)),(3,1,(.t 14)),(4,1,(.t 15))]) (.l ⟨none,none,.store 5 (.t 3) (.t 16)⟩ []
 .done .non)) .non) .non) .non)) .non))))))))))))
 (.cut (.seq (.seq (.reg (tm 4 (.c (.int .i64 0)) .done))
 (.block 0 (.loop (.seq (.seq (.reg (tm 17 (.t 4) (tq 18 (.faddr 4 (.t 1)) (tq 19 (.load 1 false (.t 18)) (tq 20 (.len (.t 19)) (tq 21 (.bin .lss (.t 17) (.t 20)) .done))))))
 (.cond (.t 21) .skip
 (.exit 0)))
 (.seq (.block 1 (.reg (tq 24 (.faddr 4 (.t 3)) (tq 25 (.load 1 false (.t 24)) (tq 26 (.faddr 4 (.t 1)) (tq 27 (.load 1 false (.t 26)) (tm 28 (.t 4) (tq 29 (.iaddr 5 (.t 27) (.t 28)) (tq 30 (.load 5 true (.t 29)) (.l ⟨(some 31),none,.call 93 [(.t 30)]⟩ wz14
 (.l ⟨(some 32),none,.bslice 5 [(.t 31)]⟩ wz14
 (.l ⟨(some 33),none,.append 5 80 (.t 25) (.t 32)⟩ []
 (tq 34 (.faddr 4 (.t 3)) (.l ⟨none,none,.store 1 (.t 34) (.t 33)⟩ []
 .done .non)) .non) .non) .non))))))))))
 (.reg (tm 22 (.t 4) (tq 23 (.bin .add (.t 22) (.c (.int .i64 1))) (tm 4 (.t 23) .done)))))))))
 (.cut (.seq (.reg (tq 35 (.load 5 true (.t 3)) (.q ⟨none,none,.store 5 (.t 2) (.t 35)⟩
 .done)))
 .ret))))))
theorem f3n:a1b Tryz.prog Tryz.f93 = some (c93.erase,[.load 5 true (.t 2)],36):=by kernel_rfl
def a4m (rec:(o9 → Option o9)):List o9 → (List o9) → Option (List o9)
  | [],D =>
    some D
  | G :: xs,D =>
    (rec G).bind fun B =>
    if (D ++ [B]).length ≤ 2 ^ 30 then
    a4m rec xs  (D ++ [B])
    else none

def b3z (rec:(o9 → Option o9)) (A:o9):Option o9 :=
    ((if ([] ++ A.Keys).length ≤ 2 ^ 30 then
    some ()
    else none:Option Unit)).bind fun _ =>
    (a4m rec A.Items []).bind fun F =>
    some (⟨A.Kind,A.N,A.T,[] ++ A.Keys,F⟩:o9)
theorem c6r (rec:(o9 → Option o9)) (hrec:∀ a0 r,rec a0 = some r → a0a Tryz.prog 93 .fresh [(l9 a0)] (l9 r)) (A:o9) (r:o9) (hf:b3z rec A = some r):a0a Tryz.prog 93 .fresh [(l9 A)] (l9 r):=by
 refine a0a.of_awp mixed Tryz.func93 f3n nle ?_;rw [a0l];rw [o8 A];unfold b3z at hf;unfold c93;refine (show awp Tryz.prog true 0 _ (ofL [(0,(.agg [(.I A.Kind),(.I A.N),(.str A.T),(.lst 1 (A.Keys.map AV.str)),(.lst 5 (A.Items.map l9))]))]) [] _ from ?_);refine sr<|x9 (a1j (j:=0) (c:=(.agg [(.I A.Kind),(.I A.N),(.str A.T),(.lst 1 (A.Keys.map AV.str)),(.lst 5 (A.Items.map l9))])) rfl tr rfl rfl)<|x9 (a1j (j:=1) (c:=(.agg [(.I 0),(.I 0),(.str []),.nil,.nil])) rfl tr rfl rfl)<|dk<|o7<|?_
 obtain ⟨p3,hb1,hf⟩:=ob hf
 refine a1s ([(1,(.ptr 0 0 0)),(2,(.ptr 1 0 0)),(3,(.ptr 2 0 0))],[.box 5 (.agg [(.I A.Kind),(.I A.N),(.str A.T),(.lst 1 (A.Keys.map AV.str)),(.lst 5 (A.Items.map l9))]),.box 5 (.agg [(.I 0),(.I 0),(.str []),.nil,.nil]),.box 5 (.agg [(.I A.Kind),(.I A.N),(.str A.T),(.own 3 0 (([] ++ A.Keys).length)),(.own 4 0 0)]),.row 1 (([] ++ A.Keys).map AV.str),.row 5 ([].map l9)]) ?_ ?_
 ·refine a0s ?_
  obtain ⟨g4,hb1⟩:=og hb1
  refine x8 (.ptr 0 0 0) rfl tr rfl<|x8 (.I A.Kind) rfl nle rfl<|x8 (.ptr 0 0 1) rfl tr rfl<|x8 (.I A.N) rfl nle rfl<|x8 (.ptr 0 0 2) rfl tr rfl<|x8 (.str A.T) rfl nle rfl<|x8 (.ptr 0 0 3) rfl tr rfl<|x8 (.lst 1 (A.Keys.map AV.str)) rfl nle rfl<|?_;refine a0w (a0o (j:=2) (as':=[]) rfl (fun _ => by decide) tr .r rfl rfl rfl) (.inr ⟨⟨nle,rfl⟩,⟨⟨tr,rfl⟩,⟨⟨nle,rfl⟩,⟨⟨tr,rfl⟩,⟨⟨nle,rfl⟩,⟨⟨tr,rfl⟩,⟨⟨nle,rfl⟩,⟨⟨tr,rfl⟩,tr⟩⟩⟩⟩⟩⟩⟩⟩) ?_ ?_
  ·refine a0w (a0o (j:=2) (as':=[]) rfl (fun _ => by decide) tr .r rfl rfl rfl) (.inr ⟨⟨nle,rfl⟩,⟨⟨tr,rfl⟩,⟨⟨nle,rfl⟩,⟨⟨tr,rfl⟩,⟨⟨nle,rfl⟩,⟨⟨tr,rfl⟩,⟨⟨nle,rfl⟩,⟨⟨tr,rfl⟩,tr⟩⟩⟩⟩⟩⟩⟩⟩) ?_ ?_
   ·refine a0w (a1j (j:=2) (c:=(.agg [(.I 0),(.I 0),(.str []),.nil,.nil])) rfl tr rfl rfl) (.inr ⟨⟨nle,rfl⟩,⟨⟨tr,rfl⟩,⟨⟨nle,rfl⟩,⟨⟨tr,rfl⟩,⟨⟨nle,rfl⟩,⟨⟨tr,rfl⟩,⟨⟨nle,rfl⟩,⟨⟨tr,rfl⟩,tr⟩⟩⟩⟩⟩⟩⟩⟩) tr ?_;refine a0w (a0o (j:=3) (as':=[]) rfl (fun _ => by decide) tr .r rfl rfl rfl) (.inr ⟨⟨nle,rfl⟩,⟨⟨tr,rfl⟩,⟨⟨nle,rfl⟩,⟨⟨tr,rfl⟩,⟨⟨nle,rfl⟩,⟨⟨tr,rfl⟩,⟨⟨nle,rfl⟩,⟨⟨tr,rfl⟩,tr⟩⟩⟩⟩⟩⟩⟩⟩) ?_ ?_
    ·refine a0w (a0o (j:=3) (as':=[]) rfl (fun _ => by decide) tr .r rfl rfl rfl) (.inr ⟨⟨nle,rfl⟩,⟨⟨tr,rfl⟩,⟨⟨nle,rfl⟩,⟨⟨tr,rfl⟩,⟨⟨nle,rfl⟩,⟨⟨tr,rfl⟩,⟨⟨nle,rfl⟩,⟨⟨tr,rfl⟩,tr⟩⟩⟩⟩⟩⟩⟩⟩) tr ?_;refine a0w (a0o (j:=4) (as':=[]) rfl (fun _ => by decide) tr .r rfl rfl rfl) (.inr ⟨⟨nle,rfl⟩,⟨⟨tr,rfl⟩,⟨⟨nle,rfl⟩,⟨⟨tr,rfl⟩,⟨⟨nle,rfl⟩,⟨⟨tr,rfl⟩,⟨⟨nle,rfl⟩,⟨⟨tr,rfl⟩,tr⟩⟩⟩⟩⟩⟩⟩⟩) tr ?_
     refine a0w (a4e (j:=5) (L:=(([] ++ A.Keys).map AV.str)) (len:=([] ++ A.Keys).length) rfl false rfl rfl (fun _ => flm (fun _ => rfl) _) (fun _ _ _ => flm (fun _ => rfl) _) (by decide) ((by simp)) (by simp <;> omega) g4 rfl rfl) (.inr ⟨⟨nle,rfl⟩,⟨⟨tr,rfl⟩,⟨⟨nle,rfl⟩,⟨⟨tr,rfl⟩,⟨⟨nle,rfl⟩,⟨⟨tr,rfl⟩,tr⟩⟩⟩⟩⟩⟩) tr ?_
     refine x8 (.agg [(.I A.Kind),(.I A.N),(.str A.T),(.own 5 0 (([] ++ A.Keys).length)),(.own 3 0 0)]) rfl ⟨⟨rfl,nle,tr⟩,⟨⟨rfl,nle,tr⟩,⟨⟨rfl,nle,tr⟩,⟨⟨rfl,nle,tr⟩,⟨⟨rfl,nle,tr⟩,tr⟩⟩⟩⟩⟩ rfl<|a4r (a0f (v:=(.agg [(.I A.Kind),(.I A.N),(.str A.T),(.own 5 0 (([] ++ A.Keys).length)),(.own 3 0 0)])) (y':=(.agg [(.I A.Kind),(.I A.N),(.str A.T),(.own 5 0 (([] ++ A.Keys).length)),(.own 3 0 0)])) rfl rfl rfl tr ⟨rfl,nle⟩ ⟨⟨rfl,tr⟩,⟨⟨rfl,tr⟩,⟨⟨rfl,tr⟩,⟨⟨rfl,tr⟩,⟨⟨rfl,tr⟩,tr⟩⟩⟩⟩⟩ rfl) tr tr<|a0h<|?_;obtain rfl:=os hb1;exact ⟨[],[0,1,2,5,3],_,_,rfl,rfl,⟨.r,⟨.r,⟨.r,tr⟩⟩⟩,(.cons .r (.cons .r (.cons (.box (.agg (.cons .r (.cons .r (.cons .r (.cons .r (.cons (.of_eq (congrArg (AV.own _ 0) (by simp))) .nil))))))) (.cons .r (.cons .r .nil)))))⟩
    ·refine a0w (a4e (j:=4) (L:=(([] ++ A.Keys).map AV.str)) (len:=([] ++ A.Keys).length) rfl false rfl rfl (fun _ => flm (fun _ => rfl) _) (fun _ _ _ => flm (fun _ => rfl) _) (by decide) ((by simp)) (by simp <;> omega) g4 rfl rfl) (.inr ⟨⟨nle,rfl⟩,⟨⟨tr,rfl⟩,⟨⟨nle,rfl⟩,⟨⟨tr,rfl⟩,⟨⟨nle,rfl⟩,⟨⟨tr,rfl⟩,tr⟩⟩⟩⟩⟩⟩) ?_ ?_
     ·refine a0w (a0o (j:=4) (as':=[]) rfl (fun _ => by decide) tr .r rfl rfl rfl) (.inr ⟨⟨nle,rfl⟩,⟨⟨tr,rfl⟩,⟨⟨nle,rfl⟩,⟨⟨tr,rfl⟩,⟨⟨nle,rfl⟩,⟨⟨tr,rfl⟩,⟨⟨nle,rfl⟩,⟨⟨tr,rfl⟩,tr⟩⟩⟩⟩⟩⟩⟩⟩) tr ?_
      refine a0w (a4e (j:=5) (L:=(([] ++ A.Keys).map AV.str)) (len:=([] ++ A.Keys).length) rfl false rfl rfl (fun _ => flm (fun _ => rfl) _) (fun _ _ _ => flm (fun _ => rfl) _) (by decide) ((by simp)) (by simp <;> omega) g4 rfl rfl) (.inr ⟨⟨nle,rfl⟩,⟨⟨tr,rfl⟩,⟨⟨nle,rfl⟩,⟨⟨tr,rfl⟩,⟨⟨nle,rfl⟩,⟨⟨tr,rfl⟩,tr⟩⟩⟩⟩⟩⟩) tr ?_
      refine x8 (.agg [(.I A.Kind),(.I A.N),(.str A.T),(.own 5 0 (([] ++ A.Keys).length)),(.own 4 0 0)]) rfl ⟨⟨rfl,nle,tr⟩,⟨⟨rfl,nle,tr⟩,⟨⟨rfl,nle,tr⟩,⟨⟨rfl,nle,tr⟩,⟨⟨rfl,nle,tr⟩,tr⟩⟩⟩⟩⟩ rfl<|a4r (a0f (v:=(.agg [(.I A.Kind),(.I A.N),(.str A.T),(.own 5 0 (([] ++ A.Keys).length)),(.own 4 0 0)])) (y':=(.agg [(.I A.Kind),(.I A.N),(.str A.T),(.own 5 0 (([] ++ A.Keys).length)),(.own 4 0 0)])) rfl rfl rfl tr ⟨rfl,nle⟩ ⟨⟨rfl,tr⟩,⟨⟨rfl,tr⟩,⟨⟨rfl,tr⟩,⟨⟨rfl,tr⟩,⟨⟨rfl,tr⟩,tr⟩⟩⟩⟩⟩ rfl) tr tr<|a0h<|?_;obtain rfl:=os hb1;exact ⟨[],[0,1,2,5,4],_,_,rfl,rfl,⟨.r,⟨.r,⟨.r,tr⟩⟩⟩,(.cons .r (.cons .r (.cons (.box (.agg (.cons .r (.cons .r (.cons .r (.cons .r (.cons (.of_eq (congrArg (AV.own _ 0) (by simp))) .nil))))))) (.cons .r (.cons .r .nil)))))⟩
     ·refine a0w (a0o (j:=5) (as':=[]) rfl (fun _ => by decide) tr .r rfl rfl rfl) (.inr ⟨⟨nle,rfl⟩,⟨⟨tr,rfl⟩,⟨⟨nle,rfl⟩,⟨⟨tr,rfl⟩,⟨⟨nle,rfl⟩,⟨⟨tr,rfl⟩,⟨⟨nle,rfl⟩,⟨⟨tr,rfl⟩,tr⟩⟩⟩⟩⟩⟩⟩⟩) tr ?_;refine x8 (.agg [(.I A.Kind),(.I A.N),(.str A.T),(.own 4 0 (([] ++ A.Keys).length)),(.own 5 0 0)]) rfl ⟨⟨rfl,nle,tr⟩,⟨⟨rfl,nle,tr⟩,⟨⟨rfl,nle,tr⟩,⟨⟨rfl,nle,tr⟩,⟨⟨rfl,nle,tr⟩,tr⟩⟩⟩⟩⟩ rfl<|a4r (a0f (v:=(.agg [(.I A.Kind),(.I A.N),(.str A.T),(.own 4 0 (([] ++ A.Keys).length)),(.own 5 0 0)])) (y':=(.agg [(.I A.Kind),(.I A.N),(.str A.T),(.own 4 0 (([] ++ A.Keys).length)),(.own 5 0 0)])) rfl rfl rfl tr ⟨rfl,nle⟩ ⟨⟨rfl,tr⟩,⟨⟨rfl,tr⟩,⟨⟨rfl,tr⟩,⟨⟨rfl,tr⟩,⟨⟨rfl,tr⟩,tr⟩⟩⟩⟩⟩ rfl) tr tr<|?_
      refine a0h ?_;obtain rfl:=os hb1;exact ⟨[],[0,1,2,4,5],_,_,rfl,rfl,⟨.r,⟨.r,⟨.r,tr⟩⟩⟩,(.cons .r (.cons .r (.cons (.box (.agg (.cons .r (.cons .r (.cons .r (.cons .r (.cons (.of_eq (congrArg (AV.own _ 0) (by simp))) .nil))))))) (.cons .r (.cons .r .nil)))))⟩
   ·refine a0w (a0o (j:=3) (as':=[]) rfl (fun _ => by decide) tr .r rfl rfl rfl) (.inr ⟨⟨nle,rfl⟩,⟨⟨tr,rfl⟩,⟨⟨nle,rfl⟩,⟨⟨tr,rfl⟩,⟨⟨nle,rfl⟩,⟨⟨tr,rfl⟩,⟨⟨nle,rfl⟩,⟨⟨tr,rfl⟩,tr⟩⟩⟩⟩⟩⟩⟩⟩) ?_ ?_
    ·refine a0w (a1j (j:=3) (c:=(.agg [(.I 0),(.I 0),(.str []),.nil,.nil])) rfl tr rfl rfl) (.inr ⟨⟨nle,rfl⟩,⟨⟨tr,rfl⟩,⟨⟨nle,rfl⟩,⟨⟨tr,rfl⟩,⟨⟨nle,rfl⟩,⟨⟨tr,rfl⟩,⟨⟨nle,rfl⟩,⟨⟨tr,rfl⟩,tr⟩⟩⟩⟩⟩⟩⟩⟩) tr ?_;refine a0w (a0o (j:=4) (as':=[]) rfl (fun _ => by decide) tr .r rfl rfl rfl) (.inr ⟨⟨nle,rfl⟩,⟨⟨tr,rfl⟩,⟨⟨nle,rfl⟩,⟨⟨tr,rfl⟩,⟨⟨nle,rfl⟩,⟨⟨tr,rfl⟩,⟨⟨nle,rfl⟩,⟨⟨tr,rfl⟩,tr⟩⟩⟩⟩⟩⟩⟩⟩) tr ?_
     refine a0w (a4e (j:=5) (L:=(([] ++ A.Keys).map AV.str)) (len:=([] ++ A.Keys).length) rfl false rfl rfl (fun _ => flm (fun _ => rfl) _) (fun _ _ _ => flm (fun _ => rfl) _) (by decide) ((by simp)) (by simp <;> omega) g4 rfl rfl) (.inr ⟨⟨nle,rfl⟩,⟨⟨tr,rfl⟩,⟨⟨nle,rfl⟩,⟨⟨tr,rfl⟩,⟨⟨nle,rfl⟩,⟨⟨tr,rfl⟩,tr⟩⟩⟩⟩⟩⟩) tr ?_
     refine x8 (.agg [(.I A.Kind),(.I A.N),(.str A.T),(.own 5 0 (([] ++ A.Keys).length)),(.own 2 0 0)]) rfl ⟨⟨rfl,nle,tr⟩,⟨⟨rfl,nle,tr⟩,⟨⟨rfl,nle,tr⟩,⟨⟨rfl,nle,tr⟩,⟨⟨rfl,nle,tr⟩,tr⟩⟩⟩⟩⟩ rfl<|a4r (a0f (v:=(.agg [(.I A.Kind),(.I A.N),(.str A.T),(.own 5 0 (([] ++ A.Keys).length)),(.own 2 0 0)])) (y':=(.agg [(.I A.Kind),(.I A.N),(.str A.T),(.own 5 0 (([] ++ A.Keys).length)),(.own 2 0 0)])) rfl rfl rfl tr ⟨rfl,nle⟩ ⟨⟨rfl,tr⟩,⟨⟨rfl,tr⟩,⟨⟨rfl,tr⟩,⟨⟨rfl,tr⟩,⟨⟨rfl,tr⟩,tr⟩⟩⟩⟩⟩ rfl) tr tr<|a0h<|?_;obtain rfl:=os hb1;exact ⟨[],[0,1,3,5,2],_,_,rfl,rfl,⟨.r,⟨.r,⟨.r,tr⟩⟩⟩,(.cons .r (.cons .r (.cons (.box (.agg (.cons .r (.cons .r (.cons .r (.cons .r (.cons (.of_eq (congrArg (AV.own _ 0) (by simp))) .nil))))))) (.cons .r (.cons .r .nil)))))⟩
    ·refine a0w (a4e (j:=4) (L:=(([] ++ A.Keys).map AV.str)) (len:=([] ++ A.Keys).length) rfl false rfl rfl (fun _ => flm (fun _ => rfl) _) (fun _ _ _ => flm (fun _ => rfl) _) (by decide) ((by simp)) (by simp <;> omega) g4 rfl rfl) (.inr ⟨⟨nle,rfl⟩,⟨⟨tr,rfl⟩,⟨⟨nle,rfl⟩,⟨⟨tr,rfl⟩,⟨⟨nle,rfl⟩,⟨⟨tr,rfl⟩,tr⟩⟩⟩⟩⟩⟩) ?_ ?_
     ·refine a0w (a1j (j:=4) (c:=(.agg [(.I 0),(.I 0),(.str []),.nil,.nil])) rfl tr rfl rfl) (.inr ⟨⟨nle,rfl⟩,⟨⟨tr,rfl⟩,⟨⟨nle,rfl⟩,⟨⟨tr,rfl⟩,⟨⟨nle,rfl⟩,⟨⟨tr,rfl⟩,⟨⟨nle,rfl⟩,⟨⟨tr,rfl⟩,tr⟩⟩⟩⟩⟩⟩⟩⟩) tr ?_
      refine a0w (a4e (j:=5) (L:=(([] ++ A.Keys).map AV.str)) (len:=([] ++ A.Keys).length) rfl false rfl rfl (fun _ => flm (fun _ => rfl) _) (fun _ _ _ => flm (fun _ => rfl) _) (by decide) ((by simp)) (by simp <;> omega) g4 rfl rfl) (.inr ⟨⟨nle,rfl⟩,⟨⟨tr,rfl⟩,⟨⟨nle,rfl⟩,⟨⟨tr,rfl⟩,⟨⟨nle,rfl⟩,⟨⟨tr,rfl⟩,tr⟩⟩⟩⟩⟩⟩) tr ?_
      refine x8 (.agg [(.I A.Kind),(.I A.N),(.str A.T),(.own 5 0 (([] ++ A.Keys).length)),(.own 2 0 0)]) rfl ⟨⟨rfl,nle,tr⟩,⟨⟨rfl,nle,tr⟩,⟨⟨rfl,nle,tr⟩,⟨⟨rfl,nle,tr⟩,⟨⟨rfl,nle,tr⟩,tr⟩⟩⟩⟩⟩ rfl<|a4r (a0f (v:=(.agg [(.I A.Kind),(.I A.N),(.str A.T),(.own 5 0 (([] ++ A.Keys).length)),(.own 2 0 0)])) (y':=(.agg [(.I A.Kind),(.I A.N),(.str A.T),(.own 5 0 (([] ++ A.Keys).length)),(.own 2 0 0)])) rfl rfl rfl tr ⟨rfl,nle⟩ ⟨⟨rfl,tr⟩,⟨⟨rfl,tr⟩,⟨⟨rfl,tr⟩,⟨⟨rfl,tr⟩,⟨⟨rfl,tr⟩,tr⟩⟩⟩⟩⟩ rfl) tr tr<|a0h<|?_;obtain rfl:=os hb1;exact ⟨[],[0,1,4,5,2],_,_,rfl,rfl,⟨.r,⟨.r,⟨.r,tr⟩⟩⟩,(.cons .r (.cons .r (.cons (.box (.agg (.cons .r (.cons .r (.cons .r (.cons .r (.cons (.of_eq (congrArg (AV.own _ 0) (by simp))) .nil))))))) (.cons .r (.cons .r .nil)))))⟩
     ·refine x8 (.agg [(.I A.Kind),(.I A.N),(.str A.T),(.own 4 0 (([] ++ A.Keys).length)),(.own 2 0 0)]) rfl ⟨⟨rfl,nle,tr⟩,⟨⟨rfl,nle,tr⟩,⟨⟨rfl,nle,tr⟩,⟨⟨rfl,nle,tr⟩,⟨⟨rfl,nle,tr⟩,tr⟩⟩⟩⟩⟩ rfl<|a0w (a1j (j:=5) (c:=(.agg [(.I 0),(.I 0),(.str []),.nil,.nil])) rfl tr rfl rfl) (.inr ⟨⟨⟨⟨rfl,nle,tr⟩,⟨⟨rfl,nle,tr⟩,⟨⟨rfl,nle,tr⟩,⟨⟨rfl,nle,tr⟩,⟨⟨rfl,nle,tr⟩,tr⟩⟩⟩⟩⟩,rfl⟩,⟨⟨nle,rfl⟩,⟨⟨tr,rfl⟩,⟨⟨nle,rfl⟩,⟨⟨tr,rfl⟩,⟨⟨nle,rfl⟩,⟨⟨tr,rfl⟩,⟨⟨nle,rfl⟩,⟨⟨tr,rfl⟩,tr⟩⟩⟩⟩⟩⟩⟩⟩⟩) tr<|a4r (a0f (v:=(.agg [(.I A.Kind),(.I A.N),(.str A.T),(.own 4 0 (([] ++ A.Keys).length)),(.own 2 0 0)])) (y':=(.agg [(.I A.Kind),(.I A.N),(.str A.T),(.own 4 0 (([] ++ A.Keys).length)),(.own 2 0 0)])) rfl rfl rfl tr ⟨rfl,nle⟩ ⟨⟨rfl,tr⟩,⟨⟨rfl,tr⟩,⟨⟨rfl,tr⟩,⟨⟨rfl,tr⟩,⟨⟨rfl,tr⟩,tr⟩⟩⟩⟩⟩ rfl) tr tr<|?_
      refine a0h ?_;obtain rfl:=os hb1;exact ⟨[],[0,1,5,4,2],_,_,rfl,rfl,⟨.r,⟨.r,⟨.r,tr⟩⟩⟩,(.cons .r (.cons .r (.cons (.box (.agg (.cons .r (.cons .r (.cons .r (.cons .r (.cons (.of_eq (congrArg (AV.own _ 0) (by simp))) .nil))))))) (.cons .r (.cons .r .nil)))))⟩
  ·refine a0w (a4e (j:=3) (L:=(([] ++ A.Keys).map AV.str)) (len:=([] ++ A.Keys).length) rfl false rfl rfl (fun _ => flm (fun _ => rfl) _) (fun _ _ _ => flm (fun _ => rfl) _) (by decide) ((by simp)) (by simp <;> omega) g4 rfl rfl) (.inr ⟨⟨nle,rfl⟩,⟨⟨tr,rfl⟩,⟨⟨nle,rfl⟩,⟨⟨tr,rfl⟩,⟨⟨nle,rfl⟩,⟨⟨tr,rfl⟩,tr⟩⟩⟩⟩⟩⟩) ?_ ?_
   ·refine a0w (a0o (j:=3) (as':=[]) rfl (fun _ => by decide) tr .r rfl rfl rfl) (.inr ⟨⟨nle,rfl⟩,⟨⟨tr,rfl⟩,⟨⟨nle,rfl⟩,⟨⟨tr,rfl⟩,⟨⟨nle,rfl⟩,⟨⟨tr,rfl⟩,⟨⟨nle,rfl⟩,⟨⟨tr,rfl⟩,tr⟩⟩⟩⟩⟩⟩⟩⟩) ?_ ?_
    ·refine a0w (a1j (j:=3) (c:=(.agg [(.I 0),(.I 0),(.str []),.nil,.nil])) rfl tr rfl rfl) (.inr ⟨⟨nle,rfl⟩,⟨⟨tr,rfl⟩,⟨⟨nle,rfl⟩,⟨⟨tr,rfl⟩,⟨⟨nle,rfl⟩,⟨⟨tr,rfl⟩,⟨⟨nle,rfl⟩,⟨⟨tr,rfl⟩,tr⟩⟩⟩⟩⟩⟩⟩⟩) tr ?_
     refine a0w (a4e (j:=4) (L:=(([] ++ A.Keys).map AV.str)) (len:=([] ++ A.Keys).length) rfl false rfl rfl (fun _ => flm (fun _ => rfl) _) (fun _ _ _ => flm (fun _ => rfl) _) (by decide) ((by simp)) (by simp <;> omega) g4 rfl rfl) (.inr ⟨⟨nle,rfl⟩,⟨⟨tr,rfl⟩,⟨⟨nle,rfl⟩,⟨⟨tr,rfl⟩,⟨⟨nle,rfl⟩,⟨⟨tr,rfl⟩,tr⟩⟩⟩⟩⟩⟩) ?_ ?_
     ·refine a0w (a0o (j:=4) (as':=[]) rfl (fun _ => by decide) tr .r rfl rfl rfl) (.inr ⟨⟨nle,rfl⟩,⟨⟨tr,rfl⟩,⟨⟨nle,rfl⟩,⟨⟨tr,rfl⟩,⟨⟨nle,rfl⟩,⟨⟨tr,rfl⟩,⟨⟨nle,rfl⟩,⟨⟨tr,rfl⟩,tr⟩⟩⟩⟩⟩⟩⟩⟩) tr ?_
      refine a0w (a4e (j:=5) (L:=(([] ++ A.Keys).map AV.str)) (len:=([] ++ A.Keys).length) rfl false rfl rfl (fun _ => flm (fun _ => rfl) _) (fun _ _ _ => flm (fun _ => rfl) _) (by decide) ((by simp)) (by simp <;> omega) g4 rfl rfl) (.inr ⟨⟨nle,rfl⟩,⟨⟨tr,rfl⟩,⟨⟨nle,rfl⟩,⟨⟨tr,rfl⟩,⟨⟨nle,rfl⟩,⟨⟨tr,rfl⟩,tr⟩⟩⟩⟩⟩⟩) tr ?_
      refine x8 (.agg [(.I A.Kind),(.I A.N),(.str A.T),(.own 5 0 (([] ++ A.Keys).length)),(.own 4 0 0)]) rfl ⟨⟨rfl,nle,tr⟩,⟨⟨rfl,nle,tr⟩,⟨⟨rfl,nle,tr⟩,⟨⟨rfl,nle,tr⟩,⟨⟨rfl,nle,tr⟩,tr⟩⟩⟩⟩⟩ rfl<|a4r (a0f (v:=(.agg [(.I A.Kind),(.I A.N),(.str A.T),(.own 5 0 (([] ++ A.Keys).length)),(.own 4 0 0)])) (y':=(.agg [(.I A.Kind),(.I A.N),(.str A.T),(.own 5 0 (([] ++ A.Keys).length)),(.own 4 0 0)])) rfl rfl rfl tr ⟨rfl,nle⟩ ⟨⟨rfl,tr⟩,⟨⟨rfl,tr⟩,⟨⟨rfl,tr⟩,⟨⟨rfl,tr⟩,⟨⟨rfl,tr⟩,tr⟩⟩⟩⟩⟩ rfl) tr tr<|a0h<|?_;obtain rfl:=os hb1;exact ⟨[],[0,1,3,5,4],_,_,rfl,rfl,⟨.r,⟨.r,⟨.r,tr⟩⟩⟩,(.cons .r (.cons .r (.cons (.box (.agg (.cons .r (.cons .r (.cons .r (.cons .r (.cons (.of_eq (congrArg (AV.own _ 0) (by simp))) .nil))))))) (.cons .r (.cons .r .nil)))))⟩
     ·refine a0w (a0o (j:=5) (as':=[]) rfl (fun _ => by decide) tr .r rfl rfl rfl) (.inr ⟨⟨nle,rfl⟩,⟨⟨tr,rfl⟩,⟨⟨nle,rfl⟩,⟨⟨tr,rfl⟩,⟨⟨nle,rfl⟩,⟨⟨tr,rfl⟩,⟨⟨nle,rfl⟩,⟨⟨tr,rfl⟩,tr⟩⟩⟩⟩⟩⟩⟩⟩) tr ?_;refine x8 (.agg [(.I A.Kind),(.I A.N),(.str A.T),(.own 4 0 (([] ++ A.Keys).length)),(.own 5 0 0)]) rfl ⟨⟨rfl,nle,tr⟩,⟨⟨rfl,nle,tr⟩,⟨⟨rfl,nle,tr⟩,⟨⟨rfl,nle,tr⟩,⟨⟨rfl,nle,tr⟩,tr⟩⟩⟩⟩⟩ rfl<|a4r (a0f (v:=(.agg [(.I A.Kind),(.I A.N),(.str A.T),(.own 4 0 (([] ++ A.Keys).length)),(.own 5 0 0)])) (y':=(.agg [(.I A.Kind),(.I A.N),(.str A.T),(.own 4 0 (([] ++ A.Keys).length)),(.own 5 0 0)])) rfl rfl rfl tr ⟨rfl,nle⟩ ⟨⟨rfl,tr⟩,⟨⟨rfl,tr⟩,⟨⟨rfl,tr⟩,⟨⟨rfl,tr⟩,⟨⟨rfl,tr⟩,tr⟩⟩⟩⟩⟩ rfl) tr tr<|?_
      refine a0h ?_;obtain rfl:=os hb1;exact ⟨[],[0,1,3,4,5],_,_,rfl,rfl,⟨.r,⟨.r,⟨.r,tr⟩⟩⟩,(.cons .r (.cons .r (.cons (.box (.agg (.cons .r (.cons .r (.cons .r (.cons .r (.cons (.of_eq (congrArg (AV.own _ 0) (by simp))) .nil))))))) (.cons .r (.cons .r .nil)))))⟩
    ·refine a0w (a4e (j:=4) (L:=(([] ++ A.Keys).map AV.str)) (len:=([] ++ A.Keys).length) rfl false rfl rfl (fun _ => flm (fun _ => rfl) _) (fun _ _ _ => flm (fun _ => rfl) _) (by decide) ((by simp)) (by simp <;> omega) g4 rfl rfl) (.inr ⟨⟨nle,rfl⟩,⟨⟨tr,rfl⟩,⟨⟨nle,rfl⟩,⟨⟨tr,rfl⟩,⟨⟨nle,rfl⟩,⟨⟨tr,rfl⟩,tr⟩⟩⟩⟩⟩⟩) ?_ ?_
     ·refine a0w (a1j (j:=4) (c:=(.agg [(.I 0),(.I 0),(.str []),.nil,.nil])) rfl tr rfl rfl) (.inr ⟨⟨nle,rfl⟩,⟨⟨tr,rfl⟩,⟨⟨nle,rfl⟩,⟨⟨tr,rfl⟩,⟨⟨nle,rfl⟩,⟨⟨tr,rfl⟩,⟨⟨nle,rfl⟩,⟨⟨tr,rfl⟩,tr⟩⟩⟩⟩⟩⟩⟩⟩) tr ?_
      refine a0w (a4e (j:=5) (L:=(([] ++ A.Keys).map AV.str)) (len:=([] ++ A.Keys).length) rfl false rfl rfl (fun _ => flm (fun _ => rfl) _) (fun _ _ _ => flm (fun _ => rfl) _) (by decide) ((by simp)) (by simp <;> omega) g4 rfl rfl) (.inr ⟨⟨nle,rfl⟩,⟨⟨tr,rfl⟩,⟨⟨nle,rfl⟩,⟨⟨tr,rfl⟩,⟨⟨nle,rfl⟩,⟨⟨tr,rfl⟩,tr⟩⟩⟩⟩⟩⟩) tr ?_
      refine x8 (.agg [(.I A.Kind),(.I A.N),(.str A.T),(.own 5 0 (([] ++ A.Keys).length)),(.own 3 0 0)]) rfl ⟨⟨rfl,nle,tr⟩,⟨⟨rfl,nle,tr⟩,⟨⟨rfl,nle,tr⟩,⟨⟨rfl,nle,tr⟩,⟨⟨rfl,nle,tr⟩,tr⟩⟩⟩⟩⟩ rfl<|a4r (a0f (v:=(.agg [(.I A.Kind),(.I A.N),(.str A.T),(.own 5 0 (([] ++ A.Keys).length)),(.own 3 0 0)])) (y':=(.agg [(.I A.Kind),(.I A.N),(.str A.T),(.own 5 0 (([] ++ A.Keys).length)),(.own 3 0 0)])) rfl rfl rfl tr ⟨rfl,nle⟩ ⟨⟨rfl,tr⟩,⟨⟨rfl,tr⟩,⟨⟨rfl,tr⟩,⟨⟨rfl,tr⟩,⟨⟨rfl,tr⟩,tr⟩⟩⟩⟩⟩ rfl) tr tr<|a0h<|?_;obtain rfl:=os hb1;exact ⟨[],[0,1,4,5,3],_,_,rfl,rfl,⟨.r,⟨.r,⟨.r,tr⟩⟩⟩,(.cons .r (.cons .r (.cons (.box (.agg (.cons .r (.cons .r (.cons .r (.cons .r (.cons (.of_eq (congrArg (AV.own _ 0) (by simp))) .nil))))))) (.cons .r (.cons .r .nil)))))⟩
     ·refine x8 (.agg [(.I A.Kind),(.I A.N),(.str A.T),(.own 4 0 (([] ++ A.Keys).length)),(.own 3 0 0)]) rfl ⟨⟨rfl,nle,tr⟩,⟨⟨rfl,nle,tr⟩,⟨⟨rfl,nle,tr⟩,⟨⟨rfl,nle,tr⟩,⟨⟨rfl,nle,tr⟩,tr⟩⟩⟩⟩⟩ rfl<|a0w (a1j (j:=5) (c:=(.agg [(.I 0),(.I 0),(.str []),.nil,.nil])) rfl tr rfl rfl) (.inr ⟨⟨⟨⟨rfl,nle,tr⟩,⟨⟨rfl,nle,tr⟩,⟨⟨rfl,nle,tr⟩,⟨⟨rfl,nle,tr⟩,⟨⟨rfl,nle,tr⟩,tr⟩⟩⟩⟩⟩,rfl⟩,⟨⟨nle,rfl⟩,⟨⟨tr,rfl⟩,⟨⟨nle,rfl⟩,⟨⟨tr,rfl⟩,⟨⟨nle,rfl⟩,⟨⟨tr,rfl⟩,⟨⟨nle,rfl⟩,⟨⟨tr,rfl⟩,tr⟩⟩⟩⟩⟩⟩⟩⟩⟩) tr<|a4r (a0f (v:=(.agg [(.I A.Kind),(.I A.N),(.str A.T),(.own 4 0 (([] ++ A.Keys).length)),(.own 3 0 0)])) (y':=(.agg [(.I A.Kind),(.I A.N),(.str A.T),(.own 4 0 (([] ++ A.Keys).length)),(.own 3 0 0)])) rfl rfl rfl tr ⟨rfl,nle⟩ ⟨⟨rfl,tr⟩,⟨⟨rfl,tr⟩,⟨⟨rfl,tr⟩,⟨⟨rfl,tr⟩,⟨⟨rfl,tr⟩,tr⟩⟩⟩⟩⟩ rfl) tr tr<|?_
      refine a0h ?_;obtain rfl:=os hb1;exact ⟨[],[0,1,5,4,3],_,_,rfl,rfl,⟨.r,⟨.r,⟨.r,tr⟩⟩⟩,(.cons .r (.cons .r (.cons (.box (.agg (.cons .r (.cons .r (.cons .r (.cons .r (.cons (.of_eq (congrArg (AV.own _ 0) (by simp))) .nil))))))) (.cons .r (.cons .r .nil)))))⟩
   ·refine a0w (a0o (j:=4) (as':=[]) rfl (fun _ => by decide) tr .r rfl rfl rfl) (.inr ⟨⟨nle,rfl⟩,⟨⟨tr,rfl⟩,⟨⟨nle,rfl⟩,⟨⟨tr,rfl⟩,⟨⟨nle,rfl⟩,⟨⟨tr,rfl⟩,⟨⟨nle,rfl⟩,⟨⟨tr,rfl⟩,tr⟩⟩⟩⟩⟩⟩⟩⟩) ?_ ?_
    ·refine a0w (a1j (j:=4) (c:=(.agg [(.I 0),(.I 0),(.str []),.nil,.nil])) rfl tr rfl rfl) (.inr ⟨⟨nle,rfl⟩,⟨⟨tr,rfl⟩,⟨⟨nle,rfl⟩,⟨⟨tr,rfl⟩,⟨⟨nle,rfl⟩,⟨⟨tr,rfl⟩,⟨⟨nle,rfl⟩,⟨⟨tr,rfl⟩,tr⟩⟩⟩⟩⟩⟩⟩⟩) tr ?_;refine a0w (a0o (j:=5) (as':=[]) rfl (fun _ => by decide) tr .r rfl rfl rfl) (.inr ⟨⟨nle,rfl⟩,⟨⟨tr,rfl⟩,⟨⟨nle,rfl⟩,⟨⟨tr,rfl⟩,⟨⟨nle,rfl⟩,⟨⟨tr,rfl⟩,⟨⟨nle,rfl⟩,⟨⟨tr,rfl⟩,tr⟩⟩⟩⟩⟩⟩⟩⟩) tr ?_;refine x8 (.agg [(.I A.Kind),(.I A.N),(.str A.T),(.own 3 0 (([] ++ A.Keys).length)),(.own 5 0 0)]) rfl ⟨⟨rfl,nle,tr⟩,⟨⟨rfl,nle,tr⟩,⟨⟨rfl,nle,tr⟩,⟨⟨rfl,nle,tr⟩,⟨⟨rfl,nle,tr⟩,tr⟩⟩⟩⟩⟩ rfl ?_
     refine a4r (a0f (v:=(.agg [(.I A.Kind),(.I A.N),(.str A.T),(.own 3 0 (([] ++ A.Keys).length)),(.own 5 0 0)])) (y':=(.agg [(.I A.Kind),(.I A.N),(.str A.T),(.own 3 0 (([] ++ A.Keys).length)),(.own 5 0 0)])) rfl rfl rfl tr ⟨rfl,nle⟩ ⟨⟨rfl,tr⟩,⟨⟨rfl,tr⟩,⟨⟨rfl,tr⟩,⟨⟨rfl,tr⟩,⟨⟨rfl,tr⟩,tr⟩⟩⟩⟩⟩ rfl) tr tr<|a0h<|?_;obtain rfl:=os hb1;exact ⟨[],[0,1,4,3,5],_,_,rfl,rfl,⟨.r,⟨.r,⟨.r,tr⟩⟩⟩,(.cons .r (.cons .r (.cons (.box (.agg (.cons .r (.cons .r (.cons .r (.cons .r (.cons (.of_eq (congrArg (AV.own _ 0) (by simp))) .nil))))))) (.cons .r (.cons .r .nil)))))⟩
    ·refine x8 (.agg [(.I A.Kind),(.I A.N),(.str A.T),(.own 3 0 (([] ++ A.Keys).length)),(.own 4 0 0)]) rfl ⟨⟨rfl,nle,tr⟩,⟨⟨rfl,nle,tr⟩,⟨⟨rfl,nle,tr⟩,⟨⟨rfl,nle,tr⟩,⟨⟨rfl,nle,tr⟩,tr⟩⟩⟩⟩⟩ rfl<|a0w (a1j (j:=5) (c:=(.agg [(.I 0),(.I 0),(.str []),.nil,.nil])) rfl tr rfl rfl) (.inr ⟨⟨⟨⟨rfl,nle,tr⟩,⟨⟨rfl,nle,tr⟩,⟨⟨rfl,nle,tr⟩,⟨⟨rfl,nle,tr⟩,⟨⟨rfl,nle,tr⟩,tr⟩⟩⟩⟩⟩,rfl⟩,⟨⟨nle,rfl⟩,⟨⟨tr,rfl⟩,⟨⟨nle,rfl⟩,⟨⟨tr,rfl⟩,⟨⟨nle,rfl⟩,⟨⟨tr,rfl⟩,⟨⟨nle,rfl⟩,⟨⟨tr,rfl⟩,tr⟩⟩⟩⟩⟩⟩⟩⟩⟩) tr<|a4r (a0f (v:=(.agg [(.I A.Kind),(.I A.N),(.str A.T),(.own 3 0 (([] ++ A.Keys).length)),(.own 4 0 0)])) (y':=(.agg [(.I A.Kind),(.I A.N),(.str A.T),(.own 3 0 (([] ++ A.Keys).length)),(.own 4 0 0)])) rfl rfl rfl tr ⟨rfl,nle⟩ ⟨⟨rfl,tr⟩,⟨⟨rfl,tr⟩,⟨⟨rfl,tr⟩,⟨⟨rfl,tr⟩,⟨⟨rfl,tr⟩,tr⟩⟩⟩⟩⟩ rfl) tr tr<|?_
     refine a0h ?_;obtain rfl:=os hb1;exact ⟨[],[0,1,5,3,4],_,_,rfl,rfl,⟨.r,⟨.r,⟨.r,tr⟩⟩⟩,(.cons .r (.cons .r (.cons (.box (.agg (.cons .r (.cons .r (.cons .r (.cons .r (.cons (.of_eq (congrArg (AV.own _ 0) (by simp))) .nil))))))) (.cons .r (.cons .r .nil)))))⟩
 ·refine o7<|sr<|l7 (.I 0) rfl<|dk<|?_
  obtain ⟨F,hb1,hf⟩:=ob hf
  refine a1s ([(2,(.ptr 0 0 0)),(3,(.ptr 1 0 0))],[.box 5 (.agg [(.I 0),(.I 0),(.str []),.nil,.nil]),.box 5 (.agg [(.I A.Kind),(.I A.N),(.str A.T),(.own 2 0 (([] ++ A.Keys).length)),(.own 3 0 F.length)]),.row 1 (([] ++ A.Keys).map AV.str),.row 5 (F.map l9)]) ?_ ?_
  ·refine a1f (X:={q:(Nat × (List o9)) // a4m rec (A.Items.drop q.1) q.2 = some F}) (fun q => ([(1,(.ptr 0 0 0)),(2,(.ptr 1 0 0)),(3,(.ptr 2 0 0)),(4,(.I (q.1.1:Int)))],[.box 5 (.agg [(.I A.Kind),(.I A.N),(.str A.T),(.lst 1 (A.Keys.map AV.str)),(.lst 5 (A.Items.map l9))]),.box 5 (.agg [(.I 0),(.I 0),(.str []),.nil,.nil]),.box 5 (.agg [(.I A.Kind),(.I A.N),(.str A.T),(.own 3 0 (([] ++ A.Keys).length)),(.own 4 0 q.1.2.length)]),.row 1 (([] ++ A.Keys).map AV.str),.row 5 (q.1.2.map l9)])) (fun q => A.Items.length - q.1.1) ⟨(0,[]),hb1⟩ ⟨[],[0,1,2,3,4],_,_,rfl,rfl,⟨.r,⟨.r,⟨.r,⟨.r,tr⟩⟩⟩⟩,.r⟩ ?_
   rintro ⟨⟨E,D⟩,hc1⟩
   have hc1:a4m rec (A.Items.drop E) D = some F:=hc1
   refine (show awp Tryz.prog true 0 _ (ofL [(1,(.ptr 0 0 0)),(2,(.ptr 1 0 0)),(3,(.ptr 2 0 0)),(4,(.I (E:Int)))]) [.box 5 (.agg [(.I A.Kind),(.I A.N),(.str A.T),(.lst 1 (A.Keys.map AV.str)),(.lst 5 (A.Items.map l9))]),.box 5 (.agg [(.I 0),(.I 0),(.str []),.nil,.nil]),.box 5 (.agg [(.I A.Kind),(.I A.N),(.str A.T),(.own 3 0 (([] ++ A.Keys).length)),(.own 4 0 D.length)]),.row 1 (([] ++ A.Keys).map AV.str),.row 5 (D.map l9)] _ from ?_)
   rcases a5n A.Items E with ⟨hie35,hd38⟩ | ⟨hlt33,G,hx34,hd38⟩
   ·rw [hd38,a4m.eq_1] at hc1
    have hq37:=dlf hie35
    refine o7<|sr<|l7 (.I (E:Int)) rfl<|x8 (.ptr 0 0 4) rfl tr rfl<|x8 (.lst 5 (A.Items.map l9)) rfl nle rfl<|a0y (a1o (enc:=l9) rfl) fun hl40 => x8 (.bool (decide ((E:Int) < (A.Items.length:Int)))) rfl rfl rfl<|dk<|y9 rfl hq37<|a2l<|a2k<|a1t<|a2j<|?_;obtain rfl:=os hc1;exact ⟨[],[1,2,3,4],_,_,rfl,rfl,⟨.r,⟨.r,tr⟩⟩,.r⟩
   ·rw [hd38,a4m.eq_2] at hc1
    have hq37:=dlt hlt33
    refine o7<|sr<|l7 (.I (E:Int)) rfl<|x8 (.ptr 0 0 4) rfl tr rfl<|x8 (.lst 5 (A.Items.map l9)) rfl nle rfl<|a0y (a1o (enc:=l9) rfl) fun hl41 => x8 (.bool (decide ((E:Int) < (A.Items.length:Int)))) rfl rfl rfl<|dk<|y8 rfl hq37<|a0j<|a0i<|o7<|a2x<|a0s<|?_
    obtain ⟨B,er43,hc1⟩:=ob hc1
    obtain ⟨g44,hc1⟩:=og hc1
    refine x8 (.ptr 2 0 4) rfl tr rfl<|x8 (.own 4 0 D.length) rfl nle rfl<|x8 (.ptr 0 0 4) rfl tr rfl<|x8 (.lst 5 (A.Items.map l9)) rfl nle rfl<|l7 (.I (E:Int)) rfl<|x9 (a1n (enc:=l9) rfl rfl hx34)<|x9 (a8k (v:=(.agg [(.I G.Kind),(.I G.N),(.str G.T),(.lst 1 (G.Keys.map AV.str)),(.lst 5 (G.Items.map l9))])) rfl (o8 _) nle rfl)<|a0w (a2z (v:=(.agg [(.I B.Kind),(.I B.N),(.str B.T),(.own 5 0 B.Keys.length),(.own 6 0 B.Items.length)])) (h':=[.row 1 (B.Keys.map AV.str),.row 5 (B.Items.map l9)]) (hrec _ _ er43) rfl (.cons (.of_eq (o8 G).symm) .nil) (by simp only [a2f,a2a,List.length_map,o8,List.nil_append,List.append_nil,List.cons_append];rfl)) (.inr ⟨⟨nle,rfl⟩,⟨⟨tr,rfl⟩,tr⟩⟩) tr<|?_
    refine a0w (a0o (j:=7) (as':=[(l9 B)]) rfl (fun _ => by decide) ⟨rfl,tr⟩ (.cons (leJ (x:=B) (.agg (.cons .r (.cons .r (.cons .r (.cons (.of_eq (congrArg (AV.lst _) (tk (enc:=AV.str) B.Keys))) (.cons (.of_eq (congrArg (AV.lst _) (tk (enc:=l9) B.Items))) .nil))))))) .nil) rfl rfl rfl) (.inr ⟨⟨nle,rfl⟩,⟨⟨tr,rfl⟩,tr⟩⟩) tr ?_
    refine a0w (a4e (j:=8) (L:=((D ++ [B]).map l9)) (len:=(D ++ [B]).length) rfl true rfl rfl (fun h => Bool.noConfusion h) (fun _ _ h => (e0o (show AV.own _ _ _ = AV.lst _ _ from h)).elim) (by decide) (c4p (enc:=l9) D [B] _ (by rfl)) (by simp <;> omega) g44 rfl rfl) tr tr ?_
    refine x8 (.ptr 2 0 4) rfl tr rfl<|a4r (a0f (v:=(.own 8 0 ((D ++ [B]).length))) (y':=(.agg [(.I A.Kind),(.I A.N),(.str A.T),(.own 3 0 (([] ++ A.Keys).length)),(.own 8 0 ((D ++ [B]).length))])) rfl rfl rfl tr ⟨rfl,nle⟩ ⟨⟨rfl,tr⟩,tr⟩ rfl) tr tr<|a0h<|a2v<|a0i<|a0s<|l7 (.I (E:Int)) rfl<|x8 (.I (w64 ((E:Int) + 1))) rfl rfl rfl<|l7 (.I (w64 ((E:Int) + 1))) rfl<|a0h<|?_;exact a1m ⟨((E + 1),D ++ [B]),hc1⟩ (mul hlt33) ⟨[],[0,1,2,3,8],_,_,rfl,rfl,⟨.r,⟨.r,⟨.r,⟨.of_eq (congrArg (AV.int _) (a1p hlt33 hl41)),tr⟩⟩⟩⟩,.r⟩
  ·refine sr<|x8 (.agg [(.I A.Kind),(.I A.N),(.str A.T),(.own 2 0 (([] ++ A.Keys).length)),(.own 3 0 F.length)]) rfl nle rfl<|a1v (a0f (v:=(.agg [(.I A.Kind),(.I A.N),(.str A.T),(.own 2 0 (([] ++ A.Keys).length)),(.own 3 0 F.length)])) (y':=(.agg [(.I A.Kind),(.I A.N),(.str A.T),(.own 2 0 (([] ++ A.Keys).length)),(.own 3 0 F.length)])) rfl rfl rfl tr ⟨rfl,nle⟩ ⟨⟨rfl,tr⟩,⟨⟨rfl,tr⟩,⟨⟨rfl,tr⟩,⟨⟨rfl,tr⟩,⟨⟨rfl,tr⟩,tr⟩⟩⟩⟩⟩ rfl)<|dk<|a0e<|?_;obtain rfl:=os hf;exact a2m ⟨nle,tr⟩ rfl (by decide) (leJ (x:=(⟨A.Kind,A.N,A.T,[] ++ A.Keys,F⟩:o9)) (.agg (.cons .r (.cons .r (.cons .r (.cons (.of_eq (congrArg (AV.lst _) (tk (enc:=AV.str) ([] ++ A.Keys)))) (.cons (.of_eq (congrArg (AV.lst _) (tk (enc:=l9) F))) .nil)))))))
def a8b:Nat → o9 → Option o9
 | 0,_ => none
 | k + 1,A => b3z (a8b k) A
theorem c0t:∀ (k:Nat) (A:o9) (r:o9),a8b k A = some r → a0a Tryz.prog 93 .fresh [(l9 A)] (l9 r)
 | 0,A,r,h => by rw [a8b.eq_1] at h;cases h
 | k + 1,A,r,h => by
  rw [a8b.eq_2] at h;exact c6r _ (c0t k) A r h

/- spec.ResultJson -/
def c42:a0m :=
 (.seq (.reg (tq 3 (.box 5 (.t 1)) (tq 4 (.box 5 (.c (.agg [(.int .i64 0),(.int .i64 0),(.str []),.nil,.nil]))) (tm 5 (.c (.int .i64 0)) .done))))
 (.seq (.seq (.reg (tq 7 (.load 5 true (.t 3)) (tq 8 (.call 118 [(.t 7)]) (tq 9 (.not (.t 8)) (tm 10 (.t 9) (tg 11 10 false (.mov (.t 0)) (tg 12 10 false (.call 85 [(.t 11),(.c (.int .i64 1)),(.c (.int .i64 10))]) (tg 13 10 false (.not (.t 12)) (tq 14 (.pick (.t 10) (.c (.bool true)) (.t 13)) .done)))))))))
 (.cut (.cond (.t 14) (.seq (.reg (tq 15 (.build [(.int .i64 0),(.int .i64 0),(.str []),.nil,.nil] []) (.q ⟨none,none,.store 5 (.t 4) (.t 15)⟩
 (tm 5 (.c (.int .i64 1)) .done))))
 .ret)
 .skip)))
 (.seq (.reg (tm 16 (.t 0) (tq 17 (.load 5 true (.t 3)) (tq 18 (.call 119 [(.t 16),(.t 17)]) (tq 6 (.box 5 (.c (.agg [(.int .i64 0),(.int .i64 0),(.str []),.nil,.nil]))) (.q ⟨none,none,.store 5 (.t 6) (.t 18)⟩
 .done))))))
 (.seq (.seq (.reg (tq 19 (.load 5 true (.t 6)) (tq 20 (.call 120 [(.t 19)]) (tq 21 (.not (.t 20)) .done))))
 (.cond (.t 21) (.seq (.reg (tq 22 (.build [(.int .i64 0),(.int .i64 0),(.str []),.nil,.nil] []) (.q ⟨none,none,.store 5 (.t 4) (.t 22)⟩
 (tm 5 (.c (.int .i64 6)) .done))))
 .ret)
 .skip))
 (.seq (.reg (tq 23 (.load 5 true (.t 6)) (tq 24 (.call 93 [(.t 23)]) (.q ⟨none,none,.store 5 (.t 4) (.t 24)⟩
 (tm 5 (.c (.int .i64 0)) .done)))))
 .ret)))))
theorem f3o:a1b Tryz.prog Tryz.f42 = some (c42.erase,[.load 5 true (.t 4),.mov (.t 5)],25):=by kernel_rfl
def a8v (E:Int) (B:a1i):Option (o9 × Int) :=
    (((b0y B).bind fun F =>
    if (!F) then
    some true
    else
    (a5u E 1 10).bind fun G =>
    some (!G):Option Bool)).bind fun H =>
    if H then
    some ((⟨0,0,[],[],[]⟩:o9),1)
    else
    (a9y E B).bind fun A =>
    (b4o A).bind fun J =>
    if (!J) then
    some ((⟨0,0,[],[],[]⟩:o9),6)
    else
    (a8b FUEL A).bind fun D =>
    some (D,0)
theorem c3d (E:Int) (B:a1i) (r:(o9 × Int)) (hf:a8v E B = some r):a0a Tryz.prog 42 .fresh [(.I E),(a2c B)] (.tup [(l9 r.1),(.I r.2)]):=by
 refine a0a.of_awp mixed Tryz.func42 f3o nle ?_;rw [a0l];unfold a8v at hf;unfold c42;refine (show awp Tryz.prog true 0 _ (ofL [(0,(.I E)),(1,(a2c B))]) [] _ from ?_);refine sr<|x9 (a1j (j:=0) (c:=(.agg [(.I B.Code),(.I B.Count),(.I B.Id),(.lst 1 (B.Columns.map AV.str)),(.lst 2 (B.Rows.map y5))])) rfl tr rfl rfl)<|x9 (a1j (j:=1) (c:=(.agg [(.I 0),(.I 0),(.str []),.nil,.nil])) rfl tr rfl rfl)<|l7 (.I 0) rfl<|dk<|o7<|o7<|?_
 obtain ⟨H,hb1,hf⟩:=ob hf
 refine a1s ([(0,(.I E)),(3,(.ptr 0 0 0)),(4,(.ptr 1 0 0)),(14,(.bool H))],[.box 5 (.agg [(.I B.Code),(.I B.Count),(.I B.Id),(.lst 1 (B.Columns.map AV.str)),(.lst 2 (B.Rows.map y5))]),.box 5 (.agg [(.I 0),(.I 0),(.str []),.nil,.nil])]) ?_ ?_
 ·refine a0s ?_
  obtain ⟨F,er11,hb1⟩:=ob hb1
  rcases oi hb1 with ⟨c12,hb1⟩ | ⟨c12,hb1⟩
  ·refine x8 (.agg [(.I B.Code),(.I B.Count),(.I B.Id),(.lst 1 (B.Columns.map AV.str)),(.lst 2 (B.Rows.map y5))]) rfl nle rfl<|x9 (a0n (b8r _ _ er11) rfl .r rfl)<|x8 (.bool (!F)) rfl tr rfl<|l7 (.bool (!F)) rfl<|a1g (s:=10) (b:=true) rfl c12<|a0d rfl rfl<|a0d rfl rfl<|a0d rfl rfl<|x8 (.bool true) rfl tr rfl<|a0h<|?_;obtain rfl:=os hb1;exact ⟨[],[0,1],_,_,rfl,rfl,⟨.r,⟨.r,⟨.r,⟨.r,tr⟩⟩⟩⟩,.r⟩
  ·obtain ⟨G,er14,hb1⟩:=ob hb1
   refine x8 (.agg [(.I B.Code),(.I B.Count),(.I B.Id),(.lst 1 (B.Columns.map AV.str)),(.lst 2 (B.Rows.map y5))]) rfl nle rfl<|x9 (a0n (b8r _ _ er11) rfl .r rfl)<|x8 (.bool (!F)) rfl tr rfl<|l7 (.bool (!F)) rfl<|a1g (s:=10) (b:=false) rfl (bf c12)<|s_on rfl<|l7 (.I E) rfl<|s_on rfl<|x9 (a0n (a4h _ _ _ _ er14) rfl .r rfl)<|s_on rfl<|x8 (.bool (!G)) rfl tr rfl<|x8 (.bool (!G)) rfl tr rfl<|a0h<|?_;obtain rfl:=os hb1;exact ⟨[],[0,1],_,_,rfl,rfl,⟨.r,⟨.r,⟨.r,⟨.r,tr⟩⟩⟩⟩,.r⟩
 ·rcases oi hf with ⟨c15,hf⟩ | ⟨c15,hf⟩
  ·refine y8 rfl c15<|sr<|x8 (.agg [(.I 0),(.I 0),(.str []),.nil,.nil]) rfl tr rfl<|a1v (a0f (v:=(.agg [(.I 0),(.I 0),(.str []),.nil,.nil])) (y':=(.agg [(.I 0),(.I 0),(.str []),.nil,.nil])) rfl rfl rfl tr ⟨rfl,nle⟩ ⟨⟨rfl,tr⟩,⟨⟨rfl,tr⟩,⟨⟨rfl,tr⟩,⟨⟨rfl,tr⟩,⟨⟨rfl,tr⟩,tr⟩⟩⟩⟩⟩ rfl)<|l7 (.I 1) rfl<|dk<|a0e<|?_;obtain rfl:=os hf;exact a2m ⟨nle,⟨tr,tr⟩⟩ rfl (by decide) (.tup (.cons (leJ (x:=(⟨0,0,[],[],[]⟩:o9)) (.agg (.cons .r (.cons .r (.cons .r (.cons (.nil _) (.cons (.nil _) .nil))))))) (.cons .r .nil)))
  ·refine y9 rfl (bf c15)<|a0j<|a0i<|sr<|?_
   obtain ⟨A,er17,hf⟩:=ob hf
   refine l7 (.I E) rfl<|x8 (.agg [(.I B.Code),(.I B.Count),(.I B.Id),(.lst 1 (B.Columns.map AV.str)),(.lst 2 (B.Rows.map y5))]) rfl nle rfl<|x9 (a7z (v:=(.agg [(.I A.Kind),(.I A.N),(.str A.T),(.lst 1 (A.Keys.map AV.str)),(.lst 5 (A.Items.map l9))])) rfl (c4s _ _ _ er17) rfl .r (by simp only [o8]) rfl)<|x9 (a1j (j:=2) (c:=(.agg [(.I 0),(.I 0),(.str []),.nil,.nil])) rfl tr rfl rfl)<|a1v (a0f (v:=(.agg [(.I A.Kind),(.I A.N),(.str A.T),(.lst 1 (A.Keys.map AV.str)),(.lst 5 (A.Items.map l9))])) (y':=(.agg [(.I A.Kind),(.I A.N),(.str A.T),(.lst 1 (A.Keys.map AV.str)),(.lst 5 (A.Items.map l9))])) rfl rfl rfl tr ⟨rfl,nle⟩ ⟨⟨rfl,tr⟩,⟨⟨rfl,tr⟩,⟨⟨rfl,tr⟩,⟨⟨rfl,tr⟩,⟨⟨rfl,tr⟩,tr⟩⟩⟩⟩⟩ rfl)<|?_
   refine dk<|o7<|sr<|?_
   obtain ⟨J,er19,hf⟩:=ob hf
   refine x8 (.agg [(.I A.Kind),(.I A.N),(.str A.T),(.lst 1 (A.Keys.map AV.str)),(.lst 5 (A.Items.map l9))]) rfl nle rfl<|x9 (a0n (d0s _ _ er19) rfl (.cons (.of_eq (o8 A).symm) .nil) rfl)<|x8 (.bool (!J)) rfl tr rfl<|dk<|?_
   rcases oi hf with ⟨c20,hf⟩ | ⟨c20,hf⟩
   ·refine y8 rfl c20<|sr<|x8 (.agg [(.I 0),(.I 0),(.str []),.nil,.nil]) rfl tr rfl<|a1v (a0f (v:=(.agg [(.I 0),(.I 0),(.str []),.nil,.nil])) (y':=(.agg [(.I 0),(.I 0),(.str []),.nil,.nil])) rfl rfl rfl tr ⟨rfl,nle⟩ ⟨⟨rfl,tr⟩,⟨⟨rfl,tr⟩,⟨⟨rfl,tr⟩,⟨⟨rfl,tr⟩,⟨⟨rfl,tr⟩,tr⟩⟩⟩⟩⟩ rfl)<|l7 (.I 6) rfl<|dk<|a0e<|?_;obtain rfl:=os hf;exact a2m ⟨nle,⟨tr,tr⟩⟩ rfl (by decide) (.tup (.cons (leJ (x:=(⟨0,0,[],[],[]⟩:o9)) (.agg (.cons .r (.cons .r (.cons .r (.cons (.nil _) (.cons (.nil _) .nil))))))) (.cons .r .nil)))
   ·refine y9 rfl (bf c20)<|a0j<|a0i<|sr<|?_
    obtain ⟨D,er22,hf⟩:=ob hf
    refine x8 (.agg [(.I A.Kind),(.I A.N),(.str A.T),(.lst 1 (A.Keys.map AV.str)),(.lst 5 (A.Items.map l9))]) rfl nle rfl<|x9 (a2z (v:=(.agg [(.I D.Kind),(.I D.N),(.str D.T),(.own 3 0 D.Keys.length),(.own 4 0 D.Items.length)])) (h':=[.row 1 (D.Keys.map AV.str),.row 5 (D.Items.map l9)]) (c0t FUEL _ _ er22) rfl (.cons (.of_eq (o8 A).symm) .nil) (by simp only [a2f,a2a,List.length_map,o8,List.nil_append,List.append_nil,List.cons_append];rfl))<|a1v (a0f (v:=(.agg [(.I D.Kind),(.I D.N),(.str D.T),(.own 3 0 D.Keys.length),(.own 4 0 D.Items.length)])) (y':=(.agg [(.I D.Kind),(.I D.N),(.str D.T),(.own 3 0 D.Keys.length),(.own 4 0 D.Items.length)])) rfl rfl rfl tr ⟨rfl,nle⟩ ⟨⟨rfl,tr⟩,⟨⟨rfl,tr⟩,⟨⟨rfl,tr⟩,⟨⟨rfl,tr⟩,⟨⟨rfl,tr⟩,tr⟩⟩⟩⟩⟩ rfl)<|?_
    refine l7 (.I 0) rfl<|dk<|a0e<|?_;obtain rfl:=os hf;exact a2m ⟨nle,⟨tr,tr⟩⟩ rfl (by decide) (.tup (.cons (leJ (x:=D) (.agg (.cons .r (.cons .r (.cons .r (.cons (.of_eq (congrArg (AV.lst _) (tk (enc:=AV.str) D.Keys))) (.cons (.of_eq (congrArg (AV.lst _) (tk (enc:=l9) D.Items))) .nil))))))) (.cons .r .nil)))

/- impl.within -/
def c81:a0m :=
 (.seq (.reg (tm 6 (.c (.bool false)) .done))
 (.seq (.reg (tm 7 (.t 0) (tm 8 (.t 1) (tq 9 (.bin .geq (.t 7) (.t 8)) (tm 10 (.t 9) (tg 11 10 true (.mov (.t 0)) (tg 12 10 true (.mov (.t 2)) (tg 13 10 true (.bin .leq (.t 11) (.t 12)) (tq 14 (.pick (.t 10) (.t 13) (.c (.bool false))) (tm 6 (.t 14) .done))))))))))
 .ret))
theorem f3p:a1b Tryz.prog Tryz.f81 = some (c81.erase,[.mov (.t 6)],15):=by kernel_rfl
def a4u (D:Int) (A:Int) (B:Int):Option Bool :=
    if (decide (D ≥ A)) then
    some (decide (D ≤ B))
    else
    some false
theorem a4c (D:Int) (A:Int) (B:Int) (r:Bool) (hf:a4u D A B = some r):a0a Tryz.prog 81 .flat [(.I D),(.I A),(.I B)] (.bool r):=by
 refine a0a.of_awp mixed Tryz.func81 f3p nle ?_;rw [a0l];unfold a4u at hf;unfold c81;refine (show awp Tryz.prog false 0 _ (ofL [(0,(.I D)),(1,(.I A)),(2,(.I B))]) [] _ from ?_);refine sr<|l7 (.bool false) rfl<|dk<|sr<|?_
 rcases oi hf with ⟨c4,hf⟩ | ⟨c4,hf⟩
 ·refine l7 (.I D) rfl<|l7 (.I A) rfl<|x8 (.bool (decide (D ≥ A))) rfl rfl rfl<|l7 (.bool (decide (D ≥ A))) rfl<|a1g (s:=10) (b:=true) rfl c4<|s_on rfl<|l7 (.I D) rfl<|s_on rfl<|l7 (.I B) rfl<|s_on rfl<|x8 (.bool (decide (D ≤ B))) rfl rfl rfl<|x8 (.bool (decide (D ≤ B))) rfl tr rfl<|l7 (.bool (decide (D ≤ B))) rfl<|dk<|a0e<|?_;obtain rfl:=os hf;exact a0g ⟨tr,tr⟩ rfl .r
 ·refine l7 (.I D) rfl<|l7 (.I A) rfl<|x8 (.bool (decide (D ≥ A))) rfl rfl rfl<|l7 (.bool (decide (D ≥ A))) rfl<|a1g (s:=10) (b:=false) rfl (bf c4)<|a0d rfl rfl<|a0d rfl rfl<|a0d rfl rfl<|x8 (.bool false) rfl tr rfl<|l7 (.bool false) rfl<|dk<|a0e<|?_;obtain rfl:=os hf;exact a0g ⟨tr,tr⟩ rfl .r

/- slices.IndexFunc[[]string,string] -/
def e9x:a0m :=
 (.seq (.reg (tm 4 (.c (.int .i64 0)) .done))
 (.seq (.seq (.reg (tm 6 (.t 0) (tq 7 (.len (.t 6)) (tm 8 (.c (.int .i64 0)) .done))))
 (.block 0 (.loop (.seq (.reg (tq 9 (.bin .lss (.t 8) (.t 7)) .done))
 (.seq (.cond (.t 9) .skip
 (.exit 0))
 (.seq (.block 1 (.seq (.reg (tm 10 (.t 8) (tm 5 (.t 10) .done)))
 (.seq (.reg (tm 11 (.t 1) (tm 12 (.t 0) (tm 13 (.t 5) (tq 14 (.iaddr 1 (.t 12) (.t 13)) (tq 15 (.load 1 false (.t 14)) (tq 16 (.calv (.t 11) [(.t 15)]) .done)))))))
 (.cond (.t 16) (.seq (.reg (tm 17 (.t 5) (tm 4 (.t 17) .done)))
 .ret)
 .skip))))
 (.reg (tq 18 (.bin .add (.t 8) (.c (.int .i64 1))) (tm 8 (.t 18) .done)))))))))
 (.cut (.seq (.reg (tq 4 (.mov (.c (.int .i64 (-1)))) .done))
 .ret))))
theorem e9y:a1b Tryz.prog Tryz.f284 = some (e9x.erase,[.mov (.t 4)],19):=by kernel_rfl
def a1h (D:(Str → Option Bool)):List Str → Nat → Option (Fl Int Unit)
  | [],A =>
    some (.go ())
  | E :: xs,A =>
    (D E).bind fun F =>
    if F then
    some (.ret (A:Int))
    else
    a1h D xs (A + 1)

def a3k (B:(List Str)) (D:(Str → Option Bool)):Option Int :=
    (a1h D B 0).bind fun q => (match q with
    | .ret r => some r
    | .go _ =>
    some (-1))
theorem b2w (B:(List Str)) (D:(Str → Option Bool)) (r:Int) (hf:a3k B D = some r) (kf_f_2:Nat) (cf_f_2:List AV) (okf_f_2:d0i Tryz.prog kf_f_2 = true) (hcf_f_2:∀ h p,a3t h p cf_f_2 = some cf_f_2) (hrf_f_2:∀ f,a7t f cf_f_2 = cf_f_2) (hpf_f_2:∀ a0 r,D a0 = some r → a0a Tryz.prog kf_f_2 .flat ([(.str a0)] ++ cf_f_2) (.bool r)):a0a Tryz.prog 284 .flat [(.lst 1 (B.map AV.str)),(.fn kf_f_2 cf_f_2)] (.I r):=by
 refine a0a.of_awp mixed Tryz.func284 e9y nle ?_;rw [a0l];unfold a3k at hf;unfold e9x;refine (show awp Tryz.prog false 0 _ (ofL [(0,(.lst 1 (B.map AV.str))),(1,(.fn kf_f_2 cf_f_2))]) [] _ from ?_);refine sr<|l7 (.I 0) rfl<|dk<|o7<|sr<|l7 (.lst 1 (B.map AV.str)) rfl<|a0y (a1o (enc:=AV.str) rfl) fun hl3 => l7 (.I 0) rfl<|dk<|?_
 obtain ⟨p24,hb1,hf⟩:=ob hf
 refine a3j (X:={q:Unit // p24 = .go q}) (fun q => ([],[])) ?_ ?_
 ·refine a1f (X:={q:Nat // a1h D (B.drop q) q = some p24}) (fun q => ([(0,(.lst 1 (B.map AV.str))),(1,(.fn kf_f_2 cf_f_2)),(7,(.I (B.length:Int))),(8,(.I (q.1:Int)))],[])) (fun q => B.length - q.1) ⟨0,hb1⟩ ⟨[],[],_,_,rfl,rfl,⟨.r,⟨.of_eq (congrArg (AV.fn _) (hrf_f_2 _)),⟨.r,⟨.r,tr⟩⟩⟩⟩,.r⟩ ?_
  rintro ⟨A,hc1⟩
  have hc1:a1h D (B.drop A) A = some p24:=hc1
  refine (show awp Tryz.prog false 0 _ (ofL [(0,(.lst 1 (B.map AV.str))),(1,(.fn kf_f_2 cf_f_2)),(7,(.I (B.length:Int))),(8,(.I (A:Int)))]) [] _ from ?_)
  rcases a5n B A with ⟨hie27,hd30⟩ | ⟨hlt25,E,hx26,hd30⟩
  ·rw [hd30,a1h.eq_1] at hc1
   have hq29:=dlf hie27
   refine sr<|x8 (.bool (decide ((A:Int) < (B.length:Int)))) rfl rfl rfl<|dk<|o7<|y9 rfl hq29<|a2l<|a2k<|a1t<|a2j<|?_;obtain rfl:=os hc1;exact a6i ⟨_,rfl⟩ ⟨[],[],_,_,rfl,rfl,tr,.r⟩
  ·rw [hd30,a1h.eq_2] at hc1
   have hq29:=dlt hlt25
   refine sr<|x8 (.bool (decide ((A:Int) < (B.length:Int)))) rfl rfl rfl<|dk<|o7<|y8 rfl hq29<|a0j<|a0i<|o7<|a2x<|sr<|l7 (.I (A:Int)) rfl<|l7 (.I (A:Int)) rfl<|dk<|sr<|?_
   obtain ⟨F,er33,hc1⟩:=ob hc1
   refine l7 (.fn kf_f_2 cf_f_2) rfl<|l7 (.lst 1 (B.map AV.str)) rfl<|l7 (.I (A:Int)) rfl<|x9 (a1n (enc:=AV.str) rfl rfl hx26)<|x8 (.str E) rfl ⟨rfl,rfl⟩ rfl<|x9 (d3s (v:=(.bool F)) rfl okf_f_2 hcf_f_2 (hpf_f_2 _ _ er33) rfl .r rfl)<|dk<|?_
   rcases oi hc1 with ⟨c34,hc1⟩ | ⟨c34,hc1⟩
   ·refine y8 rfl c34<|sr<|l7 (.I (A:Int)) rfl<|l7 (.I (A:Int)) rfl<|dk<|a0e<|?_;obtain rfl:=os hc1;obtain rfl:=os hf;exact a0g ⟨tr,tr⟩ rfl .r
   ·refine y9 rfl (bf c34)<|a0j<|a2v<|a0i<|a0s<|x8 (.I (w64 ((A:Int) + 1))) rfl rfl rfl<|l7 (.I (w64 ((A:Int) + 1))) rfl<|a0h<|?_;exact a1m ⟨(A + 1),hc1⟩ (mul hlt25) ⟨[],[],_,_,rfl,rfl,⟨.r,⟨.of_eq (congrArg (AV.fn _) (hrf_f_2 _)),⟨.r,⟨.of_eq (congrArg (AV.int _) (a1p hlt25 hl3)),tr⟩⟩⟩⟩,.r⟩
 ·rintro ⟨_,rfl⟩
  refine sr<|l7 (.I (-1)) rfl<|dk<|a0e<|?_;obtain rfl:=os hf;exact a0g ⟨tr,tr⟩ rfl .r

/- slices.ContainsFunc[[]string,string] -/
def c194:a0m :=
 (.seq (.reg (tm 4 (.c (.bool false)) .done))
 (.seq (.reg (tm 5 (.t 0) (tm 6 (.t 1) (tq 7 (.call 284 [(.t 5),(.t 6)]) (tq 8 (.bin .geq (.t 7) (.c (.int .i64 0))) (tm 4 (.t 8) .done))))))
 .ret))
theorem e9z:a1b Tryz.prog Tryz.f194 = some (c194.erase,[.mov (.t 4)],9):=by kernel_rfl
def a2y (A:(List Str)) (B:(Str → Option Bool)):Option Bool :=
    (a3k A B).bind fun D =>
    some (decide (D ≥ 0))
theorem b0z (A:(List Str)) (B:(Str → Option Bool)) (r:Bool) (hf:a2y A B = some r) (kf_f_2:Nat) (cf_f_2:List AV) (okf_f_2:d0i Tryz.prog kf_f_2 = true) (hcf_f_2:∀ h p,a3t h p cf_f_2 = some cf_f_2) (hrf_f_2:∀ f,a7t f cf_f_2 = cf_f_2) (hpf_f_2:∀ a0 r,B a0 = some r → a0a Tryz.prog kf_f_2 .flat ([(.str a0)] ++ cf_f_2) (.bool r)):a0a Tryz.prog 194 .flat [(.lst 1 (A.map AV.str)),(.fn kf_f_2 cf_f_2)] (.bool r):=by
  refine a0a.of_awp mixed Tryz.func194 e9z nle ?_
  rw [a0l]
  unfold a2y at hf
  unfold c194
  refine (show awp Tryz.prog false 0 _ (ofL [(0,(.lst 1 (A.map AV.str))),(1,(.fn kf_f_2 cf_f_2))]) [] _ from ?_)
  refine o7 ?_
  refine a0s ?_
  refine x9 (a3p (.bool false) rfl) ?_
  refine a0h ?_
  refine a0i ?_
  refine o7 ?_
  refine a0s ?_
  obtain ⟨D,er4,hf⟩:=ob hf
  refine x9 (a3p (.lst 1 (A.map AV.str)) rfl) ?_
  refine x9 (a3p (.fn kf_f_2 cf_f_2) rfl) ?_
  refine x9 (a0n (b2w _ _ _ er4 kf_f_2 cf_f_2 okf_f_2 hcf_f_2 hrf_f_2 hpf_f_2) (b7j rfl (b7j (d7s hcf_f_2) rfl)) .r rfl) ?_
  refine x9 (o_q (.bool (decide (D ≥ 0))) rfl rfl rfl) ?_
  refine x9 (a3p (.bool (decide (D ≥ 0))) rfl) ?_
  refine a0h ?_
  refine a0i ?_
  refine a0e ?_
  obtain rfl:=os hf
  exact a0g ⟨tr,tr⟩ rfl .r

/- impl.isDigit -/
def f0b:a0m :=
 (.seq (.reg (tm 2 (.c (.bool false)) .done))
 (.seq (.reg (tm 3 (.t 0) (tq 4 (.bin .geq (.t 3) (.c (.int .u8 48))) (tm 5 (.t 4) (tg 6 5 true (.mov (.t 0)) (tg 7 5 true (.bin .leq (.t 6) (.c (.int .u8 57))) (tq 8 (.pick (.t 5) (.t 7) (.c (.bool false))) (tm 2 (.t 8) .done))))))))
 .ret))
theorem f0c:a1b Tryz.prog Tryz.f278 = some (f0b.erase,[.mov (.t 2)],9):=by kernel_rfl
def b2x (A:Int):Option Bool :=
    if (decide (A ≥ 48)) then
    some (decide (A ≤ 57))
    else
    some false
theorem c9d (A:Int) (r:Bool) (hf:b2x A = some r):a0a Tryz.prog 278 .flat [(.int .u8 A)] (.bool r):=by
 refine a0a.of_awp mixed Tryz.func278 f0c nle ?_;rw [a0l];unfold b2x at hf;unfold f0b;refine (show awp Tryz.prog false 0 _ (ofL [(0,(.int .u8 A))]) [] _ from ?_);refine sr<|l7 (.bool false) rfl<|dk<|sr<|?_
 rcases oi hf with ⟨c2,hf⟩ | ⟨c2,hf⟩
 ·refine l7 (.int .u8 A) rfl<|x8 (.bool (decide (A ≥ 48))) rfl rfl rfl<|l7 (.bool (decide (A ≥ 48))) rfl<|a1g (s:=5) (b:=true) rfl c2<|s_on rfl<|l7 (.int .u8 A) rfl<|s_on rfl<|x8 (.bool (decide (A ≤ 57))) rfl rfl rfl<|x8 (.bool (decide (A ≤ 57))) rfl tr rfl<|l7 (.bool (decide (A ≤ 57))) rfl<|dk<|a0e<|?_;obtain rfl:=os hf;exact a0g ⟨tr,tr⟩ rfl .r
 ·refine l7 (.int .u8 A) rfl<|x8 (.bool (decide (A ≥ 48))) rfl rfl rfl<|l7 (.bool (decide (A ≥ 48))) rfl<|a1g (s:=5) (b:=false) rfl (bf c2)<|a0d rfl rfl<|a0d rfl rfl<|x8 (.bool false) rfl tr rfl<|l7 (.bool false) rfl<|dk<|a0e<|?_;obtain rfl:=os hf;exact a0g ⟨tr,tr⟩ rfl .r

/- impl.NameOK -/
def f0d:a0m :=
 (.seq (.reg (tm 2 (.c (.bool false)) .done))
 (.seq (.seq (.reg (tm 6 (.t 0) (tq 7 (.lenS (.t 6)) (tm 8 (.c (.int .i64 0)) .done))))
 (.block 0 (.loop (.seq (.reg (tq 9 (.bin .lss (.t 8) (.t 7)) .done))
 (.seq (.cond (.t 9) .skip
 (.exit 0))
 (.seq (.block 1 (.seq (.reg (tm 10 (.t 8) (tm 3 (.t 10) .done)))
 (.seq (.reg (tm 11 (.t 0) (tm 12 (.t 3) (tq 13 (.idxs (.t 11) (.t 12)) (tm 4 (.t 13) .done)))))
 (.seq (.reg (tm 14 (.t 4) (tq 15 (.bin .geq (.t 14) (.c (.int .u8 97))) (tm 16 (.t 15) (tg 17 16 true (.mov (.t 4)) (tg 18 16 true (.bin .leq (.t 17) (.c (.int .u8 122))) (tq 19 (.pick (.t 16) (.t 18) (.c (.bool false))) (tm 20 (.t 19) (tg 21 20 false (.mov (.t 4)) (tg 22 20 false (.bin .geq (.t 21) (.c (.int .u8 65))) (tg 23 20 false (.mov (.t 22)) (tg 24 23 true (.mov (.t 4)) (tg 25 23 true (.bin .leq (.t 24) (.c (.int .u8 90))) (tg 26 20 false (.pick (.t 23) (.t 25) (.c (.bool false))) (tq 27 (.pick (.t 20) (.c (.bool true)) (.t 26)) (tm 28 (.t 27) (tg 29 28 false (.mov (.t 4)) (tg 30 28 false (.bin .eql (.t 29) (.c (.int .u8 95))) (tq 31 (.pick (.t 28) (.c (.bool true)) (.t 30)) (tm 5 (.t 31) .done))))))))))))))))))))
 (.cut (.seq (.reg (tm 32 (.t 5) (tq 33 (.not (.t 32)) (tm 34 (.t 33) (tg 35 34 true (.mov (.t 3)) (tg 36 34 true (.bin .eql (.t 35) (.c (.int .i64 0))) (tg 37 34 true (.mov (.t 36)) (tg 38 37 false (.mov (.t 4)) (tg 39 37 false (.call 278 [(.t 38)]) (tg 40 37 false (.not (.t 39)) (tg 41 34 true (.pick (.t 37) (.c (.bool true)) (.t 40)) (tq 42 (.pick (.t 34) (.t 41) (.c (.bool false))) .done))))))))))))
 (.cut (.cond (.t 42) (.seq (.reg (tm 2 (.c (.bool false)) .done))
 .ret)
 .skip))))))))
 (.reg (tq 43 (.bin .add (.t 8) (.c (.int .i64 1))) (tm 8 (.t 43) .done)))))))))
 (.cut (.seq (.reg (tm 44 (.t 0) (tq 45 (.lenS (.t 44)) (tq 46 (.call 81 [(.t 45),(.c (.int .i64 1)),(.c (.int .i64 40))]) (tm 2 (.t 46) .done)))))
 .ret))))
theorem f0e:a1b Tryz.prog Tryz.f186 = some (f0d.erase,[.mov (.t 2)],47):=by kernel_rfl
def a5w :List UInt8 → Nat → Option (Fl Bool Unit)
  | [],B =>
    some (.go ())
  | A :: xs,B =>
    ((some ():Option Unit)).bind fun _ =>
    ((if (!(bif (bif (bif (decide ((A.toNat:Int) ≥ 97)) then (decide ((A.toNat:Int) ≤ 122)) else false) then true else (bif (decide ((A.toNat:Int) ≥ 65)) then (decide ((A.toNat:Int) ≤ 90)) else false)) then true else ((A.toNat:Int) == 95))) then
    if ((B:Int) == 0) then
    some true
    else
    (b2x (A.toNat:Int)).bind fun E =>
    some (!E)
    else
    some false:Option Bool)).bind fun F =>
    if F then
    some (.ret false)
    else
    a5w xs (B + 1)

def b4p (D:Str):Option Bool :=
    (a5w D 0).bind fun q => (match q with
    | .ret r => some r
    | .go _ =>
    (a4u (D.length:Int) 1 40).bind fun G =>
    some G)
theorem d0t (D:Str) (r:Bool) (hf:b4p D = some r):a0a Tryz.prog 186 .flat [(.str D)] (.bool r):=by
 refine a0a.of_awp mixed Tryz.func186 f0e nle ?_;rw [a0l];unfold b4p at hf;unfold f0d;refine (show awp Tryz.prog false 0 _ (ofL [(0,(.str D))]) [] _ from ?_);refine sr<|l7 (.bool false) rfl<|dk<|o7<|sr<|l7 (.str D) rfl<|a0y (b5a rfl) fun hl2 => l7 (.I 0) rfl<|dk<|?_
 obtain ⟨p44,hb1,hf⟩:=ob hf
 refine a3j (X:={q:Unit // p44 = .go q}) (fun q => ([(0,(.str D))],[])) ?_ ?_
 ·refine a1f (X:={q:Nat // a5w (D.drop q) q = some p44}) (fun q => ([(0,(.str D)),(7,(.I (D.length:Int))),(8,(.I (q.1:Int)))],[])) (fun q => D.length - q.1) ⟨0,hb1⟩ ⟨[],[],_,_,rfl,rfl,⟨.r,⟨.r,⟨.r,tr⟩⟩⟩,.r⟩ ?_
  rintro ⟨B,hc1⟩
  have hc1:a5w (D.drop B) B = some p44:=hc1
  refine (show awp Tryz.prog false 0 _ (ofL [(0,(.str D)),(7,(.I (D.length:Int))),(8,(.I (B:Int)))]) [] _ from ?_)
  rcases a5n D B with ⟨hie47,hd50⟩ | ⟨hlt45,A,hx46,hd50⟩
  ·rw [hd50,a5w.eq_1] at hc1
   have hq49:=dlf hie47
   refine sr<|x8 (.bool (decide ((B:Int) < (D.length:Int)))) rfl rfl rfl<|dk<|o7<|y9 rfl hq49<|a2l<|a2k<|a1t<|a2j<|?_;obtain rfl:=os hc1;exact a6i ⟨_,rfl⟩ ⟨[],[],_,_,rfl,rfl,⟨.r,tr⟩,.r⟩
  ·rw [hd50,a5w.eq_2] at hc1
   have hq49:=dlt hlt45
   refine sr<|x8 (.bool (decide ((B:Int) < (D.length:Int)))) rfl rfl rfl<|dk<|o7<|y8 rfl hq49<|a0j<|a0i<|o7<|a2x<|sr<|l7 (.I (B:Int)) rfl<|l7 (.I (B:Int)) rfl<|dk<|sr<|l7 (.str D) rfl<|l7 (.I (B:Int)) rfl<|x9 (b3u rfl rfl hx46)<|l7 (.int .u8 (A.toNat:Int)) rfl<|dk<|o7<|?_
   obtain ⟨p52,hb2,hc1⟩:=ob hc1
   refine a1s ([(0,(.str D)),(3,(.I (B:Int))),(4,(.int .u8 (A.toNat:Int))),(5,(.bool (bif (bif (bif (decide ((A.toNat:Int) ≥ 97)) then (decide ((A.toNat:Int) ≤ 122)) else false) then true else (bif (decide ((A.toNat:Int) ≥ 65)) then (decide ((A.toNat:Int) ≤ 90)) else false)) then true else ((A.toNat:Int) == 95)))),(7,(.I (D.length:Int))),(8,(.I (B:Int)))],[]) ?_ ?_
   ·refine a0s<|l7 (.int .u8 (A.toNat:Int)) rfl<|x8 (.bool (decide ((A.toNat:Int) ≥ 97))) rfl rfl rfl<|l7 (.bool (decide ((A.toNat:Int) ≥ 97))) rfl<|?_;refine s_g (v:=(decide ((A.toNat:Int) ≥ 97))) (.int .u8 (A.toNat:Int)) rfl (fun hv => by (try simp only [y7 hv]);exact ⟨rfl,tr,rfl⟩) ?_;refine s_g (v:=(decide ((A.toNat:Int) ≥ 97))) (.bool (decide ((A.toNat:Int) ≤ 122))) rfl (fun hv => by (try simp only [y7 hv]);exact ⟨rfl,rfl,rfl⟩) ?_;refine a3c (x:=(decide ((A.toNat:Int) ≤ 122))) (y:=false) rfl (fun hv => by (try simp only [y7 hv]);rfl) (fun hv => by (try simp only [y7 hv]);rfl) ?_;refine l7 (.bool (bif (decide ((A.toNat:Int) ≥ 97)) then (decide ((A.toNat:Int) ≤ 122)) else false)) rfl ?_
    refine s_g (v:=(bif (decide ((A.toNat:Int) ≥ 97)) then (decide ((A.toNat:Int) ≤ 122)) else false)) (.int .u8 (A.toNat:Int)) rfl (fun hv => by (try simp only [y7 hv]);exact ⟨rfl,tr,rfl⟩) ?_;refine s_g (v:=(bif (decide ((A.toNat:Int) ≥ 97)) then (decide ((A.toNat:Int) ≤ 122)) else false)) (.bool (decide ((A.toNat:Int) ≥ 65))) rfl (fun hv => by (try simp only [y7 hv]);exact ⟨rfl,rfl,rfl⟩) ?_;refine s_g (v:=(bif (decide ((A.toNat:Int) ≥ 97)) then (decide ((A.toNat:Int) ≤ 122)) else false)) (.bool (decide ((A.toNat:Int) ≥ 65))) rfl (fun hv => by (try simp only [y7 hv]);exact ⟨rfl,tr,rfl⟩) ?_;refine b4h (v1:=(bif (decide ((A.toNat:Int) ≥ 97)) then (decide ((A.toNat:Int) ≤ 122)) else false)) (b1:=false) (v2:=(decide ((A.toNat:Int) ≥ 65))) (.int .u8 (A.toNat:Int)) rfl (fun hv hw => by (try simp only [y7 hv,y7 hw]);exact ⟨rfl,tr,rfl⟩) ?_
    refine b4h (v1:=(bif (decide ((A.toNat:Int) ≥ 97)) then (decide ((A.toNat:Int) ≤ 122)) else false)) (b1:=false) (v2:=(decide ((A.toNat:Int) ≥ 65))) (.bool (decide ((A.toNat:Int) ≤ 90))) rfl (fun hv hw => by (try simp only [y7 hv,y7 hw]);exact ⟨rfl,rfl,rfl⟩) ?_;refine d7t (v1:=(bif (decide ((A.toNat:Int) ≥ 97)) then (decide ((A.toNat:Int) ≤ 122)) else false)) (b1:=false) (v2:=(decide ((A.toNat:Int) ≥ 65))) (x:=(decide ((A.toNat:Int) ≤ 90))) (y:=false) rfl (fun hv => by (try simp only [y7 hv]);rfl) (fun hv hw => by (try simp only [y7 hv,y7 hw]);rfl) (fun hv hw => by (try simp only [y7 hv,y7 hw]);rfl) ?_;refine a3c (x:=true) (y:=(bif (decide ((A.toNat:Int) ≥ 65)) then (decide ((A.toNat:Int) ≤ 90)) else false)) rfl (fun hv => by (try simp only [y7 hv]);rfl) (fun hv => by (try simp only [y7 hv]);rfl) ?_
    refine l7 (.bool (bif (bif (decide ((A.toNat:Int) ≥ 97)) then (decide ((A.toNat:Int) ≤ 122)) else false) then true else (bif (decide ((A.toNat:Int) ≥ 65)) then (decide ((A.toNat:Int) ≤ 90)) else false))) rfl ?_;refine s_g (v:=(bif (bif (decide ((A.toNat:Int) ≥ 97)) then (decide ((A.toNat:Int) ≤ 122)) else false) then true else (bif (decide ((A.toNat:Int) ≥ 65)) then (decide ((A.toNat:Int) ≤ 90)) else false))) (.int .u8 (A.toNat:Int)) rfl (fun hv => by (try simp only [y7 hv]);exact ⟨rfl,tr,rfl⟩) ?_;refine s_g (v:=(bif (bif (decide ((A.toNat:Int) ≥ 97)) then (decide ((A.toNat:Int) ≤ 122)) else false) then true else (bif (decide ((A.toNat:Int) ≥ 65)) then (decide ((A.toNat:Int) ≤ 90)) else false))) (.bool ((A.toNat:Int) == 95)) rfl (fun hv => by (try simp only [y7 hv]);exact ⟨rfl,rfl,rfl⟩) ?_
    refine a3c (x:=true) (y:=((A.toNat:Int) == 95)) rfl (fun hv => by (try simp only [y7 hv]);rfl) (fun hv => by (try simp only [y7 hv]);rfl) ?_;refine l7 (.bool (bif (bif (bif (decide ((A.toNat:Int) ≥ 97)) then (decide ((A.toNat:Int) ≤ 122)) else false) then true else (bif (decide ((A.toNat:Int) ≥ 65)) then (decide ((A.toNat:Int) ≤ 90)) else false)) then true else ((A.toNat:Int) == 95))) rfl<|a0h<|?_;obtain rfl:=os hb2;exact ⟨[],[],_,_,rfl,rfl,⟨.r,⟨.r,⟨.r,⟨.r,⟨.r,⟨.r,tr⟩⟩⟩⟩⟩⟩,.r⟩
   ·refine o7 ?_
    obtain ⟨F,hb2,hc1⟩:=ob hc1
    refine a1s ([(0,(.str D)),(7,(.I (D.length:Int))),(8,(.I (B:Int))),(42,(.bool F))],[]) ?_ ?_
    ·refine a0s ?_
     rcases oi hb2 with ⟨c59,hb2⟩ | ⟨c59,hb2⟩
     ·rcases oi hb2 with ⟨c60,hb2⟩ | ⟨c60,hb2⟩
      ·refine l7 (.bool (bif (bif (bif (decide ((A.toNat:Int) ≥ 97)) then (decide ((A.toNat:Int) ≤ 122)) else false) then true else (bif (decide ((A.toNat:Int) ≥ 65)) then (decide ((A.toNat:Int) ≤ 90)) else false)) then true else ((A.toNat:Int) == 95))) rfl<|x8 (.bool (!(bif (bif (bif (decide ((A.toNat:Int) ≥ 97)) then (decide ((A.toNat:Int) ≤ 122)) else false) then true else (bif (decide ((A.toNat:Int) ≥ 65)) then (decide ((A.toNat:Int) ≤ 90)) else false)) then true else ((A.toNat:Int) == 95)))) rfl tr rfl<|l7 (.bool (!(bif (bif (bif (decide ((A.toNat:Int) ≥ 97)) then (decide ((A.toNat:Int) ≤ 122)) else false) then true else (bif (decide ((A.toNat:Int) ≥ 65)) then (decide ((A.toNat:Int) ≤ 90)) else false)) then true else ((A.toNat:Int) == 95)))) rfl<|?_
       refine a1g (s:=34) (b:=true) rfl c59<|s_on rfl<|l7 (.I (B:Int)) rfl<|s_on rfl<|x8 (.bool ((B:Int) == 0)) rfl rfl rfl<|s_on rfl<|l7 (.bool ((B:Int) == 0)) rfl<|a1g (s:=37) (b:=true) rfl c60<|a0d rfl rfl<|a0d rfl rfl<|a0d rfl rfl<|s_on rfl<|x8 (.bool true) rfl tr rfl<|x8 (.bool true) rfl tr rfl<|a0h<|?_;obtain rfl:=os hb2;exact ⟨[],[],_,_,rfl,rfl,⟨.r,⟨.r,⟨.r,⟨.r,tr⟩⟩⟩⟩,.r⟩
      ·obtain ⟨E,er62,hb2⟩:=ob hb2
       refine l7 (.bool (bif (bif (bif (decide ((A.toNat:Int) ≥ 97)) then (decide ((A.toNat:Int) ≤ 122)) else false) then true else (bif (decide ((A.toNat:Int) ≥ 65)) then (decide ((A.toNat:Int) ≤ 90)) else false)) then true else ((A.toNat:Int) == 95))) rfl<|x8 (.bool (!(bif (bif (bif (decide ((A.toNat:Int) ≥ 97)) then (decide ((A.toNat:Int) ≤ 122)) else false) then true else (bif (decide ((A.toNat:Int) ≥ 65)) then (decide ((A.toNat:Int) ≤ 90)) else false)) then true else ((A.toNat:Int) == 95)))) rfl tr rfl<|l7 (.bool (!(bif (bif (bif (decide ((A.toNat:Int) ≥ 97)) then (decide ((A.toNat:Int) ≤ 122)) else false) then true else (bif (decide ((A.toNat:Int) ≥ 65)) then (decide ((A.toNat:Int) ≤ 90)) else false)) then true else ((A.toNat:Int) == 95)))) rfl<|?_
       refine a1g (s:=34) (b:=true) rfl c59<|s_on rfl<|l7 (.I (B:Int)) rfl<|s_on rfl<|x8 (.bool ((B:Int) == 0)) rfl rfl rfl<|s_on rfl<|l7 (.bool ((B:Int) == 0)) rfl<|a1g (s:=37) (b:=false) rfl (bf c60)<|s_on rfl<|l7 (.int .u8 (A.toNat:Int)) rfl<|s_on rfl<|x9 (a0n (c9d _ _ er62) rfl .r rfl)<|s_on rfl<|x8 (.bool (!E)) rfl tr rfl<|s_on rfl<|x8 (.bool (!E)) rfl tr rfl<|x8 (.bool (!E)) rfl tr rfl<|a0h<|?_;obtain rfl:=os hb2;exact ⟨[],[],_,_,rfl,rfl,⟨.r,⟨.r,⟨.r,⟨.r,tr⟩⟩⟩⟩,.r⟩
     ·refine l7 (.bool (bif (bif (bif (decide ((A.toNat:Int) ≥ 97)) then (decide ((A.toNat:Int) ≤ 122)) else false) then true else (bif (decide ((A.toNat:Int) ≥ 65)) then (decide ((A.toNat:Int) ≤ 90)) else false)) then true else ((A.toNat:Int) == 95))) rfl<|x8 (.bool (!(bif (bif (bif (decide ((A.toNat:Int) ≥ 97)) then (decide ((A.toNat:Int) ≤ 122)) else false) then true else (bif (decide ((A.toNat:Int) ≥ 65)) then (decide ((A.toNat:Int) ≤ 90)) else false)) then true else ((A.toNat:Int) == 95)))) rfl tr rfl<|l7 (.bool (!(bif (bif (bif (decide ((A.toNat:Int) ≥ 97)) then (decide ((A.toNat:Int) ≤ 122)) else false) then true else (bif (decide ((A.toNat:Int) ≥ 65)) then (decide ((A.toNat:Int) ≤ 90)) else false)) then true else ((A.toNat:Int) == 95)))) rfl<|?_
      refine a1g (s:=34) (b:=false) rfl (bf c59)<|a0d rfl rfl<|a0d rfl rfl<|a0d rfl rfl<|a1k rfl<|a1k rfl<|a1k rfl<|a0d rfl rfl<|x8 (.bool false) rfl tr rfl<|a0h<|?_;obtain rfl:=os hb2;exact ⟨[],[],_,_,rfl,rfl,⟨.r,⟨.r,⟨.r,⟨.r,tr⟩⟩⟩⟩,.r⟩
    ·rcases oi hc1 with ⟨c63,hc1⟩ | ⟨c63,hc1⟩
     ·refine y8 rfl c63<|sr<|l7 (.bool false) rfl<|dk<|a0e<|?_;obtain rfl:=os hc1;obtain rfl:=os hf;exact a0g ⟨tr,tr⟩ rfl .r
     ·refine y9 rfl (bf c63)<|a0j<|a2v<|a0i<|a0s<|x8 (.I (w64 ((B:Int) + 1))) rfl rfl rfl<|l7 (.I (w64 ((B:Int) + 1))) rfl<|a0h<|?_;exact a1m ⟨(B + 1),hc1⟩ (mul hlt45) ⟨[],[],_,_,rfl,rfl,⟨.r,⟨.r,⟨.of_eq (congrArg (AV.int _) (a1p hlt45 hl2)),tr⟩⟩⟩,.r⟩
 ·rintro ⟨_,rfl⟩
  refine sr<|?_
  obtain ⟨G,er66,hf⟩:=ob hf
  refine l7 (.str D) rfl<|a0y (b5a rfl) fun hl64 => x9 (a0n (a4c _ _ _ _ er66) rfl .r rfl)<|l7 (.bool G) rfl<|dk<|a0e<|?_;obtain rfl:=os hf;exact a0g ⟨tr,tr⟩ rfl .r

/- impl.ResultOK$1 -/
def c218:a0m :=
 (.seq (.reg (tm 2 (.c (.bool false)) .done))
 (.seq (.reg (tm 3 (.t 0) (tq 4 (.call 186 [(.t 3)]) (tq 5 (.not (.t 4)) (tm 2 (.t 5) .done)))))
 .ret))
theorem f0f:a1b Tryz.prog Tryz.f218 = some (c218.erase,[.mov (.t 2)],6):=by kernel_rfl
def b1o (A:Str):Option Bool :=
    (b4p A).bind fun B =>
    some (!B)
theorem c3e (A:Str) (r:Bool) (hf:b1o A = some r):a0a Tryz.prog 218 .flat [(.str A)] (.bool r):=by
  refine a0a.of_awp mixed Tryz.func218 f0f nle ?_
  rw [a0l]
  unfold b1o at hf
  unfold c218
  refine (show awp Tryz.prog false 0 _ (ofL [(0,(.str A))]) [] _ from ?_)
  refine o7 ?_
  refine a0s ?_
  refine x9 (a3p (.bool false) rfl) ?_
  refine a0h ?_
  refine a0i ?_
  refine o7 ?_
  refine a0s ?_
  obtain ⟨B,er3,hf⟩:=ob hf
  refine x9 (a3p (.str A) rfl) ?_
  refine x9 (a0n (d0t _ _ er3) rfl .r rfl) ?_
  refine x9 (o_q (.bool (!B)) rfl tr rfl) ?_
  refine x9 (a3p (.bool (!B)) rfl) ?_
  refine a0h ?_
  refine a0i ?_
  refine a0e ?_
  obtain rfl:=os hf
  exact a0g ⟨tr,tr⟩ rfl .r

/- slices.IndexFunc[[]impl.Row,impl.Row] -/
def e0q:a0m :=
 (.seq (.reg (tm 4 (.c (.int .i64 0)) .done))
 (.seq (.seq (.reg (tm 6 (.t 0) (tq 7 (.len (.t 6)) (tm 8 (.c (.int .i64 0)) .done))))
 (.block 0 (.loop (.seq (.reg (tq 9 (.bin .lss (.t 8) (.t 7)) .done))
 (.seq (.cond (.t 9) .skip
 (.exit 0))
 (.seq (.block 1 (.seq (.reg (tm 10 (.t 8) (tm 5 (.t 10) .done)))
 (.seq (.reg (tm 11 (.t 1) (tm 12 (.t 0) (tm 13 (.t 5) (tq 14 (.iaddr 2 (.t 12) (.t 13)) (tq 15 (.load 2 true (.t 14)) (tq 16 (.calv (.t 11) [(.t 15)]) .done)))))))
 (.cond (.t 16) (.seq (.reg (tm 17 (.t 5) (tm 4 (.t 17) .done)))
 .ret)
 .skip))))
 (.reg (tq 18 (.bin .add (.t 8) (.c (.int .i64 1))) (tm 8 (.t 18) .done)))))))))
 (.cut (.seq (.reg (tq 4 (.mov (.c (.int .i64 (-1)))) .done))
 .ret))))
theorem f0g:a1b Tryz.prog Tryz.f178 = some (e0q.erase,[.mov (.t 4)],19):=by kernel_rfl
def a1d (D:(a1u → Option Bool)):List a1u → Nat → Option (Fl Int Unit)
  | [],A =>
    some (.go ())
  | E :: xs,A =>
    (D E).bind fun F =>
    if F then
    some (.ret (A:Int))
    else
    a1d D xs (A + 1)

def a2w (B:(List a1u)) (D:(a1u → Option Bool)):Option Int :=
    (a1d D B 0).bind fun q => (match q with
    | .ret r => some r
    | .go _ =>
    some (-1))
theorem b0q (B:(List a1u)) (D:(a1u → Option Bool)) (r:Int) (hf:a2w B D = some r) (kf_f_2:Nat) (cf_f_2:List AV) (okf_f_2:d0i Tryz.prog kf_f_2 = true) (hcf_f_2:∀ h p,a3t h p cf_f_2 = some cf_f_2) (hrf_f_2:∀ f,a7t f cf_f_2 = cf_f_2) (hpf_f_2:∀ a0 r,D a0 = some r → a0a Tryz.prog kf_f_2 .flat ([(y5 a0)] ++ cf_f_2) (.bool r)):a0a Tryz.prog 178 .flat [(.lst 2 (B.map y5)),(.fn kf_f_2 cf_f_2)] (.I r):=by
 refine a0a.of_awp mixed Tryz.func178 f0g nle ?_;rw [a0l];unfold a2w at hf;unfold e0q;refine (show awp Tryz.prog false 0 _ (ofL [(0,(.lst 2 (B.map y5))),(1,(.fn kf_f_2 cf_f_2))]) [] _ from ?_);refine sr<|l7 (.I 0) rfl<|dk<|o7<|sr<|l7 (.lst 2 (B.map y5)) rfl<|a0y (a1o (enc:=y5) rfl) fun hl3 => l7 (.I 0) rfl<|dk<|?_
 obtain ⟨p24,hb1,hf⟩:=ob hf
 refine a3j (X:={q:Unit // p24 = .go q}) (fun q => ([],[])) ?_ ?_
 ·refine a1f (X:={q:Nat // a1d D (B.drop q) q = some p24}) (fun q => ([(0,(.lst 2 (B.map y5))),(1,(.fn kf_f_2 cf_f_2)),(7,(.I (B.length:Int))),(8,(.I (q.1:Int)))],[])) (fun q => B.length - q.1) ⟨0,hb1⟩ ⟨[],[],_,_,rfl,rfl,⟨.r,⟨.of_eq (congrArg (AV.fn _) (hrf_f_2 _)),⟨.r,⟨.r,tr⟩⟩⟩⟩,.r⟩ ?_
  rintro ⟨A,hc1⟩
  have hc1:a1d D (B.drop A) A = some p24:=hc1
  refine (show awp Tryz.prog false 0 _ (ofL [(0,(.lst 2 (B.map y5))),(1,(.fn kf_f_2 cf_f_2)),(7,(.I (B.length:Int))),(8,(.I (A:Int)))]) [] _ from ?_)
  rcases a5n B A with ⟨hie27,hd30⟩ | ⟨hlt25,E,hx26,hd30⟩
  ·rw [hd30,a1d.eq_1] at hc1
   have hq29:=dlf hie27
   refine sr<|x8 (.bool (decide ((A:Int) < (B.length:Int)))) rfl rfl rfl<|dk<|o7<|y9 rfl hq29<|a2l<|a2k<|a1t<|a2j<|?_;obtain rfl:=os hc1;exact a6i ⟨_,rfl⟩ ⟨[],[],_,_,rfl,rfl,tr,.r⟩
  ·rw [hd30,a1d.eq_2] at hc1
   have hq29:=dlt hlt25
   refine sr<|x8 (.bool (decide ((A:Int) < (B.length:Int)))) rfl rfl rfl<|dk<|o7<|y8 rfl hq29<|a0j<|a0i<|o7<|a2x<|sr<|l7 (.I (A:Int)) rfl<|l7 (.I (A:Int)) rfl<|dk<|sr<|?_
   obtain ⟨F,er33,hc1⟩:=ob hc1
   refine l7 (.fn kf_f_2 cf_f_2) rfl<|l7 (.lst 2 (B.map y5)) rfl<|l7 (.I (A:Int)) rfl<|x9 (a1n (enc:=y5) rfl rfl hx26)<|x8 (y5 E) rfl nle rfl<|x9 (d3s (v:=(.bool F)) rfl okf_f_2 hcf_f_2 (hpf_f_2 _ _ er33) rfl .r rfl)<|dk<|?_
   rcases oi hc1 with ⟨c34,hc1⟩ | ⟨c34,hc1⟩
   ·refine y8 rfl c34<|sr<|l7 (.I (A:Int)) rfl<|l7 (.I (A:Int)) rfl<|dk<|a0e<|?_;obtain rfl:=os hc1;obtain rfl:=os hf;exact a0g ⟨tr,tr⟩ rfl .r
   ·refine y9 rfl (bf c34)<|a0j<|a2v<|a0i<|a0s<|x8 (.I (w64 ((A:Int) + 1))) rfl rfl rfl<|l7 (.I (w64 ((A:Int) + 1))) rfl<|a0h<|?_;exact a1m ⟨(A + 1),hc1⟩ (mul hlt25) ⟨[],[],_,_,rfl,rfl,⟨.r,⟨.of_eq (congrArg (AV.fn _) (hrf_f_2 _)),⟨.r,⟨.of_eq (congrArg (AV.int _) (a1p hlt25 hl3)),tr⟩⟩⟩⟩,.r⟩
 ·rintro ⟨_,rfl⟩
  refine sr<|l7 (.I (-1)) rfl<|dk<|a0e<|?_;obtain rfl:=os hf;exact a0g ⟨tr,tr⟩ rfl .r

/- slices.ContainsFunc[[]impl.Row,impl.Row] -/
def c78:a0m :=
 (.seq (.reg (tm 4 (.c (.bool false)) .done))
 (.seq (.reg (tm 5 (.t 0) (tm 6 (.t 1) (tq 7 (.call 178 [(.t 5),(.t 6)]) (tq 8 (.bin .geq (.t 7) (.c (.int .i64 0))) (tm 4 (.t 8) .done))))))
 .ret))
theorem f3q:a1b Tryz.prog Tryz.f78 = some (c78.erase,[.mov (.t 4)],9):=by kernel_rfl
def a2n (A:(List a1u)) (B:(a1u → Option Bool)):Option Bool :=
    (a2w A B).bind fun D =>
    some (decide (D ≥ 0))
theorem a9n (A:(List a1u)) (B:(a1u → Option Bool)) (r:Bool) (hf:a2n A B = some r) (kf_f_2:Nat) (cf_f_2:List AV) (okf_f_2:d0i Tryz.prog kf_f_2 = true) (hcf_f_2:∀ h p,a3t h p cf_f_2 = some cf_f_2) (hrf_f_2:∀ f,a7t f cf_f_2 = cf_f_2) (hpf_f_2:∀ a0 r,B a0 = some r → a0a Tryz.prog kf_f_2 .flat ([(y5 a0)] ++ cf_f_2) (.bool r)):a0a Tryz.prog 78 .flat [(.lst 2 (A.map y5)),(.fn kf_f_2 cf_f_2)] (.bool r):=by
 refine a0a.of_awp mixed Tryz.func78 f3q nle ?_;rw [a0l];unfold a2n at hf;unfold c78;refine (show awp Tryz.prog false 0 _ (ofL [(0,(.lst 2 (A.map y5))),(1,(.fn kf_f_2 cf_f_2))]) [] _ from ?_);refine sr<|l7 (.bool false) rfl<|dk<|sr<|?_
 obtain ⟨D,er4,hf⟩:=ob hf
 refine l7 (.lst 2 (A.map y5)) rfl<|l7 (.fn kf_f_2 cf_f_2) rfl<|x9 (a0n (b0q _ _ _ er4 kf_f_2 cf_f_2 okf_f_2 hcf_f_2 hrf_f_2 hpf_f_2) (b7j rfl (b7j (d7s hcf_f_2) rfl)) .r rfl)<|x8 (.bool (decide (D ≥ 0))) rfl rfl rfl<|l7 (.bool (decide (D ≥ 0))) rfl<|dk<|a0e<|?_;obtain rfl:=os hf;exact a0g ⟨tr,tr⟩ rfl .r

/- slices.IndexFunc[[][]impl.Atom,[]impl.Atom] -/
def f0h:a0m :=
 (.seq (.reg (tm 4 (.c (.int .i64 0)) .done))
 (.seq (.seq (.reg (tm 6 (.t 0) (tq 7 (.len (.t 6)) (tm 8 (.c (.int .i64 0)) .done))))
 (.block 0 (.loop (.seq (.reg (tq 9 (.bin .lss (.t 8) (.t 7)) .done))
 (.seq (.cond (.t 9) .skip
 (.exit 0))
 (.seq (.block 1 (.seq (.reg (tm 10 (.t 8) (tm 5 (.t 10) .done)))
 (.seq (.reg (tm 11 (.t 1) (tm 12 (.t 0) (tm 13 (.t 5) (tq 14 (.iaddr 1 (.t 12) (.t 13)) (tq 15 (.load 1 false (.t 14)) (tq 16 (.calv (.t 11) [(.t 15)]) .done)))))))
 (.cond (.t 16) (.seq (.reg (tm 17 (.t 5) (tm 4 (.t 17) .done)))
 .ret)
 .skip))))
 (.reg (tq 18 (.bin .add (.t 8) (.c (.int .i64 1))) (tm 8 (.t 18) .done)))))))))
 (.cut (.seq (.reg (tq 4 (.mov (.c (.int .i64 (-1)))) .done))
 .ret))))
theorem f0i:a1b Tryz.prog Tryz.f334 = some (f0h.erase,[.mov (.t 4)],19):=by kernel_rfl
def a0z (D:((List a0k) → Option Bool)):List (List a0k) → Nat → Option (Fl Int Unit)
  | [],A =>
    some (.go ())
  | E :: xs,A =>
    (D E).bind fun F =>
    if F then
    some (.ret (A:Int))
    else
    a0z D xs (A + 1)

def a2o (B:(List (List a0k))) (D:((List a0k) → Option Bool)):Option Int :=
    (a0z D B 0).bind fun q => (match q with
    | .ret r => some r
    | .go _ =>
    some (-1))
theorem a9o (B:(List (List a0k))) (D:((List a0k) → Option Bool)) (r:Int) (hf:a2o B D = some r) (kf_f_2:Nat) (cf_f_2:List AV) (okf_f_2:d0i Tryz.prog kf_f_2 = true) (hcf_f_2:∀ h p,a3t h p cf_f_2 = some cf_f_2) (hrf_f_2:∀ f,a7t f cf_f_2 = cf_f_2) (hpf_f_2:∀ a0 r,D a0 = some r → a0a Tryz.prog kf_f_2 .flat ([(.lst 3 (a0.map o6))] ++ cf_f_2) (.bool r)):a0a Tryz.prog 334 .flat [(.lst 1 (B.map (a1q 3 o6))),(.fn kf_f_2 cf_f_2)] (.I r):=by
 refine a0a.of_awp mixed Tryz.func334 f0i nle ?_;rw [a0l];unfold a2o at hf;unfold f0h;refine (show awp Tryz.prog false 0 _ (ofL [(0,(.lst 1 (B.map (a1q 3 o6)))),(1,(.fn kf_f_2 cf_f_2))]) [] _ from ?_);refine sr<|l7 (.I 0) rfl<|dk<|o7<|sr<|l7 (.lst 1 (B.map (a1q 3 o6))) rfl<|a0y (a1o (enc:=(a1q 3 o6)) rfl) fun hl3 => l7 (.I 0) rfl<|dk<|?_
 obtain ⟨p24,hb1,hf⟩:=ob hf
 refine a3j (X:={q:Unit // p24 = .go q}) (fun q => ([],[])) ?_ ?_
 ·refine a1f (X:={q:Nat // a0z D (B.drop q) q = some p24}) (fun q => ([(0,(.lst 1 (B.map (a1q 3 o6)))),(1,(.fn kf_f_2 cf_f_2)),(7,(.I (B.length:Int))),(8,(.I (q.1:Int)))],[])) (fun q => B.length - q.1) ⟨0,hb1⟩ ⟨[],[],_,_,rfl,rfl,⟨.r,⟨.of_eq (congrArg (AV.fn _) (hrf_f_2 _)),⟨.r,⟨.r,tr⟩⟩⟩⟩,.r⟩ ?_
  rintro ⟨A,hc1⟩
  have hc1:a0z D (B.drop A) A = some p24:=hc1
  refine (show awp Tryz.prog false 0 _ (ofL [(0,(.lst 1 (B.map (a1q 3 o6)))),(1,(.fn kf_f_2 cf_f_2)),(7,(.I (B.length:Int))),(8,(.I (A:Int)))]) [] _ from ?_)
  rcases a5n B A with ⟨hie27,hd30⟩ | ⟨hlt25,E,hx26,hd30⟩
  ·rw [hd30,a0z.eq_1] at hc1
   have hq29:=dlf hie27
   refine sr<|x8 (.bool (decide ((A:Int) < (B.length:Int)))) rfl rfl rfl<|dk<|o7<|y9 rfl hq29<|a2l<|a2k<|a1t<|a2j<|?_;obtain rfl:=os hc1;exact a6i ⟨_,rfl⟩ ⟨[],[],_,_,rfl,rfl,tr,.r⟩
  ·rw [hd30,a0z.eq_2] at hc1
   have hq29:=dlt hlt25
   refine sr<|x8 (.bool (decide ((A:Int) < (B.length:Int)))) rfl rfl rfl<|dk<|o7<|y8 rfl hq29<|a0j<|a0i<|o7<|a2x<|sr<|l7 (.I (A:Int)) rfl<|l7 (.I (A:Int)) rfl<|dk<|sr<|?_
   obtain ⟨F,er33,hc1⟩:=ob hc1
   refine l7 (.fn kf_f_2 cf_f_2) rfl<|l7 (.lst 1 (B.map (a1q 3 o6))) rfl<|l7 (.I (A:Int)) rfl<|x9 (a1n (enc:=(a1q 3 o6)) rfl rfl hx26)<|x8 (.lst 3 (E.map o6)) rfl ⟨rfl,rfl⟩ rfl<|x9 (d3s (v:=(.bool F)) rfl okf_f_2 hcf_f_2 (hpf_f_2 _ _ er33) rfl .r rfl)<|dk<|?_
   rcases oi hc1 with ⟨c34,hc1⟩ | ⟨c34,hc1⟩
   ·refine y8 rfl c34<|sr<|l7 (.I (A:Int)) rfl<|l7 (.I (A:Int)) rfl<|dk<|a0e<|?_;obtain rfl:=os hc1;obtain rfl:=os hf;exact a0g ⟨tr,tr⟩ rfl .r
   ·refine y9 rfl (bf c34)<|a0j<|a2v<|a0i<|a0s<|x8 (.I (w64 ((A:Int) + 1))) rfl rfl rfl<|l7 (.I (w64 ((A:Int) + 1))) rfl<|a0h<|?_;exact a1m ⟨(A + 1),hc1⟩ (mul hlt25) ⟨[],[],_,_,rfl,rfl,⟨.r,⟨.of_eq (congrArg (AV.fn _) (hrf_f_2 _)),⟨.r,⟨.of_eq (congrArg (AV.int _) (a1p hlt25 hl3)),tr⟩⟩⟩⟩,.r⟩
 ·rintro ⟨_,rfl⟩
  refine sr<|l7 (.I (-1)) rfl<|dk<|a0e<|?_;obtain rfl:=os hf;exact a0g ⟨tr,tr⟩ rfl .r

/- slices.ContainsFunc[[][]impl.Atom,[]impl.Atom] -/
def f0j:a0m :=
 (.seq (.reg (tm 4 (.c (.bool false)) .done))
 (.seq (.reg (tm 5 (.t 0) (tm 6 (.t 1) (tq 7 (.call 334 [(.t 5),(.t 6)]) (tq 8 (.bin .geq (.t 7) (.c (.int .i64 0))) (tm 4 (.t 8) .done))))))
 .ret))
theorem f0k:a1b Tryz.prog Tryz.f285 = some (f0j.erase,[.mov (.t 4)],9):=by kernel_rfl
def a2g (A:(List (List a0k))) (B:((List a0k) → Option Bool)):Option Bool :=
    (a2o A B).bind fun D =>
    some (decide (D ≥ 0))
theorem a8s (A:(List (List a0k))) (B:((List a0k) → Option Bool)) (r:Bool) (hf:a2g A B = some r) (kf_f_2:Nat) (cf_f_2:List AV) (okf_f_2:d0i Tryz.prog kf_f_2 = true) (hcf_f_2:∀ h p,a3t h p cf_f_2 = some cf_f_2) (hrf_f_2:∀ f,a7t f cf_f_2 = cf_f_2) (hpf_f_2:∀ a0 r,B a0 = some r → a0a Tryz.prog kf_f_2 .flat ([(.lst 3 (a0.map o6))] ++ cf_f_2) (.bool r)):a0a Tryz.prog 285 .flat [(.lst 1 (A.map (a1q 3 o6))),(.fn kf_f_2 cf_f_2)] (.bool r):=by
 refine a0a.of_awp mixed Tryz.func285 f0k nle ?_;rw [a0l];unfold a2g at hf;unfold f0j;refine (show awp Tryz.prog false 0 _ (ofL [(0,(.lst 1 (A.map (a1q 3 o6)))),(1,(.fn kf_f_2 cf_f_2))]) [] _ from ?_);refine sr<|l7 (.bool false) rfl<|dk<|sr<|?_
 obtain ⟨D,er4,hf⟩:=ob hf
 refine l7 (.lst 1 (A.map (a1q 3 o6))) rfl<|l7 (.fn kf_f_2 cf_f_2) rfl<|x9 (a0n (a9o _ _ _ er4 kf_f_2 cf_f_2 okf_f_2 hcf_f_2 hrf_f_2 hpf_f_2) (b7j rfl (b7j (d7s hcf_f_2) rfl)) .r rfl)<|x8 (.bool (decide (D ≥ 0))) rfl rfl rfl<|l7 (.bool (decide (D ≥ 0))) rfl<|dk<|a0e<|?_;obtain rfl:=os hf;exact a0g ⟨tr,tr⟩ rfl .r

/- impl.isNumber -/
def c233:a0m :=
 (.seq (.reg (tm 2 (.c (.bool false)) .done))
 (.seq (.reg (tm 3 (.t 0) (tq 4 (.call 81 [(.t 3),(.c (.int .i64 (-1000000000))),(.c (.int .i64 1000000000))]) (tm 2 (.t 4) .done))))
 .ret))
theorem f0l:a1b Tryz.prog Tryz.f233 = some (c233.erase,[.mov (.t 2)],5):=by kernel_rfl
def a9h (A:Int):Option Bool :=
    (a4u A (-1000000000) 1000000000).bind fun B =>
    some B
theorem b5b (A:Int) (r:Bool) (hf:a9h A = some r):a0a Tryz.prog 233 .flat [(.I A)] (.bool r):=by
  refine a0a.of_awp mixed Tryz.func233 f0l nle ?_
  rw [a0l]
  unfold a9h at hf
  unfold c233
  refine (show awp Tryz.prog false 0 _ (ofL [(0,(.I A))]) [] _ from ?_)
  refine o7 ?_
  refine a0s ?_
  refine x9 (a3p (.bool false) rfl) ?_
  refine a0h ?_
  refine a0i ?_
  refine o7 ?_
  refine a0s ?_
  obtain ⟨B,er3,hf⟩:=ob hf
  refine x9 (a3p (.I A) rfl) ?_
  refine x9 (a0n (a4c _ _ _ _ er3) rfl .r rfl) ?_
  refine x9 (a3p (.bool B) rfl) ?_
  refine a0h ?_
  refine a0i ?_
  refine a0e ?_
  obtain rfl:=os hf
  exact a0g ⟨tr,tr⟩ rfl .r

/- impl.isPlain -/
def c234:a0m :=
 (.seq (.reg (tm 2 (.c (.bool false)) .done))
 (.seq (.seq (.reg (tm 4 (.t 0) (tq 5 (.lenS (.t 4)) (tm 6 (.c (.int .i64 0)) .done))))
 (.block 0 (.loop (.seq (.reg (tq 7 (.bin .lss (.t 6) (.t 5)) .done))
 (.seq (.cond (.t 7) .skip
 (.exit 0))
 (.seq (.block 1 (.seq (.reg (tm 8 (.t 6) (tm 3 (.t 8) .done)))
 (.seq (.reg (tm 9 (.t 0) (tm 10 (.t 3) (tq 11 (.idxs (.t 9) (.t 10)) (tq 12 (.bin .lss (.t 11) (.c (.int .u8 32))) (tm 13 (.t 12) (tg 14 13 false (.mov (.t 0)) (tg 15 13 false (.mov (.t 3)) (tg 16 13 false (.idxs (.t 14) (.t 15)) (tg 17 13 false (.bin .gtr (.t 16) (.c (.int .u8 126))) (tq 18 (.pick (.t 13) (.c (.bool true)) (.t 17)) .done)))))))))))
 (.cut (.cond (.t 18) (.seq (.reg (tm 2 (.c (.bool false)) .done))
 .ret)
 .skip)))))
 (.reg (tq 19 (.bin .add (.t 6) (.c (.int .i64 1))) (tm 6 (.t 19) .done)))))))))
 (.cut (.seq (.reg (tm 20 (.t 0) (tq 21 (.lenS (.t 20)) (tq 22 (.bin .leq (.t 21) (.c (.int .i64 200))) (tm 2 (.t 22) .done)))))
 .ret))))
theorem f0m:a1b Tryz.prog Tryz.f234 = some (c234.erase,[.mov (.t 2)],23):=by kernel_rfl
def a5g :List UInt8 → Option (Fl Bool Unit)
  | [] =>
    some (.go ())
  | D :: xs =>
    ((if (decide ((D.toNat:Int) < 32)) then
    some true
    else
    some (decide ((D.toNat:Int) > 126)):Option Bool)).bind fun E =>
    if E then
    some (.ret false)
    else
    a5g xs 

def a8t (A:Str):Option Bool :=
    (a5g A ).bind fun q => (match q with
    | .ret r => some r
    | .go _ =>
    some (decide ((A.length:Int) ≤ 200)))
theorem b6d (A:Str) (r:Bool) (hf:a8t A = some r):a0a Tryz.prog 234 .flat [(.str A)] (.bool r):=by
 refine a0a.of_awp mixed Tryz.func234 f0m nle ?_;rw [a0l];unfold a8t at hf;unfold c234;refine (show awp Tryz.prog false 0 _ (ofL [(0,(.str A))]) [] _ from ?_);refine sr<|l7 (.bool false) rfl<|dk<|o7<|sr<|l7 (.str A) rfl<|a0y (b5a rfl) fun hl2 => l7 (.I 0) rfl<|dk<|?_
 obtain ⟨p47,hb1,hf⟩:=ob hf
 refine a3j (X:={q:Unit // p47 = .go q}) (fun q => ([(0,(.str A))],[])) ?_ ?_
 ·refine a1f (X:={q:Nat // a5g (A.drop q)  = some p47}) (fun q => ([(0,(.str A)),(5,(.I (A.length:Int))),(6,(.I (q.1:Int)))],[])) (fun q => A.length - q.1) ⟨0,hb1⟩ ⟨[],[],_,_,rfl,rfl,⟨.r,⟨.r,⟨.r,tr⟩⟩⟩,.r⟩ ?_
  rintro ⟨B,hc1⟩
  have hc1:a5g (A.drop B)  = some p47:=hc1
  refine (show awp Tryz.prog false 0 _ (ofL [(0,(.str A)),(5,(.I (A.length:Int))),(6,(.I (B:Int)))]) [] _ from ?_)
  rcases a5n A B with ⟨hie50,hd53⟩ | ⟨hlt48,D,hx49,hd53⟩
  ·rw [hd53,a5g.eq_1] at hc1
   have hq52:=dlf hie50
   refine sr<|x8 (.bool (decide ((B:Int) < (A.length:Int)))) rfl rfl rfl<|dk<|o7<|y9 rfl hq52<|a2l<|a2k<|a1t<|a2j<|?_;obtain rfl:=os hc1;exact a6i ⟨_,rfl⟩ ⟨[],[],_,_,rfl,rfl,⟨.r,tr⟩,.r⟩
  ·rw [hd53,a5g.eq_2] at hc1
   have hq52:=dlt hlt48
   refine sr<|x8 (.bool (decide ((B:Int) < (A.length:Int)))) rfl rfl rfl<|dk<|o7<|y8 rfl hq52<|a0j<|a0i<|o7<|a2x<|sr<|l7 (.I (B:Int)) rfl<|l7 (.I (B:Int)) rfl<|dk<|o7<|?_
   obtain ⟨E,hb2,hc1⟩:=ob hc1
   refine a1s ([(0,(.str A)),(5,(.I (A.length:Int))),(6,(.I (B:Int))),(18,(.bool E))],[]) ?_ ?_
   ·refine a0s ?_
    rcases oi hb2 with ⟨c58,hb2⟩ | ⟨c58,hb2⟩
    ·refine l7 (.str A) rfl<|l7 (.I (B:Int)) rfl<|x9 (b3u rfl rfl hx49)<|x8 (.bool (decide ((D.toNat:Int) < 32))) rfl rfl rfl<|l7 (.bool (decide ((D.toNat:Int) < 32))) rfl<|a1g (s:=13) (b:=true) rfl c58<|a0d rfl rfl<|a0d rfl rfl<|a0d rfl rfl<|a0d rfl rfl<|x8 (.bool true) rfl tr rfl<|a0h<|?_;obtain rfl:=os hb2;exact ⟨[],[],_,_,rfl,rfl,⟨.r,⟨.r,⟨.r,⟨.r,tr⟩⟩⟩⟩,.r⟩
    ·refine l7 (.str A) rfl<|l7 (.I (B:Int)) rfl<|x9 (b3u rfl rfl hx49)<|x8 (.bool (decide ((D.toNat:Int) < 32))) rfl rfl rfl<|l7 (.bool (decide ((D.toNat:Int) < 32))) rfl<|a1g (s:=13) (b:=false) rfl (bf c58)<|s_on rfl<|l7 (.str A) rfl<|s_on rfl<|l7 (.I (B:Int)) rfl<|s_on rfl<|x9 (b3u rfl rfl hx49)<|s_on rfl<|x8 (.bool (decide ((D.toNat:Int) > 126))) rfl rfl rfl<|x8 (.bool (decide ((D.toNat:Int) > 126))) rfl tr rfl<|a0h<|?_;obtain rfl:=os hb2;exact ⟨[],[],_,_,rfl,rfl,⟨.r,⟨.r,⟨.r,⟨.r,tr⟩⟩⟩⟩,.r⟩
   ·rcases oi hc1 with ⟨c59,hc1⟩ | ⟨c59,hc1⟩
    ·refine y8 rfl c59<|sr<|l7 (.bool false) rfl<|dk<|a0e<|?_;obtain rfl:=os hc1;obtain rfl:=os hf;exact a0g ⟨tr,tr⟩ rfl .r
    ·refine y9 rfl (bf c59)<|a0j<|a2v<|a0i<|a0s<|x8 (.I (w64 ((B:Int) + 1))) rfl rfl rfl<|l7 (.I (w64 ((B:Int) + 1))) rfl<|a0h<|?_;exact a1m ⟨(B + 1),hc1⟩ (mul hlt48) ⟨[],[],_,_,rfl,rfl,⟨.r,⟨.r,⟨.of_eq (congrArg (AV.int _) (a1p hlt48 hl2)),tr⟩⟩⟩,.r⟩
 ·rintro ⟨_,rfl⟩
  refine sr<|l7 (.str A) rfl<|a0y (b5a rfl) fun hl60 => x8 (.bool (decide ((A.length:Int) ≤ 200))) rfl rfl rfl<|l7 (.bool (decide ((A.length:Int) ≤ 200))) rfl<|dk<|a0e<|?_;obtain rfl:=os hf;exact a0g ⟨tr,tr⟩ rfl .r

/- impl.isId -/
def c89:a0m :=
 (.seq (.reg (tm 2 (.c (.bool false)) .done))
 (.seq (.reg (tm 3 (.t 0) (tq 4 (.call 81 [(.t 3),(.c (.int .i64 1)),(.c (.int .i64 1000000))]) (tm 2 (.t 4) .done))))
 .ret))
theorem f3r:a1b Tryz.prog Tryz.f89 = some (c89.erase,[.mov (.t 2)],5):=by kernel_rfl
def c0i (A:Int):Option Bool :=
    (a4u A 1 1000000).bind fun B =>
    some B
theorem c5p (A:Int) (r:Bool) (hf:c0i A = some r):a0a Tryz.prog 89 .flat [(.I A)] (.bool r):=by
  refine a0a.of_awp mixed Tryz.func89 f3r nle ?_
  rw [a0l]
  unfold c0i at hf
  unfold c89
  refine (show awp Tryz.prog false 0 _ (ofL [(0,(.I A))]) [] _ from ?_)
  refine o7 ?_
  refine a0s ?_
  refine x9 (a3p (.bool false) rfl) ?_
  refine a0h ?_
  refine a0i ?_
  refine o7 ?_
  refine a0s ?_
  obtain ⟨B,er3,hf⟩:=ob hf
  refine x9 (a3p (.I A) rfl) ?_
  refine x9 (a0n (a4c _ _ _ _ er3) rfl .r rfl) ?_
  refine x9 (a3p (.bool B) rfl) ?_
  refine a0h ?_
  refine a0i ?_
  refine a0e ?_
  obtain rfl:=os hf
  exact a0g ⟨tr,tr⟩ rfl .r

/- impl.AtomOK -/
def e0r:a0m :=
 (.seq (.reg (tq 1 (.box 3 (.t 0)) (tm 2 (.c (.bool false)) .done)))
 (.seq (.seq (.reg (tq 3 (.faddr 0 (.t 1)) (tq 4 (.load 1 false (.t 3)) .done)))
 (.block 0 (.seq (.reg (tq 6 (.bin .eql (.t 4) (.c (.int .i64 1))) (tm 5 (.t 6) .done)))
 (.cond (.t 5) (.seq (.reg (tq 7 (.faddr 1 (.t 1)) (tq 8 (.load 1 false (.t 7)) (tq 9 (.call 233 [(.t 8)]) (tm 10 (.t 9) (tg 11 10 true (.faddr 2 (.t 1)) (tg 12 10 true (.load 1 false (.t 11)) (tg 13 10 true (.bin .eql (.t 12) (.c (.str []))) (tq 14 (.pick (.t 10) (.t 13) (.c (.bool false))) (tm 2 (.t 14) .done))))))))))
 .ret)
 (.seq (.reg (tq 16 (.bin .eql (.t 4) (.c (.int .i64 2))) (tm 15 (.t 16) .done)))
 (.cond (.t 15) (.seq (.reg (tq 17 (.faddr 1 (.t 1)) (tq 18 (.load 1 false (.t 17)) (tq 19 (.bin .eql (.t 18) (.c (.int .i64 0))) (tm 20 (.t 19) (tg 21 20 true (.faddr 2 (.t 1)) (tg 22 20 true (.load 1 false (.t 21)) (tg 23 20 true (.call 234 [(.t 22)]) (tq 24 (.pick (.t 20) (.t 23) (.c (.bool false))) (tm 2 (.t 24) .done))))))))))
 .ret)
 (.seq (.reg (tq 26 (.bin .eql (.t 4) (.c (.int .i64 3))) (tm 25 (.t 26) .done)))
 (.cond (.t 25) (.seq (.reg (tq 27 (.faddr 1 (.t 1)) (tq 28 (.load 1 false (.t 27)) (tq 29 (.call 81 [(.t 28),(.c (.int .i64 0)),(.c (.int .i64 1))]) (tm 30 (.t 29) (tg 31 30 true (.faddr 2 (.t 1)) (tg 32 30 true (.load 1 false (.t 31)) (tg 33 30 true (.bin .eql (.t 32) (.c (.str []))) (tq 34 (.pick (.t 30) (.t 33) (.c (.bool false))) (tm 2 (.t 34) .done))))))))))
 .ret)
 (.seq (.reg (tq 36 (.bin .eql (.t 4) (.c (.int .i64 4))) (tm 35 (.t 36) .done)))
 (.cond (.t 35) (.seq (.reg (tq 37 (.faddr 1 (.t 1)) (tq 38 (.load 1 false (.t 37)) (tq 39 (.call 89 [(.t 38)]) (tm 40 (.t 39) (tg 41 40 true (.faddr 2 (.t 1)) (tg 42 40 true (.load 1 false (.t 41)) (tg 43 40 true (.bin .eql (.t 42) (.c (.str []))) (tq 44 (.pick (.t 40) (.t 43) (.c (.bool false))) (tm 2 (.t 44) .done))))))))))
 .ret)
 .skip))))))))))
 (.seq (.reg (tm 2 (.c (.bool false)) .done))
 .ret)))
theorem f0n:a1b Tryz.prog Tryz.f135 = some (e0r.erase,[.mov (.t 2)],45):=by kernel_rfl
def b2e (A:a0k):Option Bool :=
    if (A.Kind == 1) then
    (a9h A.N).bind fun E =>
    if E then
    some (A.T == [])
    else
    some false
    else
    if (A.Kind == 2) then
    if (A.N == 0) then
    (a8t A.T).bind fun F =>
    some F
    else
    some false
    else
    if (A.Kind == 3) then
    (a4u A.N 0 1).bind fun B =>
    if B then
    some (A.T == [])
    else
    some false
    else
    if (A.Kind == 4) then
    (c0i A.N).bind fun D =>
    if D then
    some (A.T == [])
    else
    some false
    else
    some false
theorem d0u (A:a0k) (r:Bool) (hf:b2e A = some r):a0a Tryz.prog 135 .flat [(o6 A)] (.bool r):=by
 refine a0a.of_awp mixed Tryz.func135 f0n nle ?_;rw [a0l];unfold b2e at hf;unfold e0r;refine (show awp Tryz.prog false 0 _ (ofL [(0,(o6 A))]) [] _ from ?_);refine sr<|x9 (a1j (j:=0) (c:=(.agg [(.I A.Kind),(.I A.N),(.str A.T)])) rfl tr rfl rfl)<|l7 (.bool false) rfl<|dk<|o7<|sr<|x8 (.ptr 0 0 0) rfl tr rfl<|x8 (.I A.Kind) rfl nle rfl<|dk<|a2x<|sr<|x8 (.bool (A.Kind == 1)) rfl rfl rfl<|l7 (.bool (A.Kind == 1)) rfl<|dk<|?_
 rcases oi hf with ⟨c2,hf⟩ | ⟨c2,hf⟩
 ·refine y8 rfl c2<|sr<|?_
  obtain ⟨E,er4,hf⟩:=ob hf
  rcases oi hf with ⟨c5,hf⟩ | ⟨c5,hf⟩
  ·refine x8 (.ptr 0 0 1) rfl tr rfl<|x8 (.I A.N) rfl nle rfl<|x9 (a0n (b5b _ _ er4) rfl .r rfl)<|l7 (.bool E) rfl<|a1g (s:=10) (b:=true) rfl c5<|s_on rfl<|x8 (.ptr 0 0 2) rfl tr rfl<|s_on rfl<|x8 (.str A.T) rfl nle rfl<|s_on rfl<|x8 (.bool (A.T == [])) rfl tr rfl<|x8 (.bool (A.T == [])) rfl tr rfl<|l7 (.bool (A.T == [])) rfl<|dk<|a0e<|?_;obtain rfl:=os hf;exact a0g ⟨tr,tr⟩ rfl .r
  ·refine x8 (.ptr 0 0 1) rfl tr rfl<|x8 (.I A.N) rfl nle rfl<|x9 (a0n (b5b _ _ er4) rfl .r rfl)<|l7 (.bool E) rfl<|a1g (s:=10) (b:=false) rfl (bf c5)<|a0d rfl rfl<|a0d rfl rfl<|a0d rfl rfl<|x8 (.bool false) rfl tr rfl<|l7 (.bool false) rfl<|dk<|a0e<|?_;obtain rfl:=os hf;exact a0g ⟨tr,tr⟩ rfl .r
 ·refine y9 rfl (bf c2)<|sr<|x8 (.bool (A.Kind == 2)) rfl rfl rfl<|l7 (.bool (A.Kind == 2)) rfl<|dk<|?_
  rcases oi hf with ⟨c6,hf⟩ | ⟨c6,hf⟩
  ·refine y8 rfl c6<|sr<|?_
   rcases oi hf with ⟨c7,hf⟩ | ⟨c7,hf⟩
   ·obtain ⟨F,er9,hf⟩:=ob hf
    refine x8 (.ptr 0 0 1) rfl tr rfl<|x8 (.I A.N) rfl nle rfl<|x8 (.bool (A.N == 0)) rfl rfl rfl<|l7 (.bool (A.N == 0)) rfl<|a1g (s:=20) (b:=true) rfl c7<|s_on rfl<|x8 (.ptr 0 0 2) rfl tr rfl<|s_on rfl<|x8 (.str A.T) rfl nle rfl<|s_on rfl<|x9 (a0n (b6d _ _ er9) rfl .r rfl)<|x8 (.bool F) rfl tr rfl<|l7 (.bool F) rfl<|dk<|a0e<|?_;obtain rfl:=os hf;exact a0g ⟨tr,tr⟩ rfl .r
   ·refine x8 (.ptr 0 0 1) rfl tr rfl<|x8 (.I A.N) rfl nle rfl<|x8 (.bool (A.N == 0)) rfl rfl rfl<|l7 (.bool (A.N == 0)) rfl<|a1g (s:=20) (b:=false) rfl (bf c7)<|a0d rfl rfl<|a0d rfl rfl<|a0d rfl rfl<|x8 (.bool false) rfl tr rfl<|l7 (.bool false) rfl<|dk<|a0e<|?_;obtain rfl:=os hf;exact a0g ⟨tr,tr⟩ rfl .r
  ·refine y9 rfl (bf c6)<|sr<|x8 (.bool (A.Kind == 3)) rfl rfl rfl<|l7 (.bool (A.Kind == 3)) rfl<|dk<|?_
   rcases oi hf with ⟨c10,hf⟩ | ⟨c10,hf⟩
   ·refine y8 rfl c10<|sr<|?_
    obtain ⟨B,er12,hf⟩:=ob hf
    rcases oi hf with ⟨c13,hf⟩ | ⟨c13,hf⟩
    ·refine x8 (.ptr 0 0 1) rfl tr rfl<|x8 (.I A.N) rfl nle rfl<|x9 (a0n (a4c _ _ _ _ er12) rfl .r rfl)<|l7 (.bool B) rfl<|a1g (s:=30) (b:=true) rfl c13<|s_on rfl<|x8 (.ptr 0 0 2) rfl tr rfl<|s_on rfl<|x8 (.str A.T) rfl nle rfl<|s_on rfl<|x8 (.bool (A.T == [])) rfl tr rfl<|x8 (.bool (A.T == [])) rfl tr rfl<|l7 (.bool (A.T == [])) rfl<|dk<|a0e<|?_;obtain rfl:=os hf;exact a0g ⟨tr,tr⟩ rfl .r
    ·refine x8 (.ptr 0 0 1) rfl tr rfl<|x8 (.I A.N) rfl nle rfl<|x9 (a0n (a4c _ _ _ _ er12) rfl .r rfl)<|l7 (.bool B) rfl<|a1g (s:=30) (b:=false) rfl (bf c13)<|a0d rfl rfl<|a0d rfl rfl<|a0d rfl rfl<|x8 (.bool false) rfl tr rfl<|l7 (.bool false) rfl<|dk<|a0e<|?_;obtain rfl:=os hf;exact a0g ⟨tr,tr⟩ rfl .r
   ·refine y9 rfl (bf c10)<|sr<|x8 (.bool (A.Kind == 4)) rfl rfl rfl<|l7 (.bool (A.Kind == 4)) rfl<|dk<|?_
    rcases oi hf with ⟨c14,hf⟩ | ⟨c14,hf⟩
    ·refine y8 rfl c14<|sr<|?_
     obtain ⟨D,er16,hf⟩:=ob hf
     rcases oi hf with ⟨c17,hf⟩ | ⟨c17,hf⟩
     ·refine x8 (.ptr 0 0 1) rfl tr rfl<|x8 (.I A.N) rfl nle rfl<|x9 (a0n (c5p _ _ er16) rfl .r rfl)<|l7 (.bool D) rfl<|a1g (s:=40) (b:=true) rfl c17<|s_on rfl<|x8 (.ptr 0 0 2) rfl tr rfl<|s_on rfl<|x8 (.str A.T) rfl nle rfl<|s_on rfl<|x8 (.bool (A.T == [])) rfl tr rfl<|x8 (.bool (A.T == [])) rfl tr rfl<|l7 (.bool (A.T == [])) rfl<|dk<|a0e<|?_;obtain rfl:=os hf;exact a0g ⟨tr,tr⟩ rfl .r
     ·refine x8 (.ptr 0 0 1) rfl tr rfl<|x8 (.I A.N) rfl nle rfl<|x9 (a0n (c5p _ _ er16) rfl .r rfl)<|l7 (.bool D) rfl<|a1g (s:=40) (b:=false) rfl (bf c17)<|a0d rfl rfl<|a0d rfl rfl<|a0d rfl rfl<|x8 (.bool false) rfl tr rfl<|l7 (.bool false) rfl<|dk<|a0e<|?_;obtain rfl:=os hf;exact a0g ⟨tr,tr⟩ rfl .r
    ·refine y9 rfl (bf c14)<|a0j<|a2v<|a0i<|sr<|l7 (.bool false) rfl<|dk<|a0e<|?_;obtain rfl:=os hf;exact a0g ⟨tr,tr⟩ rfl .r

/- cmp.isNaN[int] -/
def f0o:a0m :=
 (.seq (.reg (tm 2 (.c (.bool false)) .done))
 (.seq (.reg (tm 3 (.t 0) (tm 4 (.t 0) (tq 5 (.bin .neq (.t 3) (.t 4)) (tm 2 (.t 5) .done)))))
 .ret))
theorem f0p:a1b Tryz.prog Tryz.f311 = some (f0o.erase,[.mov (.t 2)],6):=by kernel_rfl
def cmp_isNaN_int (A:Int):Option Bool :=
    some (A != A)
theorem b8s (A:Int) (r:Bool) (hf:cmp_isNaN_int A = some r):a0a Tryz.prog 311 .flat [(.I A)] (.bool r):=by
  refine a0a.of_awp mixed Tryz.func311 f0p nle ?_
  rw [a0l]
  unfold cmp_isNaN_int at hf
  unfold f0o
  refine (show awp Tryz.prog false 0 _ (ofL [(0,(.I A))]) [] _ from ?_)
  refine o7 ?_
  refine a0s ?_
  refine x9 (a3p (.bool false) rfl) ?_
  refine a0h ?_
  refine a0i ?_
  refine o7 ?_
  refine a0s ?_
  refine x9 (a3p (.I A) rfl) ?_
  refine x9 (a3p (.I A) rfl) ?_
  refine x9 (o_q (.bool (A != A)) rfl rfl rfl) ?_
  refine x9 (a3p (.bool (A != A)) rfl) ?_
  refine a0h ?_
  refine a0i ?_
  refine a0e ?_
  obtain rfl:=os hf
  exact a0g ⟨tr,tr⟩ rfl .r

/- cmp.Compare[int] -/
def f0q:a0m :=
 (.seq (.reg (tm 4 (.c (.int .i64 0)) .done))
 (.seq (.reg (tm 7 (.t 0) (tq 8 (.call 311 [(.t 7)]) (tm 5 (.t 8) .done))))
 (.seq (.reg (tm 9 (.t 1) (tq 10 (.call 311 [(.t 9)]) (tm 6 (.t 10) .done))))
 (.seq (.seq (.reg (tm 11 (.t 5) .done))
 (.cond (.t 11) (.seq (.seq (.reg (tm 12 (.t 6) .done))
 (.cond (.t 12) (.seq (.reg (tm 4 (.c (.int .i64 0)) .done))
 .ret)
 .skip))
 (.seq (.reg (tq 4 (.mov (.c (.int .i64 (-1)))) .done))
 .ret))
 .skip))
 (.seq (.seq (.reg (tm 13 (.t 6) .done))
 (.cond (.t 13) (.seq (.reg (tm 4 (.c (.int .i64 1)) .done))
 .ret)
 .skip))
 (.seq (.seq (.reg (tm 14 (.t 0) (tm 15 (.t 1) (tq 16 (.bin .lss (.t 14) (.t 15)) .done))))
 (.cond (.t 16) (.seq (.reg (tq 4 (.mov (.c (.int .i64 (-1)))) .done))
 .ret)
 .skip))
 (.seq (.seq (.reg (tm 17 (.t 0) (tm 18 (.t 1) (tq 19 (.bin .gtr (.t 17) (.t 18)) .done))))
 (.cond (.t 19) (.seq (.reg (tm 4 (.c (.int .i64 1)) .done))
 .ret)
 .skip))
 (.seq (.reg (tm 4 (.c (.int .i64 0)) .done))
 .ret))))))))
theorem f0r:a1b Tryz.prog Tryz.f249 = some (f0q.erase,[.mov (.t 4)],20):=by kernel_rfl
def cmp_Compare_int (A:Int) (B:Int):Option Int :=
    (cmp_isNaN_int A).bind fun E =>
    (cmp_isNaN_int B).bind fun D =>
    if E then
    if D then
    some 0
    else
    some (-1)
    else
    if D then
    some 1
    else
    if (decide (A < B)) then
    some (-1)
    else
    if (decide (A > B)) then
    some 1
    else
    some 0
theorem b6p (A:Int) (B:Int) (r:Int) (hf:cmp_Compare_int A B = some r):a0a Tryz.prog 249 .flat [(.I A),(.I B)] (.I r):=by
 refine a0a.of_awp mixed Tryz.func249 f0r nle ?_;rw [a0l];unfold cmp_Compare_int at hf;unfold f0q;refine (show awp Tryz.prog false 0 _ (ofL [(0,(.I A)),(1,(.I B))]) [] _ from ?_);refine sr<|l7 (.I 0) rfl<|dk<|sr<|?_
 obtain ⟨E,er4,hf⟩:=ob hf
 refine l7 (.I A) rfl<|x9 (a0n (b8s _ _ er4) rfl .r rfl)<|l7 (.bool E) rfl<|dk<|sr<|?_
 obtain ⟨D,er6,hf⟩:=ob hf
 refine l7 (.I B) rfl<|x9 (a0n (b8s _ _ er6) rfl .r rfl)<|l7 (.bool D) rfl<|dk<|o7<|sr<|l7 (.bool E) rfl<|dk<|?_
 rcases oi hf with ⟨c7,hf⟩ | ⟨c7,hf⟩
 ·refine y8 rfl c7<|o7<|sr<|l7 (.bool D) rfl<|dk<|?_
  rcases oi hf with ⟨c8,hf⟩ | ⟨c8,hf⟩
  ·refine y8 rfl c8<|sr<|l7 (.I 0) rfl<|dk<|a0e<|?_;obtain rfl:=os hf;exact a0g ⟨tr,tr⟩ rfl .r
  ·refine y9 rfl (bf c8)<|a0j<|a0i<|sr<|l7 (.I (-1)) rfl<|dk<|a0e<|?_;obtain rfl:=os hf;exact a0g ⟨tr,tr⟩ rfl .r
 ·refine y9 rfl (bf c7)<|a0j<|a0i<|o7<|sr<|l7 (.bool D) rfl<|dk<|?_
  rcases oi hf with ⟨c9,hf⟩ | ⟨c9,hf⟩
  ·refine y8 rfl c9<|sr<|l7 (.I 1) rfl<|dk<|a0e<|?_;obtain rfl:=os hf;exact a0g ⟨tr,tr⟩ rfl .r
  ·refine y9 rfl (bf c9)<|a0j<|a0i<|o7<|sr<|l7 (.I A) rfl<|l7 (.I B) rfl<|x8 (.bool (decide (A < B))) rfl rfl rfl<|dk<|?_
   rcases oi hf with ⟨c10,hf⟩ | ⟨c10,hf⟩
   ·refine y8 rfl c10<|sr<|l7 (.I (-1)) rfl<|dk<|a0e<|?_;obtain rfl:=os hf;exact a0g ⟨tr,tr⟩ rfl .r
   ·refine y9 rfl (bf c10)<|a0j<|a0i<|o7<|sr<|l7 (.I A) rfl<|l7 (.I B) rfl<|x8 (.bool (decide (A > B))) rfl rfl rfl<|dk<|?_
    rcases oi hf with ⟨c11,hf⟩ | ⟨c11,hf⟩
    ·refine y8 rfl c11<|sr<|l7 (.I 1) rfl<|dk<|a0e<|?_;obtain rfl:=os hf;exact a0g ⟨tr,tr⟩ rfl .r
    ·refine y9 rfl (bf c11)<|a0j<|a0i<|sr<|l7 (.I 0) rfl<|dk<|a0e<|?_;obtain rfl:=os hf;exact a0g ⟨tr,tr⟩ rfl .r

/- internal/bytealg.CompareString -/
def a4n (a b:Str):Option Int:=some (Lib.compareBytes a b)
set_option maxRecDepth 100000 in
open Go.RowKit in
theorem e3d (a b:ByteArray) (w:World):Calls Tryz.prog 351 #[.string a,.string b] w fun e w' => e = .returned (.int .i64 (Lib.compareBytes a.data.toList b.data.toList)) ∧ w' = w:=by
  go_enter Tryz.func351,(show Tryz.f351.ntmps = _ from rfl)
  go_wp2
  rw [run_callFunc_extern Tryz.func384 (by kernel_rfl) (by kernel_rfl) (by kernel_rfl) (e:=Extern.BytealgCompare.compare) (by kernel_rfl),Lib.run_compareString]
  simp only [Result.andThen]
  rw [Oper.upon_value]
  go_wp2
  go_ret
  exact ⟨rfl,rfl⟩
open Go.RowKit in
theorem b2y (a b:Str) (r:Int) (hf:a4n a b = some r):a0a Tryz.prog 351 .flat [(.str a),(.str b)] (.int .i64 r):=by
  intro w vals fps hr
  simp only [a1x,Rep] at hr
  obtain ⟨v1,vs1,f1,f2,rfl,⟨rfl,h1,rfl⟩,⟨v2,vs2,f3,f4,rfl,⟨rfl,h2,rfl⟩,⟨rfl,rfl⟩,rfl⟩,rfl⟩:=hr
  unfold a4n at hf
  obtain rfl:=os hf
  refine (e3d ⟨a.toArray⟩ ⟨b.toArray⟩ w).mono ?_
  rintro e w' ⟨rfl,rfl⟩
  refine ⟨Below.refl _ _,?_⟩
  exact ⟨[.int .i64 (Lib.compareBytes a b)],rfl,by simp [Rep]⟩

/- strings.Compare -/
def f0s:a0m :=
 (.seq (.reg (tm 4 (.c (.int .i64 0)) .done))
 (.seq (.reg (tm 5 (.t 0) (tm 6 (.t 1) (tq 7 (.call 351 [(.t 5),(.t 6)]) (tm 4 (.t 7) .done)))))
 .ret))
theorem f0t:a1b Tryz.prog Tryz.f305 = some (f0s.erase,[.mov (.t 4)],8):=by kernel_rfl
def strings_Compare (A:Str) (B:Str):Option Int :=
    (a4n A B).bind fun D =>
    some D
theorem c3f (A:Str) (B:Str) (r:Int) (hf:strings_Compare A B = some r):a0a Tryz.prog 305 .flat [(.str A),(.str B)] (.I r):=by
  refine a0a.of_awp mixed Tryz.func305 f0t nle ?_
  rw [a0l]
  unfold strings_Compare at hf
  unfold f0s
  refine (show awp Tryz.prog false 0 _ (ofL [(0,(.str A)),(1,(.str B))]) [] _ from ?_)
  refine o7 ?_
  refine a0s ?_
  refine x9 (a3p (.I 0) rfl) ?_
  refine a0h ?_
  refine a0i ?_
  refine o7 ?_
  refine a0s ?_
  obtain ⟨D,er4,hf⟩:=ob hf
  refine x9 (a3p (.str A) rfl) ?_
  refine x9 (a3p (.str B) rfl) ?_
  refine x9 (a0n (b2y _ _ _ er4) rfl .r rfl) ?_
  refine x9 (a3p (.I D) rfl) ?_
  refine a0h ?_
  refine a0i ?_
  refine a0e ?_
  obtain rfl:=os hf
  exact a0g ⟨tr,tr⟩ rfl .r

/- cmp.Or[int] -/
def f0u:a0m :=
 (.seq (.reg (tm 2 (.c (.int .i64 0)) .done))
 (.seq (.reg (tm 3 (.c (.int .i64 0)) .done))
 (.seq (.seq (.reg (tm 6 (.t 0) (tq 7 (.len (.t 6)) (tm 8 (.c (.int .i64 0)) .done))))
 (.block 0 (.loop (.seq (.reg (tq 9 (.bin .lss (.t 8) (.t 7)) .done))
 (.seq (.cond (.t 9) .skip
 (.exit 0))
 (.seq (.block 1 (.seq (.reg (tq 10 (.iaddr 1 (.t 6) (.t 8)) (tq 11 (.load 1 false (.t 10)) (tm 5 (.t 11) .done))))
 (.seq (.reg (tm 12 (.t 5) (tm 13 (.t 3) (tq 14 (.bin .neq (.t 12) (.t 13)) .done))))
 (.cond (.t 14) (.seq (.reg (tm 15 (.t 5) (tm 2 (.t 15) .done)))
 .ret)
 .skip))))
 (.reg (tq 16 (.bin .add (.t 8) (.c (.int .i64 1))) (tm 8 (.t 16) .done)))))))))
 (.cut (.seq (.reg (tm 17 (.t 3) (tm 2 (.t 17) .done)))
 .ret)))))
theorem f0v:a1b Tryz.prog Tryz.f304 = some (f0u.erase,[.mov (.t 2)],18):=by kernel_rfl
def a4w :List Int → Option (Fl Int Unit)
  | [] =>
    some (.go ())
  | D :: xs =>
    if (D != 0) then
    some (.ret D)
    else
    a4w xs 

def b8d (A:(List Int)):Option Int :=
    (a4w A ).bind fun q => (match q with
    | .ret r => some r
    | .go _ =>
    some 0)
theorem d3v (A:(List Int)) (r:Int) (hf:b8d A = some r):a0a Tryz.prog 304 .flat [(.lst 1 (A.map encI))] (.I r):=by
 refine a0a.of_awp mixed Tryz.func304 f0v nle ?_;rw [a0l];unfold b8d at hf;unfold f0u;refine (show awp Tryz.prog false 0 _ (ofL [(0,(.lst 1 (A.map encI)))]) [] _ from ?_);refine sr<|l7 (.I 0) rfl<|dk<|sr<|l7 (.I 0) rfl<|dk<|o7<|sr<|l7 (.lst 1 (A.map encI)) rfl<|a0y (a1o (enc:=encI) rfl) fun hl2 => l7 (.I 0) rfl<|dk<|?_
 obtain ⟨p17,hb1,hf⟩:=ob hf
 refine a3j (X:={q:Unit // p17 = .go q}) (fun q => ([(3,(.I 0))],[])) ?_ ?_
 ·refine a1f (X:={q:Nat // a4w (A.drop q)  = some p17}) (fun q => ([(3,(.I 0)),(6,(.lst 1 (A.map encI))),(7,(.I (A.length:Int))),(8,(.I (q.1:Int)))],[])) (fun q => A.length - q.1) ⟨0,hb1⟩ ⟨[],[],_,_,rfl,rfl,⟨.r,⟨.r,⟨.r,⟨.r,tr⟩⟩⟩⟩,.r⟩ ?_
  rintro ⟨B,hc1⟩
  have hc1:a4w (A.drop B)  = some p17:=hc1
  refine (show awp Tryz.prog false 0 _ (ofL [(3,(.I 0)),(6,(.lst 1 (A.map encI))),(7,(.I (A.length:Int))),(8,(.I (B:Int)))]) [] _ from ?_)
  rcases a5n A B with ⟨hie20,hd23⟩ | ⟨hlt18,D,hx19,hd23⟩
  ·rw [hd23,a4w.eq_1] at hc1
   have hq22:=dlf hie20
   refine sr<|x8 (.bool (decide ((B:Int) < (A.length:Int)))) rfl rfl rfl<|dk<|o7<|y9 rfl hq22<|a2l<|a2k<|a1t<|a2j<|?_;obtain rfl:=os hc1;exact a6i ⟨_,rfl⟩ ⟨[],[],_,_,rfl,rfl,⟨.r,tr⟩,.r⟩
  ·rw [hd23,a4w.eq_2] at hc1
   have hq22:=dlt hlt18
   refine sr<|x8 (.bool (decide ((B:Int) < (A.length:Int)))) rfl rfl rfl<|dk<|o7<|y8 rfl hq22<|a0j<|a0i<|o7<|a2x<|sr<|x9 (a1n (enc:=encI) rfl rfl hx19)<|x8 (.I D) rfl ⟨rfl,rfl⟩ rfl<|l7 (.I D) rfl<|dk<|sr<|l7 (.I D) rfl<|l7 (.I 0) rfl<|x8 (.bool (D != 0)) rfl rfl rfl<|dk<|?_
   rcases oi hc1 with ⟨c25,hc1⟩ | ⟨c25,hc1⟩
   ·refine y8 rfl c25<|sr<|l7 (.I D) rfl<|l7 (.I D) rfl<|dk<|a0e<|?_;obtain rfl:=os hc1;obtain rfl:=os hf;exact a0g ⟨tr,tr⟩ rfl .r
   ·refine y9 rfl (bf c25)<|a0j<|a2v<|a0i<|a0s<|x8 (.I (w64 ((B:Int) + 1))) rfl rfl rfl<|l7 (.I (w64 ((B:Int) + 1))) rfl<|a0h<|?_;exact a1m ⟨(B + 1),hc1⟩ (mul hlt18) ⟨[],[],_,_,rfl,rfl,⟨.r,⟨.r,⟨.r,⟨.of_eq (congrArg (AV.int _) (a1p hlt18 hl2)),tr⟩⟩⟩⟩,.r⟩
 ·rintro ⟨_,rfl⟩
  refine sr<|l7 (.I 0) rfl<|l7 (.I 0) rfl<|dk<|a0e<|?_;obtain rfl:=os hf;exact a0g ⟨tr,tr⟩ rfl .r

/- impl.compareAtoms -/
def c227:a0m :=
 (.seq (.reg (tq 2 (.box 3 (.t 0)) (tq 3 (.box 3 (.t 1)) (tm 4 (.c (.int .i64 0)) .done))))
 (.seq (.reg (tq 5 (.faddr 0 (.t 2)) (tq 6 (.load 1 false (.t 5)) (tq 7 (.faddr 0 (.t 3)) (tq 8 (.load 1 false (.t 7)) (tq 10 (.faddr 1 (.t 2)) (tq 11 (.load 1 false (.t 10)) (tq 12 (.faddr 1 (.t 3)) (tq 13 (.load 1 false (.t 12)) (tq 15 (.faddr 2 (.t 2)) (tq 16 (.load 1 false (.t 15)) (tq 17 (.faddr 2 (.t 3)) (tq 18 (.load 1 false (.t 17)) (.l ⟨(some 9),none,.call 249 [(.t 6),(.t 8)]⟩ [⟨(some 18),none,.load 1 false (.t 17)⟩,⟨(some 17),none,.faddr 2 (.t 3)⟩,⟨(some 16),none,.load 1 false (.t 15)⟩,⟨(some 15),none,.faddr 2 (.t 2)⟩,⟨(some 13),none,.load 1 false (.t 12)⟩,⟨(some 12),none,.faddr 1 (.t 3)⟩,⟨(some 11),none,.load 1 false (.t 10)⟩,⟨(some 10),none,.faddr 1 (.t 2)⟩]
 (.l ⟨(some 14),none,.call 249 [(.t 11),(.t 13)]⟩ [⟨(some 18),none,.load 1 false (.t 17)⟩,⟨(some 17),none,.faddr 2 (.t 3)⟩,⟨(some 16),none,.load 1 false (.t 15)⟩,⟨(some 15),none,.faddr 2 (.t 2)⟩]
 (.l ⟨(some 19),none,.call 305 [(.t 16),(.t 18)]⟩ []
 (.l ⟨(some 20),none,.bslice 1 [(.t 9),(.t 14),(.t 19)]⟩ []
 (.l ⟨(some 21),none,.call 304 [(.t 20)]⟩ []
 (tm 4 (.t 21) .done) .non) .non) .non) .non) .non))))))))))))))
 .ret))
theorem f0w:a1b Tryz.prog Tryz.f227 = some (c227.erase,[.mov (.t 4)],22):=by kernel_rfl
def a6x (A:a0k) (B:a0k):Option Int :=
    (cmp_Compare_int A.Kind B.Kind).bind fun D =>
    (cmp_Compare_int A.N B.N).bind fun E =>
    (strings_Compare A.T B.T).bind fun F =>
    (b8d [D,E,F]).bind fun G =>
    some G
theorem c0o (A:a0k) (B:a0k) (r:Int) (hf:a6x A B = some r):a0a Tryz.prog 227 .flat [(o6 A),(o6 B)] (.I r):=by
 refine a0a.of_awp mixed Tryz.func227 f0w nle ?_;rw [a0l];unfold a6x at hf;unfold c227;refine (show awp Tryz.prog false 0 _ (ofL [(0,(o6 A)),(1,(o6 B))]) [] _ from ?_);refine sr<|x9 (a1j (j:=0) (c:=(.agg [(.I A.Kind),(.I A.N),(.str A.T)])) rfl tr rfl rfl)<|x9 (a1j (j:=1) (c:=(.agg [(.I B.Kind),(.I B.N),(.str B.T)])) rfl tr rfl rfl)<|l7 (.I 0) rfl<|dk<|sr<|x8 (.ptr 0 0 0) rfl tr rfl<|x8 (.I A.Kind) rfl nle rfl<|x8 (.ptr 1 0 0) rfl tr rfl<|x8 (.I B.Kind) rfl nle rfl<|x8 (.ptr 0 0 1) rfl tr rfl<|x8 (.I A.N) rfl nle rfl<|?_
 refine x8 (.ptr 1 0 1) rfl tr rfl<|x8 (.I B.N) rfl nle rfl<|x8 (.ptr 0 0 2) rfl tr rfl<|x8 (.str A.T) rfl nle rfl<|x8 (.ptr 1 0 2) rfl tr rfl<|x8 (.str B.T) rfl nle rfl<|?_
 obtain ⟨D,er4,hf⟩:=ob hf
 refine a0w (a0n (b6p _ _ _ er4) rfl .r rfl) a6n tr ?_
 obtain ⟨E,er6,hf⟩:=ob hf
 refine a0w (a0n (b6p _ _ _ er6) rfl .r rfl) a6n tr ?_
 obtain ⟨F,er8,hf⟩:=ob hf
 refine a0w (a0n (c3f _ _ _ er8) rfl .r rfl) a6n tr ?_;refine a0w (a0o (j:=2) (as':=[(.I D),(.I E),(.I F)]) rfl (fun _ => by decide) ⟨rfl,⟨rfl,⟨rfl,tr⟩⟩⟩ .r rfl rfl rfl) tr tr ?_
 obtain ⟨G,er10,hf⟩:=ob hf
 refine a0w (a0n (d3v _ _ er10) rfl (.cons (.of_eq (congrArg (AV.lst _) (by rfl))) .nil) rfl) a6n tr<|l7 (.I G) rfl<|dk<|a0e<|?_;obtain rfl:=os hf;exact a0g ⟨tr,tr⟩ rfl .r

/- impl.DatumOK -/
def f0x:a0m :=
 (.seq (.reg (tm 2 (.c (.bool false)) .done))
 (.seq (.seq (.reg (tm 5 (.t 0) (tq 6 (.len (.t 5)) (tm 7 (.c (.int .i64 0)) .done))))
 (.block 0 (.loop (.seq (.reg (tq 8 (.bin .lss (.t 7) (.t 6)) .done))
 (.seq (.cond (.t 8) .skip
 (.exit 0))
 (.seq (.block 1 (.seq (.reg (tm 9 (.t 7) (tq 10 (.iaddr 3 (.t 5) (.t 7)) (tq 11 (.load 3 true (.t 10)) (tq 4 (.box 3 (.c (.agg [(.int .i64 0),(.int .i64 0),(.str [])]))) (tm 3 (.t 9) (.q ⟨none,none,.store 3 (.t 4) (.t 11)⟩
 .done)))))))
 (.seq (.reg (tq 12 (.load 3 true (.t 4)) (.l ⟨(some 13),none,.call 135 [(.t 12)]⟩ []
 (tq 14 (.not (.t 13)) (tm 15 (.t 14) (tg 16 15 false (.faddr 0 (.t 4)) (tg 17 15 false (.load 1 false (.t 16)) (tg 18 15 false (.mov (.t 0)) (tg 19 15 false (.iaddr 3 (.t 18) (.c (.int .i64 0))) (tg 20 15 false (.faddr 0 (.t 19)) (tg 21 15 false (.load 1 false (.t 20)) (tg 22 15 false (.bin .neq (.t 17) (.t 21)) (tq 23 (.pick (.t 15) (.c (.bool true)) (.t 22)) (tm 24 (.t 23) (tg 25 24 false (.mov (.t 3)) (tg 26 24 false (.bin .gtr (.t 25) (.c (.int .i64 0))) (tg 27 24 false (.mov (.t 26)) (tg 28 27 true (.mov (.t 0)) (tg 29 27 true (.mov (.t 3)) (tg 30 27 true (.bin .sub (.t 29) (.c (.int .i64 1))) (tg 31 27 true (.iaddr 3 (.t 28) (.t 30)) (tg 32 27 true (.load 3 true (.t 31)) (tg 33 27 true (.load 3 true (.t 4)) (.l ⟨(some 34),(some (27,true)),.call 227 [(.t 32),(.t 33)]⟩ []
 (tg 35 27 true (.bin .geq (.t 34) (.c (.int .i64 0))) (tg 36 24 false (.pick (.t 27) (.t 35) (.c (.bool false))) (tq 37 (.pick (.t 24) (.c (.bool true)) (.t 36)) .done))) .non))))))))))))))))))))) .non)))
 (.cut (.cond (.t 37) (.seq (.reg (tm 2 (.c (.bool false)) .done))
 .ret)
 .skip)))))
 (.reg (tq 38 (.bin .add (.t 7) (.c (.int .i64 1))) (tm 7 (.t 38) .done)))))))))
 (.cut (.seq (.reg (tm 39 (.t 0) (tq 40 (.len (.t 39)) (tq 41 (.bin .leq (.t 40) (.c (.int .i64 8))) (tm 2 (.t 41) .done)))))
 .ret))))
theorem f0y:a1b Tryz.prog Tryz.f129 = some (f0x.erase,[.mov (.t 2)],42):=by kernel_rfl
def a5h (B:(List a0k)):List a0k → Nat → Option (Fl Bool Unit)
  | [],A =>
    some (.go ())
  | D :: xs,A =>
    (((b2e D).bind fun G =>
    if (!G) then
    some true
    else
    (idx B 0).bind fun E =>
    if (D.Kind != E.Kind) then
    some true
    else
    if (decide ((A:Int) > 0)) then
    (idx B (w64 ((A:Int) - 1))).bind fun J =>
    (a6x J D).bind fun F =>
    some (decide (F ≥ 0))
    else
    some false:Option Bool)).bind fun H =>
    if H then
    some (.ret false)
    else
    a5h B xs (A + 1)

def b2z (B:(List a0k)):Option Bool :=
    (a5h B B 0).bind fun q => (match q with
    | .ret r => some r
    | .go _ =>
    some (decide ((B.length:Int) ≤ 8)))
theorem c9e (B:(List a0k)) (r:Bool) (hf:b2z B = some r):a0a Tryz.prog 129 .flat [(.lst 3 (B.map o6))] (.bool r):=by
 refine a0a.of_awp mixed Tryz.func129 f0y nle ?_;rw [a0l];unfold b2z at hf;unfold f0x;refine (show awp Tryz.prog false 0 _ (ofL [(0,(.lst 3 (B.map o6)))]) [] _ from ?_);refine sr<|l7 (.bool false) rfl<|dk<|o7<|sr<|l7 (.lst 3 (B.map o6)) rfl<|a0y (a1o (enc:=o6) rfl) fun hl2 => l7 (.I 0) rfl<|dk<|?_
 obtain ⟨p79,hb1,hf⟩:=ob hf
 refine a3j (X:={q:Unit // p79 = .go q}) (fun q => ([(0,(.lst 3 (B.map o6)))],[])) ?_ ?_
 ·refine a1f (X:={q:Nat // a5h B (B.drop q) q = some p79}) (fun q => ([(0,(.lst 3 (B.map o6))),(5,(.lst 3 (B.map o6))),(6,(.I (B.length:Int))),(7,(.I (q.1:Int)))],[])) (fun q => B.length - q.1) ⟨0,hb1⟩ ⟨[],[],_,_,rfl,rfl,⟨.r,⟨.r,⟨.r,⟨.r,tr⟩⟩⟩⟩,.r⟩ ?_
  rintro ⟨A,hc1⟩
  have hc1:a5h B (B.drop A) A = some p79:=hc1
  refine (show awp Tryz.prog false 0 _ (ofL [(0,(.lst 3 (B.map o6))),(5,(.lst 3 (B.map o6))),(6,(.I (B.length:Int))),(7,(.I (A:Int)))]) [] _ from ?_)
  rcases a5n B A with ⟨hie82,hd85⟩ | ⟨hlt80,D,hx81,hd85⟩
  ·rw [hd85,a5h.eq_1] at hc1
   have hq84:=dlf hie82
   refine sr<|x8 (.bool (decide ((A:Int) < (B.length:Int)))) rfl rfl rfl<|dk<|o7<|y9 rfl hq84<|a2l<|a2k<|a1t<|a2j<|?_;obtain rfl:=os hc1;exact a6i ⟨_,rfl⟩ ⟨[],[],_,_,rfl,rfl,⟨.r,tr⟩,.r⟩
  ·rw [hd85,a5h.eq_2] at hc1
   have hq84:=dlt hlt80
   refine sr<|x8 (.bool (decide ((A:Int) < (B.length:Int)))) rfl rfl rfl<|dk<|o7<|y8 rfl hq84<|a0j<|a0i<|o7<|a2x<|sr<|l7 (.I (A:Int)) rfl<|x9 (a1n (enc:=o6) rfl rfl hx81)<|x8 (o6 D) rfl nle rfl<|x9 (a1j (j:=0) (c:=(.agg [(.I 0),(.I 0),(.str [])])) rfl tr rfl rfl)<|l7 (.I (A:Int)) rfl<|a1v (a0f (v:=(.agg [(.I D.Kind),(.I D.N),(.str D.T)])) (y':=(.agg [(.I D.Kind),(.I D.N),(.str D.T)])) rfl rfl rfl tr ⟨rfl,nle⟩ ⟨⟨rfl,tr⟩,⟨⟨rfl,tr⟩,⟨⟨rfl,tr⟩,tr⟩⟩⟩ rfl)<|?_
   refine dk<|o7<|?_
   obtain ⟨H,hb2,hc1⟩:=ob hc1
   refine a1s ([(0,(.lst 3 (B.map o6))),(5,(.lst 3 (B.map o6))),(6,(.I (B.length:Int))),(7,(.I (A:Int))),(37,(.bool H))],[]) ?_ ?_
   ·refine a0s<|x8 (.agg [(.I D.Kind),(.I D.N),(.str D.T)]) rfl nle rfl<|?_
    obtain ⟨G,er101,hb2⟩:=ob hb2
    refine a0w (a0n (d0u _ _ er101) rfl .r rfl) a6n tr<|x8 (.bool (!G)) rfl tr rfl<|l7 (.bool (!G)) rfl<|?_
    rcases oi hb2 with ⟨c102,hb2⟩ | ⟨c102,hb2⟩
    ·refine a1g (s:=15) (b:=true) rfl c102<|a0d rfl rfl<|a0d rfl rfl<|a0d rfl rfl<|a0d rfl rfl<|a0d rfl rfl<|a0d rfl rfl<|a0d rfl rfl<|x8 (.bool true) rfl tr rfl<|l7 (.bool true) rfl<|a0d rfl rfl<|a0d rfl rfl<|a0d rfl rfl<|a1k rfl<|a1k rfl<|a1k rfl<|a1k rfl<|a1k rfl<|a1k rfl<|c7g rfl tr<|a1k rfl<|a0d rfl rfl<|x8 (.bool true) rfl tr rfl<|a0h<|?_;obtain rfl:=os hb2;exact ⟨[],[],_,_,rfl,rfl,⟨.r,⟨.r,⟨.r,⟨.r,⟨.r,tr⟩⟩⟩⟩⟩,.r⟩
    ·refine a1g (s:=15) (b:=false) rfl (bf c102)<|s_on rfl<|x8 (.ptr 0 0 0) rfl tr rfl<|s_on rfl<|x8 (.I D.Kind) rfl nle rfl<|s_on rfl<|l7 (.lst 3 (B.map o6)) rfl<|s_on rfl<|?_
     obtain ⟨E,ex104,hb2⟩:=ob hb2
     refine x9 (a6s (enc:=o6) rfl rfl (b3m ex104) (b3n ex104))<|s_on rfl<|x8 (.iptr (o6 E) 0) rfl tr rfl<|s_on rfl<|x8 (.I E.Kind) rfl nle rfl<|s_on rfl<|x8 (.bool (D.Kind != E.Kind)) rfl rfl rfl<|x8 (.bool (D.Kind != E.Kind)) rfl tr rfl<|l7 (.bool (D.Kind != E.Kind)) rfl<|?_
     rcases oi hb2 with ⟨c105,hb2⟩ | ⟨c105,hb2⟩
     ·refine a1g (s:=24) (b:=true) rfl c105<|a0d rfl rfl<|a0d rfl rfl<|a0d rfl rfl<|a1k rfl<|a1k rfl<|a1k rfl<|a1k rfl<|a1k rfl<|a1k rfl<|c7g rfl tr<|a1k rfl<|a0d rfl rfl<|x8 (.bool true) rfl tr rfl<|a0h<|?_;obtain rfl:=os hb2;exact ⟨[],[],_,_,rfl,rfl,⟨.r,⟨.r,⟨.r,⟨.r,⟨.r,tr⟩⟩⟩⟩⟩,.r⟩
     ·refine a1g (s:=24) (b:=false) rfl (bf c105)<|s_on rfl<|l7 (.I (A:Int)) rfl<|s_on rfl<|x8 (.bool (decide ((A:Int) > 0))) rfl rfl rfl<|s_on rfl<|l7 (.bool (decide ((A:Int) > 0))) rfl<|?_
      rcases oi hb2 with ⟨c106,hb2⟩ | ⟨c106,hb2⟩
      ·refine a1g (s:=27) (b:=true) rfl c106<|s_on rfl<|l7 (.lst 3 (B.map o6)) rfl<|s_on rfl<|l7 (.I (A:Int)) rfl<|s_on rfl<|x8 (.I (w64 ((A:Int) - 1))) rfl rfl rfl<|s_on rfl<|?_
       obtain ⟨J,ex108,hb2⟩:=ob hb2
       refine x9 (a6s (enc:=o6) rfl rfl (b3m ex108) (b3n ex108))<|s_on rfl<|x8 (o6 J) rfl nle rfl<|s_on rfl<|x8 (.agg [(.I D.Kind),(.I D.N),(.str D.T)]) rfl nle rfl<|d2b rfl<|?_
       obtain ⟨F,er110,hb2⟩:=ob hb2
       refine a0w (a0n (c0o _ _ _ er110) rfl .r rfl) a6n tr<|s_on rfl<|x8 (.bool (decide (F ≥ 0))) rfl rfl rfl<|s_on rfl<|x8 (.bool (decide (F ≥ 0))) rfl tr rfl<|x8 (.bool (decide (F ≥ 0))) rfl tr rfl<|a0h<|?_;obtain rfl:=os hb2;exact ⟨[],[],_,_,rfl,rfl,⟨.r,⟨.r,⟨.r,⟨.r,⟨.r,tr⟩⟩⟩⟩⟩,.r⟩
      ·refine a1g (s:=27) (b:=false) rfl (bf c106)<|a0d rfl rfl<|a0d rfl rfl<|a0d rfl rfl<|a0d rfl rfl<|a0d rfl rfl<|a0d rfl rfl<|c4n rfl rfl tr<|a0d rfl rfl<|s_on rfl<|x8 (.bool false) rfl tr rfl<|x8 (.bool false) rfl tr rfl<|a0h<|?_;obtain rfl:=os hb2;exact ⟨[],[],_,_,rfl,rfl,⟨.r,⟨.r,⟨.r,⟨.r,⟨.r,tr⟩⟩⟩⟩⟩,.r⟩
   ·rcases oi hc1 with ⟨c111,hc1⟩ | ⟨c111,hc1⟩
    ·refine y8 rfl c111<|sr<|l7 (.bool false) rfl<|dk<|a0e<|?_;obtain rfl:=os hc1;obtain rfl:=os hf;exact a0g ⟨tr,tr⟩ rfl .r
    ·refine y9 rfl (bf c111)<|a0j<|a2v<|a0i<|a0s<|x8 (.I (w64 ((A:Int) + 1))) rfl rfl rfl<|l7 (.I (w64 ((A:Int) + 1))) rfl<|a0h<|?_;exact a1m ⟨(A + 1),hc1⟩ (mul hlt80) ⟨[],[],_,_,rfl,rfl,⟨.r,⟨.r,⟨.r,⟨.of_eq (congrArg (AV.int _) (a1p hlt80 hl2)),tr⟩⟩⟩⟩,.r⟩
 ·rintro ⟨_,rfl⟩
  refine sr<|l7 (.lst 3 (B.map o6)) rfl<|a0y (a1o (enc:=o6) rfl) fun hl112 => x8 (.bool (decide ((B.length:Int) ≤ 8))) rfl rfl rfl<|l7 (.bool (decide ((B.length:Int) ≤ 8))) rfl<|dk<|a0e<|?_;obtain rfl:=os hf;exact a0g ⟨tr,tr⟩ rfl .r

/- impl.isRowOf$1 -/
def f0z:a0m :=
 (.seq (.reg (tm 2 (.c (.bool false)) .done))
 (.seq (.reg (tm 3 (.t 0) (tq 4 (.call 129 [(.t 3)]) (tq 5 (.not (.t 4)) (tm 2 (.t 5) .done)))))
 .ret))
theorem f1b:a1b Tryz.prog Tryz.f286 = some (f0z.erase,[.mov (.t 2)],6):=by kernel_rfl
def b3a (A:(List a0k)):Option Bool :=
    (b2z A).bind fun B =>
    some (!B)
theorem c4t (A:(List a0k)) (r:Bool) (hf:b3a A = some r):a0a Tryz.prog 286 .flat [(.lst 3 (A.map o6))] (.bool r):=by
  refine a0a.of_awp mixed Tryz.func286 f1b nle ?_
  rw [a0l]
  unfold b3a at hf
  unfold f0z
  refine (show awp Tryz.prog false 0 _ (ofL [(0,(.lst 3 (A.map o6)))]) [] _ from ?_)
  refine o7 ?_
  refine a0s ?_
  refine x9 (a3p (.bool false) rfl) ?_
  refine a0h ?_
  refine a0i ?_
  refine o7 ?_
  refine a0s ?_
  obtain ⟨B,er3,hf⟩:=ob hf
  refine x9 (a3p (.lst 3 (A.map o6)) rfl) ?_
  refine x9 (a0n (c9e _ _ er3) rfl .r rfl) ?_
  refine x9 (o_q (.bool (!B)) rfl tr rfl) ?_
  refine x9 (a3p (.bool (!B)) rfl) ?_
  refine a0h ?_
  refine a0i ?_
  refine a0e ?_
  obtain rfl:=os hf
  exact a0g ⟨tr,tr⟩ rfl .r

/- impl.isRowOf -/
def c196:a0m :=
 (.seq (.reg (tq 2 (.box 2 (.t 0)) (tm 4 (.c (.bool false)) .done)))
 (.seq (.reg (tq 5 (.faddr 1 (.t 2)) (tq 6 (.load 1 false (.t 5)) (tq 7 (.len (.t 6)) (tm 8 (.t 1) (tq 9 (.bin .eql (.t 7) (.t 8)) (tm 10 (.t 9) (tg 11 10 true (.faddr 1 (.t 2)) (tg 12 10 true (.load 1 false (.t 11)) (tg 13 10 true (.call 285 [(.t 12),(.c (.fn 286 []))]) (tg 14 10 true (.not (.t 13)) (tq 15 (.pick (.t 10) (.t 14) (.c (.bool false))) (tm 4 (.t 15) .done)))))))))))))
 .ret))
theorem f1c:a1b Tryz.prog Tryz.f196 = some (c196.erase,[.mov (.t 4)],16):=by kernel_rfl
def b3b (B:a1u) (A:Int):Option Bool :=
    if ((B.Cells.length:Int) == A) then
    (a2g B.Cells b3a).bind fun D =>
    some (!D)
    else
    some false
theorem c9f (B:a1u) (A:Int) (r:Bool) (hf:b3b B A = some r):a0a Tryz.prog 196 .flat [(y5 B),(.I A)] (.bool r):=by
 refine a0a.of_awp mixed Tryz.func196 f1c nle ?_;rw [a0l];unfold b3b at hf;unfold c196;refine (show awp Tryz.prog false 0 _ (ofL [(0,(y5 B)),(1,(.I A))]) [] _ from ?_);refine sr<|x9 (a1j (j:=0) (c:=(.agg [(.I B.Id),(.lst 1 (B.Cells.map (a1q 3 o6)))])) rfl tr rfl rfl)<|l7 (.bool false) rfl<|dk<|sr<|?_
 rcases oi hf with ⟨c4,hf⟩ | ⟨c4,hf⟩
 ·obtain ⟨D,er6,hf⟩:=ob hf
  refine x8 (.ptr 0 0 1) rfl tr rfl<|x8 (.lst 1 (B.Cells.map (a1q 3 o6))) rfl nle rfl<|a0y (a1o (enc:=(a1q 3 o6)) rfl) fun hl3 => l7 (.I A) rfl<|x8 (.bool ((B.Cells.length:Int) == A)) rfl rfl rfl<|l7 (.bool ((B.Cells.length:Int) == A)) rfl<|a1g (s:=10) (b:=true) rfl c4<|s_on rfl<|x8 (.ptr 0 0 1) rfl tr rfl<|s_on rfl<|x8 (.lst 1 (B.Cells.map (a1q 3 o6))) rfl nle rfl<|s_on rfl<|?_;refine x9 (a0n (a8s _ _ _ er6 286 [] (by kernel_rfl) (fun _ _ => rfl) (fun _ => rfl) (fun a0 r h => c4t a0 r h)) rfl .r rfl) ?_;refine s_on rfl<|x8 (.bool (!D)) rfl tr rfl<|?_
  refine x8 (.bool (!D)) rfl tr rfl<|l7 (.bool (!D)) rfl<|dk<|a0e<|?_;obtain rfl:=os hf;exact a0g ⟨tr,tr⟩ rfl .r
 ·refine x8 (.ptr 0 0 1) rfl tr rfl<|x8 (.lst 1 (B.Cells.map (a1q 3 o6))) rfl nle rfl<|a0y (a1o (enc:=(a1q 3 o6)) rfl) fun hl3 => l7 (.I A) rfl<|x8 (.bool ((B.Cells.length:Int) == A)) rfl rfl rfl<|l7 (.bool ((B.Cells.length:Int) == A)) rfl<|a1g (s:=10) (b:=false) rfl (bf c4)<|a0d rfl rfl<|a0d rfl rfl<|a0d rfl rfl<|a0d rfl rfl<|x8 (.bool false) rfl tr rfl<|l7 (.bool false) rfl<|dk<|a0e<|?_;obtain rfl:=os hf;exact a0g ⟨tr,tr⟩ rfl .r

/- impl.ResultOK$2 -/
def f1d:a0m :=
 (.seq (.reg (tq 2 (.box 2 (.t 0)) (tm 3 (.c (.bool false)) .done)))
 (.seq (.reg (tq 4 (.load 2 true (.t 2)) (tq 5 (.faddr 3 (.t 1)) (tq 6 (.load 1 false (.t 5)) (tq 7 (.len (.t 6)) (tq 8 (.call 196 [(.t 4),(.t 7)]) (tq 9 (.not (.t 8)) (tm 3 (.t 9) .done))))))))
 .ret))
theorem f1e:a1b Tryz.prog Tryz.f219 = some (f1d.erase,[.mov (.t 3)],10):=by kernel_rfl
def b1p (A:a1u) (B:a1i):Option Bool :=
    (b3b A (B.Columns.length:Int)).bind fun D =>
    some (!D)
theorem c3g (A:a1u) (B:a1i) (r:Bool) (hf:b1p A B = some r):a0a Tryz.prog 219 .flat [(y5 A),(.iptr (a2c B) 0)] (.bool r):=by
  refine a0a.of_awp mixed Tryz.func219 f1e nle ?_
  rw [a0l]
  unfold b1p at hf
  unfold f1d
  refine (show awp Tryz.prog false 0 _ (ofL [(0,(y5 A)),(1,(.iptr (a2c B) 0))]) [] _ from ?_)
  refine o7 ?_
  refine a0s ?_
  refine x9 (a1j (j:=0) (c:=(.agg [(.I A.Id),(.lst 1 (A.Cells.map (a1q 3 o6)))])) rfl tr rfl rfl) ?_
  refine x9 (a3p (.bool false) rfl) ?_
  refine a0h ?_
  refine a0i ?_
  refine o7 ?_
  refine a0s ?_
  obtain ⟨D,er5,hf⟩:=ob hf
  refine x9 (o_q (.agg [(.I A.Id),(.lst 1 (A.Cells.map (a1q 3 o6)))]) rfl nle rfl) ?_
  refine x9 (o_q (.iptr (a2c B) 3) rfl tr rfl) ?_
  refine x9 (o_q (.lst 1 (B.Columns.map AV.str)) rfl nle rfl) ?_
  refine a0y (a1o (enc:=AV.str) rfl) fun hl3 => ?_
  refine x9 (a0n (c9f _ _ _ er5) rfl .r rfl) ?_
  refine x9 (o_q (.bool (!D)) rfl tr rfl) ?_
  refine x9 (a3p (.bool (!D)) rfl) ?_
  refine a0h ?_
  refine a0i ?_
  refine a0e ?_
  obtain rfl:=os hf
  exact a0g ⟨tr,tr⟩ rfl .r

/- impl.ResultOK -/
def f1f:a0m :=
 (.seq (.reg (tq 1 (.box 5 (.t 0)) (tm 2 (.c (.bool false)) .done)))
 (.seq (.seq (.reg (tq 3 (.faddr 0 (.t 1)) (tq 4 (.load 1 false (.t 3)) (tq 5 (.bin .neq (.t 4) (.c (.int .i64 0))) .done))))
 (.cond (.t 5) (.seq (.reg (tq 6 (.faddr 0 (.t 1)) (tq 7 (.load 1 false (.t 6)) (tq 8 (.call 81 [(.t 7),(.c (.int .i64 1)),(.c (.int .i64 19))]) (tm 9 (.t 8) (tg 10 9 true (.faddr 1 (.t 1)) (tg 11 9 true (.load 1 false (.t 10)) (tg 12 9 true (.bin .eql (.t 11) (.c (.int .i64 0))) (tq 13 (.pick (.t 9) (.t 12) (.c (.bool false))) (tm 14 (.t 13) (tg 15 14 true (.faddr 2 (.t 1)) (tg 16 14 true (.load 1 false (.t 15)) (tg 17 14 true (.bin .eql (.t 16) (.c (.int .i64 0))) (tq 18 (.pick (.t 14) (.t 17) (.c (.bool false))) (tm 19 (.t 18) (tg 20 19 true (.faddr 3 (.t 1)) (tg 21 19 true (.load 1 false (.t 20)) (tg 22 19 true (.len (.t 21)) (tg 23 19 true (.bin .eql (.t 22) (.c (.int .i64 0))) (tq 24 (.pick (.t 19) (.t 23) (.c (.bool false))) (tm 25 (.t 24) (tg 26 25 true (.faddr 4 (.t 1)) (tg 27 25 true (.load 1 false (.t 26)) (tg 28 25 true (.len (.t 27)) (tg 29 25 true (.bin .eql (.t 28) (.c (.int .i64 0))) (tq 30 (.pick (.t 25) (.t 29) (.c (.bool false))) (tm 2 (.t 30) .done)))))))))))))))))))))))))))
 .ret)
 .skip))
 (.seq (.seq (.reg (tq 31 (.faddr 1 (.t 1)) (tq 32 (.load 1 false (.t 31)) (tq 33 (.call 81 [(.t 32),(.c (.int .i64 0)),(.c (.int .i64 1000))]) (tq 34 (.not (.t 33)) (tm 35 (.t 34) (tg 36 35 false (.faddr 2 (.t 1)) (tg 37 35 false (.load 1 false (.t 36)) (tg 38 35 false (.call 81 [(.t 37),(.c (.int .i64 0)),(.c (.int .i64 1000000))]) (tg 39 35 false (.not (.t 38)) (tq 40 (.pick (.t 35) (.c (.bool true)) (.t 39)) (tm 41 (.t 40) (tg 42 41 false (.faddr 3 (.t 1)) (tg 43 41 false (.load 1 false (.t 42)) (tg 44 41 false (.len (.t 43)) (tg 45 41 false (.bin .gtr (.t 44) (.c (.int .i64 7))) (tq 46 (.pick (.t 41) (.c (.bool true)) (.t 45)) (tm 47 (.t 46) (tg 48 47 false (.faddr 4 (.t 1)) (tg 49 47 false (.load 1 false (.t 48)) (tg 50 47 false (.len (.t 49)) (tg 51 47 false (.bin .gtr (.t 50) (.c (.int .i64 12))) (tq 52 (.pick (.t 47) (.c (.bool true)) (.t 51)) .done)))))))))))))))))))))))
 (.cut (.cond (.t 52) (.seq (.reg (tm 2 (.c (.bool false)) .done))
 .ret)
 .skip)))
 (.seq (.seq (.reg (tq 53 (.faddr 3 (.t 1)) (tq 54 (.load 1 false (.t 53)) (tq 55 (.call 194 [(.t 54),(.c (.fn 218 []))]) .done))))
 (.cond (.t 55) (.seq (.reg (tm 2 (.c (.bool false)) .done))
 .ret)
 .skip))
 (.seq (.reg (tq 56 (.faddr 4 (.t 1)) (tq 57 (.load 1 false (.t 56)) (tq 58 (.mkfn 219 [(.t 1)]) (tq 59 (.call 78 [(.t 57),(.t 58)]) (tq 60 (.not (.t 59)) (tm 2 (.t 60) .done)))))))
 .ret)))))
theorem f1g:a1b Tryz.prog Tryz.f122 = some (f1f.erase,[.mov (.t 2)],61):=by kernel_rfl
def b1a (A:a1i):Option Bool :=
    if (A.Code != 0) then
    (a4u A.Code 1 19).bind fun B =>
    some (bif (bif (bif (bif B then (A.Count == 0) else false) then (A.Id == 0) else false) then ((A.Columns.length:Int) == 0) else false) then ((A.Rows.length:Int) == 0) else false)
    else
    (((a4u A.Count 0 1000).bind fun F =>
    if (!F) then
    some true
    else
    (a4u A.Id 0 1000000).bind fun D =>
    some (bif (bif (!D) then true else (decide ((A.Columns.length:Int) > 7))) then true else (decide ((A.Rows.length:Int) > 12))):Option Bool)).bind fun E =>
    if E then
    some false
    else
    (a2y A.Columns b1o).bind fun H =>
    if H then
    some false
    else
    (a2n A.Rows (fun a0 => b1p a0 A)).bind fun G =>
    some (!G)
theorem c6s (A:a1i) (r:Bool) (hf:b1a A = some r):a0a Tryz.prog 122 .flat [(a2c A)] (.bool r):=by
 refine a0a.of_awp mixed Tryz.func122 f1g nle ?_;rw [a0l];unfold b1a at hf;unfold f1f;refine (show awp Tryz.prog false 0 _ (ofL [(0,(a2c A))]) [] _ from ?_);refine sr<|x9 (a1j (j:=0) (c:=(.agg [(.I A.Code),(.I A.Count),(.I A.Id),(.lst 1 (A.Columns.map AV.str)),(.lst 2 (A.Rows.map y5))])) rfl tr rfl rfl)<|l7 (.bool false) rfl<|dk<|o7<|sr<|x8 (.ptr 0 0 0) rfl tr rfl<|x8 (.I A.Code) rfl nle rfl<|x8 (.bool (A.Code != 0)) rfl rfl rfl<|dk<|?_
 rcases oi hf with ⟨c2,hf⟩ | ⟨c2,hf⟩
 ·refine y8 rfl c2<|sr<|x8 (.ptr 0 0 0) rfl tr rfl<|x8 (.I A.Code) rfl nle rfl<|?_
  obtain ⟨B,er4,hf⟩:=ob hf
  refine x9 (a0n (a4c _ _ _ _ er4) rfl .r rfl)<|l7 (.bool B) rfl<|?_;refine s_g (v:=B) (.ptr 0 0 1) rfl (fun hv => by (try simp only [y7 hv]);exact ⟨rfl,tr,rfl⟩) ?_;refine s_g (v:=B) (.I A.Count) rfl (fun hv => by (try simp only [y7 hv]);exact ⟨rfl,nle,rfl⟩) ?_;refine s_g (v:=B) (.bool (A.Count == 0)) rfl (fun hv => by (try simp only [y7 hv]);exact ⟨rfl,rfl,rfl⟩) ?_;refine a3c (x:=(A.Count == 0)) (y:=false) rfl (fun hv => by (try simp only [y7 hv]);rfl) (fun hv => by (try simp only [y7 hv]);rfl) ?_;refine l7 (.bool (bif B then (A.Count == 0) else false)) rfl ?_;refine s_g (v:=(bif B then (A.Count == 0) else false)) (.ptr 0 0 2) rfl (fun hv => by (try simp only [y7 hv]);exact ⟨rfl,tr,rfl⟩) ?_
  refine s_g (v:=(bif B then (A.Count == 0) else false)) (.I A.Id) rfl (fun hv => by (try simp only [y7 hv]);exact ⟨rfl,nle,rfl⟩) ?_;refine s_g (v:=(bif B then (A.Count == 0) else false)) (.bool (A.Id == 0)) rfl (fun hv => by (try simp only [y7 hv]);exact ⟨rfl,rfl,rfl⟩) ?_;refine a3c (x:=(A.Id == 0)) (y:=false) rfl (fun hv => by (try simp only [y7 hv]);rfl) (fun hv => by (try simp only [y7 hv]);rfl) ?_;refine l7 (.bool (bif (bif B then (A.Count == 0) else false) then (A.Id == 0) else false)) rfl ?_;refine s_g (v:=(bif (bif B then (A.Count == 0) else false) then (A.Id == 0) else false)) (.ptr 0 0 3) rfl (fun hv => by (try simp only [y7 hv]);exact ⟨rfl,tr,rfl⟩) ?_
  refine s_g (v:=(bif (bif B then (A.Count == 0) else false) then (A.Id == 0) else false)) (.lst 1 (A.Columns.map AV.str)) rfl (fun hv => by (try simp only [y7 hv]);exact ⟨rfl,nle,rfl⟩) ?_;refine s_g (v:=(bif (bif B then (A.Count == 0) else false) then (A.Id == 0) else false)) (.I (A.Columns.length:Int)) rfl (fun hv => by (try simp only [y7 hv]);exact ⟨rfl,tr,lenV _ _⟩) ?_;refine s_g (v:=(bif (bif B then (A.Count == 0) else false) then (A.Id == 0) else false)) (.bool ((A.Columns.length:Int) == 0)) rfl (fun hv => by (try simp only [y7 hv]);exact ⟨rfl,rfl,rfl⟩) ?_;refine a3c (x:=((A.Columns.length:Int) == 0)) (y:=false) rfl (fun hv => by (try simp only [y7 hv]);rfl) (fun hv => by (try simp only [y7 hv]);rfl) ?_
  refine l7 (.bool (bif (bif (bif B then (A.Count == 0) else false) then (A.Id == 0) else false) then ((A.Columns.length:Int) == 0) else false)) rfl ?_;refine s_g (v:=(bif (bif (bif B then (A.Count == 0) else false) then (A.Id == 0) else false) then ((A.Columns.length:Int) == 0) else false)) (.ptr 0 0 4) rfl (fun hv => by (try simp only [y7 hv]);exact ⟨rfl,tr,rfl⟩) ?_;refine s_g (v:=(bif (bif (bif B then (A.Count == 0) else false) then (A.Id == 0) else false) then ((A.Columns.length:Int) == 0) else false)) (.lst 2 (A.Rows.map y5)) rfl (fun hv => by (try simp only [y7 hv]);exact ⟨rfl,nle,rfl⟩) ?_;refine s_g (v:=(bif (bif (bif B then (A.Count == 0) else false) then (A.Id == 0) else false) then ((A.Columns.length:Int) == 0) else false)) (.I (A.Rows.length:Int)) rfl (fun hv => by (try simp only [y7 hv]);exact ⟨rfl,tr,lenV _ _⟩) ?_
  refine s_g (v:=(bif (bif (bif B then (A.Count == 0) else false) then (A.Id == 0) else false) then ((A.Columns.length:Int) == 0) else false)) (.bool ((A.Rows.length:Int) == 0)) rfl (fun hv => by (try simp only [y7 hv]);exact ⟨rfl,rfl,rfl⟩) ?_;refine a3c (x:=((A.Rows.length:Int) == 0)) (y:=false) rfl (fun hv => by (try simp only [y7 hv]);rfl) (fun hv => by (try simp only [y7 hv]);rfl) ?_;refine l7 (.bool (bif (bif (bif (bif B then (A.Count == 0) else false) then (A.Id == 0) else false) then ((A.Columns.length:Int) == 0) else false) then ((A.Rows.length:Int) == 0) else false)) rfl<|dk<|a0e<|?_;obtain rfl:=os hf;exact a0g ⟨tr,tr⟩ rfl .r
 ·refine y9 rfl (bf c2)<|a0j<|a0i<|o7<|o7<|?_
  obtain ⟨E,hb1,hf⟩:=ob hf
  refine a1s ([(1,(.ptr 0 0 0)),(52,(.bool E))],[.box 5 (.agg [(.I A.Code),(.I A.Count),(.I A.Id),(.lst 1 (A.Columns.map AV.str)),(.lst 2 (A.Rows.map y5))])]) ?_ ?_
  ·refine a0s<|x8 (.ptr 0 0 1) rfl tr rfl<|x8 (.I A.Count) rfl nle rfl<|?_
   obtain ⟨F,er17,hb1⟩:=ob hb1
   refine x9 (a0n (a4c _ _ _ _ er17) rfl .r rfl)<|x8 (.bool (!F)) rfl tr rfl<|l7 (.bool (!F)) rfl<|?_
   rcases oi hb1 with ⟨c18,hb1⟩ | ⟨c18,hb1⟩
   ·refine a1g (s:=35) (b:=true) rfl c18<|a0d rfl rfl<|a0d rfl rfl<|a0d rfl rfl<|a0d rfl rfl<|x8 (.bool true) rfl tr rfl<|l7 (.bool true) rfl<|a0d rfl rfl<|a0d rfl rfl<|a0d rfl rfl<|a0d rfl rfl<|x8 (.bool true) rfl tr rfl<|l7 (.bool true) rfl<|a0d rfl rfl<|a0d rfl rfl<|a0d rfl rfl<|a0d rfl rfl<|x8 (.bool true) rfl tr rfl<|a0h<|?_;obtain rfl:=os hb1;exact ⟨[],[0],_,_,rfl,rfl,⟨.r,⟨.r,tr⟩⟩,.r⟩
   ·refine a1g (s:=35) (b:=false) rfl (bf c18)<|s_on rfl<|x8 (.ptr 0 0 2) rfl tr rfl<|s_on rfl<|x8 (.I A.Id) rfl nle rfl<|s_on rfl<|?_
    obtain ⟨D,er20,hb1⟩:=ob hb1
    refine x9 (a0n (a4c _ _ _ _ er20) rfl .r rfl)<|s_on rfl<|x8 (.bool (!D)) rfl tr rfl<|x8 (.bool (!D)) rfl tr rfl<|l7 (.bool (!D)) rfl<|?_;refine s_g (v:=(!D)) (.ptr 0 0 3) rfl (fun hv => by (try simp only [y7 hv]);exact ⟨rfl,tr,rfl⟩) ?_;refine s_g (v:=(!D)) (.lst 1 (A.Columns.map AV.str)) rfl (fun hv => by (try simp only [y7 hv]);exact ⟨rfl,nle,rfl⟩) ?_;refine s_g (v:=(!D)) (.I (A.Columns.length:Int)) rfl (fun hv => by (try simp only [y7 hv]);exact ⟨rfl,tr,lenV _ _⟩) ?_;refine s_g (v:=(!D)) (.bool (decide ((A.Columns.length:Int) > 7))) rfl (fun hv => by (try simp only [y7 hv]);exact ⟨rfl,rfl,rfl⟩) ?_
    refine a3c (x:=true) (y:=(decide ((A.Columns.length:Int) > 7))) rfl (fun hv => by (try simp only [y7 hv]);rfl) (fun hv => by (try simp only [y7 hv]);rfl) ?_;refine l7 (.bool (bif (!D) then true else (decide ((A.Columns.length:Int) > 7)))) rfl ?_;refine s_g (v:=(bif (!D) then true else (decide ((A.Columns.length:Int) > 7)))) (.ptr 0 0 4) rfl (fun hv => by (try simp only [y7 hv]);exact ⟨rfl,tr,rfl⟩) ?_;refine s_g (v:=(bif (!D) then true else (decide ((A.Columns.length:Int) > 7)))) (.lst 2 (A.Rows.map y5)) rfl (fun hv => by (try simp only [y7 hv]);exact ⟨rfl,nle,rfl⟩) ?_;refine s_g (v:=(bif (!D) then true else (decide ((A.Columns.length:Int) > 7)))) (.I (A.Rows.length:Int)) rfl (fun hv => by (try simp only [y7 hv]);exact ⟨rfl,tr,lenV _ _⟩) ?_
    refine s_g (v:=(bif (!D) then true else (decide ((A.Columns.length:Int) > 7)))) (.bool (decide ((A.Rows.length:Int) > 12))) rfl (fun hv => by (try simp only [y7 hv]);exact ⟨rfl,rfl,rfl⟩) ?_;refine a3c (x:=true) (y:=(decide ((A.Rows.length:Int) > 12))) rfl (fun hv => by (try simp only [y7 hv]);rfl) (fun hv => by (try simp only [y7 hv]);rfl) ?_;refine a0h ?_;obtain rfl:=os hb1;exact ⟨[],[0],_,_,rfl,rfl,⟨.r,⟨.r,tr⟩⟩,.r⟩
  ·rcases oi hf with ⟨c23,hf⟩ | ⟨c23,hf⟩
   ·refine y8 rfl c23<|sr<|l7 (.bool false) rfl<|dk<|a0e<|?_;obtain rfl:=os hf;exact a0g ⟨tr,tr⟩ rfl .r
   ·refine y9 rfl (bf c23)<|a0j<|a0i<|o7<|sr<|?_
    obtain ⟨H,er25,hf⟩:=ob hf
    refine x8 (.ptr 0 0 3) rfl tr rfl<|x8 (.lst 1 (A.Columns.map AV.str)) rfl nle rfl<|?_;refine x9 (a0n (b0z _ _ _ er25 218 [] (by kernel_rfl) (fun _ _ => rfl) (fun _ => rfl) (fun a0 r h => c3e a0 r h)) rfl .r rfl) ?_;refine dk<|?_
    rcases oi hf with ⟨c26,hf⟩ | ⟨c26,hf⟩
    ·refine y8 rfl c26<|sr<|l7 (.bool false) rfl<|dk<|a0e<|?_;obtain rfl:=os hf;exact a0g ⟨tr,tr⟩ rfl .r
    ·refine y9 rfl (bf c26)<|a0j<|a0i<|sr<|?_
     obtain ⟨G,er28,hf⟩:=ob hf
     refine x8 (.ptr 0 0 4) rfl tr rfl<|x8 (.lst 2 (A.Rows.map y5)) rfl nle rfl<|x8 (.fn 219 [(.ptr 0 0 0)]) rfl tr rfl<|?_;refine x9 (a0n (a9n _ _ _ er28 219 [(.iptr (a2c A) 0)] (by kernel_rfl) (fun _ _ => rfl) (fun _ => rfl) (fun a0 r h => c3g a0 A r h)) rfl .r rfl) ?_;refine x8 (.bool (!G)) rfl tr rfl<|l7 (.bool (!G)) rfl<|dk<|a0e<|?_;obtain rfl:=os hf;exact a0g ⟨tr,tr⟩ rfl .r

/- impl.codeWords -/
def f1h:a0m :=
 (.seq (.reg (tm 0 (.c .nil) .done))
 (.seq (.reg (tq 1 (.bslice 1 [(.c (.str [111,107])),(.c (.str [98,97,100])),(.c (.str [108,111,110,103])),(.c (.str [102,111,114,109])),(.c (.str [114,97,110,103,101])),(.c (.str [110,111,110,101])),(.c (.str [109,97,110,121])),(.c (.str [102,117,108,108])),(.c (.str [116,119,105,99,101])),(.c (.str [116,121,112,101])),(.c (.str [116,97,98,108,101])),(.c (.str [99,111,108,117,109,110])),(.c (.str [117,110,105,113,117,101])),(.c (.str [114,101,102])),(.c (.str [111,119,110,101,114])),(.c (.str [119,97,105,116])),(.c (.str [97,98,111,114,116])),(.c (.str [99,108,111,115,101,100])),(.c (.str [100,101,101,112])),(.c (.str [109,101,116,104,111,100]))]) (tm 0 (.t 1) .done)))
 .ret))
theorem f1i:a1b Tryz.prog Tryz.f299 = some (f1h.erase,[.mov (.t 0)],2):=by kernel_rfl
def b6e :Option (List Str) :=
    some [[111,107],[98,97,100],[108,111,110,103],[102,111,114,109],[114,97,110,103,101],[110,111,110,101],[109,97,110,121],[102,117,108,108],[116,119,105,99,101],[116,121,112,101],[116,97,98,108,101],[99,111,108,117,109,110],[117,110,105,113,117,101],[114,101,102],[111,119,110,101,114],[119,97,105,116],[97,98,111,114,116],[99,108,111,115,101,100],[100,101,101,112],[109,101,116,104,111,100]]
theorem c4u  (r:(List Str)) (hf:b6e = some r):a0a Tryz.prog 299 .fresh [] (.lst 1 (r.map AV.str)):=by
  refine a0a.of_awp mixed Tryz.func299 f1i nle ?_
  rw [a0l]
  unfold b6e at hf
  unfold f1h
  refine (show awp Tryz.prog true 0 _ (ofL []) [] _ from ?_)
  refine o7 ?_
  refine a0s ?_
  refine x9 (a3p .nil rfl) ?_
  refine a0h ?_
  refine a0i ?_
  refine o7 ?_
  refine a0s ?_
  refine x9 (a0o (j:=0) (as':=[(.str [111,107]),(.str [98,97,100]),(.str [108,111,110,103]),(.str [102,111,114,109]),(.str [114,97,110,103,101]),(.str [110,111,110,101]),(.str [109,97,110,121]),(.str [102,117,108,108]),(.str [116,119,105,99,101]),(.str [116,121,112,101]),(.str [116,97,98,108,101]),(.str [99,111,108,117,109,110]),(.str [117,110,105,113,117,101]),(.str [114,101,102]),(.str [111,119,110,101,114]),(.str [119,97,105,116]),(.str [97,98,111,114,116]),(.str [99,108,111,115,101,100]),(.str [100,101,101,112]),(.str [109,101,116,104,111,100])]) rfl (fun _ => by decide) ⟨rfl,⟨rfl,⟨rfl,⟨rfl,⟨rfl,⟨rfl,⟨rfl,⟨rfl,⟨rfl,⟨rfl,⟨rfl,⟨rfl,⟨rfl,⟨rfl,⟨rfl,⟨rfl,⟨rfl,⟨rfl,⟨rfl,⟨rfl,tr⟩⟩⟩⟩⟩⟩⟩⟩⟩⟩⟩⟩⟩⟩⟩⟩⟩⟩⟩⟩ .r rfl rfl rfl) ?_
  refine x9 (a3p (.own 0 0 20) rfl) ?_
  refine a0h ?_
  refine a0i ?_
  refine a0e ?_
  obtain rfl:=os hf
  exact a2m ⟨tr,tr⟩ rfl (by decide) .r

/- impl.CodeWord -/
def f1j:a0m :=
 (.seq (.reg (tm 2 (.c (.str [])) .done))
 (.seq (.seq (.reg (tm 3 (.t 0) (tq 4 (.call 81 [(.t 3),(.c (.int .i64 0)),(.c (.int .i64 19))]) (tq 5 (.not (.t 4)) .done))))
 (.cond (.t 5) (.seq (.reg (tm 2 (.c (.str [])) .done))
 .ret)
 .skip))
 (.seq (.reg (tq 6 (.call 299 []) (tm 7 (.t 0) (tq 8 (.iaddr 1 (.t 6) (.t 7)) (tq 9 (.load 1 false (.t 8)) (tm 2 (.t 9) .done))))))
 .ret)))
theorem f1k:a1b Tryz.prog Tryz.f221 = some (f1j.erase,[.mov (.t 2)],10):=by kernel_rfl
def b1b (A:Int):Option Str :=
    (a4u A 0 19).bind fun D =>
    if (!D) then
    some []
    else
    (b6e).bind fun E =>
    (idx E A).bind fun B =>
    some B
theorem c6t (A:Int) (r:Str) (hf:b1b A = some r):a0a Tryz.prog 221 .flat [(.I A)] (.str r):=by
 refine a0a.of_awp mixed Tryz.func221 f1k nle ?_;rw [a0l];unfold b1b at hf;unfold f1j;refine (show awp Tryz.prog false 0 _ (ofL [(0,(.I A))]) [] _ from ?_);refine sr<|l7 (.str []) rfl<|dk<|o7<|sr<|?_
 obtain ⟨D,er3,hf⟩:=ob hf
 refine l7 (.I A) rfl<|x9 (a0n (a4c _ _ _ _ er3) rfl .r rfl)<|x8 (.bool (!D)) rfl tr rfl<|dk<|?_
 rcases oi hf with ⟨c4,hf⟩ | ⟨c4,hf⟩
 ·refine y8 rfl c4<|sr<|l7 (.str []) rfl<|dk<|a0e<|?_;obtain rfl:=os hf;exact a0g ⟨tr,tr⟩ rfl .r
 ·refine y9 rfl (bf c4)<|a0j<|a0i<|sr<|?_
  obtain ⟨E,er6,hf⟩:=ob hf
  obtain ⟨B,ex8,hf⟩:=ob hf
  refine x9 (b5m rfl (c4u _ er6) rfl .r rfl)<|l7 (.I A) rfl<|x9 (a6s (enc:=AV.str) rfl rfl (b3m ex8) (b3n ex8))<|x8 (.str B) rfl ⟨rfl,rfl⟩ rfl<|l7 (.str B) rfl<|dk<|a0e<|?_;obtain rfl:=os hf;exact a0g ⟨tr,tr⟩ rfl .r

/- impl.jsText -/
def f1l:a0m :=
 (.seq (.reg (tq 2 (.box 5 (.c (.agg [(.int .i64 0),(.int .i64 0),(.str []),.nil,.nil]))) .done))
 (.seq (.reg (tm 3 (.t 0) (tq 4 (.build [(.int .i64 0),(.int .i64 0),(.str []),.nil,.nil] [(0,1,(.c (.int .i64 3))),(2,1,(.t 3))]) (.q ⟨none,none,.store 5 (.t 2) (.t 4)⟩
 .done))))
 .ret))
theorem f1m:a1b Tryz.prog Tryz.f220 = some (f1l.erase,[.load 5 true (.t 2)],5):=by kernel_rfl
def a8q (A:Str):Option o9 :=
    some (⟨3,0,A,[],[]⟩:o9)
theorem b4a (A:Str) (r:o9) (hf:a8q A = some r):a0a Tryz.prog 220 .fresh [(.str A)] (l9 r):=by
  refine a0a.of_awp mixed Tryz.func220 f1m nle ?_
  rw [a0l]
  unfold a8q at hf
  unfold f1l
  refine (show awp Tryz.prog true 0 _ (ofL [(0,(.str A))]) [] _ from ?_)
  refine o7 ?_
  refine a0s ?_
  refine x9 (a1j (j:=0) (c:=(.agg [(.I 0),(.I 0),(.str []),.nil,.nil])) rfl tr rfl rfl) ?_
  refine a0h ?_
  refine a0i ?_
  refine o7 ?_
  refine a0s ?_
  refine x9 (a3p (.str A) rfl) ?_
  refine x9 (o_q (.agg [(.I 3),(.I 0),(.str A),.nil,.nil]) rfl ⟨⟨rfl,nle,tr⟩,⟨⟨rfl,nle,tr⟩,tr⟩⟩ rfl) ?_
  refine a1v (a0f (v:=(.agg [(.I 3),(.I 0),(.str A),.nil,.nil])) (y':=(.agg [(.I 3),(.I 0),(.str A),.nil,.nil])) rfl rfl rfl tr ⟨rfl,nle⟩ ⟨⟨rfl,tr⟩,⟨⟨rfl,tr⟩,⟨⟨rfl,tr⟩,⟨⟨rfl,tr⟩,⟨⟨rfl,tr⟩,tr⟩⟩⟩⟩⟩ rfl) ?_
  refine a0h ?_
  refine a0i ?_
  refine a0e ?_
  obtain rfl:=os hf
  exact a2m ⟨nle,tr⟩ rfl (by decide) (leJ (x:=(⟨3,0,A,[],[]⟩:o9)) (.agg (.cons .r (.cons .r (.cons .r (.cons (.nil _) (.cons (.nil _) .nil)))))))

/- impl.jsObject -/
def d9f:a0m :=
 (.seq (.reg (tq 4 (.box 5 (.c (.agg [(.int .i64 0),(.int .i64 0),(.str []),.nil,.nil]))) .done))
 (.seq (.reg (tm 5 (.t 0) (tm 6 (.t 1) (tq 7 (.build [(.int .i64 0),(.int .i64 0),(.str []),.nil,.nil] [(0,1,(.c (.int .i64 5))),(3,1,(.t 5)),(4,1,(.t 6))]) (.q ⟨none,none,.store 5 (.t 4) (.t 7)⟩
 .done)))))
 .ret))
theorem e3e:a1b Tryz.prog Tryz.f200 = some (d9f.erase,[.load 5 true (.t 4)],8):=by kernel_rfl
def a6p (B:(List Str)) (A:(List o9)):Option o9 :=
    some (⟨5,0,[],B,A⟩:o9)
theorem a7o (B:(List Str)) (A:(List o9)) (r:o9) (hf:a6p B A = some r):a0v Tryz.prog true 200 [(.own 0 0 B.length),(.own 1 0 A.length)] [.row 1 (B.map AV.str),.row 5 (A.map l9)] (.agg [(.I r.Kind),(.I r.N),(.str r.T),(.own 2 0 r.Keys.length),(.own 3 0 r.Items.length)]) [.dead,.dead,.row 1 (r.Keys.map AV.str),.row 5 (r.Items.map l9)]:=by
 refine a0v.of_awp mixed Tryz.func200 e3e nle ?_;rw [a0l];unfold a6p at hf;unfold d9f;refine (show awp Tryz.prog true 2 _ (ofL [(0,(.own 0 0 B.length)),(1,(.own 1 0 A.length))]) [.row 1 (B.map AV.str),.row 5 (A.map l9)] _ from ?_);refine sr<|x9 (a1j (j:=2) (c:=(.agg [(.I 0),(.I 0),(.str []),.nil,.nil])) rfl tr rfl rfl)<|dk<|sr<|l7 (.own 0 0 B.length) rfl<|l7 (.own 1 0 A.length) rfl<|x8 (.agg [(.I 5),(.I 0),(.str []),(.own 0 0 B.length),(.own 1 0 A.length)]) rfl ⟨⟨rfl,nle,tr⟩,⟨⟨rfl,nle,tr⟩,⟨⟨rfl,nle,tr⟩,tr⟩⟩⟩ rfl<|?_
 refine a1v (a0f (v:=(.agg [(.I 5),(.I 0),(.str []),(.own 0 0 B.length),(.own 1 0 A.length)])) (y':=(.agg [(.I 5),(.I 0),(.str []),(.own 0 0 B.length),(.own 1 0 A.length)])) rfl rfl rfl tr ⟨rfl,nle⟩ ⟨⟨rfl,tr⟩,⟨⟨rfl,tr⟩,⟨⟨rfl,tr⟩,⟨⟨rfl,tr⟩,⟨⟨rfl,tr⟩,tr⟩⟩⟩⟩⟩ rfl)<|dk<|a0e<|?_;obtain rfl:=os hf;exact a7b [.mv 0,.mv 1] [0,1,3,4] rfl ⟨nle,tr⟩ rfl .r .r

/- impl.jsNumber -/
def f1n:a0m :=
 (.seq (.reg (tq 2 (.box 5 (.c (.agg [(.int .i64 0),(.int .i64 0),(.str []),.nil,.nil]))) .done))
 (.seq (.reg (tm 3 (.t 0) (tq 4 (.build [(.int .i64 0),(.int .i64 0),(.str []),.nil,.nil] [(0,1,(.c (.int .i64 2))),(1,1,(.t 3))]) (.q ⟨none,none,.store 5 (.t 2) (.t 4)⟩
 .done))))
 .ret))
theorem f1o:a1b Tryz.prog Tryz.f223 = some (f1n.erase,[.load 5 true (.t 2)],5):=by kernel_rfl
def a9i (A:Int):Option o9 :=
    some (⟨2,A,[],[],[]⟩:o9)
theorem b5c (A:Int) (r:o9) (hf:a9i A = some r):a0a Tryz.prog 223 .fresh [(.I A)] (l9 r):=by
  refine a0a.of_awp mixed Tryz.func223 f1o nle ?_
  rw [a0l]
  unfold a9i at hf
  unfold f1n
  refine (show awp Tryz.prog true 0 _ (ofL [(0,(.I A))]) [] _ from ?_)
  refine o7 ?_
  refine a0s ?_
  refine x9 (a1j (j:=0) (c:=(.agg [(.I 0),(.I 0),(.str []),.nil,.nil])) rfl tr rfl rfl) ?_
  refine a0h ?_
  refine a0i ?_
  refine o7 ?_
  refine a0s ?_
  refine x9 (a3p (.I A) rfl) ?_
  refine x9 (o_q (.agg [(.I 2),(.I A),(.str []),.nil,.nil]) rfl ⟨⟨rfl,nle,tr⟩,⟨⟨rfl,nle,tr⟩,tr⟩⟩ rfl) ?_
  refine a1v (a0f (v:=(.agg [(.I 2),(.I A),(.str []),.nil,.nil])) (y':=(.agg [(.I 2),(.I A),(.str []),.nil,.nil])) rfl rfl rfl tr ⟨rfl,nle⟩ ⟨⟨rfl,tr⟩,⟨⟨rfl,tr⟩,⟨⟨rfl,tr⟩,⟨⟨rfl,tr⟩,⟨⟨rfl,tr⟩,tr⟩⟩⟩⟩⟩ rfl) ?_
  refine a0h ?_
  refine a0i ?_
  refine a0e ?_
  obtain rfl:=os hf
  exact a2m ⟨nle,tr⟩ rfl (by decide) (leJ (x:=(⟨2,A,[],[],[]⟩:o9)) (.agg (.cons .r (.cons .r (.cons .r (.cons (.nil _) (.cons (.nil _) .nil)))))))

/- impl.jsBool -/
def f1p:a0m :=
 (.seq (.reg (tq 2 (.box 5 (.c (.agg [(.int .i64 0),(.int .i64 0),(.str []),.nil,.nil]))) .done))
 (.seq (.seq (.reg (tm 3 (.t 0) .done))
 (.cond (.t 3) (.seq (.reg (tq 4 (.build [(.int .i64 0),(.int .i64 0),(.str []),.nil,.nil] [(0,1,(.c (.int .i64 1))),(1,1,(.c (.int .i64 1)))]) (.q ⟨none,none,.store 5 (.t 2) (.t 4)⟩
 .done)))
 .ret)
 .skip))
 (.seq (.reg (tq 5 (.build [(.int .i64 0),(.int .i64 0),(.str []),.nil,.nil] [(0,1,(.c (.int .i64 1)))]) (.q ⟨none,none,.store 5 (.t 2) (.t 5)⟩
 .done)))
 .ret)))
theorem f1q:a1b Tryz.prog Tryz.f235 = some (f1p.erase,[.load 5 true (.t 2)],6):=by kernel_rfl
def b2f (A:Bool):Option o9 :=
    if A then
    some (⟨1,1,[],[],[]⟩:o9)
    else
    some (⟨1,0,[],[],[]⟩:o9)
theorem d0v (A:Bool) (r:o9) (hf:b2f A = some r):a0a Tryz.prog 235 .fresh [(.bool A)] (l9 r):=by
 refine a0a.of_awp mixed Tryz.func235 f1q nle ?_;rw [a0l];unfold b2f at hf;unfold f1p;refine (show awp Tryz.prog true 0 _ (ofL [(0,(.bool A))]) [] _ from ?_);refine sr<|x9 (a1j (j:=0) (c:=(.agg [(.I 0),(.I 0),(.str []),.nil,.nil])) rfl tr rfl rfl)<|dk<|o7<|sr<|l7 (.bool A) rfl<|dk<|?_
 rcases oi hf with ⟨c2,hf⟩ | ⟨c2,hf⟩
 ·refine y8 rfl c2<|sr<|x8 (.agg [(.I 1),(.I 1),(.str []),.nil,.nil]) rfl ⟨⟨rfl,nle,tr⟩,⟨⟨rfl,nle,tr⟩,tr⟩⟩ rfl<|a1v (a0f (v:=(.agg [(.I 1),(.I 1),(.str []),.nil,.nil])) (y':=(.agg [(.I 1),(.I 1),(.str []),.nil,.nil])) rfl rfl rfl tr ⟨rfl,nle⟩ ⟨⟨rfl,tr⟩,⟨⟨rfl,tr⟩,⟨⟨rfl,tr⟩,⟨⟨rfl,tr⟩,⟨⟨rfl,tr⟩,tr⟩⟩⟩⟩⟩ rfl)<|dk<|a0e<|?_;obtain rfl:=os hf;exact a2m ⟨nle,tr⟩ rfl (by decide) (leJ (x:=(⟨1,1,[],[],[]⟩:o9)) (.agg (.cons .r (.cons .r (.cons .r (.cons (.nil _) (.cons (.nil _) .nil)))))))
 ·refine y9 rfl (bf c2)<|a0j<|a0i<|sr<|x8 (.agg [(.I 1),(.I 0),(.str []),.nil,.nil]) rfl ⟨⟨rfl,nle,tr⟩,tr⟩ rfl<|a1v (a0f (v:=(.agg [(.I 1),(.I 0),(.str []),.nil,.nil])) (y':=(.agg [(.I 1),(.I 0),(.str []),.nil,.nil])) rfl rfl rfl tr ⟨rfl,nle⟩ ⟨⟨rfl,tr⟩,⟨⟨rfl,tr⟩,⟨⟨rfl,tr⟩,⟨⟨rfl,tr⟩,⟨⟨rfl,tr⟩,tr⟩⟩⟩⟩⟩ rfl)<|dk<|a0e<|?_;obtain rfl:=os hf;exact a2m ⟨nle,tr⟩ rfl (by decide) (leJ (x:=(⟨1,0,[],[],[]⟩:o9)) (.agg (.cons .r (.cons .r (.cons .r (.cons (.nil _) (.cons (.nil _) .nil)))))))

/- impl.jsList -/
def d9g:a0m :=
 (.seq (.reg (tq 2 (.box 5 (.c (.agg [(.int .i64 0),(.int .i64 0),(.str []),.nil,.nil]))) .done))
 (.seq (.reg (tm 3 (.t 0) (tq 4 (.build [(.int .i64 0),(.int .i64 0),(.str []),.nil,.nil] [(0,1,(.c (.int .i64 4))),(4,1,(.t 3))]) (.q ⟨none,none,.store 5 (.t 2) (.t 4)⟩
 .done))))
 .ret))
theorem e3f:a1b Tryz.prog Tryz.f222 = some (d9g.erase,[.load 5 true (.t 2)],5):=by kernel_rfl
def a7p (A:(List o9)):Option o9 :=
    some (⟨4,0,[],[],A⟩:o9)
theorem b7m (A:(List o9)) (r:o9) (hf:a7p A = some r):a0v Tryz.prog true 222 [(.own 0 0 A.length)] [.row 5 (A.map l9)] (.agg [(.I r.Kind),(.I r.N),(.str r.T),(.own 1 0 r.Keys.length),(.own 2 0 r.Items.length)]) [.dead,.row 1 (r.Keys.map AV.str),.row 5 (r.Items.map l9)]:=by
 refine a0v.of_awp mixed Tryz.func222 e3f nle ?_;rw [a0l];unfold a7p at hf;unfold d9g;refine (show awp Tryz.prog true 1 _ (ofL [(0,(.own 0 0 A.length))]) [.row 5 (A.map l9)] _ from ?_);refine sr<|x9 (a1j (j:=1) (c:=(.agg [(.I 0),(.I 0),(.str []),.nil,.nil])) rfl tr rfl rfl)<|dk<|sr<|l7 (.own 0 0 A.length) rfl<|x8 (.agg [(.I 4),(.I 0),(.str []),.nil,(.own 0 0 A.length)]) rfl ⟨⟨rfl,nle,tr⟩,⟨⟨rfl,nle,tr⟩,tr⟩⟩ rfl<|a1v (a0f (v:=(.agg [(.I 4),(.I 0),(.str []),.nil,(.own 0 0 A.length)])) (y':=(.agg [(.I 4),(.I 0),(.str []),.nil,(.own 0 0 A.length)])) rfl rfl rfl tr ⟨rfl,nle⟩ ⟨⟨rfl,tr⟩,⟨⟨rfl,tr⟩,⟨⟨rfl,tr⟩,⟨⟨rfl,tr⟩,⟨⟨rfl,tr⟩,tr⟩⟩⟩⟩⟩ rfl)<|?_
 refine dk<|a0e<|?_;obtain rfl:=os hf;exact a7b [.nilC 1 3 1,.mv 0] [0,2,3] rfl ⟨nle,tr⟩ rfl .r .r

/- impl.atomJson -/
def f1r:a0m :=
 (.seq (.reg (tq 1 (.box 3 (.t 0)) (tq 2 (.box 5 (.c (.agg [(.int .i64 0),(.int .i64 0),(.str []),.nil,.nil]))) .done)))
 (.seq (.seq (.reg (tq 3 (.faddr 0 (.t 1)) (tq 4 (.load 1 false (.t 3)) .done)))
 (.block 0 (.seq (.reg (tq 6 (.bin .eql (.t 4) (.c (.int .i64 1))) (tm 5 (.t 6) .done)))
 (.cond (.t 5) (.seq (.reg (tq 7 (.faddr 1 (.t 1)) (tq 8 (.load 1 false (.t 7)) (tq 9 (.call 223 [(.t 8)]) (.q ⟨none,none,.store 5 (.t 2) (.t 9)⟩
 .done)))))
 .ret)
 (.seq (.reg (tq 11 (.bin .eql (.t 4) (.c (.int .i64 2))) (tm 10 (.t 11) .done)))
 (.cond (.t 10) (.seq (.reg (tq 12 (.faddr 2 (.t 1)) (tq 13 (.load 1 false (.t 12)) (tq 14 (.call 220 [(.t 13)]) (.q ⟨none,none,.store 5 (.t 2) (.t 14)⟩
 .done)))))
 .ret)
 (.seq (.reg (tq 16 (.bin .eql (.t 4) (.c (.int .i64 3))) (tm 15 (.t 16) .done)))
 (.cond (.t 15) (.seq (.reg (tq 17 (.faddr 1 (.t 1)) (tq 18 (.load 1 false (.t 17)) (tq 19 (.bin .eql (.t 18) (.c (.int .i64 1))) (tq 20 (.call 235 [(.t 19)]) (.q ⟨none,none,.store 5 (.t 2) (.t 20)⟩
 .done))))))
 .ret)
 .skip))))))))
 (.seq (.reg (tq 22 (.faddr 1 (.t 1)) (tq 23 (.load 1 false (.t 22)) (.l ⟨(some 21),none,.call 220 [(.c (.str [117,117,105,100]))]⟩ [⟨(some 23),none,.load 1 false (.t 22)⟩,⟨(some 22),none,.faddr 1 (.t 1)⟩]
 (.l ⟨(some 24),none,.call 223 [(.t 23)]⟩ []
 (.l ⟨(some 25),none,.bslice 5 [(.t 21),(.t 24)]⟩ []
 (.l ⟨(some 26),none,.call 222 [(.t 25)]⟩ []
 (.l ⟨none,none,.store 5 (.t 2) (.t 26)⟩ []
 .done .non) .non) .non) .non) .non))))
 .ret)))
theorem f1s:a1b Tryz.prog Tryz.f136 = some (f1r.erase,[.load 5 true (.t 2)],27):=by kernel_rfl
def a4x (B:a0k):Option o9 :=
    if (B.Kind == 1) then
    (a9i B.N).bind fun D =>
    some D
    else
    if (B.Kind == 2) then
    (a8q B.T).bind fun E =>
    some E
    else
    if (B.Kind == 3) then
    (b2f (B.N == 1)).bind fun F =>
    some F
    else
    (a8q [117,117,105,100]).bind fun G =>
    (a9i B.N).bind fun H =>
    (a7p [G,H]).bind fun A =>
    some A
theorem b8t (B:a0k) (r:o9) (hf:a4x B = some r):a0a Tryz.prog 136 .fresh [(o6 B)] (l9 r):=by
 refine a0a.of_awp mixed Tryz.func136 f1s nle ?_;rw [a0l];unfold a4x at hf;unfold f1r;refine (show awp Tryz.prog true 0 _ (ofL [(0,(o6 B))]) [] _ from ?_);refine sr<|x9 (a1j (j:=0) (c:=(.agg [(.I B.Kind),(.I B.N),(.str B.T)])) rfl tr rfl rfl)<|x9 (a1j (j:=1) (c:=(.agg [(.I 0),(.I 0),(.str []),.nil,.nil])) rfl tr rfl rfl)<|dk<|o7<|sr<|x8 (.ptr 0 0 0) rfl tr rfl<|x8 (.I B.Kind) rfl nle rfl<|dk<|a2x<|sr<|x8 (.bool (B.Kind == 1)) rfl rfl rfl<|l7 (.bool (B.Kind == 1)) rfl<|dk<|?_
 rcases oi hf with ⟨c2,hf⟩ | ⟨c2,hf⟩
 ·refine y8 rfl c2<|sr<|?_
  obtain ⟨D,er4,hf⟩:=ob hf
  refine x8 (.ptr 0 0 1) rfl tr rfl<|x8 (.I B.N) rfl nle rfl<|x9 (a2z (v:=(.agg [(.I D.Kind),(.I D.N),(.str D.T),(.own 2 0 D.Keys.length),(.own 3 0 D.Items.length)])) (h':=[.row 1 (D.Keys.map AV.str),.row 5 (D.Items.map l9)]) (b5c _ _ er4) rfl .r (by simp only [a2f,a2a,List.length_map,o8,List.nil_append,List.append_nil,List.cons_append];rfl))<|a1v (a0f (v:=(.agg [(.I D.Kind),(.I D.N),(.str D.T),(.own 2 0 D.Keys.length),(.own 3 0 D.Items.length)])) (y':=(.agg [(.I D.Kind),(.I D.N),(.str D.T),(.own 2 0 D.Keys.length),(.own 3 0 D.Items.length)])) rfl rfl rfl tr ⟨rfl,nle⟩ ⟨⟨rfl,tr⟩,⟨⟨rfl,tr⟩,⟨⟨rfl,tr⟩,⟨⟨rfl,tr⟩,⟨⟨rfl,tr⟩,tr⟩⟩⟩⟩⟩ rfl)<|?_
  refine dk<|a0e<|?_;obtain rfl:=os hf;exact a2m ⟨nle,tr⟩ rfl (by decide) (leJ (x:=D) (.agg (.cons .r (.cons .r (.cons .r (.cons (.of_eq (congrArg (AV.lst _) (tk (enc:=AV.str) D.Keys))) (.cons (.of_eq (congrArg (AV.lst _) (tk (enc:=l9) D.Items))) .nil)))))))
 ·refine y9 rfl (bf c2)<|sr<|x8 (.bool (B.Kind == 2)) rfl rfl rfl<|l7 (.bool (B.Kind == 2)) rfl<|dk<|?_
  rcases oi hf with ⟨c5,hf⟩ | ⟨c5,hf⟩
  ·refine y8 rfl c5<|sr<|?_
   obtain ⟨E,er7,hf⟩:=ob hf
   refine x8 (.ptr 0 0 2) rfl tr rfl<|x8 (.str B.T) rfl nle rfl<|x9 (a2z (v:=(.agg [(.I E.Kind),(.I E.N),(.str E.T),(.own 2 0 E.Keys.length),(.own 3 0 E.Items.length)])) (h':=[.row 1 (E.Keys.map AV.str),.row 5 (E.Items.map l9)]) (b4a _ _ er7) rfl .r (by simp only [a2f,a2a,List.length_map,o8,List.nil_append,List.append_nil,List.cons_append];rfl))<|a1v (a0f (v:=(.agg [(.I E.Kind),(.I E.N),(.str E.T),(.own 2 0 E.Keys.length),(.own 3 0 E.Items.length)])) (y':=(.agg [(.I E.Kind),(.I E.N),(.str E.T),(.own 2 0 E.Keys.length),(.own 3 0 E.Items.length)])) rfl rfl rfl tr ⟨rfl,nle⟩ ⟨⟨rfl,tr⟩,⟨⟨rfl,tr⟩,⟨⟨rfl,tr⟩,⟨⟨rfl,tr⟩,⟨⟨rfl,tr⟩,tr⟩⟩⟩⟩⟩ rfl)<|?_
   refine dk<|a0e<|?_;obtain rfl:=os hf;exact a2m ⟨nle,tr⟩ rfl (by decide) (leJ (x:=E) (.agg (.cons .r (.cons .r (.cons .r (.cons (.of_eq (congrArg (AV.lst _) (tk (enc:=AV.str) E.Keys))) (.cons (.of_eq (congrArg (AV.lst _) (tk (enc:=l9) E.Items))) .nil)))))))
  ·refine y9 rfl (bf c5)<|sr<|x8 (.bool (B.Kind == 3)) rfl rfl rfl<|l7 (.bool (B.Kind == 3)) rfl<|dk<|?_
   rcases oi hf with ⟨c8,hf⟩ | ⟨c8,hf⟩
   ·refine y8 rfl c8<|sr<|?_
    obtain ⟨F,er10,hf⟩:=ob hf
    refine x8 (.ptr 0 0 1) rfl tr rfl<|x8 (.I B.N) rfl nle rfl<|x8 (.bool (B.N == 1)) rfl rfl rfl<|x9 (a2z (v:=(.agg [(.I F.Kind),(.I F.N),(.str F.T),(.own 2 0 F.Keys.length),(.own 3 0 F.Items.length)])) (h':=[.row 1 (F.Keys.map AV.str),.row 5 (F.Items.map l9)]) (d0v _ _ er10) rfl .r (by simp only [a2f,a2a,List.length_map,o8,List.nil_append,List.append_nil,List.cons_append];rfl))<|a1v (a0f (v:=(.agg [(.I F.Kind),(.I F.N),(.str F.T),(.own 2 0 F.Keys.length),(.own 3 0 F.Items.length)])) (y':=(.agg [(.I F.Kind),(.I F.N),(.str F.T),(.own 2 0 F.Keys.length),(.own 3 0 F.Items.length)])) rfl rfl rfl tr ⟨rfl,nle⟩ ⟨⟨rfl,tr⟩,⟨⟨rfl,tr⟩,⟨⟨rfl,tr⟩,⟨⟨rfl,tr⟩,⟨⟨rfl,tr⟩,tr⟩⟩⟩⟩⟩ rfl)<|?_
    refine dk<|a0e<|?_;obtain rfl:=os hf;exact a2m ⟨nle,tr⟩ rfl (by decide) (leJ (x:=F) (.agg (.cons .r (.cons .r (.cons .r (.cons (.of_eq (congrArg (AV.lst _) (tk (enc:=AV.str) F.Keys))) (.cons (.of_eq (congrArg (AV.lst _) (tk (enc:=l9) F.Items))) .nil)))))))
   ·refine y9 rfl (bf c8)<|a0j<|a2v<|a0i<|sr<|?_
    obtain ⟨G,er12,hf⟩:=ob hf
    obtain ⟨H,er14,hf⟩:=ob hf
    obtain ⟨A,er16,hf⟩:=ob hf
    refine x8 (.ptr 0 0 1) rfl tr rfl<|x8 (.I B.N) rfl nle rfl<|a0w (a2z (v:=(.agg [(.I G.Kind),(.I G.N),(.str G.T),(.own 2 0 G.Keys.length),(.own 3 0 G.Items.length)])) (h':=[.row 1 (G.Keys.map AV.str),.row 5 (G.Items.map l9)]) (b4a _ _ er12) rfl .r (by simp only [a2f,a2a,List.length_map,o8,List.nil_append,List.append_nil,List.cons_append];rfl)) (.inr ⟨⟨nle,rfl⟩,⟨⟨tr,rfl⟩,tr⟩⟩) tr<|a0w (a2z (v:=(.agg [(.I H.Kind),(.I H.N),(.str H.T),(.own 4 0 H.Keys.length),(.own 5 0 H.Items.length)])) (h':=[.row 1 (H.Keys.map AV.str),.row 5 (H.Items.map l9)]) (b5c _ _ er14) rfl .r (by simp only [a2f,a2a,List.length_map,o8,List.nil_append,List.append_nil,List.cons_append];rfl)) tr tr<|?_
    refine a0w (a0o (j:=6) (as':=[(l9 G),(l9 H)]) rfl (fun _ => by decide) ⟨rfl,⟨rfl,tr⟩⟩ (.cons (leJ (x:=G) (.agg (.cons .r (.cons .r (.cons .r (.cons (.of_eq (congrArg (AV.lst _) (tk (enc:=AV.str) G.Keys))) (.cons (.of_eq (congrArg (AV.lst _) (tk (enc:=l9) G.Items))) .nil))))))) (.cons (leJ (x:=H) (.agg (.cons .r (.cons .r (.cons .r (.cons (.of_eq (congrArg (AV.lst _) (tk (enc:=AV.str) H.Keys))) (.cons (.of_eq (congrArg (AV.lst _) (tk (enc:=l9) H.Items))) .nil))))))) .nil)) rfl rfl rfl) tr tr ?_;refine a0w (a7q (v:=(.agg [(.I A.Kind),(.I A.N),(.str A.T),(.own 7 0 A.Keys.length),(.own 8 0 A.Items.length)])) (h2:=[.box 3 (.agg [(.I B.Kind),(.I B.N),(.str B.T)]),.box 5 (.agg [(.I 0),(.I 0),(.str []),.nil,.nil]),.dead,.dead,.dead,.dead,.dead,.row 1 (A.Keys.map AV.str),.row 5 (A.Items.map l9)]) [] [6] (fun _ => rfl) (b7m _ _ er16) rfl (.cons (.of_eq (congrArg (AV.own _ 0) (by simp))) .nil) .r rfl rfl) tr tr ?_
    refine a4r (a0f (v:=(.agg [(.I A.Kind),(.I A.N),(.str A.T),(.own 7 0 A.Keys.length),(.own 8 0 A.Items.length)])) (y':=(.agg [(.I A.Kind),(.I A.N),(.str A.T),(.own 7 0 A.Keys.length),(.own 8 0 A.Items.length)])) rfl rfl rfl tr ⟨rfl,nle⟩ ⟨⟨rfl,tr⟩,⟨⟨rfl,tr⟩,⟨⟨rfl,tr⟩,⟨⟨rfl,tr⟩,⟨⟨rfl,tr⟩,tr⟩⟩⟩⟩⟩ rfl) tr tr<|dk<|a0e<|?_;obtain rfl:=os hf;exact a2m ⟨nle,tr⟩ rfl (by decide) (leJ (x:=A) (.agg (.cons .r (.cons .r (.cons .r (.cons (.of_eq (congrArg (AV.lst _) (tk (enc:=AV.str) A.Keys))) (.cons (.of_eq (congrArg (AV.lst _) (tk (enc:=l9) A.Items))) .nil)))))))

end Go.R
