/- Part of the proof. -/
import Derived.Test.YtldahjcikmpifaaGreatG21
import Derived.Test.YtldahjcikmpifaaGreatG22
import Derived.Test.YtldahjcikmpifaaGreatG23

section
set_option linter.all false
namespace Go.R
open Go Go.Proofs
set_option maxRecDepth 100000
set_option maxHeartbeats 8000000
instance w_spec_l09Prune (s:a0b) (x:x9) (r:x9):Wf Tryz.prog (b1j s x = some r) 108 [(a3w s),(a0u x)] (a0u r):=⟨fun hf => by
  unfold b1j at hf
  obtain ⟨q,eq,hf⟩:=ob hf
  obtain rfl:=os hf
  have h:=e4w (nx:=x.Next) (fun ts i id n h => ?_) (fun ts ts' h => ?_) (fun rows N p h => ?_) (fun rf f h => ?_) eq
  · rw [← d8f,← e4y,← d8e] at h
    exact h
  · have:=w_spec_l05Strong _ _ _ _ _ h
    rw [d8f,d8e] at this
    exact this
  · obtain ⟨y,ey,h⟩:=ob h
    split at h
    · rename_i hn
      obtain rfl:=os h
      have:=w_spec_l05Own _ _ ey
      rw [d8e] at this
      obtain ⟨yt,yn⟩:=y
      simp only at hn
      subst hn
      rw [e4y] at this
      exact this
    · cases h
  · have:=w_spec_l05Place _ _ _ h
    rw [← e4x] at this
    exact this
  · have:=w_spec_l04Find _ _ _ h
    rw [d8f] at this
    exact this⟩
instance w_spec_l00Src_chance_h2 (B:Int) (A:o8) (r:(Bool × o8)):Wh Tryz.prog (a0r B A = some r) false 238 [(.ptr 0 0 0),(.int .i64 B)] [.box 3 (.agg [(.lst 1 (A.Code.map a0h)),(.int .i64 A.At),(.int .i64 A.Seed)])] (.bool r.1) [.box 3 (.agg [(.lst 1 (r.2.Code.map a0h)),(.int .i64 r.2.At),(.int .i64 r.2.Seed)])]:=⟨fun hf => by
 unfold a0r at hf;refine b3b [] [] Tryz.func238 ?_;exact Z⟩
instance w_spec_l00Src_pick_h1 (A:(List Str)) (B:o8) (r:(Str × o8)):Wh Tryz.prog (a2y A B = some r) false 303 [(.ptr 0 0 0),(.lst 1 (A.map AV.str))] [.box 3 (.agg [(.lst 1 (B.Code.map a0h)),(.int .i64 B.At),(.int .i64 B.Seed)])] (.str r.1) [.box 3 (.agg [(.lst 1 (r.2.Code.map a0h)),(.int .i64 r.2.At),(.int .i64 r.2.Seed)])]:=⟨fun hf => by
 unfold a2y at hf;refine b3b [] [] Tryz.func303 ?_;exact Z⟩
instance w_impl_Store_tableCode (B:x9) (A:Int) (r:Int):Wk Tryz.prog (a3j B A = some r) 142 [(a0u B),(.int .i64 A)] (.int .i64 r):=⟨fun hf => by
 unfold a3j at hf;refine coA [] [] Tryz.func142 ?_;exact Z⟩
instance w_impl_copyRows (A:(List o5)) (r:(List o5)):Wf Tryz.prog (b1l A = some r) 242 [(.lst 2 (A.map o6))] (.lst 2 (r.map o6)):=⟨fun hf => by
 unfold b1l at hf;refine coA [7,21] [zN1 [7,8] fun i (v:(List o5)) => (fun _ _ _ _ _ => ([(3,(.own 0 0 v.length)),(9,(.int .i64 (i:Int)))],some [.row 2 (v.map o6)])),cZ [] fun v:(List o5) => (fun _ _ _ _ _ => ([(3,(.own 0 0 v.length))],some [.row 2 (v.map o6)]))] Tryz.func242 ?_;exact Z⟩
instance w_impl_rowAt_1 (B:o5) (A:Int) (r:Int):Wk Tryz.prog (a7p B A = some r) 248 [(o6 B),(.int .i64 A)] (.int .i64 r):=⟨fun hf => by
 unfold a7p at hf;refine coA [] [] Tryz.func248 ?_;exact Z⟩
instance c_impl_rowAt_1 :K2 Tryz.prog a7p (fun a0 => (o6 a0)) (fun a1 => (.int .i64 a1)) (fun r => (.int .i64 r)) 248 []:={hp:=fun a0 a1 r h => w_impl_rowAt_1 a0 a1 r h}
instance w_impl_rowAt (A:(List o5)) (B:Int) (r:(Int × Bool)):Wk Tryz.prog (b1y A B = some r) 150 [(.lst 2 (A.map o6)),(.int .i64 B)] (.tup [(.int .i64 r.1),(.bool r.2)]):=⟨fun hf => by
 unfold b1y at hf;refine coA [] [] Tryz.func150 ?_;exact Z⟩
instance w_impl_rowAt_1_h0 (D:Int) (A:(List (List o7))) (B:Int) (r:Int):Wh Tryz.prog (a6y D A B = some r) ⟨true,true,false⟩ 248 [(.agg [(.int .i64 D),(.own 0 0 A.length)]),(.int .i64 B)] [.row 1 (A.map (a1f 3 l9))] (.int .i64 r) [.row 1 (A.map (a1f 3 l9))]:=⟨fun hf => by
 unfold a6y at hf;refine b3b [] [] Tryz.func248 ?_;exact Z⟩
end Go.R
end
