import Derived.Test.YtldahjcikmpifaaGreatG10
import Derived.WalkKit
import Derived.ProofKit
import Derived.OpenShut
import Derived.ShutString
import Derived.ChangeOld
import Derived.Below
section
set_option linter.all false
namespace Go.R
open Go Go.Proofs
set_option maxHeartbeats 8000000
def a5x (t:TypeId) (az:List AV):Prop :=
  bif Nat.beq t 67 then ∃ x:a0b,az = [(.lst 4 (x.Tables.map y9))] ∧ c1p x else
  bif Nat.beq t 65 then ∃ x:(List a0a),az = [(.lst 4 (x.map y9))] ∧ (okL (b3t)) x else
  bif Nat.beq t 231 then ∃ x:a0a,az = [(.str x.Name),(.lst 8 (x.Columns.map a0f)),(.lst 1 (x.Unique.map encI)),(.bool x.Root)] ∧ b3t x else
  bif Nat.beq t 9 then ∃ x:Str,az = [(.str x)] ∧ (okS) x else
  bif Nat.beq t 229 then ∃ x:(List x8),az = [(.lst 8 (x.map a0f))] ∧ (okL (b1l)) x else
  bif Nat.beq t 349 then ∃ x:x8,az = [(.str x.Name),(.int .i64 x.Kind),(.int .i64 x.Min),(.int .i64 x.Max),(.int .i64 x.Low),(.int .i64 x.High),(.str x.Ref),(.bool x.Strong)] ∧ b1l x else
  bif Nat.beq t 3 then ∃ x:Int,az = [(.int .i64 x)] ∧ (okI .i64) x else
  bif Nat.beq t 4 then ∃ x:Bool,az = [(.bool x)] ∧ ((fun _ => True)) x else
  bif Nat.beq t 42 then ∃ x:(List Int),az = [(.lst 1 (x.map encI))] ∧ (okL (okI .i64)) x else
  bif Nat.beq t 70 then ∃ x:a0h,az = [(.lst 1 (x.Tables.map (a0m 2 l7))),(.int .i64 x.Next)] ∧ c0i x else
  bif Nat.beq t 68 then ∃ x:(List (List a0c)),az = [(.lst 1 (x.map (a0m 2 l7)))] ∧ (okL (okL (b3e))) x else
  bif Nat.beq t 81 then ∃ x:(List a0c),az = [(.lst 2 (x.map l7))] ∧ (okL (b3e)) x else
  bif Nat.beq t 49 then ∃ x:a0c,az = [(.int .i64 x.Id),(.lst 1 (x.Cells.map (a0m 3 y8)))] ∧ b3e x else
  bif Nat.beq t 47 then ∃ x:(List (List y7)),az = [(.lst 1 (x.map (a0m 3 y8)))] ∧ (okL (okL (b0f))) x else
  bif Nat.beq t 219 then ∃ x:(List y7),az = [(.lst 3 (x.map y8))] ∧ (okL (b0f)) x else
  bif Nat.beq t 293 then ∃ x:y7,az = [(.int .i64 x.Kind),(.int .i64 x.N),(.str x.T)] ∧ b0f x else
  False
theorem e9l {az:List AV} (h:∃ x:a0b,az = [(.lst 4 (x.Tables.map y9))] ∧ c1p x):a5x 67 az:=h
theorem e9m {az:List AV} (h:∃ x:(List a0a),az = [(.lst 4 (x.map y9))] ∧ (okL (b3t)) x):a5x 65 az:=h
theorem e5k {az:List AV} (h:∃ x:a0a,az = [(.str x.Name),(.lst 8 (x.Columns.map a0f)),(.lst 1 (x.Unique.map encI)),(.bool x.Root)] ∧ b3t x):a5x 231 az:=h
theorem f1x {az:List AV} (h:∃ x:Str,az = [(.str x)] ∧ (okS) x):a5x 9 az:=h
theorem e5l {az:List AV} (h:∃ x:(List x8),az = [(.lst 8 (x.map a0f))] ∧ (okL (b1l)) x):a5x 229 az:=h
theorem e5m {az:List AV} (h:∃ x:x8,az = [(.str x.Name),(.int .i64 x.Kind),(.int .i64 x.Min),(.int .i64 x.Max),(.int .i64 x.Low),(.int .i64 x.High),(.str x.Ref),(.bool x.Strong)] ∧ b1l x):a5x 349 az:=h
theorem f1y {az:List AV} (h:∃ x:Int,az = [(.int .i64 x)] ∧ (okI .i64) x):a5x 3 az:=h
theorem f1z {az:List AV} (h:∃ x:Bool,az = [(.bool x)] ∧ ((fun _ => True)) x):a5x 4 az:=h
theorem e9n {az:List AV} (h:∃ x:(List Int),az = [(.lst 1 (x.map encI))] ∧ (okL (okI .i64)) x):a5x 42 az:=h
theorem e9o {az:List AV} (h:∃ x:a0h,az = [(.lst 1 (x.Tables.map (a0m 2 l7))),(.int .i64 x.Next)] ∧ c0i x):a5x 70 az:=h
theorem e9p {az:List AV} (h:∃ x:(List (List a0c)),az = [(.lst 1 (x.map (a0m 2 l7)))] ∧ (okL (okL (b3e))) x):a5x 68 az:=h
theorem e9q {az:List AV} (h:∃ x:(List a0c),az = [(.lst 2 (x.map l7))] ∧ (okL (b3e)) x):a5x 81 az:=h
theorem e9r {az:List AV} (h:∃ x:a0c,az = [(.int .i64 x.Id),(.lst 1 (x.Cells.map (a0m 3 y8)))] ∧ b3e x):a5x 49 az:=h
theorem e9s {az:List AV} (h:∃ x:(List (List y7)),az = [(.lst 1 (x.map (a0m 3 y8)))] ∧ (okL (okL (b0f))) x):a5x 47 az:=h
theorem e5n {az:List AV} (h:∃ x:(List y7),az = [(.lst 3 (x.map y8))] ∧ (okL (b0f)) x):a5x 219 az:=h
theorem e5o {az:List AV} (h:∃ x:y7,az = [(.int .i64 x.Kind),(.int .i64 x.N),(.str x.T)] ∧ b0f x):a5x 293 az:=h
def a5y (t:TypeId):Prop:=t ∈ [67,65,231,9,229,349,3,4,42,70,68,81,49,47,219,293]
theorem e5p:Clo Tryz.prog a5x a5y 67:=by
  refine ⟨?_⟩
  unfold b9m
  rw [Tryz.underlying67]
  refine ⟨(And.intro (by kernel_rfl) (show (_:Nat) = _ from by kernel_rfl)),by simp [a5y],fun ass h => ?_⟩
  rcases ass with _ | ⟨a0,_ | _⟩
  · exact absurd h (by simp [Fa])
  · obtain ⟨⟨x0,rfl,h0⟩,_⟩:=h
    exact e9l ⟨⟨x0⟩,rfl,h0⟩
  · exact absurd h (by simp [Fa])
theorem e5q:Clo Tryz.prog a5x a5y 65:=by
  refine ⟨?_⟩
  unfold b9m
  rw [Tryz.underlying65]
  refine ⟨by simp [a5y],true,by kernel_rfl,(of_decide_eq_true (by kernel_rfl)),.inl rfl,fun l hl h => ?_⟩
  obtain ⟨ys,rfl,hys⟩:=b9w (enc:=y9) (Q:=b3t) l (fun x hx => by
    rcases h x hx with ⟨_,az,rfl,y,rfl,hy⟩ | ⟨h,_⟩
    · exact ⟨y,rfl,hy⟩
    · cases h)
  rw [List.length_map] at hl
  have hc:Tryz.prog.cellsOf 231 = 4:=by kernel_rfl
  rw [hc]
  exact e9m ⟨ys,rfl,hl,hys⟩
theorem e2e:Clo Tryz.prog a5x a5y 231:=by
  refine ⟨?_⟩
  unfold b9m
  rw [Tryz.underlying231]
  refine ⟨(And.intro (by kernel_rfl) (And.intro (by kernel_rfl) (And.intro (by kernel_rfl) (And.intro (by kernel_rfl) (show (_:Nat) = _ from by kernel_rfl))))),by simp [a5y],fun ass h => ?_⟩
  rcases ass with _ | ⟨a0,_ | ⟨a1,_ | ⟨a2,_ | ⟨a3,_ | _⟩⟩⟩⟩
  · exact absurd h (by simp [Fa])
  · exact absurd h (by simp [Fa])
  · exact absurd h (by simp [Fa])
  · exact absurd h (by simp [Fa])
  · obtain ⟨⟨x0,rfl,h0⟩,⟨x1,rfl,h1⟩,⟨x2,rfl,h2⟩,⟨x3,rfl,h3⟩,_⟩:=h
    exact e5k ⟨⟨x0,x1,x2,x3⟩,rfl,⟨h0,h1,h2,h3⟩⟩
  · exact absurd h (by simp [Fa])
theorem e9t:Clo Tryz.prog a5x a5y 9:=by
  refine ⟨?_⟩
  unfold b9m
  rw [Tryz.underlying9]
  exact fun s h => f1x ⟨s,rfl,h⟩
theorem e2f:Clo Tryz.prog a5x a5y 229:=by
  refine ⟨?_⟩
  unfold b9m
  rw [Tryz.underlying229]
  refine ⟨by simp [a5y],true,by kernel_rfl,(of_decide_eq_true (by kernel_rfl)),.inl rfl,fun l hl h => ?_⟩
  obtain ⟨ys,rfl,hys⟩:=b9w (enc:=a0f) (Q:=b1l) l (fun x hx => by
    rcases h x hx with ⟨_,az,rfl,y,rfl,hy⟩ | ⟨h,_⟩
    · exact ⟨y,rfl,hy⟩
    · cases h)
  rw [List.length_map] at hl
  have hc:Tryz.prog.cellsOf 349 = 8:=by kernel_rfl
  rw [hc]
  exact e5l ⟨ys,rfl,hl,hys⟩
theorem e2g:Clo Tryz.prog a5x a5y 349:=by
  refine ⟨?_⟩
  unfold b9m
  rw [Tryz.underlying349]
  refine ⟨(And.intro (by kernel_rfl) (And.intro (by kernel_rfl) (And.intro (by kernel_rfl) (And.intro (by kernel_rfl) (And.intro (by kernel_rfl) (And.intro (by kernel_rfl) (And.intro (by kernel_rfl) (And.intro (by kernel_rfl) (show (_:Nat) = _ from by kernel_rfl))))))))),by simp [a5y],fun ass h => ?_⟩
  rcases ass with _ | ⟨a0,_ | ⟨a1,_ | ⟨a2,_ | ⟨a3,_ | ⟨a4,_ | ⟨a5,_ | ⟨a6,_ | ⟨a7,_ | _⟩⟩⟩⟩⟩⟩⟩⟩
  · exact absurd h (by simp [Fa])
  · exact absurd h (by simp [Fa])
  · exact absurd h (by simp [Fa])
  · exact absurd h (by simp [Fa])
  · exact absurd h (by simp [Fa])
  · exact absurd h (by simp [Fa])
  · exact absurd h (by simp [Fa])
  · exact absurd h (by simp [Fa])
  · obtain ⟨⟨x0,rfl,h0⟩,⟨x1,rfl,h1⟩,⟨x2,rfl,h2⟩,⟨x3,rfl,h3⟩,⟨x4,rfl,h4⟩,⟨x5,rfl,h5⟩,⟨x6,rfl,h6⟩,⟨x7,rfl,h7⟩,_⟩:=h
    exact e5m ⟨⟨x0,x1,x2,x3,x4,x5,x6,x7⟩,rfl,⟨h0,h1,h2,h3,h4,h5,h6,h7⟩⟩
  · exact absurd h (by simp [Fa])
theorem e9u:Clo Tryz.prog a5x a5y 3:=by
  refine ⟨?_⟩
  unfold b9m
  rw [Tryz.underlying3]
  exact fun n h => f1y ⟨n,rfl,h⟩
theorem e9v:Clo Tryz.prog a5x a5y 4:=by
  refine ⟨?_⟩
  unfold b9m
  rw [Tryz.underlying4]
  exact fun b => f1z ⟨b,rfl,trivial⟩
theorem e5r:Clo Tryz.prog a5x a5y 42:=by
  refine ⟨?_⟩
  unfold b9m
  rw [Tryz.underlying42]
  refine ⟨by simp [a5y],false,by kernel_rfl,(of_decide_eq_true (by kernel_rfl)),.inr (by kernel_rfl),fun l hl h => ?_⟩
  obtain ⟨ys,rfl,hys⟩:=b9w (enc:=encI) (Q:=okI .i64) l (fun x hx => by
    rcases h x hx with ⟨h,_⟩ | ⟨_,y,hy,hy2⟩
    · cases h
    · simp only [List.cons.injEq,and_true] at hy
      exact ⟨y,hy,hy2⟩)
  rw [List.length_map] at hl
  have hc:Tryz.prog.cellsOf 3 = 1:=by kernel_rfl
  rw [hc]
  exact e9n ⟨ys,rfl,hl,hys⟩
theorem e5s:Clo Tryz.prog a5x a5y 70:=by
  refine ⟨?_⟩
  unfold b9m
  rw [Tryz.underlying70]
  refine ⟨(And.intro (by kernel_rfl) (And.intro (by kernel_rfl) (show (_:Nat) = _ from by kernel_rfl))),by simp [a5y],fun ass h => ?_⟩
  rcases ass with _ | ⟨a0,_ | ⟨a1,_ | _⟩⟩
  · exact absurd h (by simp [Fa])
  · exact absurd h (by simp [Fa])
  · obtain ⟨⟨x0,rfl,h0⟩,⟨x1,rfl,h1⟩,_⟩:=h
    exact e9o ⟨⟨x0,x1⟩,rfl,⟨h0,h1⟩⟩
  · exact absurd h (by simp [Fa])
theorem e5t:Clo Tryz.prog a5x a5y 68:=by
  refine ⟨?_⟩
  unfold b9m
  rw [Tryz.underlying68]
  refine ⟨by simp [a5y],false,by kernel_rfl,(of_decide_eq_true (by kernel_rfl)),.inr (by kernel_rfl),fun l hl h => ?_⟩
  obtain ⟨ys,rfl,hys⟩:=b9w (enc:=(a0m 2 l7)) (Q:=okL (b3e)) l (fun x hx => by
    rcases h x hx with ⟨h,_⟩ | ⟨_,y,hy,hy2⟩
    · cases h
    · simp only [List.cons.injEq,and_true] at hy
      exact ⟨y,hy,hy2⟩)
  rw [List.length_map] at hl
  have hc:Tryz.prog.cellsOf 81 = 1:=by kernel_rfl
  rw [hc]
  exact e9p ⟨ys,rfl,hl,hys⟩
theorem e5u:Clo Tryz.prog a5x a5y 81:=by
  refine ⟨?_⟩
  unfold b9m
  rw [Tryz.underlying81]
  refine ⟨by simp [a5y],true,by kernel_rfl,(of_decide_eq_true (by kernel_rfl)),.inl rfl,fun l hl h => ?_⟩
  obtain ⟨ys,rfl,hys⟩:=b9w (enc:=l7) (Q:=b3e) l (fun x hx => by
    rcases h x hx with ⟨_,az,rfl,y,rfl,hy⟩ | ⟨h,_⟩
    · exact ⟨y,rfl,hy⟩
    · cases h)
  rw [List.length_map] at hl
  have hc:Tryz.prog.cellsOf 49 = 2:=by kernel_rfl
  rw [hc]
  exact e9q ⟨ys,rfl,hl,hys⟩
theorem e5v:Clo Tryz.prog a5x a5y 49:=by
  refine ⟨?_⟩
  unfold b9m
  rw [Tryz.underlying49]
  refine ⟨(And.intro (by kernel_rfl) (And.intro (by kernel_rfl) (show (_:Nat) = _ from by kernel_rfl))),by simp [a5y],fun ass h => ?_⟩
  rcases ass with _ | ⟨a0,_ | ⟨a1,_ | _⟩⟩
  · exact absurd h (by simp [Fa])
  · exact absurd h (by simp [Fa])
  · obtain ⟨⟨x0,rfl,h0⟩,⟨x1,rfl,h1⟩,_⟩:=h
    exact e9r ⟨⟨x0,x1⟩,rfl,⟨h0,h1⟩⟩
  · exact absurd h (by simp [Fa])
theorem e5w:Clo Tryz.prog a5x a5y 47:=by
  refine ⟨?_⟩
  unfold b9m
  rw [Tryz.underlying47]
  refine ⟨by simp [a5y],false,by kernel_rfl,(of_decide_eq_true (by kernel_rfl)),.inr (by kernel_rfl),fun l hl h => ?_⟩
  obtain ⟨ys,rfl,hys⟩:=b9w (enc:=(a0m 3 y8)) (Q:=okL (b0f)) l (fun x hx => by
    rcases h x hx with ⟨h,_⟩ | ⟨_,y,hy,hy2⟩
    · cases h
    · simp only [List.cons.injEq,and_true] at hy
      exact ⟨y,hy,hy2⟩)
  rw [List.length_map] at hl
  have hc:Tryz.prog.cellsOf 219 = 1:=by kernel_rfl
  rw [hc]
  exact e9s ⟨ys,rfl,hl,hys⟩
theorem e2h:Clo Tryz.prog a5x a5y 219:=by
  refine ⟨?_⟩
  unfold b9m
  rw [Tryz.underlying219]
  refine ⟨by simp [a5y],true,by kernel_rfl,(of_decide_eq_true (by kernel_rfl)),.inl rfl,fun l hl h => ?_⟩
  obtain ⟨ys,rfl,hys⟩:=b9w (enc:=y8) (Q:=b0f) l (fun x hx => by
    rcases h x hx with ⟨_,az,rfl,y,rfl,hy⟩ | ⟨h,_⟩
    · exact ⟨y,rfl,hy⟩
    · cases h)
  rw [List.length_map] at hl
  have hc:Tryz.prog.cellsOf 293 = 3:=by kernel_rfl
  rw [hc]
  exact e5n ⟨ys,rfl,hl,hys⟩
theorem e2i:Clo Tryz.prog a5x a5y 293:=by
  refine ⟨?_⟩
  unfold b9m
  rw [Tryz.underlying293]
  refine ⟨(And.intro (by kernel_rfl) (And.intro (by kernel_rfl) (And.intro (by kernel_rfl) (show (_:Nat) = _ from by kernel_rfl)))),by simp [a5y],fun ass h => ?_⟩
  rcases ass with _ | ⟨a0,_ | ⟨a1,_ | ⟨a2,_ | _⟩⟩⟩
  · exact absurd h (by simp [Fa])
  · exact absurd h (by simp [Fa])
  · exact absurd h (by simp [Fa])
  · obtain ⟨⟨x0,rfl,h0⟩,⟨x1,rfl,h1⟩,⟨x2,rfl,h2⟩,_⟩:=h
    exact e5o ⟨⟨x0,x1,x2⟩,rfl,⟨h0,h1,h2⟩⟩
  · exact absurd h (by simp [Fa])
theorem e9w:∀ t,a5y t → Clo Tryz.prog a5x a5y t:=by
  intro t ht
  rcases List.mem_cons.1 ht with h | ht
  · rw [h]; exact e5p
  rcases List.mem_cons.1 ht with h | ht
  · rw [h]; exact e5q
  rcases List.mem_cons.1 ht with h | ht
  · rw [h]; exact e2e
  rcases List.mem_cons.1 ht with h | ht
  · rw [h]; exact e9t
  rcases List.mem_cons.1 ht with h | ht
  · rw [h]; exact e2f
  rcases List.mem_cons.1 ht with h | ht
  · rw [h]; exact e2g
  rcases List.mem_cons.1 ht with h | ht
  · rw [h]; exact e9u
  rcases List.mem_cons.1 ht with h | ht
  · rw [h]; exact e9v
  rcases List.mem_cons.1 ht with h | ht
  · rw [h]; exact e5r
  rcases List.mem_cons.1 ht with h | ht
  · rw [h]; exact e5s
  rcases List.mem_cons.1 ht with h | ht
  · rw [h]; exact e5t
  rcases List.mem_cons.1 ht with h | ht
  · rw [h]; exact e5u
  rcases List.mem_cons.1 ht with h | ht
  · rw [h]; exact e5v
  rcases List.mem_cons.1 ht with h | ht
  · rw [h]; exact e5w
  rcases List.mem_cons.1 ht with h | ht
  · rw [h]; exact e2h
  rcases List.mem_cons.1 ht with h | ht
  · rw [h]; exact e2i
  exact absurd ht List.not_mem_nil
end Go.R
namespace Go.Proofs.YtldahjcikmpifaaGreat.fnExactPrune
open Go.ChangeShapes Go.WideShapes Go.ChangeAt Go.RowKit Go.R
open Go.ChangeMaps (open_string shut_string)
theorem own:ownKnob Tryz.prog.godebug = none:=by kernel_rfl
theorem laidOut:laidOutB Tryz.prog = true:=by kernel_rfl
set_option maxRecDepth 100000 in
theorem lifted (os:Os) (started:os.Started) (H:Type) (enc:TypeId × Value → H) :
    ReturnsInHanded {} Tryz.checked os 5 .any (Rows.fnExactPruneSpec.pre6 enc Tryz.prog Tryz.f5 Rows.fnExactPruneRow.domain false) (Rows.fnExactPruneSpec.post enc Tryz.prog Tryz.f5 false true false false):=by
  refine returnsInHanded_of_change (C:=Tryz.checked) own started (by kernel_rfl) Tryz.func5
    (ChangeSpec.witness6 (enc:=enc) (C:=Tryz.checked) false ⟨#[],#[.agg #[.slice none 0 0],.agg #[.slice none 0 0,.int .i64 0]],[]⟩ 8 (by kernel_rfl) (by kernel_rfl) (by kernel_rfl) (by kernel_rfl)) ?_
  intro W base args ds gs before hval0 hW hcnd _
  have hval:∀ (j:Nat) t v,Tryz.f5.params[j]? = some t → args[j]? = some v → Value.okWide Tryz.prog W .any base t v:=hval0
  have hW':=hW
  obtain ⟨p,q,hA0,hV,rfl,hfz,hnd⟩:=hW
  have hA:DataW.TrodAll enc Tryz.prog W 0 (fun _ => true) true Tryz.f5.params.toList args.toList ds p:=hA0
  rw [Tryz.params5] at hA hval
  obtain ⟨v0,vs0,d0,ds0,p0,q0,hargs,rfl,rfl,h0,r0⟩:=trodAll_cons hA
  obtain ⟨v1,vs1,d1,ds1,p1,q1,rfl,rfl,rfl,h1,r1⟩:=trodAll_cons r0
  obtain ⟨rfl,rfl,rfl⟩:=trodAll_nil r1
  obtain rfl:args = #[v0,v1]:=by cases args; simp_all
  obtain ⟨rfl,rfl⟩:=trodVars_none hV
  have k0:=h0
  have lt0:∀ x ∈ p0,x.block < W.heap.size:=by obtain ⟨m,hm⟩:=k0; exact DataW.trod_lt m _ _ _ hm
  obtain ⟨az0,fp0,g0,t0⟩:=f2g e9w Tryz.underlying67 (by simp [a5y]) (hval 0 67 v0 rfl rfl) h0
  obtain ⟨x0,rfl,ok0⟩:=t0
  have k1:=h1
  have lt1:∀ x ∈ p1,x.block < W.heap.size:=by obtain ⟨m,hm⟩:=k1; exact DataW.trod_lt m _ _ _ hm
  obtain ⟨az1,fp1,g1,t1⟩:=f2g e9w Tryz.underlying70 (by simp [a5y]) (hval 1 70 v1 rfl rfl) h1
  obtain ⟨x1,rfl,ok1⟩:=t1
  clear hA0 hval0
  have hc:=w_laws_FnExactPrune x0 x1 true (c7j x0 x1 ok0 ok1)
  refine (e3w hc (a0z.cons g0 (a0z.cons g1 a0z.nil))).mono fun e W' ⟨he,bel⟩ => ?_
  subst he
  exact ⟨_,rfl,_,_,_,[],_,[],hW',trodAll_mk1 (shut_bool Tryz.underlying4 _),(trodAll_cons_mk (Below.trod laidOut (by kernel_rfl) (of_decide_eq_true (by kernel_rfl)) k0 bel lt0) (trodAll_cons_mk (Below.trod laidOut (by kernel_rfl) (of_decide_eq_true (by kernel_rfl)) k1 bel lt1) trodAll_mk0)),rfl,bel.frame _,fun h => by cases h⟩
theorem b3g {a b:Bool} (h:a = true) (g:b = true):(a && b) = true:=by rw [h,g]; rfl
theorem j0:(Rows.fnExactPruneRow.wf (OpenSpec.ofChange Rows.fnExactPruneSpec)) = true:=by kernel_rfl
theorem j1:(laidOutB Tryz.prog) = true:=laidOut
theorem j2:(mapsRowed Tryz.prog) = true:=by kernel_rfl
theorem j3:(Tryz.f5.params.all (Program.readableRec Tryz.prog ·)) = true:=by kernel_rfl
theorem j4:(namedTie Tryz.prog Rows.fnExactPruneRow.named Rows.fnExactPruneSpec.vars) = true:=by kernel_rfl
theorem j5:((Rows.fnExactPruneRow.stops == [])) = true:=by kernel_rfl
theorem j6:((Tryz.prog.stops == [])) = true:=by kernel_rfl
theorem j7:((Rows.fnExactPruneRow.knobs == [])) = true:=by kernel_rfl
theorem j8:((Tryz.prog.stopKnobs == [])) = true:=by kernel_rfl
theorem j9:((Rows.fnExactPruneRow.inPlace == Tryz.prog.inPlace 5)) = true:=by kernel_rfl
theorem j10:((Rows.fnExactPruneRow.unfollowed == Tryz.prog.unfollowed 5)) = true:=by kernel_rfl
theorem j11:((Rows.fnExactPruneRow.recurses == Tryz.prog.recurses 5)) = true:=by kernel_rfl
theorem j12:((Rows.fnExactPruneRow.named == Tryz.prog.varsNamed 5)) = true:=by kernel_rfl
theorem j13:((Rows.fnExactPruneRow.maps == (Tryz.f5.params.toList ++ Rows.fnExactPruneSpec.plain.varTypes Tryz.prog).any (Tryz.prog.mapsRec ·))) = true:=by kernel_rfl
theorem j14:((Rows.fnExactPruneRow.ifaces == (Tryz.f5.params.toList ++ Rows.fnExactPruneSpec.plain.varTypes Tryz.prog).any (Tryz.prog.ifacesRec ·))) = true:=by kernel_rfl
theorem j15:((Rows.fnExactPruneRow.mapsOut == Tryz.prog.mapsAmong Tryz.f5.resultTypes.toList)) = true:=by kernel_rfl
theorem j16:((Rows.fnExactPruneRow.loops == (Tryz.f5.params.toList ++ Rows.fnExactPruneSpec.plain.varTypes Tryz.prog).any (Tryz.prog.loopsFrom ·))) = true:=by kernel_rfl
theorem j17:((Rows.fnExactPruneRow.wideKeys == (Tryz.f5.params.toList ++ Rows.fnExactPruneSpec.plain.varTypes Tryz.prog ++ Tryz.f5.resultTypes.toList).any (Tryz.prog.wideKeysFrom ·))) = true:=by kernel_rfl
theorem j18:(Rows.fnExactPruneSpec.vars.all (Tryz.prog.varReadable ·)) = true:=by kernel_rfl
theorem j19:(Tryz.f5.resultTypes.all (fun t => Tryz.prog.readableRec t && decide (t < Tryz.prog.types.size))) = true:=by kernel_rfl
theorem j20:((Rows.fnExactPruneRow.ifacesOut == Tryz.f5.resultTypes.toList.any (Tryz.prog.ifacesRec ·))) = true:=by kernel_rfl
theorem j21:((Rows.fnExactPruneRow.loopsOut == Tryz.f5.resultTypes.toList.any (Tryz.prog.loopsFrom ·))) = true:=by kernel_rfl
theorem j22:((Rows.fnExactPruneRow.plainKeys == Tryz.prog.plainKeys)) = true:=by kernel_rfl
theorem j23:(Rows.fnExactPruneRow.shortTexts.isNone) = true:=by kernel_rfl
theorem j24:(Tryz.prog.stopsHeard) = true:=by kernel_rfl
theorem j25:(Tryz.prog.mayEnter) = true:=by kernel_rfl
theorem j26:((Rows.fnExactPruneRow.lifted == Tryz.prog.liftsFinal)) = true:=by kernel_rfl
theorem j27:((Tryz.prog.make == some Rows.fnExactPruneRow.make)) = true:=by kernel_rfl
theorem j28:((Rows.fnExactPruneRow.kinds == (if Rows.fnExactPruneRow.domain.isEmpty then [] else Tryz.f5.params.toList.map fun t => match Tryz.prog.underlying t with | some (.int k) => some k | _ => none))) = true:=by kernel_rfl
theorem j29:((Rows.fnExactPruneRow.pinned == Rows.fnExactPruneRow.pinnedBy)) = true:=by kernel_rfl
theorem j30:((Rows.fnExactPruneRow.veiled == (Tryz.f5.params.toList ++ Rows.fnExactPruneSpec.plain.varTypes Tryz.prog ++ Tryz.f5.resultTypes.toList).any (Tryz.prog.veiledRec ·))) = true:=by kernel_rfl
theorem j31:(Rows.fnExactPruneRow.veiledFits Tryz.prog Tryz.f5.params.toList (Tryz.f5.params.toList ++ Rows.fnExactPruneSpec.plain.varTypes Tryz.prog ++ Tryz.f5.resultTypes.toList)) = true:=by kernel_rfl
set_option maxRecDepth 100000 in
theorem closed:joinedFacts Tryz.prog 5 Tryz.f5 Rows.fnExactPruneSpec Rows.fnExactPruneRow = true:=(b3g (b3g (b3g (b3g (b3g (b3g (b3g (b3g (b3g (b3g (b3g (b3g (b3g (b3g (b3g (b3g (b3g (b3g (b3g (b3g (b3g (b3g (b3g (b3g (b3g (b3g (b3g (b3g (b3g (b3g (b3g j0 j1) j2) j3) j4) j5) j6) j7) j8) j9) j10) j11) j12) j13) j14) j15) j16) j17) j18) j19) j20) j21) j22) j23) j24) j25) j26) j27) j28) j29) j30) j31)
theorem named:Tryz.prog.funcNamed Rows.fnExactPruneRow.func = some 5:=by kernel_rfl
theorem inst:Tryz.f5.isInstance Tryz.prog Rows.fnExactPruneRow.origin Rows.fnExactPruneRow.targs:=of_decide_eq_true (by kernel_rfl)
theorem wrap:Tryz.f5.isWrapper Tryz.prog Rows.fnExactPruneRow.wrapper Rows.fnExactPruneRow.mainSum:=by unfold Func.isWrapper; first | (rw [if_pos (by decide +kernel)]; kernel_rfl) | (rw [if_neg (by decide +kernel)]; exact ⟨rfl,rfl⟩)
theorem over:Rows.fnExactPruneRow.holds Tryz.pinned (OpenSpec.ofChange Rows.fnExactPruneSpec) :=
  OpenClaim.holds_of_wide 5 Tryz.f5 rfl rfl rfl rfl rfl rfl rfl ⟨rfl,rfl,rfl,rfl,rfl⟩ rfl rfl rfl rfl rfl named Tryz.func5 closed inst wrap
    (fun os started H enc _ => lifted os started H enc)
theorem proved:Rows.FnExactPruneSaid:=over
#print axioms proved
end Go.Proofs.YtldahjcikmpifaaGreat.fnExactPrune
end
