/- 'FnExactApplyChanges': for every input the law returns true, and each argument reads behind the call as it read before. No condition. -/
import Derived.Test.YthneidgpgfgecaaACHL
import Derived.WalkKit
import Derived.ProofKit
import Derived.OpenShut
import Derived.ShutString
import Derived.ChangeOld
import Derived.Below
set_option linter.all false
namespace Go.R
open Go Go.Proofs
set_option linter.unusedSimpArgs false
set_option maxHeartbeats 8000000
def a8u (t:TypeId) (az:List AV):Prop :=
  bif Nat.beq t 39 then ∃ x:a0l,az = [(.lst 1 (x.Tables.map (o7 2 o5))),(.int .i64 x.Next)] ∧ b9n x else
  bif Nat.beq t 37 then ∃ x:(List (List x8)),az = [(.lst 1 (x.map (o7 2 o5)))] ∧ (okL (okL (a9i))) x else
  bif Nat.beq t 22 then ∃ x:(List x8),az = [(.lst 2 (x.map o5))] ∧ (okL (a9i)) x else
  bif Nat.beq t 62 then ∃ x:x8,az = [(.int .i64 x.Id),(.lst 1 (x.Cells.map (o7 3 l7)))] ∧ a9i x else
  bif Nat.beq t 3 then ∃ x:Int,az = [(.int .i64 x)] ∧ (okI .i64) x else
  bif Nat.beq t 60 then ∃ x:(List (List a0c)),az = [(.lst 1 (x.map (o7 3 l7)))] ∧ (okL (okL (a7x))) x else
  bif Nat.beq t 125 then ∃ x:(List a0c),az = [(.lst 3 (x.map l7))] ∧ (okL (a7x)) x else
  bif Nat.beq t 142 then ∃ x:a0c,az = [(.int .i64 x.Kind),(.int .i64 x.N),(.str x.T)] ∧ a7x x else
  bif Nat.beq t 9 then ∃ x:Str,az = [(.str x)] ∧ (okS) x else
  bif Nat.beq t 40 then ∃ x:(List a0a),az = [(.lst 6 (x.map o8))] ∧ (okL (a8x)) x else
  bif Nat.beq t 91 then ∃ x:a0a,az = [(.int .i64 x.Table),(.int .i64 x.Id),(.int .i64 x.Old.Id),(.lst 1 (x.Old.Cells.map (o7 3 l7))),(.int .i64 x.New.Id),(.lst 1 (x.New.Cells.map (o7 3 l7)))] ∧ a8x x else
  False
theorem d8q {az:List AV} (h:∃ x:a0l,az = [(.lst 1 (x.Tables.map (o7 2 o5))),(.int .i64 x.Next)] ∧ b9n x):a8u 39 az:=h
theorem d8r {az:List AV} (h:∃ x:(List (List x8)),az = [(.lst 1 (x.map (o7 2 o5)))] ∧ (okL (okL (a9i))) x):a8u 37 az:=h
theorem d8s {az:List AV} (h:∃ x:(List x8),az = [(.lst 2 (x.map o5))] ∧ (okL (a9i)) x):a8u 22 az:=h
theorem d8t {az:List AV} (h:∃ x:x8,az = [(.int .i64 x.Id),(.lst 1 (x.Cells.map (o7 3 l7)))] ∧ a9i x):a8u 62 az:=h
theorem e0y {az:List AV} (h:∃ x:Int,az = [(.int .i64 x)] ∧ (okI .i64) x):a8u 3 az:=h
theorem d8u {az:List AV} (h:∃ x:(List (List a0c)),az = [(.lst 1 (x.map (o7 3 l7)))] ∧ (okL (okL (a7x))) x):a8u 60 az:=h
theorem d5g {az:List AV} (h:∃ x:(List a0c),az = [(.lst 3 (x.map l7))] ∧ (okL (a7x)) x):a8u 125 az:=h
theorem d5h {az:List AV} (h:∃ x:a0c,az = [(.int .i64 x.Kind),(.int .i64 x.N),(.str x.T)] ∧ a7x x):a8u 142 az:=h
theorem e0z {az:List AV} (h:∃ x:Str,az = [(.str x)] ∧ (okS) x):a8u 9 az:=h
theorem d8v {az:List AV} (h:∃ x:(List a0a),az = [(.lst 6 (x.map o8))] ∧ (okL (a8x)) x):a8u 40 az:=h
theorem d8w {az:List AV} (h:∃ x:a0a,az = [(.int .i64 x.Table),(.int .i64 x.Id),(.int .i64 x.Old.Id),(.lst 1 (x.Old.Cells.map (o7 3 l7))),(.int .i64 x.New.Id),(.lst 1 (x.New.Cells.map (o7 3 l7)))] ∧ a8x x):a8u 91 az:=h
def a8a (t:TypeId):Prop:=t ∈ [39,37,22,62,3,60,125,142,9,40,91]
theorem d5i:Clo Try.prog a8u a8a 39:=by
  refine ⟨?_⟩
  unfold b9j
  rw [Try.underlying39]
  refine ⟨(And.intro (by kernel_rfl) (And.intro (by kernel_rfl) (show (_:Nat) = _ from by kernel_rfl))),by simp [a8a],fun ass h => ?_⟩
  rcases ass with _ | ⟨a0,_ | ⟨a1,_ | _⟩⟩
  · exact absurd h (by simp [Fa])
  · exact absurd h (by simp [Fa])
  · obtain ⟨⟨x0,rfl,h0⟩,⟨x1,rfl,h1⟩,_⟩:=h
    exact d8q ⟨⟨x0,x1⟩,rfl,⟨h0,h1⟩⟩
  · exact absurd h (by simp [Fa])
theorem d5j:Clo Try.prog a8u a8a 37:=by
  refine ⟨?_⟩
  unfold b9j
  rw [Try.underlying37]
  refine ⟨by simp [a8a],false,by kernel_rfl,(of_decide_eq_true (by kernel_rfl)),.inr (by kernel_rfl),fun l hl h => ?_⟩
  obtain ⟨ys,rfl,hys⟩:=c0q (enc:=(o7 2 o5)) (Q:=okL (a9i)) l (fun x hx => by
    rcases h x hx with ⟨h,_⟩ | ⟨_,y,hy,hy2⟩
    · cases h
    · simp only [List.cons.injEq,and_true] at hy
      exact ⟨y,hy,hy2⟩)
  rw [List.length_map] at hl
  have hc:Try.prog.cellsOf 22 = 1:=by kernel_rfl
  rw [hc]
  exact d8r ⟨ys,rfl,hl,hys⟩
theorem d5k:Clo Try.prog a8u a8a 22:=by
  refine ⟨?_⟩
  unfold b9j
  rw [Try.underlying22]
  refine ⟨by simp [a8a],true,by kernel_rfl,(of_decide_eq_true (by kernel_rfl)),.inl rfl,fun l hl h => ?_⟩
  obtain ⟨ys,rfl,hys⟩:=c0q (enc:=o5) (Q:=a9i) l (fun x hx => by
    rcases h x hx with ⟨_,az,rfl,y,rfl,hy⟩ | ⟨h,_⟩
    · exact ⟨y,rfl,hy⟩
    · cases h)
  rw [List.length_map] at hl
  have hc:Try.prog.cellsOf 62 = 2:=by kernel_rfl
  rw [hc]
  exact d8s ⟨ys,rfl,hl,hys⟩
theorem d5l:Clo Try.prog a8u a8a 62:=by
  refine ⟨?_⟩
  unfold b9j
  rw [Try.underlying62]
  refine ⟨(And.intro (by kernel_rfl) (And.intro (by kernel_rfl) (show (_:Nat) = _ from by kernel_rfl))),by simp [a8a],fun ass h => ?_⟩
  rcases ass with _ | ⟨a0,_ | ⟨a1,_ | _⟩⟩
  · exact absurd h (by simp [Fa])
  · exact absurd h (by simp [Fa])
  · obtain ⟨⟨x0,rfl,h0⟩,⟨x1,rfl,h1⟩,_⟩:=h
    exact d8t ⟨⟨x0,x1⟩,rfl,⟨h0,h1⟩⟩
  · exact absurd h (by simp [Fa])
theorem d8x:Clo Try.prog a8u a8a 3:=by
  refine ⟨?_⟩
  unfold b9j
  rw [Try.underlying3]
  exact fun n h => e0y ⟨n,rfl,h⟩
theorem d5m:Clo Try.prog a8u a8a 60:=by
  refine ⟨?_⟩
  unfold b9j
  rw [Try.underlying60]
  refine ⟨by simp [a8a],false,by kernel_rfl,(of_decide_eq_true (by kernel_rfl)),.inr (by kernel_rfl),fun l hl h => ?_⟩
  obtain ⟨ys,rfl,hys⟩:=c0q (enc:=(o7 3 l7)) (Q:=okL (a7x)) l (fun x hx => by
    rcases h x hx with ⟨h,_⟩ | ⟨_,y,hy,hy2⟩
    · cases h
    · simp only [List.cons.injEq,and_true] at hy
      exact ⟨y,hy,hy2⟩)
  rw [List.length_map] at hl
  have hc:Try.prog.cellsOf 125 = 1:=by kernel_rfl
  rw [hc]
  exact d8u ⟨ys,rfl,hl,hys⟩
theorem d2z:Clo Try.prog a8u a8a 125:=by
  refine ⟨?_⟩
  unfold b9j
  rw [Try.underlying125]
  refine ⟨by simp [a8a],true,by kernel_rfl,(of_decide_eq_true (by kernel_rfl)),.inl rfl,fun l hl h => ?_⟩
  obtain ⟨ys,rfl,hys⟩:=c0q (enc:=l7) (Q:=a7x) l (fun x hx => by
    rcases h x hx with ⟨_,az,rfl,y,rfl,hy⟩ | ⟨h,_⟩
    · exact ⟨y,rfl,hy⟩
    · cases h)
  rw [List.length_map] at hl
  have hc:Try.prog.cellsOf 142 = 3:=by kernel_rfl
  rw [hc]
  exact d5g ⟨ys,rfl,hl,hys⟩
theorem d3a:Clo Try.prog a8u a8a 142:=by
  refine ⟨?_⟩
  unfold b9j
  rw [Try.underlying142]
  refine ⟨(And.intro (by kernel_rfl) (And.intro (by kernel_rfl) (And.intro (by kernel_rfl) (show (_:Nat) = _ from by kernel_rfl)))),by simp [a8a],fun ass h => ?_⟩
  rcases ass with _ | ⟨a0,_ | ⟨a1,_ | ⟨a2,_ | _⟩⟩⟩
  · exact absurd h (by simp [Fa])
  · exact absurd h (by simp [Fa])
  · exact absurd h (by simp [Fa])
  · obtain ⟨⟨x0,rfl,h0⟩,⟨x1,rfl,h1⟩,⟨x2,rfl,h2⟩,_⟩:=h
    exact d5h ⟨⟨x0,x1,x2⟩,rfl,⟨h0,h1,h2⟩⟩
  · exact absurd h (by simp [Fa])
theorem d8y:Clo Try.prog a8u a8a 9:=by
  refine ⟨?_⟩
  unfold b9j
  rw [Try.underlying9]
  exact fun s h => e0z ⟨s,rfl,h⟩
theorem d5n:Clo Try.prog a8u a8a 40:=by
  refine ⟨?_⟩
  unfold b9j
  rw [Try.underlying40]
  refine ⟨by simp [a8a],true,by kernel_rfl,(of_decide_eq_true (by kernel_rfl)),.inl rfl,fun l hl h => ?_⟩
  obtain ⟨ys,rfl,hys⟩:=c0q (enc:=o8) (Q:=a8x) l (fun x hx => by
    rcases h x hx with ⟨_,az,rfl,y,rfl,hy⟩ | ⟨h,_⟩
    · exact ⟨y,rfl,hy⟩
    · cases h)
  rw [List.length_map] at hl
  have hc:Try.prog.cellsOf 91 = 6:=by kernel_rfl
  rw [hc]
  exact d8v ⟨ys,rfl,hl,hys⟩
theorem d5o:Clo Try.prog a8u a8a 91:=by
  refine ⟨?_⟩
  unfold b9j
  rw [Try.underlying91]
  refine ⟨(And.intro (by kernel_rfl) (And.intro (by kernel_rfl) (And.intro (by kernel_rfl) (And.intro (by kernel_rfl) (show (_:Nat) = _ from by kernel_rfl))))),by simp [a8a],fun ass h => ?_⟩
  rcases ass with _ | ⟨a0,_ | ⟨a1,_ | ⟨a2,_ | ⟨a3,_ | _⟩⟩⟩⟩
  · exact absurd h (by simp [Fa])
  · exact absurd h (by simp [Fa])
  · exact absurd h (by simp [Fa])
  · exact absurd h (by simp [Fa])
  · obtain ⟨⟨x0,rfl,h0⟩,⟨x1,rfl,h1⟩,⟨x2,rfl,h2⟩,⟨x3,rfl,h3⟩,_⟩:=h
    exact d8w ⟨⟨x0,x1,x2,x3⟩,rfl,⟨h0,h1,h2,h3⟩⟩
  · exact absurd h (by simp [Fa])
theorem d8z:∀ t,a8a t → Clo Try.prog a8u a8a t:=by
  intro t ht
  rcases List.mem_cons.1 ht with h | ht
  · rw [h]; exact d5i
  rcases List.mem_cons.1 ht with h | ht
  · rw [h]; exact d5j
  rcases List.mem_cons.1 ht with h | ht
  · rw [h]; exact d5k
  rcases List.mem_cons.1 ht with h | ht
  · rw [h]; exact d5l
  rcases List.mem_cons.1 ht with h | ht
  · rw [h]; exact d8x
  rcases List.mem_cons.1 ht with h | ht
  · rw [h]; exact d5m
  rcases List.mem_cons.1 ht with h | ht
  · rw [h]; exact d2z
  rcases List.mem_cons.1 ht with h | ht
  · rw [h]; exact d3a
  rcases List.mem_cons.1 ht with h | ht
  · rw [h]; exact d8y
  rcases List.mem_cons.1 ht with h | ht
  · rw [h]; exact d5n
  rcases List.mem_cons.1 ht with h | ht
  · rw [h]; exact d5o
  exact absurd ht List.not_mem_nil
end Go.R
namespace Go.Proofs.Ythneidgpgfgecaa.fnExactApplyChanges
open Go.ChangeShapes Go.WideShapes Go.ChangeAt Go.RowKit Go.R
open Go.ChangeMaps (open_string shut_string)
set_option linter.unusedVariables false

theorem own:ownKnob Try.prog.godebug = none:=by kernel_rfl
theorem laidOut:laidOutB Try.prog = true:=by kernel_rfl

set_option maxRecDepth 100000 in
theorem lifted (os:Os) (started:os.Started) (H:Type) (enc:TypeId × Value → H) :
    ReturnsInHanded {} Try.checked os 4 .any (Rows.fnExactApplyChangesSpec.pre6 enc Try.prog Try.f4 Rows.fnExactApplyChangesRow.domain false) (Rows.fnExactApplyChangesSpec.post enc Try.prog Try.f4 false true false false):=by
  refine returnsInHanded_of_change (C:=Try.checked) own started (by kernel_rfl) Try.func4
    (ChangeSpec.witness6 (enc:=enc) (C:=Try.checked) false ⟨#[],#[.agg #[.slice none 0 0,.int .i64 0],.slice none 0 0],[]⟩ 8 (by kernel_rfl) (by kernel_rfl) (by kernel_rfl) (by kernel_rfl)) ?_
  intro W base args ds gs before hval0 hW hcnd _
  have hval:∀ (j:Nat) t v,Try.f4.params[j]? = some t → args[j]? = some v → Value.okWide Try.prog W .any base t v:=hval0
  have hW':=hW
  obtain ⟨p,q,hA0,hV,rfl,hfz,hnd⟩:=hW
  have hA:DataW.TrodAll enc Try.prog W 0 (fun _ => true) true Try.f4.params.toList args.toList ds p:=hA0
  rw [Try.params4] at hA hval
  obtain ⟨v0,vs0,d0,ds0,p0,q0,hargs,rfl,rfl,h0,r0⟩:=trodAll_cons hA
  obtain ⟨v1,vs1,d1,ds1,p1,q1,rfl,rfl,rfl,h1,r1⟩:=trodAll_cons r0
  obtain ⟨rfl,rfl,rfl⟩:=trodAll_nil r1
  obtain rfl:args = #[v0,v1]:=by cases args; simp_all
  obtain ⟨rfl,rfl⟩:=trodVars_none hV
  have k0:=h0
  have lt0:∀ x ∈ p0,x.block < W.heap.size:=by obtain ⟨m,hm⟩:=k0; exact DataW.trod_lt m _ _ _ hm
  obtain ⟨az0,fp0,g0,t0⟩:=e2t d8z Try.underlying39 (by simp [a8a]) (hval 0 39 v0 rfl rfl) h0
  obtain ⟨x0,rfl,ok0⟩:=t0
  have k1:=h1
  have lt1:∀ x ∈ p1,x.block < W.heap.size:=by obtain ⟨m,hm⟩:=k1; exact DataW.trod_lt m _ _ _ hm
  obtain ⟨a1,fp1,g1,t1⟩:=e2u d8z (by rw [Try.underlying40]; simp) (by simp [a8a]) (hval 1 40 v1 rfl rfl) h1
  obtain ⟨x1,e1,ok1⟩:=t1
  simp only [List.cons.injEq,and_true] at e1
  subst e1
  clear hA0 hval0
  have hc:=b3c x0 x1 true (b4c x0 x1 ok0 ok1)
  refine (d4n hc (a1j.cons g0 (a1j.cons g1 a1j.nil))).mono fun e W' ⟨he,bel⟩ => ?_
  subst he
  exact ⟨_,rfl,_,_,_,[],_,[],hW',trodAll_mk1 (shut_bool Try.underlying4 _),(trodAll_cons_mk (Below.trod laidOut (by kernel_rfl) (of_decide_eq_true (by kernel_rfl)) k0 bel lt0) (trodAll_cons_mk (Below.trod laidOut (by kernel_rfl) (of_decide_eq_true (by kernel_rfl)) k1 bel lt1) trodAll_mk0)),rfl,bel.frame _,fun h => by cases h⟩

theorem b0k {a b:Bool} (h:a = true) (g:b = true):(a && b) = true:=by rw [h,g]; rfl
theorem j0:(Rows.fnExactApplyChangesRow.wf (OpenSpec.ofChange Rows.fnExactApplyChangesSpec)) = true:=by kernel_rfl
theorem j1:(laidOutB Try.prog) = true:=laidOut
theorem j2:(mapsRowed Try.prog) = true:=by kernel_rfl
theorem j3:(Try.f4.params.all (Program.readableRec Try.prog ·)) = true:=by kernel_rfl
theorem j4:(namedTie Try.prog Rows.fnExactApplyChangesRow.named Rows.fnExactApplyChangesSpec.vars) = true:=by kernel_rfl
theorem j5:((Rows.fnExactApplyChangesRow.stops == [])) = true:=by kernel_rfl
theorem j6:((Try.prog.stops == [])) = true:=by kernel_rfl
theorem j7:((Rows.fnExactApplyChangesRow.knobs == [])) = true:=by kernel_rfl
theorem j8:((Try.prog.stopKnobs == [])) = true:=by kernel_rfl
theorem j9:((Rows.fnExactApplyChangesRow.inPlace == Try.prog.inPlace 4)) = true:=by kernel_rfl
theorem j10:((Rows.fnExactApplyChangesRow.unfollowed == Try.prog.unfollowed 4)) = true:=by kernel_rfl
theorem j11:((Rows.fnExactApplyChangesRow.recurses == Try.prog.recurses 4)) = true:=by kernel_rfl
theorem j12:((Rows.fnExactApplyChangesRow.named == Try.prog.varsNamed 4)) = true:=by kernel_rfl
theorem j13:((Rows.fnExactApplyChangesRow.maps == (Try.f4.params.toList ++ Rows.fnExactApplyChangesSpec.plain.varTypes Try.prog).any (Try.prog.mapsRec ·))) = true:=by kernel_rfl
theorem j14:((Rows.fnExactApplyChangesRow.ifaces == (Try.f4.params.toList ++ Rows.fnExactApplyChangesSpec.plain.varTypes Try.prog).any (Try.prog.ifacesRec ·))) = true:=by kernel_rfl
theorem j15:((Rows.fnExactApplyChangesRow.mapsOut == Try.prog.mapsAmong Try.f4.resultTypes.toList)) = true:=by kernel_rfl
theorem j16:((Rows.fnExactApplyChangesRow.loops == (Try.f4.params.toList ++ Rows.fnExactApplyChangesSpec.plain.varTypes Try.prog).any (Try.prog.loopsFrom ·))) = true:=by kernel_rfl
theorem j17:((Rows.fnExactApplyChangesRow.wideKeys == (Try.f4.params.toList ++ Rows.fnExactApplyChangesSpec.plain.varTypes Try.prog ++ Try.f4.resultTypes.toList).any (Try.prog.wideKeysFrom ·))) = true:=by kernel_rfl
theorem j18:(Rows.fnExactApplyChangesSpec.vars.all (Try.prog.varReadable ·)) = true:=by kernel_rfl
theorem j19:(Try.f4.resultTypes.all (fun t => Try.prog.readableRec t && decide (t < Try.prog.types.size))) = true:=by kernel_rfl
theorem j20:((Rows.fnExactApplyChangesRow.ifacesOut == Try.f4.resultTypes.toList.any (Try.prog.ifacesRec ·))) = true:=by kernel_rfl
theorem j21:((Rows.fnExactApplyChangesRow.loopsOut == Try.f4.resultTypes.toList.any (Try.prog.loopsFrom ·))) = true:=by kernel_rfl
theorem j22:((Rows.fnExactApplyChangesRow.plainKeys == Try.prog.plainKeys)) = true:=by kernel_rfl
theorem j23:(Rows.fnExactApplyChangesRow.shortTexts.isNone) = true:=by kernel_rfl
theorem j24:(Try.prog.stopsHeard) = true:=by kernel_rfl
theorem j25:(Try.prog.mayEnter) = true:=by kernel_rfl
theorem j26:((Rows.fnExactApplyChangesRow.lifted == Try.prog.liftsFinal)) = true:=by kernel_rfl
theorem j27:((Try.prog.make == some Rows.fnExactApplyChangesRow.make)) = true:=by kernel_rfl
theorem j28:((Rows.fnExactApplyChangesRow.kinds == (if Rows.fnExactApplyChangesRow.domain.isEmpty then [] else Try.f4.params.toList.map fun t => match Try.prog.underlying t with | some (.int k) => some k | _ => none))) = true:=by kernel_rfl
theorem j29:((Rows.fnExactApplyChangesRow.pinned == Rows.fnExactApplyChangesRow.pinnedBy)) = true:=by kernel_rfl
theorem j30:((Rows.fnExactApplyChangesRow.veiled == (Try.f4.params.toList ++ Rows.fnExactApplyChangesSpec.plain.varTypes Try.prog ++ Try.f4.resultTypes.toList).any (Try.prog.veiledRec ·))) = true:=by kernel_rfl
theorem j31:(Rows.fnExactApplyChangesRow.veiledFits Try.prog Try.f4.params.toList (Try.f4.params.toList ++ Rows.fnExactApplyChangesSpec.plain.varTypes Try.prog ++ Try.f4.resultTypes.toList)) = true:=by kernel_rfl
set_option maxRecDepth 100000 in
theorem closed:joinedFacts Try.prog 4 Try.f4 Rows.fnExactApplyChangesSpec Rows.fnExactApplyChangesRow = true:=(b0k (b0k (b0k (b0k (b0k (b0k (b0k (b0k (b0k (b0k (b0k (b0k (b0k (b0k (b0k (b0k (b0k (b0k (b0k (b0k (b0k (b0k (b0k (b0k (b0k (b0k (b0k (b0k (b0k (b0k (b0k j0 j1) j2) j3) j4) j5) j6) j7) j8) j9) j10) j11) j12) j13) j14) j15) j16) j17) j18) j19) j20) j21) j22) j23) j24) j25) j26) j27) j28) j29) j30) j31)
theorem named:Try.prog.funcNamed Rows.fnExactApplyChangesRow.func = some 4:=by kernel_rfl
theorem inst:Try.f4.isInstance Try.prog Rows.fnExactApplyChangesRow.origin Rows.fnExactApplyChangesRow.targs:=of_decide_eq_true (by kernel_rfl)
theorem wrap:Try.f4.isWrapper Try.prog Rows.fnExactApplyChangesRow.wrapper Rows.fnExactApplyChangesRow.mainSum:=by unfold Func.isWrapper; first | (rw [if_pos (by decide +kernel)]; kernel_rfl) | (rw [if_neg (by decide +kernel)]; exact ⟨rfl,rfl⟩)
theorem over:Rows.fnExactApplyChangesRow.holds Try.pinned (OpenSpec.ofChange Rows.fnExactApplyChangesSpec) :=
  OpenClaim.holds_of_wide 4 Try.f4 rfl rfl rfl rfl rfl rfl rfl ⟨rfl,rfl,rfl,rfl,rfl⟩ rfl rfl rfl rfl rfl named Try.func4 closed inst wrap
    (fun os started H enc _ => lifted os started H enc)

theorem proved:Rows.FnExactApplyChangesSaid:=over
#print axioms proved
end Go.Proofs.Ythneidgpgfgecaa.fnExactApplyChanges
