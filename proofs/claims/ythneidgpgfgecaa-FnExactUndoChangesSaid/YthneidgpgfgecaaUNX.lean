/- 'FnExactUndoChanges': for every input the law returns true, and each argument reads behind the call as it read before. No condition. -/
import Derived.Test.YthneidgpgfgecaaUNL
import Derived.WalkKit
import Derived.ProofKit
import Derived.OpenShut
import Derived.ShutString
import Derived.ChangeOld
import Derived.Below
set_option linter.all false
namespace Go.R
open Go Go.Proofs
set_option linter.unusedSimpArgs false
set_option maxHeartbeats 8000000
def b3d (t:TypeId) (az:List AV):Prop :=
  bif Nat.beq t 39 then ∃ x:a0l,az = [(.lst 1 (x.Tables.map (o7 2 o5))),(.int .i64 x.Next)] ∧ b9o x else
  bif Nat.beq t 37 then ∃ x:(List (List x8)),az = [(.lst 1 (x.map (o7 2 o5)))] ∧ (okL (okL (a9h))) x else
  bif Nat.beq t 22 then ∃ x:(List x8),az = [(.lst 2 (x.map o5))] ∧ (okL (a9h)) x else
  bif Nat.beq t 62 then ∃ x:x8,az = [(.int .i64 x.Id),(.lst 1 (x.Cells.map (o7 3 l7)))] ∧ a9h x else
  bif Nat.beq t 3 then ∃ x:Int,az = [(.int .i64 x)] ∧ (okI .i64) x else
  bif Nat.beq t 60 then ∃ x:(List (List a0c)),az = [(.lst 1 (x.map (o7 3 l7)))] ∧ (okL (okL (a7x))) x else
  bif Nat.beq t 125 then ∃ x:(List a0c),az = [(.lst 3 (x.map l7))] ∧ (okL (a7x)) x else
  bif Nat.beq t 142 then ∃ x:a0c,az = [(.int .i64 x.Kind),(.int .i64 x.N),(.str x.T)] ∧ a7x x else
  bif Nat.beq t 9 then ∃ x:Str,az = [(.str x)] ∧ (okS) x else
  bif Nat.beq t 40 then ∃ x:(List y9),az = [(.lst 6 (x.map o8))] ∧ (okL (a8v)) x else
  bif Nat.beq t 91 then ∃ x:y9,az = [(.int .i64 x.Table),(.int .i64 x.Id),(.int .i64 x.Old.Id),(.lst 1 (x.Old.Cells.map (o7 3 l7))),(.int .i64 x.New.Id),(.lst 1 (x.New.Cells.map (o7 3 l7)))] ∧ a8v x else
  False
theorem e1j {az:List AV} (h:∃ x:a0l,az = [(.lst 1 (x.Tables.map (o7 2 o5))),(.int .i64 x.Next)] ∧ b9o x):b3d 39 az:=h
theorem e1k {az:List AV} (h:∃ x:(List (List x8)),az = [(.lst 1 (x.map (o7 2 o5)))] ∧ (okL (okL (a9h))) x):b3d 37 az:=h
theorem e1l {az:List AV} (h:∃ x:(List x8),az = [(.lst 2 (x.map o5))] ∧ (okL (a9h)) x):b3d 22 az:=h
theorem e1m {az:List AV} (h:∃ x:x8,az = [(.int .i64 x.Id),(.lst 1 (x.Cells.map (o7 3 l7)))] ∧ a9h x):b3d 62 az:=h
theorem e2y {az:List AV} (h:∃ x:Int,az = [(.int .i64 x)] ∧ (okI .i64) x):b3d 3 az:=h
theorem e1n {az:List AV} (h:∃ x:(List (List a0c)),az = [(.lst 1 (x.map (o7 3 l7)))] ∧ (okL (okL (a7x))) x):b3d 60 az:=h
theorem d8z {az:List AV} (h:∃ x:(List a0c),az = [(.lst 3 (x.map l7))] ∧ (okL (a7x)) x):b3d 125 az:=h
theorem d9a {az:List AV} (h:∃ x:a0c,az = [(.int .i64 x.Kind),(.int .i64 x.N),(.str x.T)] ∧ a7x x):b3d 142 az:=h
theorem e2z {az:List AV} (h:∃ x:Str,az = [(.str x)] ∧ (okS) x):b3d 9 az:=h
theorem e1o {az:List AV} (h:∃ x:(List y9),az = [(.lst 6 (x.map o8))] ∧ (okL (a8v)) x):b3d 40 az:=h
theorem e1p {az:List AV} (h:∃ x:y9,az = [(.int .i64 x.Table),(.int .i64 x.Id),(.int .i64 x.Old.Id),(.lst 1 (x.Old.Cells.map (o7 3 l7))),(.int .i64 x.New.Id),(.lst 1 (x.New.Cells.map (o7 3 l7)))] ∧ a8v x):b3d 91 az:=h
def b2s (t:TypeId):Prop:=t ∈ [39,37,22,62,3,60,125,142,9,40,91]
theorem d9b:Clo Try.prog b3d b2s 39:=by
  refine ⟨?_⟩
  unfold b9k
  rw [Try.underlying39]
  refine ⟨(And.intro (by kernel_rfl) (And.intro (by kernel_rfl) (show (_:Nat) = _ from by kernel_rfl))),by simp [b2s],fun ass h => ?_⟩
  rcases ass with _ | ⟨a0,_ | ⟨a1,_ | _⟩⟩
  · exact absurd h (by simp [Fa])
  · exact absurd h (by simp [Fa])
  · obtain ⟨⟨x0,rfl,h0⟩,⟨x1,rfl,h1⟩,_⟩:=h
    exact e1j ⟨⟨x0,x1⟩,rfl,⟨h0,h1⟩⟩
  · exact absurd h (by simp [Fa])
theorem d9c:Clo Try.prog b3d b2s 37:=by
  refine ⟨?_⟩
  unfold b9k
  rw [Try.underlying37]
  refine ⟨by simp [b2s],false,by kernel_rfl,(of_decide_eq_true (by kernel_rfl)),.inr (by kernel_rfl),fun l hl h => ?_⟩
  obtain ⟨ys,rfl,hys⟩:=c0s (enc:=(o7 2 o5)) (Q:=okL (a9h)) l (fun x hx => by
    rcases h x hx with ⟨h,_⟩ | ⟨_,y,hy,hy2⟩
    · cases h
    · simp only [List.cons.injEq,and_true] at hy
      exact ⟨y,hy,hy2⟩)
  rw [List.length_map] at hl
  have hc:Try.prog.cellsOf 22 = 1:=by kernel_rfl
  rw [hc]
  exact e1k ⟨ys,rfl,hl,hys⟩
theorem d9d:Clo Try.prog b3d b2s 22:=by
  refine ⟨?_⟩
  unfold b9k
  rw [Try.underlying22]
  refine ⟨by simp [b2s],true,by kernel_rfl,(of_decide_eq_true (by kernel_rfl)),.inl rfl,fun l hl h => ?_⟩
  obtain ⟨ys,rfl,hys⟩:=c0s (enc:=o5) (Q:=a9h) l (fun x hx => by
    rcases h x hx with ⟨_,az,rfl,y,rfl,hy⟩ | ⟨h,_⟩
    · exact ⟨y,rfl,hy⟩
    · cases h)
  rw [List.length_map] at hl
  have hc:Try.prog.cellsOf 62 = 2:=by kernel_rfl
  rw [hc]
  exact e1l ⟨ys,rfl,hl,hys⟩
theorem d9e:Clo Try.prog b3d b2s 62:=by
  refine ⟨?_⟩
  unfold b9k
  rw [Try.underlying62]
  refine ⟨(And.intro (by kernel_rfl) (And.intro (by kernel_rfl) (show (_:Nat) = _ from by kernel_rfl))),by simp [b2s],fun ass h => ?_⟩
  rcases ass with _ | ⟨a0,_ | ⟨a1,_ | _⟩⟩
  · exact absurd h (by simp [Fa])
  · exact absurd h (by simp [Fa])
  · obtain ⟨⟨x0,rfl,h0⟩,⟨x1,rfl,h1⟩,_⟩:=h
    exact e1m ⟨⟨x0,x1⟩,rfl,⟨h0,h1⟩⟩
  · exact absurd h (by simp [Fa])
theorem e1q:Clo Try.prog b3d b2s 3:=by
  refine ⟨?_⟩
  unfold b9k
  rw [Try.underlying3]
  exact fun n h => e2y ⟨n,rfl,h⟩
theorem d9f:Clo Try.prog b3d b2s 60:=by
  refine ⟨?_⟩
  unfold b9k
  rw [Try.underlying60]
  refine ⟨by simp [b2s],false,by kernel_rfl,(of_decide_eq_true (by kernel_rfl)),.inr (by kernel_rfl),fun l hl h => ?_⟩
  obtain ⟨ys,rfl,hys⟩:=c0s (enc:=(o7 3 l7)) (Q:=okL (a7x)) l (fun x hx => by
    rcases h x hx with ⟨h,_⟩ | ⟨_,y,hy,hy2⟩
    · cases h
    · simp only [List.cons.injEq,and_true] at hy
      exact ⟨y,hy,hy2⟩)
  rw [List.length_map] at hl
  have hc:Try.prog.cellsOf 125 = 1:=by kernel_rfl
  rw [hc]
  exact e1n ⟨ys,rfl,hl,hys⟩
theorem d5r:Clo Try.prog b3d b2s 125:=by
  refine ⟨?_⟩
  unfold b9k
  rw [Try.underlying125]
  refine ⟨by simp [b2s],true,by kernel_rfl,(of_decide_eq_true (by kernel_rfl)),.inl rfl,fun l hl h => ?_⟩
  obtain ⟨ys,rfl,hys⟩:=c0s (enc:=l7) (Q:=a7x) l (fun x hx => by
    rcases h x hx with ⟨_,az,rfl,y,rfl,hy⟩ | ⟨h,_⟩
    · exact ⟨y,rfl,hy⟩
    · cases h)
  rw [List.length_map] at hl
  have hc:Try.prog.cellsOf 142 = 3:=by kernel_rfl
  rw [hc]
  exact d8z ⟨ys,rfl,hl,hys⟩
theorem d5s:Clo Try.prog b3d b2s 142:=by
  refine ⟨?_⟩
  unfold b9k
  rw [Try.underlying142]
  refine ⟨(And.intro (by kernel_rfl) (And.intro (by kernel_rfl) (And.intro (by kernel_rfl) (show (_:Nat) = _ from by kernel_rfl)))),by simp [b2s],fun ass h => ?_⟩
  rcases ass with _ | ⟨a0,_ | ⟨a1,_ | ⟨a2,_ | _⟩⟩⟩
  · exact absurd h (by simp [Fa])
  · exact absurd h (by simp [Fa])
  · exact absurd h (by simp [Fa])
  · obtain ⟨⟨x0,rfl,h0⟩,⟨x1,rfl,h1⟩,⟨x2,rfl,h2⟩,_⟩:=h
    exact d9a ⟨⟨x0,x1,x2⟩,rfl,⟨h0,h1,h2⟩⟩
  · exact absurd h (by simp [Fa])
theorem e1r:Clo Try.prog b3d b2s 9:=by
  refine ⟨?_⟩
  unfold b9k
  rw [Try.underlying9]
  exact fun s h => e2z ⟨s,rfl,h⟩
theorem d9g:Clo Try.prog b3d b2s 40:=by
  refine ⟨?_⟩
  unfold b9k
  rw [Try.underlying40]
  refine ⟨by simp [b2s],true,by kernel_rfl,(of_decide_eq_true (by kernel_rfl)),.inl rfl,fun l hl h => ?_⟩
  obtain ⟨ys,rfl,hys⟩:=c0s (enc:=o8) (Q:=a8v) l (fun x hx => by
    rcases h x hx with ⟨_,az,rfl,y,rfl,hy⟩ | ⟨h,_⟩
    · exact ⟨y,rfl,hy⟩
    · cases h)
  rw [List.length_map] at hl
  have hc:Try.prog.cellsOf 91 = 6:=by kernel_rfl
  rw [hc]
  exact e1o ⟨ys,rfl,hl,hys⟩
theorem d9h:Clo Try.prog b3d b2s 91:=by
  refine ⟨?_⟩
  unfold b9k
  rw [Try.underlying91]
  refine ⟨(And.intro (by kernel_rfl) (And.intro (by kernel_rfl) (And.intro (by kernel_rfl) (And.intro (by kernel_rfl) (show (_:Nat) = _ from by kernel_rfl))))),by simp [b2s],fun ass h => ?_⟩
  rcases ass with _ | ⟨a0,_ | ⟨a1,_ | ⟨a2,_ | ⟨a3,_ | _⟩⟩⟩⟩
  · exact absurd h (by simp [Fa])
  · exact absurd h (by simp [Fa])
  · exact absurd h (by simp [Fa])
  · exact absurd h (by simp [Fa])
  · obtain ⟨⟨x0,rfl,h0⟩,⟨x1,rfl,h1⟩,⟨x2,rfl,h2⟩,⟨x3,rfl,h3⟩,_⟩:=h
    exact e1p ⟨⟨x0,x1,x2,x3⟩,rfl,⟨h0,h1,h2,h3⟩⟩
  · exact absurd h (by simp [Fa])
theorem e2f:∀ t,b2s t → Clo Try.prog b3d b2s t:=by
  intro t ht
  rcases List.mem_cons.1 ht with h | ht
  · rw [h]; exact d9b
  rcases List.mem_cons.1 ht with h | ht
  · rw [h]; exact d9c
  rcases List.mem_cons.1 ht with h | ht
  · rw [h]; exact d9d
  rcases List.mem_cons.1 ht with h | ht
  · rw [h]; exact d9e
  rcases List.mem_cons.1 ht with h | ht
  · rw [h]; exact e1q
  rcases List.mem_cons.1 ht with h | ht
  · rw [h]; exact d9f
  rcases List.mem_cons.1 ht with h | ht
  · rw [h]; exact d5r
  rcases List.mem_cons.1 ht with h | ht
  · rw [h]; exact d5s
  rcases List.mem_cons.1 ht with h | ht
  · rw [h]; exact e1r
  rcases List.mem_cons.1 ht with h | ht
  · rw [h]; exact d9g
  rcases List.mem_cons.1 ht with h | ht
  · rw [h]; exact d9h
  exact absurd ht List.not_mem_nil
end Go.R
namespace Go.Proofs.Ythneidgpgfgecaa.fnExactUndoChanges
open Go.ChangeShapes Go.WideShapes Go.ChangeAt Go.RowKit Go.R
open Go.ChangeMaps (open_string shut_string)
set_option linter.unusedVariables false

theorem own:ownKnob Try.prog.godebug = none:=by kernel_rfl
theorem laidOut:laidOutB Try.prog = true:=by kernel_rfl

set_option maxRecDepth 100000 in
theorem lifted (os:Os) (started:os.Started) (H:Type) (enc:TypeId × Value → H) :
    ReturnsInHanded {} Try.checked os 5 .any (Rows.fnExactUndoChangesSpec.pre6 enc Try.prog Try.f5 Rows.fnExactUndoChangesRow.domain false) (Rows.fnExactUndoChangesSpec.post enc Try.prog Try.f5 false true false false):=by
  refine returnsInHanded_of_change (C:=Try.checked) own started (by kernel_rfl) Try.func5
    (ChangeSpec.witness6 (enc:=enc) (C:=Try.checked) false ⟨#[],#[.agg #[.slice none 0 0,.int .i64 0],.slice none 0 0],[]⟩ 8 (by kernel_rfl) (by kernel_rfl) (by kernel_rfl) (by kernel_rfl)) ?_
  intro W base args ds gs before hval0 hW hcnd _
  have hval:∀ (j:Nat) t v,Try.f5.params[j]? = some t → args[j]? = some v → Value.okWide Try.prog W .any base t v:=hval0
  have hW':=hW
  obtain ⟨p,q,hA0,hV,rfl,hfz,hnd⟩:=hW
  have hA:DataW.TrodAll enc Try.prog W 0 (fun _ => true) true Try.f5.params.toList args.toList ds p:=hA0
  rw [Try.params5] at hA hval
  obtain ⟨v0,vs0,d0,ds0,p0,q0,hargs,rfl,rfl,h0,r0⟩:=trodAll_cons hA
  obtain ⟨v1,vs1,d1,ds1,p1,q1,rfl,rfl,rfl,h1,r1⟩:=trodAll_cons r0
  obtain ⟨rfl,rfl,rfl⟩:=trodAll_nil r1
  obtain rfl:args = #[v0,v1]:=by cases args; simp_all
  obtain ⟨rfl,rfl⟩:=trodVars_none hV
  have k0:=h0
  have lt0:∀ x ∈ p0,x.block < W.heap.size:=by obtain ⟨m,hm⟩:=k0; exact DataW.trod_lt m _ _ _ hm
  obtain ⟨az0,fp0,g0,t0⟩:=e3s e2f Try.underlying39 (by simp [b2s]) (hval 0 39 v0 rfl rfl) h0
  obtain ⟨x0,rfl,ok0⟩:=t0
  have k1:=h1
  have lt1:∀ x ∈ p1,x.block < W.heap.size:=by obtain ⟨m,hm⟩:=k1; exact DataW.trod_lt m _ _ _ hm
  obtain ⟨a1,fp1,g1,t1⟩:=e3t e2f (by rw [Try.underlying40]; simp) (by simp [b2s]) (hval 1 40 v1 rfl rfl) h1
  obtain ⟨x1,e1,ok1⟩:=t1
  simp only [List.cons.injEq,and_true] at e1
  subst e1
  clear hA0 hval0
  have hc:=b3g x0 x1 true (b4t x0 x1 ok0 ok1)
  refine (d4t hc (a1f.cons g0 (a1f.cons g1 a1f.nil))).mono fun e W' ⟨he,bel⟩ => ?_
  subst he
  exact ⟨_,rfl,_,_,_,[],_,[],hW',trodAll_mk1 (shut_bool Try.underlying4 _),(trodAll_cons_mk (Below.trod laidOut (by kernel_rfl) (of_decide_eq_true (by kernel_rfl)) k0 bel lt0) (trodAll_cons_mk (Below.trod laidOut (by kernel_rfl) (of_decide_eq_true (by kernel_rfl)) k1 bel lt1) trodAll_mk0)),rfl,bel.frame _,fun h => by cases h⟩

theorem b0j {a b:Bool} (h:a = true) (g:b = true):(a && b) = true:=by rw [h,g]; rfl
theorem j0:(Rows.fnExactUndoChangesRow.wf (OpenSpec.ofChange Rows.fnExactUndoChangesSpec)) = true:=by kernel_rfl
theorem j1:(laidOutB Try.prog) = true:=laidOut
theorem j2:(mapsRowed Try.prog) = true:=by kernel_rfl
theorem j3:(Try.f5.params.all (Program.readableRec Try.prog ·)) = true:=by kernel_rfl
theorem j4:(namedTie Try.prog Rows.fnExactUndoChangesRow.named Rows.fnExactUndoChangesSpec.vars) = true:=by kernel_rfl
theorem j5:((Rows.fnExactUndoChangesRow.stops == [])) = true:=by kernel_rfl
theorem j6:((Try.prog.stops == [])) = true:=by kernel_rfl
theorem j7:((Rows.fnExactUndoChangesRow.knobs == [])) = true:=by kernel_rfl
theorem j8:((Try.prog.stopKnobs == [])) = true:=by kernel_rfl
theorem j9:((Rows.fnExactUndoChangesRow.inPlace == Try.prog.inPlace 5)) = true:=by kernel_rfl
theorem j10:((Rows.fnExactUndoChangesRow.unfollowed == Try.prog.unfollowed 5)) = true:=by kernel_rfl
theorem j11:((Rows.fnExactUndoChangesRow.recurses == Try.prog.recurses 5)) = true:=by kernel_rfl
theorem j12:((Rows.fnExactUndoChangesRow.named == Try.prog.varsNamed 5)) = true:=by kernel_rfl
theorem j13:((Rows.fnExactUndoChangesRow.maps == (Try.f5.params.toList ++ Rows.fnExactUndoChangesSpec.plain.varTypes Try.prog).any (Try.prog.mapsRec ·))) = true:=by kernel_rfl
theorem j14:((Rows.fnExactUndoChangesRow.ifaces == (Try.f5.params.toList ++ Rows.fnExactUndoChangesSpec.plain.varTypes Try.prog).any (Try.prog.ifacesRec ·))) = true:=by kernel_rfl
theorem j15:((Rows.fnExactUndoChangesRow.mapsOut == Try.prog.mapsAmong Try.f5.resultTypes.toList)) = true:=by kernel_rfl
theorem j16:((Rows.fnExactUndoChangesRow.loops == (Try.f5.params.toList ++ Rows.fnExactUndoChangesSpec.plain.varTypes Try.prog).any (Try.prog.loopsFrom ·))) = true:=by kernel_rfl
theorem j17:((Rows.fnExactUndoChangesRow.wideKeys == (Try.f5.params.toList ++ Rows.fnExactUndoChangesSpec.plain.varTypes Try.prog ++ Try.f5.resultTypes.toList).any (Try.prog.wideKeysFrom ·))) = true:=by kernel_rfl
theorem j18:(Rows.fnExactUndoChangesSpec.vars.all (Try.prog.varReadable ·)) = true:=by kernel_rfl
theorem j19:(Try.f5.resultTypes.all (fun t => Try.prog.readableRec t && decide (t < Try.prog.types.size))) = true:=by kernel_rfl
theorem j20:((Rows.fnExactUndoChangesRow.ifacesOut == Try.f5.resultTypes.toList.any (Try.prog.ifacesRec ·))) = true:=by kernel_rfl
theorem j21:((Rows.fnExactUndoChangesRow.loopsOut == Try.f5.resultTypes.toList.any (Try.prog.loopsFrom ·))) = true:=by kernel_rfl
theorem j22:((Rows.fnExactUndoChangesRow.plainKeys == Try.prog.plainKeys)) = true:=by kernel_rfl
theorem j23:(Rows.fnExactUndoChangesRow.shortTexts.isNone) = true:=by kernel_rfl
theorem j24:(Try.prog.stopsHeard) = true:=by kernel_rfl
theorem j25:(Try.prog.mayEnter) = true:=by kernel_rfl
theorem j26:((Rows.fnExactUndoChangesRow.lifted == Try.prog.liftsFinal)) = true:=by kernel_rfl
theorem j27:((Try.prog.make == some Rows.fnExactUndoChangesRow.make)) = true:=by kernel_rfl
theorem j28:((Rows.fnExactUndoChangesRow.kinds == (if Rows.fnExactUndoChangesRow.domain.isEmpty then [] else Try.f5.params.toList.map fun t => match Try.prog.underlying t with | some (.int k) => some k | _ => none))) = true:=by kernel_rfl
theorem j29:((Rows.fnExactUndoChangesRow.pinned == Rows.fnExactUndoChangesRow.pinnedBy)) = true:=by kernel_rfl
theorem j30:((Rows.fnExactUndoChangesRow.veiled == (Try.f5.params.toList ++ Rows.fnExactUndoChangesSpec.plain.varTypes Try.prog ++ Try.f5.resultTypes.toList).any (Try.prog.veiledRec ·))) = true:=by kernel_rfl
theorem j31:(Rows.fnExactUndoChangesRow.veiledFits Try.prog Try.f5.params.toList (Try.f5.params.toList ++ Rows.fnExactUndoChangesSpec.plain.varTypes Try.prog ++ Try.f5.resultTypes.toList)) = true:=by kernel_rfl
set_option maxRecDepth 100000 in
theorem closed:joinedFacts Try.prog 5 Try.f5 Rows.fnExactUndoChangesSpec Rows.fnExactUndoChangesRow = true:=(b0j (b0j (b0j (b0j (b0j (b0j (b0j (b0j (b0j (b0j (b0j (b0j (b0j (b0j (b0j (b0j (b0j (b0j (b0j (b0j (b0j (b0j (b0j (b0j (b0j (b0j (b0j (b0j (b0j (b0j (b0j j0 j1) j2) j3) j4) j5) j6) j7) j8) j9) j10) j11) j12) j13) j14) j15) j16) j17) j18) j19) j20) j21) j22) j23) j24) j25) j26) j27) j28) j29) j30) j31)
theorem named:Try.prog.funcNamed Rows.fnExactUndoChangesRow.func = some 5:=by kernel_rfl
theorem inst:Try.f5.isInstance Try.prog Rows.fnExactUndoChangesRow.origin Rows.fnExactUndoChangesRow.targs:=of_decide_eq_true (by kernel_rfl)
theorem wrap:Try.f5.isWrapper Try.prog Rows.fnExactUndoChangesRow.wrapper Rows.fnExactUndoChangesRow.mainSum:=by unfold Func.isWrapper; first | (rw [if_pos (by decide +kernel)]; kernel_rfl) | (rw [if_neg (by decide +kernel)]; exact ⟨rfl,rfl⟩)
theorem over:Rows.fnExactUndoChangesRow.holds Try.pinned (OpenSpec.ofChange Rows.fnExactUndoChangesSpec) :=
  OpenClaim.holds_of_wide 5 Try.f5 rfl rfl rfl rfl rfl rfl rfl ⟨rfl,rfl,rfl,rfl,rfl⟩ rfl rfl rfl rfl rfl named Try.func5 closed inst wrap
    (fun os started H enc _ => lifted os started H enc)

theorem proved:Rows.FnExactUndoChangesSaid:=over
#print axioms proved
end Go.Proofs.Ythneidgpgfgecaa.fnExactUndoChanges
