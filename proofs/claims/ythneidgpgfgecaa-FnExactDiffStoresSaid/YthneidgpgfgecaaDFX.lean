/- 'FnExactDiffStores': for every input the law returns true, and each argument reads behind the call as it read before. No condition. -/
import Derived.Test.YthneidgpgfgecaaDFL
import Derived.WalkKit
import Derived.ProofKit
import Derived.OpenShut
import Derived.ShutString
import Derived.ChangeOld
import Derived.Below
set_option linter.all false
namespace Go.R
open Go Go.Proofs
set_option linter.unusedSimpArgs false
set_option maxHeartbeats 8000000
def b2v (t:TypeId) (az:List AV):Prop :=
  bif Nat.beq t 39 then ∃ x:a1d,az = [(.lst 1 (x.Tables.map (o8 2 l9))),(.int .i64 x.Next)] ∧ b3x x else
  bif Nat.beq t 37 then ∃ x:(List (List x9)),az = [(.lst 1 (x.map (o8 2 l9)))] ∧ (okL (okL (a9e))) x else
  bif Nat.beq t 22 then ∃ x:(List x9),az = [(.lst 2 (x.map l9))] ∧ (okL (a9e)) x else
  bif Nat.beq t 62 then ∃ x:x9,az = [(.int .i64 x.Id),(.lst 1 (x.Cells.map (o8 3 o5)))] ∧ a9e x else
  bif Nat.beq t 3 then ∃ x:Int,az = [(.int .i64 x)] ∧ (okI .i64) x else
  bif Nat.beq t 60 then ∃ x:(List (List y9)),az = [(.lst 1 (x.map (o8 3 o5)))] ∧ (okL (okL (a7g))) x else
  bif Nat.beq t 125 then ∃ x:(List y9),az = [(.lst 3 (x.map o5))] ∧ (okL (a7g)) x else
  bif Nat.beq t 142 then ∃ x:y9,az = [(.int .i64 x.Kind),(.int .i64 x.N),(.str x.T)] ∧ a7g x else
  bif Nat.beq t 9 then ∃ x:Str,az = [(.str x)] ∧ (okS) x else
  False
theorem d5s {az:List AV} (h:∃ x:a1d,az = [(.lst 1 (x.Tables.map (o8 2 l9))),(.int .i64 x.Next)] ∧ b3x x):b2v 39 az:=h
theorem d5t {az:List AV} (h:∃ x:(List (List x9)),az = [(.lst 1 (x.map (o8 2 l9)))] ∧ (okL (okL (a9e))) x):b2v 37 az:=h
theorem d5u {az:List AV} (h:∃ x:(List x9),az = [(.lst 2 (x.map l9))] ∧ (okL (a9e)) x):b2v 22 az:=h
theorem d5v {az:List AV} (h:∃ x:x9,az = [(.int .i64 x.Id),(.lst 1 (x.Cells.map (o8 3 o5)))] ∧ a9e x):b2v 62 az:=h
theorem d7g {az:List AV} (h:∃ x:Int,az = [(.int .i64 x)] ∧ (okI .i64) x):b2v 3 az:=h
theorem d5w {az:List AV} (h:∃ x:(List (List y9)),az = [(.lst 1 (x.map (o8 3 o5)))] ∧ (okL (okL (a7g))) x):b2v 60 az:=h
theorem d3z {az:List AV} (h:∃ x:(List y9),az = [(.lst 3 (x.map o5))] ∧ (okL (a7g)) x):b2v 125 az:=h
theorem d4a {az:List AV} (h:∃ x:y9,az = [(.int .i64 x.Kind),(.int .i64 x.N),(.str x.T)] ∧ a7g x):b2v 142 az:=h
theorem d7h {az:List AV} (h:∃ x:Str,az = [(.str x)] ∧ (okS) x):b2v 9 az:=h
def b2h (t:TypeId):Prop:=t ∈ [39,37,22,62,3,60,125,142,9]
theorem d4b:Clo Try.prog b2v b2h 39:=by
  refine ⟨?_⟩
  unfold c0y
  rw [Try.underlying39]
  refine ⟨(And.intro (by kernel_rfl) (And.intro (by kernel_rfl) (show (_:Nat) = _ from by kernel_rfl))),by simp [b2h],fun ass h => ?_⟩
  rcases ass with _ | ⟨a0,_ | ⟨a1,_ | _⟩⟩
  · exact absurd h (by simp [Fa])
  · exact absurd h (by simp [Fa])
  · obtain ⟨⟨x0,rfl,h0⟩,⟨x1,rfl,h1⟩,_⟩:=h
    exact d5s ⟨⟨x0,x1⟩,rfl,⟨h0,h1⟩⟩
  · exact absurd h (by simp [Fa])
theorem d4c:Clo Try.prog b2v b2h 37:=by
  refine ⟨?_⟩
  unfold c0y
  rw [Try.underlying37]
  refine ⟨by simp [b2h],false,by kernel_rfl,(of_decide_eq_true (by kernel_rfl)),.inr (by kernel_rfl),fun l hl h => ?_⟩
  obtain ⟨ys,rfl,hys⟩:=c0z (enc:=(o8 2 l9)) (Q:=okL (a9e)) l (fun x hx => by
    rcases h x hx with ⟨h,_⟩ | ⟨_,y,hy,hy2⟩
    · cases h
    · simp only [List.cons.injEq,and_true] at hy
      exact ⟨y,hy,hy2⟩)
  rw [List.length_map] at hl
  have hc:Try.prog.cellsOf 22 = 1:=by kernel_rfl
  rw [hc]
  exact d5t ⟨ys,rfl,hl,hys⟩
theorem d4d:Clo Try.prog b2v b2h 22:=by
  refine ⟨?_⟩
  unfold c0y
  rw [Try.underlying22]
  refine ⟨by simp [b2h],true,by kernel_rfl,(of_decide_eq_true (by kernel_rfl)),.inl rfl,fun l hl h => ?_⟩
  obtain ⟨ys,rfl,hys⟩:=c0z (enc:=l9) (Q:=a9e) l (fun x hx => by
    rcases h x hx with ⟨_,az,rfl,y,rfl,hy⟩ | ⟨h,_⟩
    · exact ⟨y,rfl,hy⟩
    · cases h)
  rw [List.length_map] at hl
  have hc:Try.prog.cellsOf 62 = 2:=by kernel_rfl
  rw [hc]
  exact d5u ⟨ys,rfl,hl,hys⟩
theorem d4e:Clo Try.prog b2v b2h 62:=by
  refine ⟨?_⟩
  unfold c0y
  rw [Try.underlying62]
  refine ⟨(And.intro (by kernel_rfl) (And.intro (by kernel_rfl) (show (_:Nat) = _ from by kernel_rfl))),by simp [b2h],fun ass h => ?_⟩
  rcases ass with _ | ⟨a0,_ | ⟨a1,_ | _⟩⟩
  · exact absurd h (by simp [Fa])
  · exact absurd h (by simp [Fa])
  · obtain ⟨⟨x0,rfl,h0⟩,⟨x1,rfl,h1⟩,_⟩:=h
    exact d5v ⟨⟨x0,x1⟩,rfl,⟨h0,h1⟩⟩
  · exact absurd h (by simp [Fa])
theorem d5x:Clo Try.prog b2v b2h 3:=by
  refine ⟨?_⟩
  unfold c0y
  rw [Try.underlying3]
  exact fun n h => d7g ⟨n,rfl,h⟩
theorem d4f:Clo Try.prog b2v b2h 60:=by
  refine ⟨?_⟩
  unfold c0y
  rw [Try.underlying60]
  refine ⟨by simp [b2h],false,by kernel_rfl,(of_decide_eq_true (by kernel_rfl)),.inr (by kernel_rfl),fun l hl h => ?_⟩
  obtain ⟨ys,rfl,hys⟩:=c0z (enc:=(o8 3 o5)) (Q:=okL (a7g)) l (fun x hx => by
    rcases h x hx with ⟨h,_⟩ | ⟨_,y,hy,hy2⟩
    · cases h
    · simp only [List.cons.injEq,and_true] at hy
      exact ⟨y,hy,hy2⟩)
  rw [List.length_map] at hl
  have hc:Try.prog.cellsOf 125 = 1:=by kernel_rfl
  rw [hc]
  exact d5w ⟨ys,rfl,hl,hys⟩
theorem d1o:Clo Try.prog b2v b2h 125:=by
  refine ⟨?_⟩
  unfold c0y
  rw [Try.underlying125]
  refine ⟨by simp [b2h],true,by kernel_rfl,(of_decide_eq_true (by kernel_rfl)),.inl rfl,fun l hl h => ?_⟩
  obtain ⟨ys,rfl,hys⟩:=c0z (enc:=o5) (Q:=a7g) l (fun x hx => by
    rcases h x hx with ⟨_,az,rfl,y,rfl,hy⟩ | ⟨h,_⟩
    · exact ⟨y,rfl,hy⟩
    · cases h)
  rw [List.length_map] at hl
  have hc:Try.prog.cellsOf 142 = 3:=by kernel_rfl
  rw [hc]
  exact d3z ⟨ys,rfl,hl,hys⟩
theorem d1p:Clo Try.prog b2v b2h 142:=by
  refine ⟨?_⟩
  unfold c0y
  rw [Try.underlying142]
  refine ⟨(And.intro (by kernel_rfl) (And.intro (by kernel_rfl) (And.intro (by kernel_rfl) (show (_:Nat) = _ from by kernel_rfl)))),by simp [b2h],fun ass h => ?_⟩
  rcases ass with _ | ⟨a0,_ | ⟨a1,_ | ⟨a2,_ | _⟩⟩⟩
  · exact absurd h (by simp [Fa])
  · exact absurd h (by simp [Fa])
  · exact absurd h (by simp [Fa])
  · obtain ⟨⟨x0,rfl,h0⟩,⟨x1,rfl,h1⟩,⟨x2,rfl,h2⟩,_⟩:=h
    exact d4a ⟨⟨x0,x1,x2⟩,rfl,⟨h0,h1,h2⟩⟩
  · exact absurd h (by simp [Fa])
theorem d5y:Clo Try.prog b2v b2h 9:=by
  refine ⟨?_⟩
  unfold c0y
  rw [Try.underlying9]
  exact fun s h => d7h ⟨s,rfl,h⟩
theorem d6p:∀ t,b2h t → Clo Try.prog b2v b2h t:=by
  intro t ht
  rcases List.mem_cons.1 ht with h | ht
  · rw [h]; exact d4b
  rcases List.mem_cons.1 ht with h | ht
  · rw [h]; exact d4c
  rcases List.mem_cons.1 ht with h | ht
  · rw [h]; exact d4d
  rcases List.mem_cons.1 ht with h | ht
  · rw [h]; exact d4e
  rcases List.mem_cons.1 ht with h | ht
  · rw [h]; exact d5x
  rcases List.mem_cons.1 ht with h | ht
  · rw [h]; exact d4f
  rcases List.mem_cons.1 ht with h | ht
  · rw [h]; exact d1o
  rcases List.mem_cons.1 ht with h | ht
  · rw [h]; exact d1p
  rcases List.mem_cons.1 ht with h | ht
  · rw [h]; exact d5y
  exact absurd ht List.not_mem_nil
end Go.R
namespace Go.Proofs.Ythneidgpgfgecaa.fnExactDiffStores
open Go.ChangeShapes Go.WideShapes Go.ChangeAt Go.RowKit Go.R
open Go.ChangeMaps (open_string shut_string)
set_option linter.unusedVariables false

theorem own:ownKnob Try.prog.godebug = none:=by kernel_rfl
theorem laidOut:laidOutB Try.prog = true:=by kernel_rfl

set_option maxRecDepth 100000 in
theorem lifted (os:Os) (started:os.Started) (H:Type) (enc:TypeId × Value → H) :
    ReturnsInHanded {} Try.checked os 6 .any (Rows.fnExactDiffStoresSpec.pre6 enc Try.prog Try.f6 Rows.fnExactDiffStoresRow.domain false) (Rows.fnExactDiffStoresSpec.post enc Try.prog Try.f6 false true false false):=by
  refine returnsInHanded_of_change (C:=Try.checked) own started (by kernel_rfl) Try.func6
    (ChangeSpec.witness6 (enc:=enc) (C:=Try.checked) false ⟨#[],#[.agg #[.slice none 0 0,.int .i64 0],.agg #[.slice none 0 0,.int .i64 0]],[]⟩ 8 (by kernel_rfl) (by kernel_rfl) (by kernel_rfl) (by kernel_rfl)) ?_
  intro W base args ds gs before hval0 hW hcnd _
  have hval:∀ (j:Nat) t v,Try.f6.params[j]? = some t → args[j]? = some v → Value.okWide Try.prog W .any base t v:=hval0
  have hW':=hW
  obtain ⟨p,q,hA0,hV,rfl,hfz,hnd⟩:=hW
  have hA:DataW.TrodAll enc Try.prog W 0 (fun _ => true) true Try.f6.params.toList args.toList ds p:=hA0
  rw [Try.params6] at hA hval
  obtain ⟨v0,vs0,d0,ds0,p0,q0,hargs,rfl,rfl,h0,r0⟩:=trodAll_cons hA
  obtain ⟨v1,vs1,d1,ds1,p1,q1,rfl,rfl,rfl,h1,r1⟩:=trodAll_cons r0
  obtain ⟨rfl,rfl,rfl⟩:=trodAll_nil r1
  obtain rfl:args = #[v0,v1]:=by cases args; simp_all
  obtain ⟨rfl,rfl⟩:=trodVars_none hV
  have k0:=h0
  have lt0:∀ x ∈ p0,x.block < W.heap.size:=by obtain ⟨m,hm⟩:=k0; exact DataW.trod_lt m _ _ _ hm
  obtain ⟨az0,fp0,g0,t0⟩:=d6g d6p Try.underlying39 (by simp [b2h]) (hval 0 39 v0 rfl rfl) h0
  obtain ⟨x0,rfl,ok0⟩:=t0
  have k1:=h1
  have lt1:∀ x ∈ p1,x.block < W.heap.size:=by obtain ⟨m,hm⟩:=k1; exact DataW.trod_lt m _ _ _ hm
  obtain ⟨az1,fp1,g1,t1⟩:=d6g d6p Try.underlying39 (by simp [b2h]) (hval 1 39 v1 rfl rfl) h1
  obtain ⟨x1,rfl,ok1⟩:=t1
  clear hA0 hval0
  have hc:=b1y x0 x1 true (b3j x0 x1 ok0 ok1)
  refine (d0t hc (a1k.cons g0 (a1k.cons g1 a1k.nil))).mono fun e W' ⟨he,bel⟩ => ?_
  subst he
  exact ⟨_,rfl,_,_,_,[],_,[],hW',trodAll_mk1 (shut_bool Try.underlying4 _),(trodAll_cons_mk (Below.trod laidOut (by kernel_rfl) (of_decide_eq_true (by kernel_rfl)) k0 bel lt0) (trodAll_cons_mk (Below.trod laidOut (by kernel_rfl) (of_decide_eq_true (by kernel_rfl)) k1 bel lt1) trodAll_mk0)),rfl,bel.frame _,fun h => by cases h⟩

theorem a8s {a b:Bool} (h:a = true) (g:b = true):(a && b) = true:=by rw [h,g]; rfl
theorem j0:(Rows.fnExactDiffStoresRow.wf (OpenSpec.ofChange Rows.fnExactDiffStoresSpec)) = true:=by kernel_rfl
theorem j1:(laidOutB Try.prog) = true:=laidOut
theorem j2:(mapsRowed Try.prog) = true:=by kernel_rfl
theorem j3:(Try.f6.params.all (Program.readableRec Try.prog ·)) = true:=by kernel_rfl
theorem j4:(namedTie Try.prog Rows.fnExactDiffStoresRow.named Rows.fnExactDiffStoresSpec.vars) = true:=by kernel_rfl
theorem j5:((Rows.fnExactDiffStoresRow.stops == [])) = true:=by kernel_rfl
theorem j6:((Try.prog.stops == [])) = true:=by kernel_rfl
theorem j7:((Rows.fnExactDiffStoresRow.knobs == [])) = true:=by kernel_rfl
theorem j8:((Try.prog.stopKnobs == [])) = true:=by kernel_rfl
theorem j9:((Rows.fnExactDiffStoresRow.inPlace == Try.prog.inPlace 6)) = true:=by kernel_rfl
theorem j10:((Rows.fnExactDiffStoresRow.unfollowed == Try.prog.unfollowed 6)) = true:=by kernel_rfl
theorem j11:((Rows.fnExactDiffStoresRow.recurses == Try.prog.recurses 6)) = true:=by kernel_rfl
theorem j12:((Rows.fnExactDiffStoresRow.named == Try.prog.varsNamed 6)) = true:=by kernel_rfl
theorem j13:((Rows.fnExactDiffStoresRow.maps == (Try.f6.params.toList ++ Rows.fnExactDiffStoresSpec.plain.varTypes Try.prog).any (Try.prog.mapsRec ·))) = true:=by kernel_rfl
theorem j14:((Rows.fnExactDiffStoresRow.ifaces == (Try.f6.params.toList ++ Rows.fnExactDiffStoresSpec.plain.varTypes Try.prog).any (Try.prog.ifacesRec ·))) = true:=by kernel_rfl
theorem j15:((Rows.fnExactDiffStoresRow.mapsOut == Try.prog.mapsAmong Try.f6.resultTypes.toList)) = true:=by kernel_rfl
theorem j16:((Rows.fnExactDiffStoresRow.loops == (Try.f6.params.toList ++ Rows.fnExactDiffStoresSpec.plain.varTypes Try.prog).any (Try.prog.loopsFrom ·))) = true:=by kernel_rfl
theorem j17:((Rows.fnExactDiffStoresRow.wideKeys == (Try.f6.params.toList ++ Rows.fnExactDiffStoresSpec.plain.varTypes Try.prog ++ Try.f6.resultTypes.toList).any (Try.prog.wideKeysFrom ·))) = true:=by kernel_rfl
theorem j18:(Rows.fnExactDiffStoresSpec.vars.all (Try.prog.varReadable ·)) = true:=by kernel_rfl
theorem j19:(Try.f6.resultTypes.all (fun t => Try.prog.readableRec t && decide (t < Try.prog.types.size))) = true:=by kernel_rfl
theorem j20:((Rows.fnExactDiffStoresRow.ifacesOut == Try.f6.resultTypes.toList.any (Try.prog.ifacesRec ·))) = true:=by kernel_rfl
theorem j21:((Rows.fnExactDiffStoresRow.loopsOut == Try.f6.resultTypes.toList.any (Try.prog.loopsFrom ·))) = true:=by kernel_rfl
theorem j22:((Rows.fnExactDiffStoresRow.plainKeys == Try.prog.plainKeys)) = true:=by kernel_rfl
theorem j23:(Rows.fnExactDiffStoresRow.shortTexts.isNone) = true:=by kernel_rfl
theorem j24:(Try.prog.stopsHeard) = true:=by kernel_rfl
theorem j25:(Try.prog.mayEnter) = true:=by kernel_rfl
theorem j26:((Rows.fnExactDiffStoresRow.lifted == Try.prog.liftsFinal)) = true:=by kernel_rfl
theorem j27:((Try.prog.make == some Rows.fnExactDiffStoresRow.make)) = true:=by kernel_rfl
theorem j28:((Rows.fnExactDiffStoresRow.kinds == (if Rows.fnExactDiffStoresRow.domain.isEmpty then [] else Try.f6.params.toList.map fun t => match Try.prog.underlying t with | some (.int k) => some k | _ => none))) = true:=by kernel_rfl
theorem j29:((Rows.fnExactDiffStoresRow.pinned == Rows.fnExactDiffStoresRow.pinnedBy)) = true:=by kernel_rfl
theorem j30:((Rows.fnExactDiffStoresRow.veiled == (Try.f6.params.toList ++ Rows.fnExactDiffStoresSpec.plain.varTypes Try.prog ++ Try.f6.resultTypes.toList).any (Try.prog.veiledRec ·))) = true:=by kernel_rfl
theorem j31:(Rows.fnExactDiffStoresRow.veiledFits Try.prog Try.f6.params.toList (Try.f6.params.toList ++ Rows.fnExactDiffStoresSpec.plain.varTypes Try.prog ++ Try.f6.resultTypes.toList)) = true:=by kernel_rfl
set_option maxRecDepth 100000 in
theorem closed:joinedFacts Try.prog 6 Try.f6 Rows.fnExactDiffStoresSpec Rows.fnExactDiffStoresRow = true:=(a8s (a8s (a8s (a8s (a8s (a8s (a8s (a8s (a8s (a8s (a8s (a8s (a8s (a8s (a8s (a8s (a8s (a8s (a8s (a8s (a8s (a8s (a8s (a8s (a8s (a8s (a8s (a8s (a8s (a8s (a8s j0 j1) j2) j3) j4) j5) j6) j7) j8) j9) j10) j11) j12) j13) j14) j15) j16) j17) j18) j19) j20) j21) j22) j23) j24) j25) j26) j27) j28) j29) j30) j31)
theorem named:Try.prog.funcNamed Rows.fnExactDiffStoresRow.func = some 6:=by kernel_rfl
theorem inst:Try.f6.isInstance Try.prog Rows.fnExactDiffStoresRow.origin Rows.fnExactDiffStoresRow.targs:=of_decide_eq_true (by kernel_rfl)
theorem wrap:Try.f6.isWrapper Try.prog Rows.fnExactDiffStoresRow.wrapper Rows.fnExactDiffStoresRow.mainSum:=by unfold Func.isWrapper; first | (rw [if_pos (by decide +kernel)]; kernel_rfl) | (rw [if_neg (by decide +kernel)]; exact ⟨rfl,rfl⟩)
theorem over:Rows.fnExactDiffStoresRow.holds Try.pinned (OpenSpec.ofChange Rows.fnExactDiffStoresSpec) :=
  OpenClaim.holds_of_wide 6 Try.f6 rfl rfl rfl rfl rfl rfl rfl ⟨rfl,rfl,rfl,rfl,rfl⟩ rfl rfl rfl rfl rfl named Try.func6 closed inst wrap
    (fun os started H enc _ => lifted os started H enc)

theorem proved:Rows.FnExactDiffStoresSaid:=over
#print axioms proved
end Go.Proofs.Ythneidgpgfgecaa.fnExactDiffStores
