/- 'FnExactJsonDatum': for every input the law returns true, and each argument reads behind the call as it read before. No condition. -/
import Derived.Test.YtgdkfnndbknjpaaJDL
import Derived.WalkKit
import Derived.ProofKit
import Derived.OpenShut
import Derived.ShutString
import Derived.ChangeOld
import Derived.Below
set_option linter.all false
namespace Go.R
open Go Go.Proofs
set_option linter.unusedSimpArgs false
set_option maxHeartbeats 8000000
def b9l (t:TypeId) (az:List AV):Prop :=
  bif Nat.beq t 25 then ∃ x:o8,az = [(.int .i64 x.Kind),(.int .i64 x.N),(.str x.T),(.lst 1 (x.Keys.map AV.str)),(.lst 5 (x.Items.map l9))] ∧ a4d x else
  bif Nat.beq t 3 then ∃ x:Int,az = [(.int .i64 x)] ∧ (okI .i64) x else
  bif Nat.beq t 9 then ∃ x:Str,az = [(.str x)] ∧ (okS) x else
  bif Nat.beq t 22 then ∃ x:(List Str),az = [(.lst 1 (x.map AV.str))] ∧ (okL (okS)) x else
  bif Nat.beq t 23 then ∃ x:(List o8),az = [(.lst 5 (x.map l9))] ∧ (okL (a4d)) x else
  False
theorem d1z {az:List AV} (h:∃ x:o8,az = [(.int .i64 x.Kind),(.int .i64 x.N),(.str x.T),(.lst 1 (x.Keys.map AV.str)),(.lst 5 (x.Items.map l9))] ∧ a4d x):b9l 25 az:=h
theorem d3l {az:List AV} (h:∃ x:Int,az = [(.int .i64 x)] ∧ (okI .i64) x):b9l 3 az:=h
theorem d3m {az:List AV} (h:∃ x:Str,az = [(.str x)] ∧ (okS) x):b9l 9 az:=h
theorem d2a {az:List AV} (h:∃ x:(List Str),az = [(.lst 1 (x.map AV.str))] ∧ (okL (okS)) x):b9l 22 az:=h
theorem d2b {az:List AV} (h:∃ x:(List o8),az = [(.lst 5 (x.map l9))] ∧ (okL (a4d)) x):b9l 23 az:=h
def b9m (t:TypeId):Prop:=t ∈ [25,3,9,22,23]
theorem d0k:Clo Try.prog b9l b9m 25:=by
  refine ⟨?_⟩
  unfold c6j
  rw [Try.underlying25]
  refine ⟨(And.intro (by kernel_rfl) (And.intro (by kernel_rfl) (And.intro (by kernel_rfl) (And.intro (by kernel_rfl) (And.intro (by kernel_rfl) (show (_:Nat) = _ from by kernel_rfl)))))),by simp [b9m],fun ass h => ?_⟩
  rcases ass with _ | ⟨a0,_ | ⟨a1,_ | ⟨a2,_ | ⟨a3,_ | ⟨a4,_ | _⟩⟩⟩⟩⟩
  · exact absurd h (by simp [Fa])
  · exact absurd h (by simp [Fa])
  · exact absurd h (by simp [Fa])
  · exact absurd h (by simp [Fa])
  · exact absurd h (by simp [Fa])
  · obtain ⟨⟨x0,rfl,h0⟩,⟨x1,rfl,h1⟩,⟨x2,rfl,h2⟩,⟨x3,rfl,h3⟩,⟨x4,rfl,h4⟩,_⟩:=h
    exact d1z ⟨⟨x0,x1,x2,x3,x4⟩,rfl,.mk h0 h1 h2 h3 h4.1 h4.2⟩
  · exact absurd h (by simp [Fa])
theorem d2c:Clo Try.prog b9l b9m 3:=by
  refine ⟨?_⟩
  unfold c6j
  rw [Try.underlying3]
  exact fun n h => d3l ⟨n,rfl,h⟩
theorem d2d:Clo Try.prog b9l b9m 9:=by
  refine ⟨?_⟩
  unfold c6j
  rw [Try.underlying9]
  exact fun s h => d3m ⟨s,rfl,h⟩
theorem d0l:Clo Try.prog b9l b9m 22:=by
  refine ⟨?_⟩
  unfold c6j
  rw [Try.underlying22]
  refine ⟨by simp [b9m],false,by kernel_rfl,(of_decide_eq_true (by kernel_rfl)),.inr (by kernel_rfl),fun l hl h => ?_⟩
  obtain ⟨ys,rfl,hys⟩:=c6k (enc:=AV.str) (Q:=okS) l (fun x hx => by
    rcases h x hx with ⟨h,_⟩ | ⟨_,y,hy,hy2⟩
    · cases h
    · simp only [List.cons.injEq,and_true] at hy
      exact ⟨y,hy,hy2⟩)
  rw [List.length_map] at hl
  have hc:Try.prog.cellsOf 9 = 1:=by kernel_rfl
  rw [hc]
  exact d2a ⟨ys,rfl,hl,hys⟩
theorem d0m:Clo Try.prog b9l b9m 23:=by
  refine ⟨?_⟩
  unfold c6j
  rw [Try.underlying23]
  refine ⟨by simp [b9m],true,by kernel_rfl,(of_decide_eq_true (by kernel_rfl)),.inl rfl,fun l hl h => ?_⟩
  obtain ⟨ys,rfl,hys⟩:=c6k (enc:=l9) (Q:=a4d) l (fun x hx => by
    rcases h x hx with ⟨_,az,rfl,y,rfl,hy⟩ | ⟨h,_⟩
    · exact ⟨y,(o9 y).symm,hy⟩
    · cases h)
  rw [List.length_map] at hl
  have hc:Try.prog.cellsOf 25 = 5:=by kernel_rfl
  rw [hc]
  exact d2b ⟨ys,rfl,hl,hys⟩
theorem d4n:∀ t,b9m t → Clo Try.prog b9l b9m t:=by
  intro t ht
  rcases List.mem_cons.1 ht with h | ht
  · rw [h]; exact d0k
  rcases List.mem_cons.1 ht with h | ht
  · rw [h]; exact d2c
  rcases List.mem_cons.1 ht with h | ht
  · rw [h]; exact d2d
  rcases List.mem_cons.1 ht with h | ht
  · rw [h]; exact d0l
  rcases List.mem_cons.1 ht with h | ht
  · rw [h]; exact d0m
  exact absurd ht List.not_mem_nil
end Go.R
namespace Go.Proofs.Ytgdkfnndbknjpaa.fnExactJsonDatum
open Go.ChangeShapes Go.WideShapes Go.ChangeAt Go.RowKit Go.R
open Go.ChangeMaps (open_string shut_string)
set_option linter.unusedVariables false

theorem own:ownKnob Try.prog.godebug = none:=by kernel_rfl
theorem laidOut:laidOutB Try.prog = true:=by kernel_rfl

set_option maxRecDepth 100000 in
theorem lifted (os:Os) (started:os.Started) (H:Type) (enc:TypeId × Value → H) :
    ReturnsInHanded {} Try.checked os 3 .any (Rows.fnExactJsonDatumSpec.pre6 enc Try.prog Try.f3 Rows.fnExactJsonDatumRow.domain false) (Rows.fnExactJsonDatumSpec.post enc Try.prog Try.f3 false true false false):=by
  refine returnsInHanded_of_change (C:=Try.checked) own started (by kernel_rfl) Try.func3
    (ChangeSpec.witness6 (enc:=enc) (C:=Try.checked) false ⟨#[],#[.agg #[.int .i64 0,.int .i64 0,.string ByteArray.empty,.slice none 0 0,.slice none 0 0]],[]⟩ 8 (by kernel_rfl) (by kernel_rfl) (by kernel_rfl) (by kernel_rfl)) ?_
  intro W base args ds gs before hval0 hW hcnd _
  have hval:∀ (j:Nat) t v,Try.f3.params[j]? = some t → args[j]? = some v → Value.okWide Try.prog W .any base t v:=hval0
  have hW':=hW
  obtain ⟨p,q,hA0,hV,rfl,hfz,hnd⟩:=hW
  have hA:DataW.TrodAll enc Try.prog W 0 (fun _ => true) true Try.f3.params.toList args.toList ds p:=hA0
  rw [Try.params3] at hA hval
  obtain ⟨v0,vs0,d0,ds0,p0,q0,hargs,rfl,rfl,h0,r0⟩:=trodAll_cons hA
  obtain ⟨rfl,rfl,rfl⟩:=trodAll_nil r0
  obtain rfl:args = #[v0]:=by cases args; simp_all
  obtain ⟨rfl,rfl⟩:=trodVars_none hV
  have k0:=h0
  have lt0:∀ x ∈ p0,x.block < W.heap.size:=by obtain ⟨m,hm⟩:=k0; exact DataW.trod_lt m _ _ _ hm
  obtain ⟨az0,fp0,g0,t0⟩:=d4d d4n Try.underlying25 (by simp [b9m]) (hval 0 25 v0 rfl rfl) h0
  obtain ⟨x0,rfl,ok0⟩:=t0
  clear hA0 hval0
  have hc:=b0o x0 true (b2h x0 ok0)
  rw [o9 x0] at hc
  refine (c8d hc (a0u.cons g0 a0u.nil)).mono fun e W' ⟨he,bel⟩ => ?_
  subst he
  exact ⟨_,rfl,_,_,_,[],_,[],hW',trodAll_mk1 (shut_bool Try.underlying4 _),(trodAll_cons_mk (Below.trod laidOut (by kernel_rfl) (of_decide_eq_true (by kernel_rfl)) k0 bel lt0) trodAll_mk0),rfl,bel.frame _,fun h => by cases h⟩

theorem a7k {a b:Bool} (h:a = true) (g:b = true):(a && b) = true:=by rw [h,g]; rfl
theorem j0:(Rows.fnExactJsonDatumRow.wf (OpenSpec.ofChange Rows.fnExactJsonDatumSpec)) = true:=by kernel_rfl
theorem j1:(laidOutB Try.prog) = true:=laidOut
theorem j2:(mapsRowed Try.prog) = true:=by kernel_rfl
theorem j3:(Try.f3.params.all (Program.readableRec Try.prog ·)) = true:=by kernel_rfl
theorem j4:(namedTie Try.prog Rows.fnExactJsonDatumRow.named Rows.fnExactJsonDatumSpec.vars) = true:=by kernel_rfl
theorem j5:((Rows.fnExactJsonDatumRow.stops == [])) = true:=by kernel_rfl
theorem j6:((Try.prog.stops == [])) = true:=by kernel_rfl
theorem j7:((Rows.fnExactJsonDatumRow.knobs == [])) = true:=by kernel_rfl
theorem j8:((Try.prog.stopKnobs == [])) = true:=by kernel_rfl
theorem j9:((Rows.fnExactJsonDatumRow.inPlace == Try.prog.inPlace 3)) = true:=by kernel_rfl
theorem j10:((Rows.fnExactJsonDatumRow.unfollowed == Try.prog.unfollowed 3)) = true:=by kernel_rfl
theorem j11:((Rows.fnExactJsonDatumRow.recurses == Try.prog.recurses 3)) = true:=by kernel_rfl
theorem j12:((Rows.fnExactJsonDatumRow.named == Try.prog.varsNamed 3)) = true:=by kernel_rfl
theorem j13:((Rows.fnExactJsonDatumRow.maps == (Try.f3.params.toList ++ Rows.fnExactJsonDatumSpec.plain.varTypes Try.prog).any (Try.prog.mapsRec ·))) = true:=by kernel_rfl
theorem j14:((Rows.fnExactJsonDatumRow.ifaces == (Try.f3.params.toList ++ Rows.fnExactJsonDatumSpec.plain.varTypes Try.prog).any (Try.prog.ifacesRec ·))) = true:=by kernel_rfl
theorem j15:((Rows.fnExactJsonDatumRow.mapsOut == Try.prog.mapsAmong Try.f3.resultTypes.toList)) = true:=by kernel_rfl
theorem j16:((Rows.fnExactJsonDatumRow.loops == (Try.f3.params.toList ++ Rows.fnExactJsonDatumSpec.plain.varTypes Try.prog).any (Try.prog.loopsFrom ·))) = true:=by kernel_rfl
theorem j17:((Rows.fnExactJsonDatumRow.wideKeys == (Try.f3.params.toList ++ Rows.fnExactJsonDatumSpec.plain.varTypes Try.prog ++ Try.f3.resultTypes.toList).any (Try.prog.wideKeysFrom ·))) = true:=by kernel_rfl
theorem j18:(Rows.fnExactJsonDatumSpec.vars.all (Try.prog.varReadable ·)) = true:=by kernel_rfl
theorem j19:(Try.f3.resultTypes.all (fun t => Try.prog.readableRec t && decide (t < Try.prog.types.size))) = true:=by kernel_rfl
theorem j20:((Rows.fnExactJsonDatumRow.ifacesOut == Try.f3.resultTypes.toList.any (Try.prog.ifacesRec ·))) = true:=by kernel_rfl
theorem j21:((Rows.fnExactJsonDatumRow.loopsOut == Try.f3.resultTypes.toList.any (Try.prog.loopsFrom ·))) = true:=by kernel_rfl
theorem j22:((Rows.fnExactJsonDatumRow.plainKeys == Try.prog.plainKeys)) = true:=by kernel_rfl
theorem j23:(Rows.fnExactJsonDatumRow.shortTexts.isNone) = true:=by kernel_rfl
theorem j24:(Try.prog.stopsHeard) = true:=by kernel_rfl
theorem j25:(Try.prog.mayEnter) = true:=by kernel_rfl
theorem j26:((Rows.fnExactJsonDatumRow.lifted == Try.prog.liftsFinal)) = true:=by kernel_rfl
theorem j27:((Try.prog.make == some Rows.fnExactJsonDatumRow.make)) = true:=by kernel_rfl
theorem j28:((Rows.fnExactJsonDatumRow.kinds == (if Rows.fnExactJsonDatumRow.domain.isEmpty then [] else Try.f3.params.toList.map fun t => match Try.prog.underlying t with | some (.int k) => some k | _ => none))) = true:=by kernel_rfl
theorem j29:((Rows.fnExactJsonDatumRow.pinned == Rows.fnExactJsonDatumRow.pinnedBy)) = true:=by kernel_rfl
theorem j30:((Rows.fnExactJsonDatumRow.veiled == (Try.f3.params.toList ++ Rows.fnExactJsonDatumSpec.plain.varTypes Try.prog ++ Try.f3.resultTypes.toList).any (Try.prog.veiledRec ·))) = true:=by kernel_rfl
theorem j31:(Rows.fnExactJsonDatumRow.veiledFits Try.prog Try.f3.params.toList (Try.f3.params.toList ++ Rows.fnExactJsonDatumSpec.plain.varTypes Try.prog ++ Try.f3.resultTypes.toList)) = true:=by kernel_rfl
set_option maxRecDepth 100000 in
theorem closed:joinedFacts Try.prog 3 Try.f3 Rows.fnExactJsonDatumSpec Rows.fnExactJsonDatumRow = true:=(a7k (a7k (a7k (a7k (a7k (a7k (a7k (a7k (a7k (a7k (a7k (a7k (a7k (a7k (a7k (a7k (a7k (a7k (a7k (a7k (a7k (a7k (a7k (a7k (a7k (a7k (a7k (a7k (a7k (a7k (a7k j0 j1) j2) j3) j4) j5) j6) j7) j8) j9) j10) j11) j12) j13) j14) j15) j16) j17) j18) j19) j20) j21) j22) j23) j24) j25) j26) j27) j28) j29) j30) j31)
theorem named:Try.prog.funcNamed Rows.fnExactJsonDatumRow.func = some 3:=by kernel_rfl
theorem inst:Try.f3.isInstance Try.prog Rows.fnExactJsonDatumRow.origin Rows.fnExactJsonDatumRow.targs:=of_decide_eq_true (by kernel_rfl)
theorem wrap:Try.f3.isWrapper Try.prog Rows.fnExactJsonDatumRow.wrapper Rows.fnExactJsonDatumRow.mainSum:=by unfold Func.isWrapper; first | (rw [if_pos (by decide +kernel)]; kernel_rfl) | (rw [if_neg (by decide +kernel)]; exact ⟨rfl,rfl⟩)
theorem over:Rows.fnExactJsonDatumRow.holds Try.pinned (OpenSpec.ofChange Rows.fnExactJsonDatumSpec) :=
  OpenClaim.holds_of_wide 3 Try.f3 rfl rfl rfl rfl rfl rfl rfl ⟨rfl,rfl,rfl,rfl,rfl⟩ rfl rfl rfl rfl rfl named Try.func3 closed inst wrap
    (fun os started H enc _ => lifted os started H enc)

theorem proved:Rows.FnExactJsonDatumSaid:=over
#print axioms proved
end Go.Proofs.Ytgdkfnndbknjpaa.fnExactJsonDatum
