/- 'FnExactRowJson': for every input the law returns true, and each argument reads behind the call as it read before. No condition. -/
import Derived.Test.YtldahjcikmpifaaGreatROJL
import Derived.WalkKit
import Derived.ProofKit
import Derived.OpenShut
import Derived.ShutString
import Derived.ChangeOld
import Derived.Below
set_option linter.all false
namespace Go.R
open Go Go.Proofs
set_option linter.unusedSimpArgs false
set_option maxHeartbeats 8000000
def b3e (t:TypeId) (az:List AV):Prop :=
  bif Nat.beq t 46 then ∃ x:(List Str),az = [(.lst 1 (x.map AV.str))] ∧ (okL (okS)) x else
  bif Nat.beq t 9 then ∃ x:Str,az = [(.str x)] ∧ (okS) x else
  bif Nat.beq t 49 then ∃ x:a3r,az = [(.int .i64 x.Id),(.lst 1 (x.Cells.map (a0t 3 l9)))] ∧ c9e x else
  bif Nat.beq t 3 then ∃ x:Int,az = [(.int .i64 x)] ∧ (okI .i64) x else
  bif Nat.beq t 47 then ∃ x:(List (List a0a)),az = [(.lst 1 (x.map (a0t 3 l9)))] ∧ (okL (okL (a7k))) x else
  bif Nat.beq t 219 then ∃ x:(List a0a),az = [(.lst 3 (x.map l9))] ∧ (okL (a7k)) x else
  bif Nat.beq t 293 then ∃ x:a0a,az = [(.int .i64 x.Kind),(.int .i64 x.N),(.str x.T)] ∧ a7k x else
  False
theorem d8n {az:List AV} (h:∃ x:(List Str),az = [(.lst 1 (x.map AV.str))] ∧ (okL (okS)) x):b3e 46 az:=h
theorem e0a {az:List AV} (h:∃ x:Str,az = [(.str x)] ∧ (okS) x):b3e 9 az:=h
theorem d8o {az:List AV} (h:∃ x:a3r,az = [(.int .i64 x.Id),(.lst 1 (x.Cells.map (a0t 3 l9)))] ∧ c9e x):b3e 49 az:=h
theorem e0b {az:List AV} (h:∃ x:Int,az = [(.int .i64 x)] ∧ (okI .i64) x):b3e 3 az:=h
theorem d8p {az:List AV} (h:∃ x:(List (List a0a)),az = [(.lst 1 (x.map (a0t 3 l9)))] ∧ (okL (okL (a7k))) x):b3e 47 az:=h
theorem d5r {az:List AV} (h:∃ x:(List a0a),az = [(.lst 3 (x.map l9))] ∧ (okL (a7k)) x):b3e 219 az:=h
theorem d5s {az:List AV} (h:∃ x:a0a,az = [(.int .i64 x.Kind),(.int .i64 x.N),(.str x.T)] ∧ a7k x):b3e 293 az:=h
def b2h (t:TypeId):Prop:=t ∈ [46,9,49,3,47,219,293]
theorem d5t:Clo Tryz.prog b3e b2h 46:=by
  refine ⟨?_⟩
  unfold c6b
  rw [Tryz.underlying46]
  refine ⟨by simp [b2h],false,by kernel_rfl,(of_decide_eq_true (by kernel_rfl)),.inr (by kernel_rfl),fun l hl h => ?_⟩
  obtain ⟨ys,rfl,hys⟩:=c8x (enc:=AV.str) (Q:=okS) l (fun x hx => by
    rcases h x hx with ⟨h,_⟩ | ⟨_,y,hy,hy2⟩
    · cases h
    · simp only [List.cons.injEq,and_true] at hy
      exact ⟨y,hy,hy2⟩)
  rw [List.length_map] at hl
  have hc:Tryz.prog.cellsOf 9 = 1:=by kernel_rfl
  rw [hc]
  exact d8n ⟨ys,rfl,hl,hys⟩
theorem d8q:Clo Tryz.prog b3e b2h 9:=by
  refine ⟨?_⟩
  unfold c6b
  rw [Tryz.underlying9]
  exact fun s h => e0a ⟨s,rfl,h⟩
theorem d5u:Clo Tryz.prog b3e b2h 49:=by
  refine ⟨?_⟩
  unfold c6b
  rw [Tryz.underlying49]
  refine ⟨(And.intro (by kernel_rfl) (And.intro (by kernel_rfl) (show (_:Nat) = _ from by kernel_rfl))),by simp [b2h],fun ass h => ?_⟩
  rcases ass with _ | ⟨a0,_ | ⟨a1,_ | _⟩⟩
  · exact absurd h (by simp [Fa])
  · exact absurd h (by simp [Fa])
  · obtain ⟨⟨x0,rfl,h0⟩,⟨x1,rfl,h1⟩,_⟩:=h
    exact d8o ⟨⟨x0,x1⟩,rfl,⟨h0,h1⟩⟩
  · exact absurd h (by simp [Fa])
theorem d8r:Clo Tryz.prog b3e b2h 3:=by
  refine ⟨?_⟩
  unfold c6b
  rw [Tryz.underlying3]
  exact fun n h => e0b ⟨n,rfl,h⟩
theorem d5v:Clo Tryz.prog b3e b2h 47:=by
  refine ⟨?_⟩
  unfold c6b
  rw [Tryz.underlying47]
  refine ⟨by simp [b2h],false,by kernel_rfl,(of_decide_eq_true (by kernel_rfl)),.inr (by kernel_rfl),fun l hl h => ?_⟩
  obtain ⟨ys,rfl,hys⟩:=c8x (enc:=(a0t 3 l9)) (Q:=okL (a7k)) l (fun x hx => by
    rcases h x hx with ⟨h,_⟩ | ⟨_,y,hy,hy2⟩
    · cases h
    · simp only [List.cons.injEq,and_true] at hy
      exact ⟨y,hy,hy2⟩)
  rw [List.length_map] at hl
  have hc:Tryz.prog.cellsOf 219 = 1:=by kernel_rfl
  rw [hc]
  exact d8p ⟨ys,rfl,hl,hys⟩
theorem d3f:Clo Tryz.prog b3e b2h 219:=by
  refine ⟨?_⟩
  unfold c6b
  rw [Tryz.underlying219]
  refine ⟨by simp [b2h],true,by kernel_rfl,(of_decide_eq_true (by kernel_rfl)),.inl rfl,fun l hl h => ?_⟩
  obtain ⟨ys,rfl,hys⟩:=c8x (enc:=l9) (Q:=a7k) l (fun x hx => by
    rcases h x hx with ⟨_,az,rfl,y,rfl,hy⟩ | ⟨h,_⟩
    · exact ⟨y,rfl,hy⟩
    · cases h)
  rw [List.length_map] at hl
  have hc:Tryz.prog.cellsOf 293 = 3:=by kernel_rfl
  rw [hc]
  exact d5r ⟨ys,rfl,hl,hys⟩
theorem d3g:Clo Tryz.prog b3e b2h 293:=by
  refine ⟨?_⟩
  unfold c6b
  rw [Tryz.underlying293]
  refine ⟨(And.intro (by kernel_rfl) (And.intro (by kernel_rfl) (And.intro (by kernel_rfl) (show (_:Nat) = _ from by kernel_rfl)))),by simp [b2h],fun ass h => ?_⟩
  rcases ass with _ | ⟨a0,_ | ⟨a1,_ | ⟨a2,_ | _⟩⟩⟩
  · exact absurd h (by simp [Fa])
  · exact absurd h (by simp [Fa])
  · exact absurd h (by simp [Fa])
  · obtain ⟨⟨x0,rfl,h0⟩,⟨x1,rfl,h1⟩,⟨x2,rfl,h2⟩,_⟩:=h
    exact d5s ⟨⟨x0,x1,x2⟩,rfl,⟨h0,h1,h2⟩⟩
  · exact absurd h (by simp [Fa])
theorem d8s:∀ t,b2h t → Clo Tryz.prog b3e b2h t:=by
  intro t ht
  rcases List.mem_cons.1 ht with h | ht
  · rw [h]; exact d5t
  rcases List.mem_cons.1 ht with h | ht
  · rw [h]; exact d8q
  rcases List.mem_cons.1 ht with h | ht
  · rw [h]; exact d5u
  rcases List.mem_cons.1 ht with h | ht
  · rw [h]; exact d8r
  rcases List.mem_cons.1 ht with h | ht
  · rw [h]; exact d5v
  rcases List.mem_cons.1 ht with h | ht
  · rw [h]; exact d3f
  rcases List.mem_cons.1 ht with h | ht
  · rw [h]; exact d3g
  exact absurd ht List.not_mem_nil
end Go.R
namespace Go.Proofs.YtldahjcikmpifaaGreat.fnExactRowJson
open Go.ChangeShapes Go.WideShapes Go.ChangeAt Go.RowKit Go.R
open Go.ChangeMaps (open_string shut_string)
set_option linter.unusedVariables false

theorem own:ownKnob Tryz.prog.godebug = none:=by kernel_rfl
theorem laidOut:laidOutB Tryz.prog = true:=by kernel_rfl

set_option maxRecDepth 100000 in
theorem lifted (os:Os) (started:os.Started) (H:Type) (enc:TypeId × Value → H) :
    ReturnsInHanded {} Tryz.checked os 4 .any (Rows.fnExactRowJsonSpec.pre6 enc Tryz.prog Tryz.f4 Rows.fnExactRowJsonRow.domain false) (Rows.fnExactRowJsonSpec.post enc Tryz.prog Tryz.f4 false true false false):=by
  refine returnsInHanded_of_change (C:=Tryz.checked) own started (by kernel_rfl) Tryz.func4
    (ChangeSpec.witness6 (enc:=enc) (C:=Tryz.checked) false ⟨#[],#[.slice none 0 0,.agg #[.int .i64 0,.slice none 0 0]],[]⟩ 8 (by kernel_rfl) (by kernel_rfl) (by kernel_rfl) (by kernel_rfl)) ?_
  intro W base args ds gs before hval0 hW hcnd _
  have hval:∀ (j:Nat) t v,Tryz.f4.params[j]? = some t → args[j]? = some v → Value.okWide Tryz.prog W .any base t v:=hval0
  have hW':=hW
  obtain ⟨p,q,hA0,hV,rfl,hfz,hnd⟩:=hW
  have hA:DataW.TrodAll enc Tryz.prog W 0 (fun _ => true) true Tryz.f4.params.toList args.toList ds p:=hA0
  rw [Tryz.params4] at hA hval
  obtain ⟨v0,vs0,d0,ds0,p0,q0,hargs,rfl,rfl,h0,r0⟩:=trodAll_cons hA
  obtain ⟨v1,vs1,d1,ds1,p1,q1,rfl,rfl,rfl,h1,r1⟩:=trodAll_cons r0
  obtain ⟨rfl,rfl,rfl⟩:=trodAll_nil r1
  obtain rfl:args = #[v0,v1]:=by cases args; simp_all
  obtain ⟨rfl,rfl⟩:=trodVars_none hV
  have k0:=h0
  have lt0:∀ x ∈ p0,x.block < W.heap.size:=by obtain ⟨m,hm⟩:=k0; exact DataW.trod_lt m _ _ _ hm
  obtain ⟨a0,fp0,g0,t0⟩:=e1r d8s (by rw [Tryz.underlying46]; simp) (by simp [b2h]) (hval 0 46 v0 rfl rfl) h0
  obtain ⟨x0,e0,ok0⟩:=t0
  simp only [List.cons.injEq,and_true] at e0
  subst e0
  have k1:=h1
  have lt1:∀ x ∈ p1,x.block < W.heap.size:=by obtain ⟨m,hm⟩:=k1; exact DataW.trod_lt m _ _ _ hm
  obtain ⟨az1,fp1,g1,t1⟩:=e1q d8s Tryz.underlying49 (by simp [b2h]) (hval 1 49 v1 rfl rfl) h1
  obtain ⟨x1,rfl,ok1⟩:=t1
  clear hA0 hval0
  have hc:=b5q x0 x1 true (b8l x0 x1 ok0 ok1)
  refine (d4w hc (a1j.cons g0 (a1j.cons g1 a1j.nil))).mono fun e W' ⟨he,bel⟩ => ?_
  subst he
  exact ⟨_,rfl,_,_,_,[],_,[],hW',trodAll_mk1 (shut_bool Tryz.underlying4 _),(trodAll_cons_mk (Below.trod laidOut (by kernel_rfl) (of_decide_eq_true (by kernel_rfl)) k0 bel lt0) (trodAll_cons_mk (Below.trod laidOut (by kernel_rfl) (of_decide_eq_true (by kernel_rfl)) k1 bel lt1) trodAll_mk0)),rfl,bel.frame _,fun h => by cases h⟩

theorem a9l {a b:Bool} (h:a = true) (g:b = true):(a && b) = true:=by rw [h,g]; rfl
theorem j0:(Rows.fnExactRowJsonRow.wf (OpenSpec.ofChange Rows.fnExactRowJsonSpec)) = true:=by kernel_rfl
theorem j1:(laidOutB Tryz.prog) = true:=laidOut
theorem j2:(mapsRowed Tryz.prog) = true:=by kernel_rfl
theorem j3:(Tryz.f4.params.all (Program.readableRec Tryz.prog ·)) = true:=by kernel_rfl
theorem j4:(namedTie Tryz.prog Rows.fnExactRowJsonRow.named Rows.fnExactRowJsonSpec.vars) = true:=by kernel_rfl
theorem j5:((Rows.fnExactRowJsonRow.stops == [])) = true:=by kernel_rfl
theorem j6:((Tryz.prog.stops == [])) = true:=by kernel_rfl
theorem j7:((Rows.fnExactRowJsonRow.knobs == [])) = true:=by kernel_rfl
theorem j8:((Tryz.prog.stopKnobs == [])) = true:=by kernel_rfl
theorem j9:((Rows.fnExactRowJsonRow.inPlace == Tryz.prog.inPlace 4)) = true:=by kernel_rfl
theorem j10:((Rows.fnExactRowJsonRow.unfollowed == Tryz.prog.unfollowed 4)) = true:=by kernel_rfl
theorem j11:((Rows.fnExactRowJsonRow.recurses == Tryz.prog.recurses 4)) = true:=by kernel_rfl
theorem j12:((Rows.fnExactRowJsonRow.named == Tryz.prog.varsNamed 4)) = true:=by kernel_rfl
theorem j13:((Rows.fnExactRowJsonRow.maps == (Tryz.f4.params.toList ++ Rows.fnExactRowJsonSpec.plain.varTypes Tryz.prog).any (Tryz.prog.mapsRec ·))) = true:=by kernel_rfl
theorem j14:((Rows.fnExactRowJsonRow.ifaces == (Tryz.f4.params.toList ++ Rows.fnExactRowJsonSpec.plain.varTypes Tryz.prog).any (Tryz.prog.ifacesRec ·))) = true:=by kernel_rfl
theorem j15:((Rows.fnExactRowJsonRow.mapsOut == Tryz.prog.mapsAmong Tryz.f4.resultTypes.toList)) = true:=by kernel_rfl
theorem j16:((Rows.fnExactRowJsonRow.loops == (Tryz.f4.params.toList ++ Rows.fnExactRowJsonSpec.plain.varTypes Tryz.prog).any (Tryz.prog.loopsFrom ·))) = true:=by kernel_rfl
theorem j17:((Rows.fnExactRowJsonRow.wideKeys == (Tryz.f4.params.toList ++ Rows.fnExactRowJsonSpec.plain.varTypes Tryz.prog ++ Tryz.f4.resultTypes.toList).any (Tryz.prog.wideKeysFrom ·))) = true:=by kernel_rfl
theorem j18:(Rows.fnExactRowJsonSpec.vars.all (Tryz.prog.varReadable ·)) = true:=by kernel_rfl
theorem j19:(Tryz.f4.resultTypes.all (fun t => Tryz.prog.readableRec t && decide (t < Tryz.prog.types.size))) = true:=by kernel_rfl
theorem j20:((Rows.fnExactRowJsonRow.ifacesOut == Tryz.f4.resultTypes.toList.any (Tryz.prog.ifacesRec ·))) = true:=by kernel_rfl
theorem j21:((Rows.fnExactRowJsonRow.loopsOut == Tryz.f4.resultTypes.toList.any (Tryz.prog.loopsFrom ·))) = true:=by kernel_rfl
theorem j22:((Rows.fnExactRowJsonRow.plainKeys == Tryz.prog.plainKeys)) = true:=by kernel_rfl
theorem j23:(Rows.fnExactRowJsonRow.shortTexts.isNone) = true:=by kernel_rfl
theorem j24:(Tryz.prog.stopsHeard) = true:=by kernel_rfl
theorem j25:(Tryz.prog.mayEnter) = true:=by kernel_rfl
theorem j26:((Rows.fnExactRowJsonRow.lifted == Tryz.prog.liftsFinal)) = true:=by kernel_rfl
theorem j27:((Tryz.prog.make == some Rows.fnExactRowJsonRow.make)) = true:=by kernel_rfl
theorem j28:((Rows.fnExactRowJsonRow.kinds == (if Rows.fnExactRowJsonRow.domain.isEmpty then [] else Tryz.f4.params.toList.map fun t => match Tryz.prog.underlying t with | some (.int k) => some k | _ => none))) = true:=by kernel_rfl
theorem j29:((Rows.fnExactRowJsonRow.pinned == Rows.fnExactRowJsonRow.pinnedBy)) = true:=by kernel_rfl
theorem j30:((Rows.fnExactRowJsonRow.veiled == (Tryz.f4.params.toList ++ Rows.fnExactRowJsonSpec.plain.varTypes Tryz.prog ++ Tryz.f4.resultTypes.toList).any (Tryz.prog.veiledRec ·))) = true:=by kernel_rfl
theorem j31:(Rows.fnExactRowJsonRow.veiledFits Tryz.prog Tryz.f4.params.toList (Tryz.f4.params.toList ++ Rows.fnExactRowJsonSpec.plain.varTypes Tryz.prog ++ Tryz.f4.resultTypes.toList)) = true:=by kernel_rfl
set_option maxRecDepth 100000 in
theorem closed:joinedFacts Tryz.prog 4 Tryz.f4 Rows.fnExactRowJsonSpec Rows.fnExactRowJsonRow = true:=(a9l (a9l (a9l (a9l (a9l (a9l (a9l (a9l (a9l (a9l (a9l (a9l (a9l (a9l (a9l (a9l (a9l (a9l (a9l (a9l (a9l (a9l (a9l (a9l (a9l (a9l (a9l (a9l (a9l (a9l (a9l j0 j1) j2) j3) j4) j5) j6) j7) j8) j9) j10) j11) j12) j13) j14) j15) j16) j17) j18) j19) j20) j21) j22) j23) j24) j25) j26) j27) j28) j29) j30) j31)
theorem named:Tryz.prog.funcNamed Rows.fnExactRowJsonRow.func = some 4:=by kernel_rfl
theorem inst:Tryz.f4.isInstance Tryz.prog Rows.fnExactRowJsonRow.origin Rows.fnExactRowJsonRow.targs:=of_decide_eq_true (by kernel_rfl)
theorem wrap:Tryz.f4.isWrapper Tryz.prog Rows.fnExactRowJsonRow.wrapper Rows.fnExactRowJsonRow.mainSum:=by unfold Func.isWrapper; first | (rw [if_pos (by decide +kernel)]; kernel_rfl) | (rw [if_neg (by decide +kernel)]; exact ⟨rfl,rfl⟩)
theorem over:Rows.fnExactRowJsonRow.holds Tryz.pinned (OpenSpec.ofChange Rows.fnExactRowJsonSpec) :=
  OpenClaim.holds_of_wide 4 Tryz.f4 rfl rfl rfl rfl rfl rfl rfl ⟨rfl,rfl,rfl,rfl,rfl⟩ rfl rfl rfl rfl rfl named Tryz.func4 closed inst wrap
    (fun os started H enc _ => lifted os started H enc)

theorem proved:Rows.FnExactRowJsonSaid:=over
#print axioms proved
end Go.Proofs.YtldahjcikmpifaaGreat.fnExactRowJson
