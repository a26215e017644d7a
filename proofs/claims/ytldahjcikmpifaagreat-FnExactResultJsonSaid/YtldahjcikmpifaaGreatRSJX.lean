/- 'FnExactResultJson': for every input the law returns true, and each argument reads behind the call as it read before. No condition. -/
import Derived.Test.YtldahjcikmpifaaGreatRSJL
import Derived.WalkKit
import Derived.ProofKit
import Derived.OpenShut
import Derived.ShutString
import Derived.ChangeOld
import Derived.Below
set_option linter.all false
namespace Go.R
open Go Go.Proofs
set_option linter.unusedSimpArgs false
set_option maxHeartbeats 8000000
def b3j (t:TypeId) (az:List AV):Prop :=
  bif Nat.beq t 3 then ∃ x:Int,az = [(.int .i64 x)] ∧ (okI .i64) x else
  bif Nat.beq t 83 then ∃ x:a1i,az = [(.int .i64 x.Code),(.int .i64 x.Count),(.int .i64 x.Id),(.lst 1 (x.Columns.map AV.str)),(.lst 2 (x.Rows.map y5))] ∧ b5q x else
  bif Nat.beq t 46 then ∃ x:(List Str),az = [(.lst 1 (x.map AV.str))] ∧ (okL (okS)) x else
  bif Nat.beq t 9 then ∃ x:Str,az = [(.str x)] ∧ (okS) x else
  bif Nat.beq t 81 then ∃ x:(List a1u),az = [(.lst 2 (x.map y5))] ∧ (okL (b5z)) x else
  bif Nat.beq t 49 then ∃ x:a1u,az = [(.int .i64 x.Id),(.lst 1 (x.Cells.map (a1q 3 o6)))] ∧ b5z x else
  bif Nat.beq t 47 then ∃ x:(List (List a0k)),az = [(.lst 1 (x.map (a1q 3 o6)))] ∧ (okL (okL (a7r))) x else
  bif Nat.beq t 219 then ∃ x:(List a0k),az = [(.lst 3 (x.map o6))] ∧ (okL (a7r)) x else
  bif Nat.beq t 293 then ∃ x:a0k,az = [(.int .i64 x.Kind),(.int .i64 x.N),(.str x.T)] ∧ a7r x else
  False
theorem e6d {az:List AV} (h:∃ x:Int,az = [(.int .i64 x)] ∧ (okI .i64) x):b3j 3 az:=h
theorem e4n {az:List AV} (h:∃ x:a1i,az = [(.int .i64 x.Code),(.int .i64 x.Count),(.int .i64 x.Id),(.lst 1 (x.Columns.map AV.str)),(.lst 2 (x.Rows.map y5))] ∧ b5q x):b3j 83 az:=h
theorem e4o {az:List AV} (h:∃ x:(List Str),az = [(.lst 1 (x.map AV.str))] ∧ (okL (okS)) x):b3j 46 az:=h
theorem e6e {az:List AV} (h:∃ x:Str,az = [(.str x)] ∧ (okS) x):b3j 9 az:=h
theorem e4p {az:List AV} (h:∃ x:(List a1u),az = [(.lst 2 (x.map y5))] ∧ (okL (b5z)) x):b3j 81 az:=h
theorem e4q {az:List AV} (h:∃ x:a1u,az = [(.int .i64 x.Id),(.lst 1 (x.Cells.map (a1q 3 o6)))] ∧ b5z x):b3j 49 az:=h
theorem e4r {az:List AV} (h:∃ x:(List (List a0k)),az = [(.lst 1 (x.map (a1q 3 o6)))] ∧ (okL (okL (a7r))) x):b3j 47 az:=h
theorem e1f {az:List AV} (h:∃ x:(List a0k),az = [(.lst 3 (x.map o6))] ∧ (okL (a7r)) x):b3j 219 az:=h
theorem e1g {az:List AV} (h:∃ x:a0k,az = [(.int .i64 x.Kind),(.int .i64 x.N),(.str x.T)] ∧ a7r x):b3j 293 az:=h
def b2i (t:TypeId):Prop:=t ∈ [3,83,46,9,81,49,47,219,293]
theorem e4s:Clo Tryz.prog b3j b2i 3:=by
  refine ⟨?_⟩
  unfold c6j
  rw [Tryz.underlying3]
  exact fun n h => e6d ⟨n,rfl,h⟩
theorem e1h:Clo Tryz.prog b3j b2i 83:=by
  refine ⟨?_⟩
  unfold c6j
  rw [Tryz.underlying83]
  refine ⟨(And.intro (by kernel_rfl) (And.intro (by kernel_rfl) (And.intro (by kernel_rfl) (And.intro (by kernel_rfl) (And.intro (by kernel_rfl) (show (_:Nat) = _ from by kernel_rfl)))))),by simp [b2i],fun ass h => ?_⟩
  rcases ass with _ | ⟨a0,_ | ⟨a1,_ | ⟨a2,_ | ⟨a3,_ | ⟨a4,_ | _⟩⟩⟩⟩⟩
  · exact absurd h (by simp [Fa])
  · exact absurd h (by simp [Fa])
  · exact absurd h (by simp [Fa])
  · exact absurd h (by simp [Fa])
  · exact absurd h (by simp [Fa])
  · obtain ⟨⟨x0,rfl,h0⟩,⟨x1,rfl,h1⟩,⟨x2,rfl,h2⟩,⟨x3,rfl,h3⟩,⟨x4,rfl,h4⟩,_⟩:=h
    exact e4n ⟨⟨x0,x1,x2,x3,x4⟩,rfl,⟨h0,h1,h2,h3,h4⟩⟩
  · exact absurd h (by simp [Fa])
theorem e1i:Clo Tryz.prog b3j b2i 46:=by
  refine ⟨?_⟩
  unfold c6j
  rw [Tryz.underlying46]
  refine ⟨by simp [b2i],false,by kernel_rfl,(of_decide_eq_true (by kernel_rfl)),.inr (by kernel_rfl),fun l hl h => ?_⟩
  obtain ⟨ys,rfl,hys⟩:=c8q (enc:=AV.str) (Q:=okS) l (fun x hx => by
    rcases h x hx with ⟨h,_⟩ | ⟨_,y,hy,hy2⟩
    · cases h
    · simp only [List.cons.injEq,and_true] at hy
      exact ⟨y,hy,hy2⟩)
  rw [List.length_map] at hl
  have hc:Tryz.prog.cellsOf 9 = 1:=by kernel_rfl
  rw [hc]
  exact e4o ⟨ys,rfl,hl,hys⟩
theorem e4t:Clo Tryz.prog b3j b2i 9:=by
  refine ⟨?_⟩
  unfold c6j
  rw [Tryz.underlying9]
  exact fun s h => e6e ⟨s,rfl,h⟩
theorem e1j:Clo Tryz.prog b3j b2i 81:=by
  refine ⟨?_⟩
  unfold c6j
  rw [Tryz.underlying81]
  refine ⟨by simp [b2i],true,by kernel_rfl,(of_decide_eq_true (by kernel_rfl)),.inl rfl,fun l hl h => ?_⟩
  obtain ⟨ys,rfl,hys⟩:=c8q (enc:=y5) (Q:=b5z) l (fun x hx => by
    rcases h x hx with ⟨_,az,rfl,y,rfl,hy⟩ | ⟨h,_⟩
    · exact ⟨y,rfl,hy⟩
    · cases h)
  rw [List.length_map] at hl
  have hc:Tryz.prog.cellsOf 49 = 2:=by kernel_rfl
  rw [hc]
  exact e4p ⟨ys,rfl,hl,hys⟩
theorem e1k:Clo Tryz.prog b3j b2i 49:=by
  refine ⟨?_⟩
  unfold c6j
  rw [Tryz.underlying49]
  refine ⟨(And.intro (by kernel_rfl) (And.intro (by kernel_rfl) (show (_:Nat) = _ from by kernel_rfl))),by simp [b2i],fun ass h => ?_⟩
  rcases ass with _ | ⟨a0,_ | ⟨a1,_ | _⟩⟩
  · exact absurd h (by simp [Fa])
  · exact absurd h (by simp [Fa])
  · obtain ⟨⟨x0,rfl,h0⟩,⟨x1,rfl,h1⟩,_⟩:=h
    exact e4q ⟨⟨x0,x1⟩,rfl,⟨h0,h1⟩⟩
  · exact absurd h (by simp [Fa])
theorem e1l:Clo Tryz.prog b3j b2i 47:=by
  refine ⟨?_⟩
  unfold c6j
  rw [Tryz.underlying47]
  refine ⟨by simp [b2i],false,by kernel_rfl,(of_decide_eq_true (by kernel_rfl)),.inr (by kernel_rfl),fun l hl h => ?_⟩
  obtain ⟨ys,rfl,hys⟩:=c8q (enc:=(a1q 3 o6)) (Q:=okL (a7r)) l (fun x hx => by
    rcases h x hx with ⟨h,_⟩ | ⟨_,y,hy,hy2⟩
    · cases h
    · simp only [List.cons.injEq,and_true] at hy
      exact ⟨y,hy,hy2⟩)
  rw [List.length_map] at hl
  have hc:Tryz.prog.cellsOf 219 = 1:=by kernel_rfl
  rw [hc]
  exact e4r ⟨ys,rfl,hl,hys⟩
theorem d8o:Clo Tryz.prog b3j b2i 219:=by
  refine ⟨?_⟩
  unfold c6j
  rw [Tryz.underlying219]
  refine ⟨by simp [b2i],true,by kernel_rfl,(of_decide_eq_true (by kernel_rfl)),.inl rfl,fun l hl h => ?_⟩
  obtain ⟨ys,rfl,hys⟩:=c8q (enc:=o6) (Q:=a7r) l (fun x hx => by
    rcases h x hx with ⟨_,az,rfl,y,rfl,hy⟩ | ⟨h,_⟩
    · exact ⟨y,rfl,hy⟩
    · cases h)
  rw [List.length_map] at hl
  have hc:Tryz.prog.cellsOf 293 = 3:=by kernel_rfl
  rw [hc]
  exact e1f ⟨ys,rfl,hl,hys⟩
theorem d8p:Clo Tryz.prog b3j b2i 293:=by
  refine ⟨?_⟩
  unfold c6j
  rw [Tryz.underlying293]
  refine ⟨(And.intro (by kernel_rfl) (And.intro (by kernel_rfl) (And.intro (by kernel_rfl) (show (_:Nat) = _ from by kernel_rfl)))),by simp [b2i],fun ass h => ?_⟩
  rcases ass with _ | ⟨a0,_ | ⟨a1,_ | ⟨a2,_ | _⟩⟩⟩
  · exact absurd h (by simp [Fa])
  · exact absurd h (by simp [Fa])
  · exact absurd h (by simp [Fa])
  · obtain ⟨⟨x0,rfl,h0⟩,⟨x1,rfl,h1⟩,⟨x2,rfl,h2⟩,_⟩:=h
    exact e1g ⟨⟨x0,x1,x2⟩,rfl,⟨h0,h1,h2⟩⟩
  · exact absurd h (by simp [Fa])
theorem e4u:∀ t,b2i t → Clo Tryz.prog b3j b2i t:=by
  intro t ht
  rcases List.mem_cons.1 ht with h | ht
  · rw [h]; exact e4s
  rcases List.mem_cons.1 ht with h | ht
  · rw [h]; exact e1h
  rcases List.mem_cons.1 ht with h | ht
  · rw [h]; exact e1i
  rcases List.mem_cons.1 ht with h | ht
  · rw [h]; exact e4t
  rcases List.mem_cons.1 ht with h | ht
  · rw [h]; exact e1j
  rcases List.mem_cons.1 ht with h | ht
  · rw [h]; exact e1k
  rcases List.mem_cons.1 ht with h | ht
  · rw [h]; exact e1l
  rcases List.mem_cons.1 ht with h | ht
  · rw [h]; exact d8o
  rcases List.mem_cons.1 ht with h | ht
  · rw [h]; exact d8p
  exact absurd ht List.not_mem_nil
end Go.R
namespace Go.Proofs.YtldahjcikmpifaaGreat.fnExactResultJson
open Go.ChangeShapes Go.WideShapes Go.ChangeAt Go.RowKit Go.R
open Go.ChangeMaps (open_string shut_string)
set_option linter.unusedVariables false

theorem own:ownKnob Tryz.prog.godebug = none:=by kernel_rfl
theorem laidOut:laidOutB Tryz.prog = true:=by kernel_rfl

set_option maxRecDepth 100000 in
theorem lifted (os:Os) (started:os.Started) (H:Type) (enc:TypeId × Value → H) :
    ReturnsInHanded {} Tryz.checked os 6 .any (Rows.fnExactResultJsonSpec.pre6 enc Tryz.prog Tryz.f6 Rows.fnExactResultJsonRow.domain false) (Rows.fnExactResultJsonSpec.post enc Tryz.prog Tryz.f6 false true false false):=by
  refine returnsInHanded_of_change (C:=Tryz.checked) own started (by kernel_rfl) Tryz.func6
    (ChangeSpec.witness6 (enc:=enc) (C:=Tryz.checked) false ⟨#[],#[.int .i64 0,.agg #[.int .i64 0,.int .i64 0,.int .i64 0,.slice none 0 0,.slice none 0 0]],[]⟩ 8 (by kernel_rfl) (by kernel_rfl) (by kernel_rfl) (by kernel_rfl)) ?_
  intro W base args ds gs before hval0 hW hcnd _
  have hval:∀ (j:Nat) t v,Tryz.f6.params[j]? = some t → args[j]? = some v → Value.okWide Tryz.prog W .any base t v:=hval0
  have hW':=hW
  obtain ⟨p,q,hA0,hV,rfl,hfz,hnd⟩:=hW
  have hA:DataW.TrodAll enc Tryz.prog W 0 (fun _ => true) true Tryz.f6.params.toList args.toList ds p:=hA0
  rw [Tryz.params6] at hA hval
  obtain ⟨v0,vs0,d0,ds0,p0,q0,hargs,rfl,rfl,h0,r0⟩:=trodAll_cons hA
  obtain ⟨v1,vs1,d1,ds1,p1,q1,rfl,rfl,rfl,h1,r1⟩:=trodAll_cons r0
  obtain ⟨rfl,rfl,rfl⟩:=trodAll_nil r1
  obtain rfl:args = #[v0,v1]:=by cases args; simp_all
  obtain ⟨rfl,rfl⟩:=trodVars_none hV
  have k0:=h0
  have lt0:∀ x ∈ p0,x.block < W.heap.size:=by obtain ⟨m,hm⟩:=k0; exact DataW.trod_lt m _ _ _ hm
  obtain ⟨a0,fp0,g0,t0⟩:=e7u e4u (by rw [Tryz.underlying3]; simp) (by simp [b2i]) (hval 0 3 v0 rfl rfl) h0
  obtain ⟨x0,e0,ok0⟩:=t0
  simp only [List.cons.injEq,and_true] at e0
  subst e0
  have k1:=h1
  have lt1:∀ x ∈ p1,x.block < W.heap.size:=by obtain ⟨m,hm⟩:=k1; exact DataW.trod_lt m _ _ _ hm
  obtain ⟨az1,fp1,g1,t1⟩:=e7t e4u Tryz.underlying83 (by simp [b2i]) (hval 1 83 v1 rfl rfl) h1
  obtain ⟨x1,rfl,ok1⟩:=t1
  clear hA0 hval0
  have hc:=b6w x0 x1 true (b9a x0 x1 ok0 ok1)
  refine (e0l hc (a1x.cons g0 (a1x.cons g1 a1x.nil))).mono fun e W' ⟨he,bel⟩ => ?_
  subst he
  exact ⟨_,rfl,_,_,_,[],_,[],hW',trodAll_mk1 (shut_bool Tryz.underlying4 _),(trodAll_cons_mk (Below.trod laidOut (by kernel_rfl) (of_decide_eq_true (by kernel_rfl)) k0 bel lt0) (trodAll_cons_mk (Below.trod laidOut (by kernel_rfl) (of_decide_eq_true (by kernel_rfl)) k1 bel lt1) trodAll_mk0)),rfl,bel.frame _,fun h => by cases h⟩

theorem b1v {a b:Bool} (h:a = true) (g:b = true):(a && b) = true:=by rw [h,g]; rfl
theorem j0:(Rows.fnExactResultJsonRow.wf (OpenSpec.ofChange Rows.fnExactResultJsonSpec)) = true:=by kernel_rfl
theorem j1:(laidOutB Tryz.prog) = true:=laidOut
theorem j2:(mapsRowed Tryz.prog) = true:=by kernel_rfl
theorem j3:(Tryz.f6.params.all (Program.readableRec Tryz.prog ·)) = true:=by kernel_rfl
theorem j4:(namedTie Tryz.prog Rows.fnExactResultJsonRow.named Rows.fnExactResultJsonSpec.vars) = true:=by kernel_rfl
theorem j5:((Rows.fnExactResultJsonRow.stops == [])) = true:=by kernel_rfl
theorem j6:((Tryz.prog.stops == [])) = true:=by kernel_rfl
theorem j7:((Rows.fnExactResultJsonRow.knobs == [])) = true:=by kernel_rfl
theorem j8:((Tryz.prog.stopKnobs == [])) = true:=by kernel_rfl
theorem j9:((Rows.fnExactResultJsonRow.inPlace == Tryz.prog.inPlace 6)) = true:=by kernel_rfl
theorem j10:((Rows.fnExactResultJsonRow.unfollowed == Tryz.prog.unfollowed 6)) = true:=by kernel_rfl
theorem j11:((Rows.fnExactResultJsonRow.recurses == Tryz.prog.recurses 6)) = true:=by kernel_rfl
theorem j12:((Rows.fnExactResultJsonRow.named == Tryz.prog.varsNamed 6)) = true:=by kernel_rfl
theorem j13:((Rows.fnExactResultJsonRow.maps == (Tryz.f6.params.toList ++ Rows.fnExactResultJsonSpec.plain.varTypes Tryz.prog).any (Tryz.prog.mapsRec ·))) = true:=by kernel_rfl
theorem j14:((Rows.fnExactResultJsonRow.ifaces == (Tryz.f6.params.toList ++ Rows.fnExactResultJsonSpec.plain.varTypes Tryz.prog).any (Tryz.prog.ifacesRec ·))) = true:=by kernel_rfl
theorem j15:((Rows.fnExactResultJsonRow.mapsOut == Tryz.prog.mapsAmong Tryz.f6.resultTypes.toList)) = true:=by kernel_rfl
theorem j16:((Rows.fnExactResultJsonRow.loops == (Tryz.f6.params.toList ++ Rows.fnExactResultJsonSpec.plain.varTypes Tryz.prog).any (Tryz.prog.loopsFrom ·))) = true:=by kernel_rfl
theorem j17:((Rows.fnExactResultJsonRow.wideKeys == (Tryz.f6.params.toList ++ Rows.fnExactResultJsonSpec.plain.varTypes Tryz.prog ++ Tryz.f6.resultTypes.toList).any (Tryz.prog.wideKeysFrom ·))) = true:=by kernel_rfl
theorem j18:(Rows.fnExactResultJsonSpec.vars.all (Tryz.prog.varReadable ·)) = true:=by kernel_rfl
theorem j19:(Tryz.f6.resultTypes.all (fun t => Tryz.prog.readableRec t && decide (t < Tryz.prog.types.size))) = true:=by kernel_rfl
theorem j20:((Rows.fnExactResultJsonRow.ifacesOut == Tryz.f6.resultTypes.toList.any (Tryz.prog.ifacesRec ·))) = true:=by kernel_rfl
theorem j21:((Rows.fnExactResultJsonRow.loopsOut == Tryz.f6.resultTypes.toList.any (Tryz.prog.loopsFrom ·))) = true:=by kernel_rfl
theorem j22:((Rows.fnExactResultJsonRow.plainKeys == Tryz.prog.plainKeys)) = true:=by kernel_rfl
theorem j23:(Rows.fnExactResultJsonRow.shortTexts.isNone) = true:=by kernel_rfl
theorem j24:(Tryz.prog.stopsHeard) = true:=by kernel_rfl
theorem j25:(Tryz.prog.mayEnter) = true:=by kernel_rfl
theorem j26:((Rows.fnExactResultJsonRow.lifted == Tryz.prog.liftsFinal)) = true:=by kernel_rfl
theorem j27:((Tryz.prog.make == some Rows.fnExactResultJsonRow.make)) = true:=by kernel_rfl
theorem j28:((Rows.fnExactResultJsonRow.kinds == (if Rows.fnExactResultJsonRow.domain.isEmpty then [] else Tryz.f6.params.toList.map fun t => match Tryz.prog.underlying t with | some (.int k) => some k | _ => none))) = true:=by kernel_rfl
theorem j29:((Rows.fnExactResultJsonRow.pinned == Rows.fnExactResultJsonRow.pinnedBy)) = true:=by kernel_rfl
theorem j30:((Rows.fnExactResultJsonRow.veiled == (Tryz.f6.params.toList ++ Rows.fnExactResultJsonSpec.plain.varTypes Tryz.prog ++ Tryz.f6.resultTypes.toList).any (Tryz.prog.veiledRec ·))) = true:=by kernel_rfl
theorem j31:(Rows.fnExactResultJsonRow.veiledFits Tryz.prog Tryz.f6.params.toList (Tryz.f6.params.toList ++ Rows.fnExactResultJsonSpec.plain.varTypes Tryz.prog ++ Tryz.f6.resultTypes.toList)) = true:=by kernel_rfl
set_option maxRecDepth 100000 in
theorem closed:joinedFacts Tryz.prog 6 Tryz.f6 Rows.fnExactResultJsonSpec Rows.fnExactResultJsonRow = true:=(b1v (b1v (b1v (b1v (b1v (b1v (b1v (b1v (b1v (b1v (b1v (b1v (b1v (b1v (b1v (b1v (b1v (b1v (b1v (b1v (b1v (b1v (b1v (b1v (b1v (b1v (b1v (b1v (b1v (b1v (b1v j0 j1) j2) j3) j4) j5) j6) j7) j8) j9) j10) j11) j12) j13) j14) j15) j16) j17) j18) j19) j20) j21) j22) j23) j24) j25) j26) j27) j28) j29) j30) j31)
theorem named:Tryz.prog.funcNamed Rows.fnExactResultJsonRow.func = some 6:=by kernel_rfl
theorem inst:Tryz.f6.isInstance Tryz.prog Rows.fnExactResultJsonRow.origin Rows.fnExactResultJsonRow.targs:=of_decide_eq_true (by kernel_rfl)
theorem wrap:Tryz.f6.isWrapper Tryz.prog Rows.fnExactResultJsonRow.wrapper Rows.fnExactResultJsonRow.mainSum:=by unfold Func.isWrapper; first | (rw [if_pos (by decide +kernel)]; kernel_rfl) | (rw [if_neg (by decide +kernel)]; exact ⟨rfl,rfl⟩)
theorem over:Rows.fnExactResultJsonRow.holds Tryz.pinned (OpenSpec.ofChange Rows.fnExactResultJsonSpec) :=
  OpenClaim.holds_of_wide 6 Tryz.f6 rfl rfl rfl rfl rfl rfl rfl ⟨rfl,rfl,rfl,rfl,rfl⟩ rfl rfl rfl rfl rfl named Tryz.func6 closed inst wrap
    (fun os started H enc _ => lifted os started H enc)

theorem proved:Rows.FnExactResultJsonSaid:=over
#print axioms proved
end Go.Proofs.YtldahjcikmpifaaGreat.fnExactResultJson
