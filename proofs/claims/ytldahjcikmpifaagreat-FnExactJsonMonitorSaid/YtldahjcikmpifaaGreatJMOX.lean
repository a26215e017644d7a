import Derived.Test.YtldahjcikmpifaaGreatJMOL
import Derived.WalkKit
import Derived.ProofKit
import Derived.OpenShut
import Derived.ShutString
import Derived.ChangeOld
import Derived.Below
set_option linter.all false
namespace Go.R
open Go Go.Proofs
set_option maxHeartbeats 8000000
def b8h (t:TypeId) (az:List AV):Prop :=
  bif Nat.beq t 9 then ∃ x:Str,az = [(.str x)] ∧ (okS) x else
  bif Nat.beq t 113 then ∃ x:y8,az = [(.int .i64 x.Kind),(.int .i64 x.N),(.str x.T),(.lst 1 (x.Keys.map AV.str)),(.lst 5 (x.Items.map l9))] ∧ a6p x else
  bif Nat.beq t 3 then ∃ x:Int,az = [(.int .i64 x)] ∧ (okI .i64) x else
  bif Nat.beq t 46 then ∃ x:(List Str),az = [(.lst 1 (x.map AV.str))] ∧ (okL (okS)) x else
  bif Nat.beq t 111 then ∃ x:(List y8),az = [(.lst 5 (x.map l9))] ∧ (okL (a6p)) x else
  False
theorem e3y {az:List AV} (h:∃ x:Str,az = [(.str x)] ∧ (okS) x):b8h 9 az:=h
theorem d9i {az:List AV} (h:∃ x:y8,az = [(.int .i64 x.Kind),(.int .i64 x.N),(.str x.T),(.lst 1 (x.Keys.map AV.str)),(.lst 5 (x.Items.map l9))] ∧ a6p x):b8h 113 az:=h
theorem e3z {az:List AV} (h:∃ x:Int,az = [(.int .i64 x)] ∧ (okI .i64) x):b8h 3 az:=h
theorem e2a {az:List AV} (h:∃ x:(List Str),az = [(.lst 1 (x.map AV.str))] ∧ (okL (okS)) x):b8h 46 az:=h
theorem d9j {az:List AV} (h:∃ x:(List y8),az = [(.lst 5 (x.map l9))] ∧ (okL (a6p)) x):b8h 111 az:=h
def b6w (t:TypeId):Prop:=t ∈ [9,113,3,46,111]
theorem e2c:Clo Tryz.prog b8h b6w 9:=by
  refine ⟨?_⟩
  unfold d3q
  rw [Tryz.underlying9]
  exact fun s h => e3y ⟨s,rfl,h⟩
theorem d6l:Clo Tryz.prog b8h b6w 113:=by
  refine ⟨?_⟩
  unfold d3q
  rw [Tryz.underlying113]
  refine ⟨(And.intro (by kernel_rfl) (And.intro (by kernel_rfl) (And.intro (by kernel_rfl) (And.intro (by kernel_rfl) (And.intro (by kernel_rfl) (show (_:Nat) = _ from by kernel_rfl)))))),by simp [b6w],fun ass h => ?_⟩
  rcases ass with _ | ⟨a0,_ | ⟨a1,_ | ⟨a2,_ | ⟨a3,_ | ⟨a4,_ | _⟩⟩⟩⟩⟩
  · exact absurd h (by simp [Fa])
  · exact absurd h (by simp [Fa])
  · exact absurd h (by simp [Fa])
  · exact absurd h (by simp [Fa])
  · exact absurd h (by simp [Fa])
  · obtain ⟨⟨x0,rfl,h0⟩,⟨x1,rfl,h1⟩,⟨x2,rfl,h2⟩,⟨x3,rfl,h3⟩,⟨x4,rfl,h4⟩,_⟩:=h
    exact d9i ⟨⟨x0,x1,x2,x3,x4⟩,rfl,.mk h0 h1 h2 h3 h4.1 h4.2⟩
  · exact absurd h (by simp [Fa])
theorem e2d:Clo Tryz.prog b8h b6w 3:=by
  refine ⟨?_⟩
  unfold d3q
  rw [Tryz.underlying3]
  exact fun n h => e3z ⟨n,rfl,h⟩
theorem d9k:Clo Tryz.prog b8h b6w 46:=by
  refine ⟨?_⟩
  unfold d3q
  rw [Tryz.underlying46]
  refine ⟨by simp [b6w],false,by kernel_rfl,(of_decide_eq_true (by kernel_rfl)),.inr (by kernel_rfl),fun l hl h => ?_⟩
  obtain ⟨ys,rfl,hys⟩:=d5v (enc:=AV.str) (Q:=okS) l (fun x hx => by
    rcases h x hx with ⟨h,_⟩ | ⟨_,y,hy,hy2⟩
    · cases h
    · simp only [List.cons.injEq,and_true] at hy
      exact ⟨y,hy,hy2⟩)
  rw [List.length_map] at hl
  have hc:Tryz.prog.cellsOf 9 = 1:=by kernel_rfl
  rw [hc]
  exact e2a ⟨ys,rfl,hl,hys⟩
theorem d6m:Clo Tryz.prog b8h b6w 111:=by
  refine ⟨?_⟩
  unfold d3q
  rw [Tryz.underlying111]
  refine ⟨by simp [b6w],true,by kernel_rfl,(of_decide_eq_true (by kernel_rfl)),.inl rfl,fun l hl h => ?_⟩
  obtain ⟨ys,rfl,hys⟩:=d5v (enc:=l9) (Q:=a6p) l (fun x hx => by
    rcases h x hx with ⟨_,az,rfl,y,rfl,hy⟩ | ⟨h,_⟩
    · exact ⟨y,(o9 y).symm,hy⟩
    · cases h)
  rw [List.length_map] at hl
  have hc:Tryz.prog.cellsOf 113 = 5:=by kernel_rfl
  rw [hc]
  exact d9j ⟨ys,rfl,hl,hys⟩
theorem e2e:∀ t,b6w t → Clo Tryz.prog b8h b6w t:=by
  intro t ht
  rcases List.mem_cons.1 ht with h | ht
  · rw [h]; exact e2c
  rcases List.mem_cons.1 ht with h | ht
  · rw [h]; exact d6l
  rcases List.mem_cons.1 ht with h | ht
  · rw [h]; exact e2d
  rcases List.mem_cons.1 ht with h | ht
  · rw [h]; exact d9k
  rcases List.mem_cons.1 ht with h | ht
  · rw [h]; exact d6m
  exact absurd ht List.not_mem_nil
end Go.R
namespace Go.Proofs.YtldahjcikmpifaaGreat.fnExactJsonMonitor
open Go.ChangeShapes Go.WideShapes Go.ChangeAt Go.RowKit Go.R
open Go.ChangeMaps (open_string shut_string)
theorem own:ownKnob Tryz.prog.godebug = none:=by kernel_rfl
theorem laidOut:laidOutB Tryz.prog = true:=by kernel_rfl
set_option maxRecDepth 100000 in
theorem lifted (os:Os) (started:os.Started) (H:Type) (enc:TypeId × Value → H) :
    ReturnsInHanded {} Tryz.checked os 9 .any (Rows.fnExactJsonMonitorSpec.pre6 enc Tryz.prog Tryz.f9 Rows.fnExactJsonMonitorRow.domain false) (Rows.fnExactJsonMonitorSpec.post enc Tryz.prog Tryz.f9 false true false false):=by
  refine returnsInHanded_of_change (C:=Tryz.checked) own started (by kernel_rfl) Tryz.func9
    (ChangeSpec.witness6 (enc:=enc) (C:=Tryz.checked) false ⟨#[],#[.string ByteArray.empty,.agg #[.int .i64 0,.int .i64 0,.string ByteArray.empty,.slice none 0 0,.slice none 0 0]],[]⟩ 8 (by kernel_rfl) (by kernel_rfl) (by kernel_rfl) (by kernel_rfl)) ?_
  intro W base args ds gs before hval0 hW hcnd _
  have hval:∀ (j:Nat) t v,Tryz.f9.params[j]? = some t → args[j]? = some v → Value.okWide Tryz.prog W .any base t v:=hval0
  have hW':=hW
  obtain ⟨p,q,hA0,hV,rfl,hfz,hnd⟩:=hW
  have hA:DataW.TrodAll enc Tryz.prog W 0 (fun _ => true) true Tryz.f9.params.toList args.toList ds p:=hA0
  rw [Tryz.params9] at hA hval
  obtain ⟨v0,vs0,d0,ds0,p0,q0,hargs,rfl,rfl,h0,r0⟩:=trodAll_cons hA
  obtain ⟨v1,vs1,d1,ds1,p1,q1,rfl,rfl,rfl,h1,r1⟩:=trodAll_cons r0
  obtain ⟨rfl,rfl,rfl⟩:=trodAll_nil r1
  obtain rfl:args = #[v0,v1]:=by cases args; simp_all
  obtain ⟨rfl,rfl⟩:=trodVars_none hV
  have k0:=h0
  have lt0:∀ x ∈ p0,x.block < W.heap.size:=by obtain ⟨m,hm⟩:=k0; exact DataW.trod_lt m _ _ _ hm
  obtain ⟨a0,fp0,g0,t0⟩:=e5r e2e (by rw [Tryz.underlying9]; simp) (by simp [b6w]) (hval 0 9 v0 rfl rfl) h0
  obtain ⟨x0,e0,ok0⟩:=t0
  simp only [List.cons.injEq,and_true] at e0
  subst e0
  have k1:=h1
  have lt1:∀ x ∈ p1,x.block < W.heap.size:=by obtain ⟨m,hm⟩:=k1; exact DataW.trod_lt m _ _ _ hm
  obtain ⟨az1,fp1,g1,t1⟩:=e5q e2e Tryz.underlying113 (by simp [b6w]) (hval 1 113 v1 rfl rfl) h1
  obtain ⟨x1,rfl,ok1⟩:=t1
  clear hA0 hval0
  have hc:=b4p x0 x1 true (b6o x0 x1 ok0 ok1)
  rw [o9 x1] at hc
  refine (d8q hc (a1q.cons g0 (a1q.cons g1 a1q.nil))).mono fun e W' ⟨he,bel⟩ => ?_
  subst he
  exact ⟨_,rfl,_,_,_,[],_,[],hW',trodAll_mk1 (shut_bool Tryz.underlying4 _),(trodAll_cons_mk (Below.trod laidOut (by kernel_rfl) (of_decide_eq_true (by kernel_rfl)) k0 bel lt0) (trodAll_cons_mk (Below.trod laidOut (by kernel_rfl) (of_decide_eq_true (by kernel_rfl)) k1 bel lt1) trodAll_mk0)),rfl,bel.frame _,fun h => by cases h⟩
theorem b0v {a b:Bool} (h:a = true) (g:b = true):(a && b) = true:=by rw [h,g]; rfl
theorem j0:(Rows.fnExactJsonMonitorRow.wf (OpenSpec.ofChange Rows.fnExactJsonMonitorSpec)) = true:=by kernel_rfl
theorem j1:(laidOutB Tryz.prog) = true:=laidOut
theorem j2:(mapsRowed Tryz.prog) = true:=by kernel_rfl
theorem j3:(Tryz.f9.params.all (Program.readableRec Tryz.prog ·)) = true:=by kernel_rfl
theorem j4:(namedTie Tryz.prog Rows.fnExactJsonMonitorRow.named Rows.fnExactJsonMonitorSpec.vars) = true:=by kernel_rfl
theorem j5:((Rows.fnExactJsonMonitorRow.stops == [])) = true:=by kernel_rfl
theorem j6:((Tryz.prog.stops == [])) = true:=by kernel_rfl
theorem j7:((Rows.fnExactJsonMonitorRow.knobs == [])) = true:=by kernel_rfl
theorem j8:((Tryz.prog.stopKnobs == [])) = true:=by kernel_rfl
theorem j9:((Rows.fnExactJsonMonitorRow.inPlace == Tryz.prog.inPlace 9)) = true:=by kernel_rfl
theorem j10:((Rows.fnExactJsonMonitorRow.unfollowed == Tryz.prog.unfollowed 9)) = true:=by kernel_rfl
theorem j11:((Rows.fnExactJsonMonitorRow.recurses == Tryz.prog.recurses 9)) = true:=by kernel_rfl
theorem j12:((Rows.fnExactJsonMonitorRow.named == Tryz.prog.varsNamed 9)) = true:=by kernel_rfl
theorem j13:((Rows.fnExactJsonMonitorRow.maps == (Tryz.f9.params.toList ++ Rows.fnExactJsonMonitorSpec.plain.varTypes Tryz.prog).any (Tryz.prog.mapsRec ·))) = true:=by kernel_rfl
theorem j14:((Rows.fnExactJsonMonitorRow.ifaces == (Tryz.f9.params.toList ++ Rows.fnExactJsonMonitorSpec.plain.varTypes Tryz.prog).any (Tryz.prog.ifacesRec ·))) = true:=by kernel_rfl
theorem j15:((Rows.fnExactJsonMonitorRow.mapsOut == Tryz.prog.mapsAmong Tryz.f9.resultTypes.toList)) = true:=by kernel_rfl
theorem j16:((Rows.fnExactJsonMonitorRow.loops == (Tryz.f9.params.toList ++ Rows.fnExactJsonMonitorSpec.plain.varTypes Tryz.prog).any (Tryz.prog.loopsFrom ·))) = true:=by kernel_rfl
theorem j17:((Rows.fnExactJsonMonitorRow.wideKeys == (Tryz.f9.params.toList ++ Rows.fnExactJsonMonitorSpec.plain.varTypes Tryz.prog ++ Tryz.f9.resultTypes.toList).any (Tryz.prog.wideKeysFrom ·))) = true:=by kernel_rfl
theorem j18:(Rows.fnExactJsonMonitorSpec.vars.all (Tryz.prog.varReadable ·)) = true:=by kernel_rfl
theorem j19:(Tryz.f9.resultTypes.all (fun t => Tryz.prog.readableRec t && decide (t < Tryz.prog.types.size))) = true:=by kernel_rfl
theorem j20:((Rows.fnExactJsonMonitorRow.ifacesOut == Tryz.f9.resultTypes.toList.any (Tryz.prog.ifacesRec ·))) = true:=by kernel_rfl
theorem j21:((Rows.fnExactJsonMonitorRow.loopsOut == Tryz.f9.resultTypes.toList.any (Tryz.prog.loopsFrom ·))) = true:=by kernel_rfl
theorem j22:((Rows.fnExactJsonMonitorRow.plainKeys == Tryz.prog.plainKeys)) = true:=by kernel_rfl
theorem j23:(Rows.fnExactJsonMonitorRow.shortTexts.isNone) = true:=by kernel_rfl
theorem j24:(Tryz.prog.stopsHeard) = true:=by kernel_rfl
theorem j25:(Tryz.prog.mayEnter) = true:=by kernel_rfl
theorem j26:((Rows.fnExactJsonMonitorRow.lifted == Tryz.prog.liftsFinal)) = true:=by kernel_rfl
theorem j27:((Tryz.prog.make == some Rows.fnExactJsonMonitorRow.make)) = true:=by kernel_rfl
theorem j28:((Rows.fnExactJsonMonitorRow.kinds == (if Rows.fnExactJsonMonitorRow.domain.isEmpty then [] else Tryz.f9.params.toList.map fun t => match Tryz.prog.underlying t with | some (.int k) => some k | _ => none))) = true:=by kernel_rfl
theorem j29:((Rows.fnExactJsonMonitorRow.pinned == Rows.fnExactJsonMonitorRow.pinnedBy)) = true:=by kernel_rfl
theorem j30:((Rows.fnExactJsonMonitorRow.veiled == (Tryz.f9.params.toList ++ Rows.fnExactJsonMonitorSpec.plain.varTypes Tryz.prog ++ Tryz.f9.resultTypes.toList).any (Tryz.prog.veiledRec ·))) = true:=by kernel_rfl
theorem j31:(Rows.fnExactJsonMonitorRow.veiledFits Tryz.prog Tryz.f9.params.toList (Tryz.f9.params.toList ++ Rows.fnExactJsonMonitorSpec.plain.varTypes Tryz.prog ++ Tryz.f9.resultTypes.toList)) = true:=by kernel_rfl
set_option maxRecDepth 100000 in
theorem closed:joinedFacts Tryz.prog 9 Tryz.f9 Rows.fnExactJsonMonitorSpec Rows.fnExactJsonMonitorRow = true:=(b0v (b0v (b0v (b0v (b0v (b0v (b0v (b0v (b0v (b0v (b0v (b0v (b0v (b0v (b0v (b0v (b0v (b0v (b0v (b0v (b0v (b0v (b0v (b0v (b0v (b0v (b0v (b0v (b0v (b0v (b0v j0 j1) j2) j3) j4) j5) j6) j7) j8) j9) j10) j11) j12) j13) j14) j15) j16) j17) j18) j19) j20) j21) j22) j23) j24) j25) j26) j27) j28) j29) j30) j31)
theorem named:Tryz.prog.funcNamed Rows.fnExactJsonMonitorRow.func = some 9:=by kernel_rfl
theorem inst:Tryz.f9.isInstance Tryz.prog Rows.fnExactJsonMonitorRow.origin Rows.fnExactJsonMonitorRow.targs:=of_decide_eq_true (by kernel_rfl)
theorem wrap:Tryz.f9.isWrapper Tryz.prog Rows.fnExactJsonMonitorRow.wrapper Rows.fnExactJsonMonitorRow.mainSum:=by unfold Func.isWrapper; first | (rw [if_pos (by decide +kernel)]; kernel_rfl) | (rw [if_neg (by decide +kernel)]; exact ⟨rfl,rfl⟩)
theorem over:Rows.fnExactJsonMonitorRow.holds Tryz.pinned (OpenSpec.ofChange Rows.fnExactJsonMonitorSpec) :=
  OpenClaim.holds_of_wide 9 Tryz.f9 rfl rfl rfl rfl rfl rfl rfl ⟨rfl,rfl,rfl,rfl,rfl⟩ rfl rfl rfl rfl rfl named Tryz.func9 closed inst wrap
    (fun os started H enc _ => lifted os started H enc)
theorem proved:Rows.FnExactJsonMonitorSaid:=over
#print axioms proved
end Go.Proofs.YtldahjcikmpifaaGreat.fnExactJsonMonitor
