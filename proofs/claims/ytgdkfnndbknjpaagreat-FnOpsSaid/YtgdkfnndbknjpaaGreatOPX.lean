/- 'FnOps': for every input the law returns true, and each argument reads behind the call as it read before. No condition. -/
import Derived.Test.YtgdkfnndbknjpaaGreatOPL
import Derived.WalkKit
import Derived.ProofKit
import Derived.OpenShut
import Derived.ShutString
import Derived.ChangeOld
import Derived.Below
set_option linter.all false
namespace Go.R
open Go Go.Proofs
set_option linter.unusedSimpArgs false
set_option maxHeartbeats 8000000
def d9g (t:TypeId) (az:List AV):Prop :=
  bif Nat.beq t 44 then ∃ x:(List Int),az = [(.lst 1 (x.map a0c))] ∧ (okL (okI .u8)) x else
  bif Nat.beq t 5 then ∃ x:Int,az = [(.int .u8 x)] ∧ (okI .u8) x else
  False
theorem e0o {az:List AV} (h:∃ x:(List Int),az = [(.lst 1 (x.map a0c))] ∧ (okL (okI .u8)) x):d9g 44 az:=h
theorem e1s {az:List AV} (h:∃ x:Int,az = [(.int .u8 x)] ∧ (okI .u8) x):d9g 5 az:=h
def d6h (t:TypeId):Prop:=t ∈ [44,5]
theorem d9h:Clo Tryz.prog d9g d6h 44:=by
  refine ⟨?_⟩
  unfold d7l
  rw [Tryz.underlying44]
  refine ⟨by simp [d6h],false,by kernel_rfl,(of_decide_eq_true (by kernel_rfl)),.inr (by kernel_rfl),fun l hl h => ?_⟩
  obtain ⟨ys,rfl,hys⟩:=d7m (enc:=a0c) (Q:=okI .u8) l (fun x hx => by
    rcases h x hx with ⟨h,_⟩ | ⟨_,y,hy,hy2⟩
    · cases h
    · simp only [List.cons.injEq,and_true] at hy
      exact ⟨y,hy,hy2⟩)
  rw [List.length_map] at hl
  have hc:Tryz.prog.cellsOf 5 = 1:=by kernel_rfl
  rw [hc]
  exact e0o ⟨ys,rfl,hl,hys⟩
theorem e0p:Clo Tryz.prog d9g d6h 5:=by
  refine ⟨?_⟩
  unfold d7l
  rw [Tryz.underlying5]
  exact fun n h => e1s ⟨n,rfl,h⟩
theorem e8o:∀ t,d6h t → Clo Tryz.prog d9g d6h t:=by
  intro t ht
  rcases List.mem_cons.1 ht with h | ht
  · rw [h]; exact d9h
  rcases List.mem_cons.1 ht with h | ht
  · rw [h]; exact e0p
  exact absurd ht List.not_mem_nil
end Go.R
namespace Go.Proofs.YtgdkfnndbknjpaaGreat.fnOps
open Go.ChangeShapes Go.WideShapes Go.ChangeAt Go.RowKit Go.R
open Go.ChangeMaps (open_string shut_string)
set_option linter.unusedVariables false

theorem own:ownKnob Tryz.prog.godebug = none:=by kernel_rfl
theorem laidOut:laidOutB Tryz.prog = true:=by kernel_rfl

set_option maxRecDepth 100000 in
theorem lifted (os:Os) (started:os.Started) (H:Type) (enc:TypeId × Value → H) :
    ReturnsInHanded {} Tryz.checked os 4 .any (Rows.fnOpsSpec.pre6 enc Tryz.prog Tryz.f4 Rows.fnOpsRow.domain false) (Rows.fnOpsSpec.post enc Tryz.prog Tryz.f4 false true false false):=by
  refine returnsInHanded_of_change (C:=Tryz.checked) own started (by kernel_rfl) Tryz.func4
    (ChangeSpec.witness6 (enc:=enc) (C:=Tryz.checked) false ⟨#[],#[.slice none 0 0],[]⟩ 8 (by kernel_rfl) (by kernel_rfl) (by kernel_rfl) (by kernel_rfl)) ?_
  intro W base args ds gs before hval0 hW hcnd _
  have hval:∀ (j:Nat) t v,Tryz.f4.params[j]? = some t → args[j]? = some v → Value.okWide Tryz.prog W .any base t v:=hval0
  have hW':=hW
  obtain ⟨p,q,hA0,hV,rfl,hfz,hnd⟩:=hW
  have hA:DataW.TrodAll enc Tryz.prog W 0 (fun _ => true) true Tryz.f4.params.toList args.toList ds p:=hA0
  rw [Tryz.params4] at hA hval
  obtain ⟨v0,vs0,d0,ds0,p0,q0,hargs,rfl,rfl,h0,r0⟩:=trodAll_cons hA
  obtain ⟨rfl,rfl,rfl⟩:=trodAll_nil r0
  obtain rfl:args = #[v0]:=by cases args; simp_all
  obtain ⟨rfl,rfl⟩:=trodVars_none hV
  have k0:=h0
  have lt0:∀ x ∈ p0,x.block < W.heap.size:=by obtain ⟨m,hm⟩:=k0; exact DataW.trod_lt m _ _ _ hm
  obtain ⟨a0,fp0,g0,t0⟩:=e2f e8o (by rw [Tryz.underlying44]; simp) (by simp [d6h]) (hval 0 44 v0 rfl rfl) h0
  obtain ⟨x0,e0,ok0⟩:=t0
  simp only [List.cons.injEq,and_true] at e0
  subst e0
  clear hA0 hval0
  have hc:=c9k x0 true (d6g x0 ok0)
  refine (d4u hc (a2p.cons g0 a2p.nil)).mono fun e W' ⟨he,bel⟩ => ?_
  subst he
  exact ⟨_,rfl,_,_,_,[],_,[],hW',trodAll_mk1 (shut_bool Tryz.underlying4 _),(trodAll_cons_mk (Below.trod laidOut (by kernel_rfl) (of_decide_eq_true (by kernel_rfl)) k0 bel lt0) trodAll_mk0),rfl,bel.frame _,fun h => by cases h⟩

theorem b2a {a b:Bool} (h:a = true) (g:b = true):(a && b) = true:=by rw [h,g]; rfl
theorem j0:(Rows.fnOpsRow.wf (OpenSpec.ofChange Rows.fnOpsSpec)) = true:=by kernel_rfl
theorem j1:(laidOutB Tryz.prog) = true:=laidOut
theorem j2:(mapsRowed Tryz.prog) = true:=by kernel_rfl
theorem j3:(Tryz.f4.params.all (Program.readableRec Tryz.prog ·)) = true:=by kernel_rfl
theorem j4:(namedTie Tryz.prog Rows.fnOpsRow.named Rows.fnOpsSpec.vars) = true:=by kernel_rfl
theorem j5:((Rows.fnOpsRow.stops == [])) = true:=by kernel_rfl
theorem j6:((Tryz.prog.stops == [])) = true:=by kernel_rfl
theorem j7:((Rows.fnOpsRow.knobs == [])) = true:=by kernel_rfl
theorem j8:((Tryz.prog.stopKnobs == [])) = true:=by kernel_rfl
theorem j9:((Rows.fnOpsRow.inPlace == Tryz.prog.inPlace 4)) = true:=by kernel_rfl
theorem j10:((Rows.fnOpsRow.unfollowed == Tryz.prog.unfollowed 4)) = true:=by kernel_rfl
theorem j11:((Rows.fnOpsRow.recurses == Tryz.prog.recurses 4)) = true:=by kernel_rfl
theorem j12:((Rows.fnOpsRow.named == Tryz.prog.varsNamed 4)) = true:=by kernel_rfl
theorem j13:((Rows.fnOpsRow.maps == (Tryz.f4.params.toList ++ Rows.fnOpsSpec.plain.varTypes Tryz.prog).any (Tryz.prog.mapsRec ·))) = true:=by kernel_rfl
theorem j14:((Rows.fnOpsRow.ifaces == (Tryz.f4.params.toList ++ Rows.fnOpsSpec.plain.varTypes Tryz.prog).any (Tryz.prog.ifacesRec ·))) = true:=by kernel_rfl
theorem j15:((Rows.fnOpsRow.mapsOut == Tryz.prog.mapsAmong Tryz.f4.resultTypes.toList)) = true:=by kernel_rfl
theorem j16:((Rows.fnOpsRow.loops == (Tryz.f4.params.toList ++ Rows.fnOpsSpec.plain.varTypes Tryz.prog).any (Tryz.prog.loopsFrom ·))) = true:=by kernel_rfl
theorem j17:((Rows.fnOpsRow.wideKeys == (Tryz.f4.params.toList ++ Rows.fnOpsSpec.plain.varTypes Tryz.prog ++ Tryz.f4.resultTypes.toList).any (Tryz.prog.wideKeysFrom ·))) = true:=by kernel_rfl
theorem j18:(Rows.fnOpsSpec.vars.all (Tryz.prog.varReadable ·)) = true:=by kernel_rfl
theorem j19:(Tryz.f4.resultTypes.all (fun t => Tryz.prog.readableRec t && decide (t < Tryz.prog.types.size))) = true:=by kernel_rfl
theorem j20:((Rows.fnOpsRow.ifacesOut == Tryz.f4.resultTypes.toList.any (Tryz.prog.ifacesRec ·))) = true:=by kernel_rfl
theorem j21:((Rows.fnOpsRow.loopsOut == Tryz.f4.resultTypes.toList.any (Tryz.prog.loopsFrom ·))) = true:=by kernel_rfl
theorem j22:((Rows.fnOpsRow.plainKeys == Tryz.prog.plainKeys)) = true:=by kernel_rfl
theorem j23:(Rows.fnOpsRow.shortTexts.isNone) = true:=by kernel_rfl
theorem j24:(Tryz.prog.stopsHeard) = true:=by kernel_rfl
theorem j25:(Tryz.prog.mayEnter) = true:=by kernel_rfl
theorem j26:((Rows.fnOpsRow.lifted == Tryz.prog.liftsFinal)) = true:=by kernel_rfl
theorem j27:((Tryz.prog.make == some Rows.fnOpsRow.make)) = true:=by kernel_rfl
theorem j28:((Rows.fnOpsRow.kinds == (if Rows.fnOpsRow.domain.isEmpty then [] else Tryz.f4.params.toList.map fun t => match Tryz.prog.underlying t with | some (.int k) => some k | _ => none))) = true:=by kernel_rfl
theorem j29:((Rows.fnOpsRow.pinned == Rows.fnOpsRow.pinnedBy)) = true:=by kernel_rfl
theorem j30:((Rows.fnOpsRow.veiled == (Tryz.f4.params.toList ++ Rows.fnOpsSpec.plain.varTypes Tryz.prog ++ Tryz.f4.resultTypes.toList).any (Tryz.prog.veiledRec ·))) = true:=by kernel_rfl
theorem j31:(Rows.fnOpsRow.veiledFits Tryz.prog Tryz.f4.params.toList (Tryz.f4.params.toList ++ Rows.fnOpsSpec.plain.varTypes Tryz.prog ++ Tryz.f4.resultTypes.toList)) = true:=by kernel_rfl
set_option maxRecDepth 100000 in
theorem closed:joinedFacts Tryz.prog 4 Tryz.f4 Rows.fnOpsSpec Rows.fnOpsRow = true:=(b2a (b2a (b2a (b2a (b2a (b2a (b2a (b2a (b2a (b2a (b2a (b2a (b2a (b2a (b2a (b2a (b2a (b2a (b2a (b2a (b2a (b2a (b2a (b2a (b2a (b2a (b2a (b2a (b2a (b2a (b2a j0 j1) j2) j3) j4) j5) j6) j7) j8) j9) j10) j11) j12) j13) j14) j15) j16) j17) j18) j19) j20) j21) j22) j23) j24) j25) j26) j27) j28) j29) j30) j31)
theorem named:Tryz.prog.funcNamed Rows.fnOpsRow.func = some 4:=by kernel_rfl
theorem inst:Tryz.f4.isInstance Tryz.prog Rows.fnOpsRow.origin Rows.fnOpsRow.targs:=of_decide_eq_true (by kernel_rfl)
theorem wrap:Tryz.f4.isWrapper Tryz.prog Rows.fnOpsRow.wrapper Rows.fnOpsRow.mainSum:=by unfold Func.isWrapper; first | (rw [if_pos (by decide +kernel)]; kernel_rfl) | (rw [if_neg (by decide +kernel)]; exact ⟨rfl,rfl⟩)
theorem over:Rows.fnOpsRow.holds Tryz.pinned (OpenSpec.ofChange Rows.fnOpsSpec) :=
  OpenClaim.holds_of_wide 4 Tryz.f4 rfl rfl rfl rfl rfl rfl rfl ⟨rfl,rfl,rfl,rfl,rfl⟩ rfl rfl rfl rfl rfl named Tryz.func4 closed inst wrap
    (fun os started H enc _ => lifted os started H enc)

theorem proved:Rows.FnOpsSaid:=over
#print axioms proved
end Go.Proofs.YtgdkfnndbknjpaaGreat.fnOps
