/- 'FnWire': for every input the law returns true, and each argument reads behind the call as it read before. No condition. -/
import Derived.Test.YtldahjcikmpifaaGreatWIRL
import Derived.WalkKit
import Derived.ProofKit
import Derived.OpenShut
import Derived.ShutString
import Derived.ChangeOld
import Derived.Below
set_option linter.all false
namespace Go.R
open Go Go.Proofs
set_option linter.unusedSimpArgs false
set_option maxHeartbeats 8000000
def d1r (t:TypeId) (az:List AV):Prop :=
  bif Nat.beq t 22 then ∃ x:(List Int),az = [(.lst 1 (x.map a0q))] ∧ (okL (okI .u8)) x else
  bif Nat.beq t 5 then ∃ x:Int,az = [(.int .u8 x)] ∧ (okI .u8) x else
  False
theorem d8z {az:List AV} (h:∃ x:(List Int),az = [(.lst 1 (x.map a0q))] ∧ (okL (okI .u8)) x):d1r 22 az:=h
theorem e0e {az:List AV} (h:∃ x:Int,az = [(.int .u8 x)] ∧ (okI .u8) x):d1r 5 az:=h
def c5l (t:TypeId):Prop:=t ∈ [22,5]
theorem d5w:Clo Tryz.prog d1r c5l 22:=by
  refine ⟨?_⟩
  unfold d6x
  rw [Tryz.underlying22]
  refine ⟨by simp [c5l],false,by kernel_rfl,(of_decide_eq_true (by kernel_rfl)),.inr (by kernel_rfl),fun l hl h => ?_⟩
  obtain ⟨ys,rfl,hys⟩:=d6y (enc:=a0q) (Q:=okI .u8) l (fun x hx => by
    rcases h x hx with ⟨h,_⟩ | ⟨_,y,hy,hy2⟩
    · cases h
    · simp only [List.cons.injEq,and_true] at hy
      exact ⟨y,hy,hy2⟩)
  rw [List.length_map] at hl
  have hc:Tryz.prog.cellsOf 5 = 1:=by kernel_rfl
  rw [hc]
  exact d8z ⟨ys,rfl,hl,hys⟩
theorem d9a:Clo Tryz.prog d1r c5l 5:=by
  refine ⟨?_⟩
  unfold d6x
  rw [Tryz.underlying5]
  exact fun n h => e0e ⟨n,rfl,h⟩
theorem d9b:∀ t,c5l t → Clo Tryz.prog d1r c5l t:=by
  intro t ht
  rcases List.mem_cons.1 ht with h | ht
  · rw [h]; exact d5w
  rcases List.mem_cons.1 ht with h | ht
  · rw [h]; exact d9a
  exact absurd ht List.not_mem_nil
end Go.R
namespace Go.Proofs.YtldahjcikmpifaaGreat.fnWire
open Go.ChangeShapes Go.WideShapes Go.ChangeAt Go.RowKit Go.R
open Go.ChangeMaps (open_string shut_string)
set_option linter.unusedVariables false

theorem own:ownKnob Tryz.prog.godebug = none:=by kernel_rfl
theorem laidOut:laidOutB Tryz.prog = true:=by kernel_rfl

set_option maxRecDepth 100000 in
theorem lifted (os:Os) (started:os.Started) (H:Type) (enc:TypeId × Value → H) :
    ReturnsInHanded {} Tryz.checked os 7 .any (Rows.fnWireSpec.pre6 enc Tryz.prog Tryz.f7 Rows.fnWireRow.domain false) (Rows.fnWireSpec.post enc Tryz.prog Tryz.f7 false true false false):=by
  refine returnsInHanded_of_change (C:=Tryz.checked) own started (by kernel_rfl) Tryz.func7
    (ChangeSpec.witness6 (enc:=enc) (C:=Tryz.checked) false ⟨#[],#[.slice none 0 0,.slice none 0 0],[]⟩ 8 (by kernel_rfl) (by kernel_rfl) (by kernel_rfl) (by kernel_rfl)) ?_
  intro W base args ds gs before hval0 hW hcnd _
  have hval:∀ (j:Nat) t v,Tryz.f7.params[j]? = some t → args[j]? = some v → Value.okWide Tryz.prog W .any base t v:=hval0
  have hW':=hW
  obtain ⟨p,q,hA0,hV,rfl,hfz,hnd⟩:=hW
  have hA:DataW.TrodAll enc Tryz.prog W 0 (fun _ => true) true Tryz.f7.params.toList args.toList ds p:=hA0
  rw [Tryz.params7] at hA hval
  obtain ⟨v0,vs0,d0,ds0,p0,q0,hargs,rfl,rfl,h0,r0⟩:=trodAll_cons hA
  obtain ⟨v1,vs1,d1,ds1,p1,q1,rfl,rfl,rfl,h1,r1⟩:=trodAll_cons r0
  obtain ⟨rfl,rfl,rfl⟩:=trodAll_nil r1
  obtain rfl:args = #[v0,v1]:=by cases args; simp_all
  obtain ⟨rfl,rfl⟩:=trodVars_none hV
  have k0:=h0
  have lt0:∀ x ∈ p0,x.block < W.heap.size:=by obtain ⟨m,hm⟩:=k0; exact DataW.trod_lt m _ _ _ hm
  obtain ⟨a0,fp0,g0,t0⟩:=e0m d9b (by rw [Tryz.underlying22]; simp) (by simp [c5l]) (hval 0 22 v0 rfl rfl) h0
  obtain ⟨x0,e0,ok0⟩:=t0
  simp only [List.cons.injEq,and_true] at e0
  subst e0
  have k1:=h1
  have lt1:∀ x ∈ p1,x.block < W.heap.size:=by obtain ⟨m,hm⟩:=k1; exact DataW.trod_lt m _ _ _ hm
  obtain ⟨a1,fp1,g1,t1⟩:=e0m d9b (by rw [Tryz.underlying22]; simp) (by simp [c5l]) (hval 1 22 v1 rfl rfl) h1
  obtain ⟨x1,e1,ok1⟩:=t1
  simp only [List.cons.injEq,and_true] at e1
  subst e1
  clear hA0 hval0
  have hc:=c5z x0 x1 true (d3a x0 x1 ok0 ok1)
  refine (d5f hc (a1q.cons g0 (a1q.cons g1 a1q.nil))).mono fun e W' ⟨he,bel⟩ => ?_
  subst he
  exact ⟨_,rfl,_,_,_,[],_,[],hW',trodAll_mk1 (shut_bool Tryz.underlying4 _),(trodAll_cons_mk (Below.trod laidOut (by kernel_rfl) (of_decide_eq_true (by kernel_rfl)) k0 bel lt0) (trodAll_cons_mk (Below.trod laidOut (by kernel_rfl) (of_decide_eq_true (by kernel_rfl)) k1 bel lt1) trodAll_mk0)),rfl,bel.frame _,fun h => by cases h⟩

theorem a9w {a b:Bool} (h:a = true) (g:b = true):(a && b) = true:=by rw [h,g]; rfl
theorem j0:(Rows.fnWireRow.wf (OpenSpec.ofChange Rows.fnWireSpec)) = true:=by kernel_rfl
theorem j1:(laidOutB Tryz.prog) = true:=laidOut
theorem j2:(mapsRowed Tryz.prog) = true:=by kernel_rfl
theorem j3:(Tryz.f7.params.all (Program.readableRec Tryz.prog ·)) = true:=by kernel_rfl
theorem j4:(namedTie Tryz.prog Rows.fnWireRow.named Rows.fnWireSpec.vars) = true:=by kernel_rfl
theorem j5:((Rows.fnWireRow.stops == [])) = true:=by kernel_rfl
theorem j6:((Tryz.prog.stops == [])) = true:=by kernel_rfl
theorem j7:((Rows.fnWireRow.knobs == [])) = true:=by kernel_rfl
theorem j8:((Tryz.prog.stopKnobs == [])) = true:=by kernel_rfl
theorem j9:((Rows.fnWireRow.inPlace == Tryz.prog.inPlace 7)) = true:=by kernel_rfl
theorem j10:((Rows.fnWireRow.unfollowed == Tryz.prog.unfollowed 7)) = true:=by kernel_rfl
theorem j11:((Rows.fnWireRow.recurses == Tryz.prog.recurses 7)) = true:=by kernel_rfl
theorem j12:((Rows.fnWireRow.named == Tryz.prog.varsNamed 7)) = true:=by kernel_rfl
theorem j13:((Rows.fnWireRow.maps == (Tryz.f7.params.toList ++ Rows.fnWireSpec.plain.varTypes Tryz.prog).any (Tryz.prog.mapsRec ·))) = true:=by kernel_rfl
theorem j14:((Rows.fnWireRow.ifaces == (Tryz.f7.params.toList ++ Rows.fnWireSpec.plain.varTypes Tryz.prog).any (Tryz.prog.ifacesRec ·))) = true:=by kernel_rfl
theorem j15:((Rows.fnWireRow.mapsOut == Tryz.prog.mapsAmong Tryz.f7.resultTypes.toList)) = true:=by kernel_rfl
theorem j16:((Rows.fnWireRow.loops == (Tryz.f7.params.toList ++ Rows.fnWireSpec.plain.varTypes Tryz.prog).any (Tryz.prog.loopsFrom ·))) = true:=by kernel_rfl
theorem j17:((Rows.fnWireRow.wideKeys == (Tryz.f7.params.toList ++ Rows.fnWireSpec.plain.varTypes Tryz.prog ++ Tryz.f7.resultTypes.toList).any (Tryz.prog.wideKeysFrom ·))) = true:=by kernel_rfl
theorem j18:(Rows.fnWireSpec.vars.all (Tryz.prog.varReadable ·)) = true:=by kernel_rfl
theorem j19:(Tryz.f7.resultTypes.all (fun t => Tryz.prog.readableRec t && decide (t < Tryz.prog.types.size))) = true:=by kernel_rfl
theorem j20:((Rows.fnWireRow.ifacesOut == Tryz.f7.resultTypes.toList.any (Tryz.prog.ifacesRec ·))) = true:=by kernel_rfl
theorem j21:((Rows.fnWireRow.loopsOut == Tryz.f7.resultTypes.toList.any (Tryz.prog.loopsFrom ·))) = true:=by kernel_rfl
theorem j22:((Rows.fnWireRow.plainKeys == Tryz.prog.plainKeys)) = true:=by kernel_rfl
theorem j23:(Rows.fnWireRow.shortTexts.isNone) = true:=by kernel_rfl
theorem j24:(Tryz.prog.stopsHeard) = true:=by kernel_rfl
theorem j25:(Tryz.prog.mayEnter) = true:=by kernel_rfl
theorem j26:((Rows.fnWireRow.lifted == Tryz.prog.liftsFinal)) = true:=by kernel_rfl
theorem j27:((Tryz.prog.make == some Rows.fnWireRow.make)) = true:=by kernel_rfl
theorem j28:((Rows.fnWireRow.kinds == (if Rows.fnWireRow.domain.isEmpty then [] else Tryz.f7.params.toList.map fun t => match Tryz.prog.underlying t with | some (.int k) => some k | _ => none))) = true:=by kernel_rfl
theorem j29:((Rows.fnWireRow.pinned == Rows.fnWireRow.pinnedBy)) = true:=by kernel_rfl
theorem j30:((Rows.fnWireRow.veiled == (Tryz.f7.params.toList ++ Rows.fnWireSpec.plain.varTypes Tryz.prog ++ Tryz.f7.resultTypes.toList).any (Tryz.prog.veiledRec ·))) = true:=by kernel_rfl
theorem j31:(Rows.fnWireRow.veiledFits Tryz.prog Tryz.f7.params.toList (Tryz.f7.params.toList ++ Rows.fnWireSpec.plain.varTypes Tryz.prog ++ Tryz.f7.resultTypes.toList)) = true:=by kernel_rfl
set_option maxRecDepth 100000 in
theorem closed:joinedFacts Tryz.prog 7 Tryz.f7 Rows.fnWireSpec Rows.fnWireRow = true:=(a9w (a9w (a9w (a9w (a9w (a9w (a9w (a9w (a9w (a9w (a9w (a9w (a9w (a9w (a9w (a9w (a9w (a9w (a9w (a9w (a9w (a9w (a9w (a9w (a9w (a9w (a9w (a9w (a9w (a9w (a9w j0 j1) j2) j3) j4) j5) j6) j7) j8) j9) j10) j11) j12) j13) j14) j15) j16) j17) j18) j19) j20) j21) j22) j23) j24) j25) j26) j27) j28) j29) j30) j31)
theorem named:Tryz.prog.funcNamed Rows.fnWireRow.func = some 7:=by kernel_rfl
theorem inst:Tryz.f7.isInstance Tryz.prog Rows.fnWireRow.origin Rows.fnWireRow.targs:=of_decide_eq_true (by kernel_rfl)
theorem wrap:Tryz.f7.isWrapper Tryz.prog Rows.fnWireRow.wrapper Rows.fnWireRow.mainSum:=by unfold Func.isWrapper; first | (rw [if_pos (by decide +kernel)]; kernel_rfl) | (rw [if_neg (by decide +kernel)]; exact ⟨rfl,rfl⟩)
theorem over:Rows.fnWireRow.holds Tryz.pinned (OpenSpec.ofChange Rows.fnWireSpec) :=
  OpenClaim.holds_of_wide 7 Tryz.f7 rfl rfl rfl rfl rfl rfl rfl ⟨rfl,rfl,rfl,rfl,rfl⟩ rfl rfl rfl rfl rfl named Tryz.func7 closed inst wrap
    (fun os started H enc _ => lifted os started H enc)

theorem proved:Rows.FnWireSaid:=over
#print axioms proved
end Go.Proofs.YtldahjcikmpifaaGreat.fnWire
