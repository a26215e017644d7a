import Derived.Test.YtldahjcikmpifaaGreatG8
import Derived.Test.YtldahjcikmpifaaGreatG48
import Derived.WalkKit
import Derived.ProofKit
import Derived.OpenShut
import Derived.ShutString
import Derived.ChangeOld
import Derived.Below
section
set_option linter.all false
namespace Go.R
open Go Go.Proofs
set_option maxHeartbeats 8000000
def d6r (t:TypeId) (az:List AV):Prop :=
  bif Nat.beq t 22 then ∃ x:(List Int),az = [(.lst 1 (x.map a0h))] ∧ (okL (okI .u8)) x else
  bif Nat.beq t 5 then ∃ x:Int,az = [(.int .u8 x)] ∧ (okI .u8) x else
  False
theorem e6k {az:List AV} (h:∃ x:(List Int),az = [(.lst 1 (x.map a0h))] ∧ (okL (okI .u8)) x):d6r 22 az:=h
theorem e8w {az:List AV} (h:∃ x:Int,az = [(.int .u8 x)] ∧ (okI .u8) x):d6r 5 az:=h
def c9l (t:TypeId):Prop:=t ∈ [22,5]
theorem e2o:Clo Tryz.prog d6r c9l 22:=by
  refine ⟨?_⟩
  unfold e3q
  rw [Tryz.underlying22]
  refine ⟨by simp [c9l],false,by kernel_rfl,(of_decide_eq_true (by kernel_rfl)),.inr (by kernel_rfl),fun l hl h => ?_⟩
  obtain ⟨ys,rfl,hys⟩:=e3r (enc:=a0h) (Q:=okI .u8) l (fun x hx => by
    rcases h x hx with ⟨h,_⟩ | ⟨_,y,hy,hy2⟩
    · cases h
    · simp only [List.cons.injEq,and_true] at hy
      exact ⟨y,hy,hy2⟩)
  rw [List.length_map] at hl
  have hc:Tryz.prog.cellsOf 5 = 1:=by kernel_rfl
  rw [hc]
  exact e6k ⟨ys,rfl,hl,hys⟩
theorem e6l:Clo Tryz.prog d6r c9l 5:=by
  refine ⟨?_⟩
  unfold e3q
  rw [Tryz.underlying5]
  exact fun n h => e8w ⟨n,rfl,h⟩
theorem e6m:∀ t,c9l t → Clo Tryz.prog d6r c9l t:=by
  intro t ht
  rcases List.mem_cons.1 ht with h | ht
  · rw [h]; exact e2o
  rcases List.mem_cons.1 ht with h | ht
  · rw [h]; exact e6l
  exact absurd ht List.not_mem_nil
end Go.R
namespace Go.Proofs.YtldahjcikmpifaaGreat.fnRows
open Go.ChangeShapes Go.WideShapes Go.ChangeAt Go.RowKit Go.R
open Go.ChangeMaps (open_string shut_string)
theorem own:ownKnob Tryz.prog.godebug = none:=by kernel_rfl
theorem laidOut:laidOutB Tryz.prog = true:=by kernel_rfl
set_option maxRecDepth 100000 in
theorem lifted (os:Os) (started:os.Started) (H:Type) (enc:TypeId × Value → H) :
    ReturnsInHanded {} Tryz.checked os 8 .any (Rows.fnRowsSpec.pre6 enc Tryz.prog Tryz.f8 Rows.fnRowsRow.domain false) (Rows.fnRowsSpec.post enc Tryz.prog Tryz.f8 false true false false):=by
  refine returnsInHanded_of_change (C:=Tryz.checked) own started (by kernel_rfl) Tryz.func8
    (ChangeSpec.witness6 (enc:=enc) (C:=Tryz.checked) false ⟨#[],#[.slice none 0 0,.slice none 0 0],[]⟩ 8 (by kernel_rfl) (by kernel_rfl) (by kernel_rfl) (by kernel_rfl)) ?_
  intro W base args ds gs before hval0 hW hcnd _
  have hval:∀ (j:Nat) t v,Tryz.f8.params[j]? = some t → args[j]? = some v → Value.okWide Tryz.prog W .any base t v:=hval0
  have hW':=hW
  obtain ⟨p,q,hA0,hV,rfl,hfz,hnd⟩:=hW
  have hA:DataW.TrodAll enc Tryz.prog W 0 (fun _ => true) true Tryz.f8.params.toList args.toList ds p:=hA0
  rw [Tryz.params8] at hA hval
  obtain ⟨v0,vs0,d0,ds0,p0,q0,hargs,rfl,rfl,h0,r0⟩:=trodAll_cons hA
  obtain ⟨v1,vs1,d1,ds1,p1,q1,rfl,rfl,rfl,h1,r1⟩:=trodAll_cons r0
  obtain ⟨rfl,rfl,rfl⟩:=trodAll_nil r1
  obtain rfl:args = #[v0,v1]:=by cases args; simp_all
  obtain ⟨rfl,rfl⟩:=trodVars_none hV
  have k0:=h0
  have lt0:∀ x ∈ p0,x.block < W.heap.size:=by obtain ⟨m,hm⟩:=k0; exact DataW.trod_lt m _ _ _ hm
  obtain ⟨a0,fp0,g0,t0⟩:=e9d e6m (by rw [Tryz.underlying22]; simp) (by simp [c9l]) (hval 0 22 v0 rfl rfl) h0
  obtain ⟨x0,e0,ok0⟩:=t0
  simp only [List.cons.injEq,and_true] at e0
  subst e0
  have k1:=h1
  have lt1:∀ x ∈ p1,x.block < W.heap.size:=by obtain ⟨m,hm⟩:=k1; exact DataW.trod_lt m _ _ _ hm
  obtain ⟨a1,fp1,g1,t1⟩:=e9d e6m (by rw [Tryz.underlying22]; simp) (by simp [c9l]) (hval 1 22 v1 rfl rfl) h1
  obtain ⟨x1,e1,ok1⟩:=t1
  simp only [List.cons.injEq,and_true] at e1
  subst e1
  clear hA0 hval0
  have hc:=w_laws_FnRows x0 x1 true (d9a x0 x1 ok0 ok1)
  refine (e1f hc (a1c.cons g0 (a1c.cons g1 a1c.nil))).mono fun e W' ⟨he,bel⟩ => ?_
  subst he
  exact ⟨_,rfl,_,_,_,[],_,[],hW',trodAll_mk1 (shut_bool Tryz.underlying4 _),(trodAll_cons_mk (Below.trod laidOut (by kernel_rfl) (of_decide_eq_true (by kernel_rfl)) k0 bel lt0) (trodAll_cons_mk (Below.trod laidOut (by kernel_rfl) (of_decide_eq_true (by kernel_rfl)) k1 bel lt1) trodAll_mk0)),rfl,bel.frame _,fun h => by cases h⟩
theorem b2d {a b:Bool} (h:a = true) (g:b = true):(a && b) = true:=by rw [h,g]; rfl
theorem j0:(Rows.fnRowsRow.wf (OpenSpec.ofChange Rows.fnRowsSpec)) = true:=by kernel_rfl
theorem j1:(laidOutB Tryz.prog) = true:=laidOut
theorem j2:(mapsRowed Tryz.prog) = true:=by kernel_rfl
theorem j3:(Tryz.f8.params.all (Program.readableRec Tryz.prog ·)) = true:=by kernel_rfl
theorem j4:(namedTie Tryz.prog Rows.fnRowsRow.named Rows.fnRowsSpec.vars) = true:=by kernel_rfl
theorem j5:((Rows.fnRowsRow.stops == [])) = true:=by kernel_rfl
theorem j6:((Tryz.prog.stops == [])) = true:=by kernel_rfl
theorem j7:((Rows.fnRowsRow.knobs == [])) = true:=by kernel_rfl
theorem j8:((Tryz.prog.stopKnobs == [])) = true:=by kernel_rfl
theorem j9:((Rows.fnRowsRow.inPlace == Tryz.prog.inPlace 8)) = true:=by kernel_rfl
theorem j10:((Rows.fnRowsRow.unfollowed == Tryz.prog.unfollowed 8)) = true:=by kernel_rfl
theorem j11:((Rows.fnRowsRow.recurses == Tryz.prog.recurses 8)) = true:=by kernel_rfl
theorem j12:((Rows.fnRowsRow.named == Tryz.prog.varsNamed 8)) = true:=by kernel_rfl
theorem j13:((Rows.fnRowsRow.maps == (Tryz.f8.params.toList ++ Rows.fnRowsSpec.plain.varTypes Tryz.prog).any (Tryz.prog.mapsRec ·))) = true:=by kernel_rfl
theorem j14:((Rows.fnRowsRow.ifaces == (Tryz.f8.params.toList ++ Rows.fnRowsSpec.plain.varTypes Tryz.prog).any (Tryz.prog.ifacesRec ·))) = true:=by kernel_rfl
theorem j15:((Rows.fnRowsRow.mapsOut == Tryz.prog.mapsAmong Tryz.f8.resultTypes.toList)) = true:=by kernel_rfl
theorem j16:((Rows.fnRowsRow.loops == (Tryz.f8.params.toList ++ Rows.fnRowsSpec.plain.varTypes Tryz.prog).any (Tryz.prog.loopsFrom ·))) = true:=by kernel_rfl
theorem j17:((Rows.fnRowsRow.wideKeys == (Tryz.f8.params.toList ++ Rows.fnRowsSpec.plain.varTypes Tryz.prog ++ Tryz.f8.resultTypes.toList).any (Tryz.prog.wideKeysFrom ·))) = true:=by kernel_rfl
theorem j18:(Rows.fnRowsSpec.vars.all (Tryz.prog.varReadable ·)) = true:=by kernel_rfl
theorem j19:(Tryz.f8.resultTypes.all (fun t => Tryz.prog.readableRec t && decide (t < Tryz.prog.types.size))) = true:=by kernel_rfl
theorem j20:((Rows.fnRowsRow.ifacesOut == Tryz.f8.resultTypes.toList.any (Tryz.prog.ifacesRec ·))) = true:=by kernel_rfl
theorem j21:((Rows.fnRowsRow.loopsOut == Tryz.f8.resultTypes.toList.any (Tryz.prog.loopsFrom ·))) = true:=by kernel_rfl
theorem j22:((Rows.fnRowsRow.plainKeys == Tryz.prog.plainKeys)) = true:=by kernel_rfl
theorem j23:(Rows.fnRowsRow.shortTexts.isNone) = true:=by kernel_rfl
theorem j24:(Tryz.prog.stopsHeard) = true:=by kernel_rfl
theorem j25:(Tryz.prog.mayEnter) = true:=by kernel_rfl
theorem j26:((Rows.fnRowsRow.lifted == Tryz.prog.liftsFinal)) = true:=by kernel_rfl
theorem j27:((Tryz.prog.make == some Rows.fnRowsRow.make)) = true:=by kernel_rfl
theorem j28:((Rows.fnRowsRow.kinds == (if Rows.fnRowsRow.domain.isEmpty then [] else Tryz.f8.params.toList.map fun t => match Tryz.prog.underlying t with | some (.int k) => some k | _ => none))) = true:=by kernel_rfl
theorem j29:((Rows.fnRowsRow.pinned == Rows.fnRowsRow.pinnedBy)) = true:=by kernel_rfl
theorem j30:((Rows.fnRowsRow.veiled == (Tryz.f8.params.toList ++ Rows.fnRowsSpec.plain.varTypes Tryz.prog ++ Tryz.f8.resultTypes.toList).any (Tryz.prog.veiledRec ·))) = true:=by kernel_rfl
theorem j31:(Rows.fnRowsRow.veiledFits Tryz.prog Tryz.f8.params.toList (Tryz.f8.params.toList ++ Rows.fnRowsSpec.plain.varTypes Tryz.prog ++ Tryz.f8.resultTypes.toList)) = true:=by kernel_rfl
set_option maxRecDepth 100000 in
theorem closed:joinedFacts Tryz.prog 8 Tryz.f8 Rows.fnRowsSpec Rows.fnRowsRow = true:=(b2d (b2d (b2d (b2d (b2d (b2d (b2d (b2d (b2d (b2d (b2d (b2d (b2d (b2d (b2d (b2d (b2d (b2d (b2d (b2d (b2d (b2d (b2d (b2d (b2d (b2d (b2d (b2d (b2d (b2d (b2d j0 j1) j2) j3) j4) j5) j6) j7) j8) j9) j10) j11) j12) j13) j14) j15) j16) j17) j18) j19) j20) j21) j22) j23) j24) j25) j26) j27) j28) j29) j30) j31)
theorem named:Tryz.prog.funcNamed Rows.fnRowsRow.func = some 8:=by kernel_rfl
theorem inst:Tryz.f8.isInstance Tryz.prog Rows.fnRowsRow.origin Rows.fnRowsRow.targs:=of_decide_eq_true (by kernel_rfl)
theorem wrap:Tryz.f8.isWrapper Tryz.prog Rows.fnRowsRow.wrapper Rows.fnRowsRow.mainSum:=by unfold Func.isWrapper; first | (rw [if_pos (by decide +kernel)]; kernel_rfl) | (rw [if_neg (by decide +kernel)]; exact ⟨rfl,rfl⟩)
theorem over:Rows.fnRowsRow.holds Tryz.pinned (OpenSpec.ofChange Rows.fnRowsSpec) :=
  OpenClaim.holds_of_wide 8 Tryz.f8 rfl rfl rfl rfl rfl rfl rfl ⟨rfl,rfl,rfl,rfl,rfl⟩ rfl rfl rfl rfl rfl named Tryz.func8 closed inst wrap
    (fun os started H enc _ => lifted os started H enc)
theorem proved:Rows.FnRowsSaid:=over
#print axioms proved
end Go.Proofs.YtldahjcikmpifaaGreat.fnRows
end
