import Derived.Test.YtldahjcikmpifaaGreatS8
import Derived.Test.YtldahjcikmpifaaGreatS46
import Derived.WalkKit
import Derived.ProofKit
import Derived.OpenShut
import Derived.ShutString
import Derived.ChangeOld
import Derived.Below
section
set_option linter.all false
namespace Go.R
open Go Go.Proofs
set_option maxHeartbeats 8000000
def e0c (t:TypeId) (az:List AV):Prop :=
  bif Nat.beq t 22 then ∃ x:(List Int),az = [(.lst 1 (x.map a0p))] ∧ (okL (okI .u8)) x else
  bif Nat.beq t 5 then ∃ x:Int,az = [(.int .u8 x)] ∧ (okI .u8) x else
  False
theorem e9r {az:List AV} (h:∃ x:(List Int),az = [(.lst 1 (x.map a0p))] ∧ (okL (okI .u8)) x):e0c 22 az:=h
theorem f1y {az:List AV} (h:∃ x:Int,az = [(.int .u8 x)] ∧ (okI .u8) x):e0c 5 az:=h
def d4v (t:TypeId):Prop:=t ∈ [22,5]
theorem e5s:Clo Tryz.prog e0c d4v 22:=by
  refine ⟨?_⟩
  unfold e6u
  rw [Tryz.underlying22]
  refine ⟨by simp [d4v],false,by kernel_rfl,(of_decide_eq_true (by kernel_rfl)),.inr (by kernel_rfl),fun l hl h => ?_⟩
  obtain ⟨ys,rfl,hys⟩:=e6v (enc:=a0p) (Q:=okI .u8) l (fun x hx => by
    rcases h x hx with ⟨h,_⟩ | ⟨_,y,hy,hy2⟩
    · cases h
    · simp only [List.cons.injEq,and_true] at hy
      exact ⟨y,hy,hy2⟩)
  rw [List.length_map] at hl
  have hc:Tryz.prog.cellsOf 5 = 1:=by kernel_rfl
  rw [hc]
  exact e9r ⟨ys,rfl,hl,hys⟩
theorem e9s:Clo Tryz.prog e0c d4v 5:=by
  refine ⟨?_⟩
  unfold e6u
  rw [Tryz.underlying5]
  exact fun n h => f1y ⟨n,rfl,h⟩
theorem f4y:∀ t,d4v t → Clo Tryz.prog e0c d4v t:=by
  intro t ht
  rcases List.mem_cons.1 ht with h | ht
  · rw [h]; exact e5s
  rcases List.mem_cons.1 ht with h | ht
  · rw [h]; exact e9s
  exact absurd ht List.not_mem_nil
end Go.R
namespace Go.Proofs.YtldahjcikmpifaaGreat.fnStores
open Go.ChangeShapes Go.WideShapes Go.ChangeAt Go.RowKit Go.R
open Go.ChangeMaps (open_string shut_string)
theorem own:ownKnob Tryz.prog.godebug = none:=by kernel_rfl
theorem laidOut:laidOutB Tryz.prog = true:=by kernel_rfl
set_option maxRecDepth 100000 in
theorem lifted (os:Os) (started:os.Started) (H:Type) (enc:TypeId × Value → H) :
    ReturnsInHanded {} Tryz.checked os 3 .any (Rows.fnStoresSpec.pre6 enc Tryz.prog Tryz.f3 Rows.fnStoresRow.domain false) (Rows.fnStoresSpec.post enc Tryz.prog Tryz.f3 false true false false):=by
  refine returnsInHanded_of_change (C:=Tryz.checked) own started (by kernel_rfl) Tryz.func3
    (ChangeSpec.witness6 (enc:=enc) (C:=Tryz.checked) false ⟨#[],#[.slice none 0 0],[]⟩ 8 (by kernel_rfl) (by kernel_rfl) (by kernel_rfl) (by kernel_rfl)) ?_
  intro W base args ds gs before hval0 hW hcnd _
  have hval:∀ (j:Nat) t v,Tryz.f3.params[j]? = some t → args[j]? = some v → Value.okWide Tryz.prog W .any base t v:=hval0
  have hW':=hW
  obtain ⟨p,q,hA0,hV,rfl,hfz,hnd⟩:=hW
  have hA:DataW.TrodAll enc Tryz.prog W 0 (fun _ => true) true Tryz.f3.params.toList args.toList ds p:=hA0
  rw [Tryz.params3] at hA hval
  obtain ⟨v0,vs0,d0,ds0,p0,q0,hargs,rfl,rfl,h0,r0⟩:=trodAll_cons hA
  obtain ⟨rfl,rfl,rfl⟩:=trodAll_nil r0
  obtain rfl:args = #[v0]:=by cases args; simp_all
  obtain ⟨rfl,rfl⟩:=trodVars_none hV
  have k0:=h0
  have lt0:∀ x ∈ p0,x.block < W.heap.size:=by obtain ⟨m,hm⟩:=k0; exact DataW.trod_lt m _ _ _ hm
  obtain ⟨a0,fp0,g0,t0⟩:=f5q f4y (by rw [Tryz.underlying22]; simp) (by simp [d4v]) (hval 0 22 v0 rfl rfl) h0
  obtain ⟨x0,e0,ok0⟩:=t0
  simp only [List.cons.injEq,and_true] at e0
  subst e0
  clear hA0 hval0
  have hc:=w_laws_FnStores x0 true (d6o x0 ok0)
  refine (e4k hc (a0x.cons g0 a0x.nil)).mono fun e W' ⟨he,bel⟩ => ?_
  subst he
  exact ⟨_,rfl,_,_,_,[],_,[],hW',trodAll_mk1 (shut_bool Tryz.underlying4 _),(trodAll_cons_mk (Below.trod laidOut (by kernel_rfl) (of_decide_eq_true (by kernel_rfl)) k0 bel lt0) trodAll_mk0),rfl,bel.frame _,fun h => by cases h⟩
theorem b3w {a b:Bool} (h:a = true) (g:b = true):(a && b) = true:=by rw [h,g]; rfl
theorem j0:(Rows.fnStoresRow.wf (OpenSpec.ofChange Rows.fnStoresSpec)) = true:=by kernel_rfl
theorem j1:(laidOutB Tryz.prog) = true:=laidOut
theorem j2:(mapsRowed Tryz.prog) = true:=by kernel_rfl
theorem j3:(Tryz.f3.params.all (Program.readableRec Tryz.prog ·)) = true:=by kernel_rfl
theorem j4:(namedTie Tryz.prog Rows.fnStoresRow.named Rows.fnStoresSpec.vars) = true:=by kernel_rfl
theorem j5:((Rows.fnStoresRow.stops == [])) = true:=by kernel_rfl
theorem j6:((Tryz.prog.stops == [])) = true:=by kernel_rfl
theorem j7:((Rows.fnStoresRow.knobs == [])) = true:=by kernel_rfl
theorem j8:((Tryz.prog.stopKnobs == [])) = true:=by kernel_rfl
theorem j9:((Rows.fnStoresRow.inPlace == Tryz.prog.inPlace 3)) = true:=by kernel_rfl
theorem j10:((Rows.fnStoresRow.unfollowed == Tryz.prog.unfollowed 3)) = true:=by kernel_rfl
theorem j11:((Rows.fnStoresRow.recurses == Tryz.prog.recurses 3)) = true:=by kernel_rfl
theorem j12:((Rows.fnStoresRow.named == Tryz.prog.varsNamed 3)) = true:=by kernel_rfl
theorem j13:((Rows.fnStoresRow.maps == (Tryz.f3.params.toList ++ Rows.fnStoresSpec.plain.varTypes Tryz.prog).any (Tryz.prog.mapsRec ·))) = true:=by kernel_rfl
theorem j14:((Rows.fnStoresRow.ifaces == (Tryz.f3.params.toList ++ Rows.fnStoresSpec.plain.varTypes Tryz.prog).any (Tryz.prog.ifacesRec ·))) = true:=by kernel_rfl
theorem j15:((Rows.fnStoresRow.mapsOut == Tryz.prog.mapsAmong Tryz.f3.resultTypes.toList)) = true:=by kernel_rfl
theorem j16:((Rows.fnStoresRow.loops == (Tryz.f3.params.toList ++ Rows.fnStoresSpec.plain.varTypes Tryz.prog).any (Tryz.prog.loopsFrom ·))) = true:=by kernel_rfl
theorem j17:((Rows.fnStoresRow.wideKeys == (Tryz.f3.params.toList ++ Rows.fnStoresSpec.plain.varTypes Tryz.prog ++ Tryz.f3.resultTypes.toList).any (Tryz.prog.wideKeysFrom ·))) = true:=by kernel_rfl
theorem j18:(Rows.fnStoresSpec.vars.all (Tryz.prog.varReadable ·)) = true:=by kernel_rfl
theorem j19:(Tryz.f3.resultTypes.all (fun t => Tryz.prog.readableRec t && decide (t < Tryz.prog.types.size))) = true:=by kernel_rfl
theorem j20:((Rows.fnStoresRow.ifacesOut == Tryz.f3.resultTypes.toList.any (Tryz.prog.ifacesRec ·))) = true:=by kernel_rfl
theorem j21:((Rows.fnStoresRow.loopsOut == Tryz.f3.resultTypes.toList.any (Tryz.prog.loopsFrom ·))) = true:=by kernel_rfl
theorem j22:((Rows.fnStoresRow.plainKeys == Tryz.prog.plainKeys)) = true:=by kernel_rfl
theorem j23:(Rows.fnStoresRow.shortTexts.isNone) = true:=by kernel_rfl
theorem j24:(Tryz.prog.stopsHeard) = true:=by kernel_rfl
theorem j25:(Tryz.prog.mayEnter) = true:=by kernel_rfl
theorem j26:((Rows.fnStoresRow.lifted == Tryz.prog.liftsFinal)) = true:=by kernel_rfl
theorem j27:((Tryz.prog.make == some Rows.fnStoresRow.make)) = true:=by kernel_rfl
theorem j28:((Rows.fnStoresRow.kinds == (if Rows.fnStoresRow.domain.isEmpty then [] else Tryz.f3.params.toList.map fun t => match Tryz.prog.underlying t with | some (.int k) => some k | _ => none))) = true:=by kernel_rfl
theorem j29:((Rows.fnStoresRow.pinned == Rows.fnStoresRow.pinnedBy)) = true:=by kernel_rfl
theorem j30:((Rows.fnStoresRow.veiled == (Tryz.f3.params.toList ++ Rows.fnStoresSpec.plain.varTypes Tryz.prog ++ Tryz.f3.resultTypes.toList).any (Tryz.prog.veiledRec ·))) = true:=by kernel_rfl
theorem j31:(Rows.fnStoresRow.veiledFits Tryz.prog Tryz.f3.params.toList (Tryz.f3.params.toList ++ Rows.fnStoresSpec.plain.varTypes Tryz.prog ++ Tryz.f3.resultTypes.toList)) = true:=by kernel_rfl
set_option maxRecDepth 100000 in
theorem closed:joinedFacts Tryz.prog 3 Tryz.f3 Rows.fnStoresSpec Rows.fnStoresRow = true:=(b3w (b3w (b3w (b3w (b3w (b3w (b3w (b3w (b3w (b3w (b3w (b3w (b3w (b3w (b3w (b3w (b3w (b3w (b3w (b3w (b3w (b3w (b3w (b3w (b3w (b3w (b3w (b3w (b3w (b3w (b3w j0 j1) j2) j3) j4) j5) j6) j7) j8) j9) j10) j11) j12) j13) j14) j15) j16) j17) j18) j19) j20) j21) j22) j23) j24) j25) j26) j27) j28) j29) j30) j31)
theorem named:Tryz.prog.funcNamed Rows.fnStoresRow.func = some 3:=by kernel_rfl
theorem inst:Tryz.f3.isInstance Tryz.prog Rows.fnStoresRow.origin Rows.fnStoresRow.targs:=of_decide_eq_true (by kernel_rfl)
theorem wrap:Tryz.f3.isWrapper Tryz.prog Rows.fnStoresRow.wrapper Rows.fnStoresRow.mainSum:=by unfold Func.isWrapper; first | (rw [if_pos (by decide +kernel)]; kernel_rfl) | (rw [if_neg (by decide +kernel)]; exact ⟨rfl,rfl⟩)
theorem over:Rows.fnStoresRow.holds Tryz.pinned (OpenSpec.ofChange Rows.fnStoresSpec) :=
  OpenClaim.holds_of_wide 3 Tryz.f3 rfl rfl rfl rfl rfl rfl rfl ⟨rfl,rfl,rfl,rfl,rfl⟩ rfl rfl rfl rfl rfl named Tryz.func3 closed inst wrap
    (fun os started H enc _ => lifted os started H enc)
theorem proved:Rows.FnStoresSaid:=over
#print axioms proved
end Go.Proofs.YtldahjcikmpifaaGreat.fnStores
end
