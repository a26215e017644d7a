/- 'FnCells': for every input the law returns true, and each argument reads behind the call as it read before. No condition. -/
import Derived.Test.YtdlnekmchikddaaCEL
import Derived.WalkKit
import Derived.ProofKit
import Derived.OpenShut
import Derived.ShutString
import Derived.ChangeOld
import Derived.Below
set_option linter.all false
namespace Go.R
open Go Go.Proofs
set_option linter.unusedSimpArgs false
set_option maxHeartbeats 8000000
def TTCE (t:TypeId) (az:List AV):Prop :=
  bif Nat.beq t 22 then ∃ x:(List Int),az = [(.lst 1 (x.map enc_u8))] ∧ (okL (okI .u8)) x else
  bif Nat.beq t 5 then ∃ x:Int,az = [(.int .u8 x)] ∧ (okI .u8) x else
  False
theorem ttCE_22 {az:List AV} (h:∃ x:(List Int),az = [(.lst 1 (x.map enc_u8))] ∧ (okL (okI .u8)) x):TTCE 22 az:=h
theorem ttCE_5 {az:List AV} (h:∃ x:Int,az = [(.int .u8 x)] ∧ (okI .u8) x):TTCE 5 az:=h
def DDCE (t:TypeId):Prop:=t ∈ [22,5]
theorem cloCE_22:Clo Try.prog TTCE DDCE 22:=by
  refine ⟨?_⟩
  unfold CloT
  rw [Try.underlying22]
  refine ⟨by simp [DDCE],false,by kernel_rfl,(of_decide_eq_true (by kernel_rfl)),.inr (by kernel_rfl),fun l hl h => ?_⟩
  obtain ⟨ys,rfl,hys⟩:=map_of (enc:=enc_u8) (Q:=okI .u8) l (fun x hx => by
    rcases h x hx with ⟨h,_⟩ | ⟨_,y,hy,hy2⟩
    · cases h
    · simp only [List.cons.injEq,and_true] at hy
      exact ⟨y,hy,hy2⟩)
  rw [List.length_map] at hl
  have hc:Try.prog.cellsOf 5 = 1:=by kernel_rfl
  rw [hc]
  exact ttCE_22 ⟨ys,rfl,hl,hys⟩
theorem cloCE_5:Clo Try.prog TTCE DDCE 5:=by
  refine ⟨?_⟩
  unfold CloT
  rw [Try.underlying5]
  exact fun n h => ttCE_5 ⟨n,rfl,h⟩
theorem cloCE:∀ t,DDCE t → Clo Try.prog TTCE DDCE t:=by
  intro t ht
  rcases List.mem_cons.1 ht with h | ht
  · rw [h]; exact cloCE_22
  rcases List.mem_cons.1 ht with h | ht
  · rw [h]; exact cloCE_5
  exact absurd ht List.not_mem_nil
end Go.R
namespace Go.Proofs.Ytdlnekmchikddaa.fnCells
open Go.ChangeShapes Go.WideShapes Go.ChangeAt Go.RowKit Go.R
open Go.ChangeMaps (open_string shut_string)
set_option linter.unusedVariables false

theorem own:ownKnob Try.prog.godebug = none:=by kernel_rfl
theorem laidOut:laidOutB Try.prog = true:=by kernel_rfl

set_option maxRecDepth 100000 in
theorem lifted (os:Os) (started:os.Started) (H:Type) (enc:TypeId × Value → H) :
    ReturnsInHanded {} Try.checked os 4 .any (Rows.fnCellsSpec.pre6 enc Try.prog Try.f4 Rows.fnCellsRow.domain false) (Rows.fnCellsSpec.post enc Try.prog Try.f4 false true false false):=by
  refine returnsInHanded_of_change (C:=Try.checked) own started (by kernel_rfl) Try.func4
    (ChangeSpec.witness6 (enc:=enc) (C:=Try.checked) false ⟨#[],#[.slice none 0 0,.slice none 0 0],[]⟩ 8 (by kernel_rfl) (by kernel_rfl) (by kernel_rfl) (by kernel_rfl)) ?_
  intro W base args ds gs before hval0 hW hcnd _
  have hval:∀ (j:Nat) t v,Try.f4.params[j]? = some t → args[j]? = some v → Value.okWide Try.prog W .any base t v:=hval0
  have hW':=hW
  obtain ⟨p,q,hA0,hV,rfl,hfz,hnd⟩:=hW
  have hA:DataW.TrodAll enc Try.prog W 0 (fun _ => true) true Try.f4.params.toList args.toList ds p:=hA0
  rw [Try.params4] at hA hval
  obtain ⟨v0,vs0,d0,ds0,p0,q0,hargs,rfl,rfl,h0,r0⟩:=trodAll_cons hA
  obtain ⟨v1,vs1,d1,ds1,p1,q1,rfl,rfl,rfl,h1,r1⟩:=trodAll_cons r0
  obtain ⟨rfl,rfl,rfl⟩:=trodAll_nil r1
  obtain rfl:args = #[v0,v1]:=by cases args; simp_all
  obtain ⟨rfl,rfl⟩:=trodVars_none hV
  have k0:=h0
  have lt0:∀ x ∈ p0,x.block < W.heap.size:=by obtain ⟨m,hm⟩:=k0; exact DataW.trod_lt m _ _ _ hm
  obtain ⟨a0,fp0,g0,t0⟩:=openC cloCE (by rw [Try.underlying22]; simp) (by simp [DDCE]) (hval 0 22 v0 rfl rfl) h0
  obtain ⟨x0,e0,ok0⟩:=t0
  simp only [List.cons.injEq,and_true] at e0
  subst e0
  have k1:=h1
  have lt1:∀ x ∈ p1,x.block < W.heap.size:=by obtain ⟨m,hm⟩:=k1; exact DataW.trod_lt m _ _ _ hm
  obtain ⟨a1,fp1,g1,t1⟩:=openC cloCE (by rw [Try.underlying22]; simp) (by simp [DDCE]) (hval 1 22 v1 rfl rfl) h1
  obtain ⟨x1,e1,ok1⟩:=t1
  simp only [List.cons.injEq,and_true] at e1
  subst e1
  clear hA0 hval0
  have hc:=w_laws_FnCells x0 x1 true (law_FnCells x0 x1 ok0 ok1)
  refine (flat_true hc (RepVs.cons g0 (RepVs.cons g1 RepVs.nil))).mono fun e W' ⟨he,bel⟩ => ?_
  subst he
  exact ⟨_,rfl,_,_,_,[],_,[],hW',trodAll_mk1 (shut_bool Try.underlying4 _),(trodAll_cons_mk (Below.trod laidOut (by kernel_rfl) (of_decide_eq_true (by kernel_rfl)) k0 bel lt0) (trodAll_cons_mk (Below.trod laidOut (by kernel_rfl) (of_decide_eq_true (by kernel_rfl)) k1 bel lt1) trodAll_mk0)),rfl,bel.frame _,fun h => by cases h⟩

theorem over:Rows.fnCellsRow.holds Try.pinned (OpenSpec.ofChange Rows.fnCellsSpec) :=
  OpenClaim.holds_of_wide 4 Try.f4 rfl rfl rfl rfl rfl rfl rfl ⟨rfl,rfl,rfl,rfl,rfl⟩ rfl rfl rfl rfl rfl (by kernel_rfl) Try.func4 (by kernel_rfl)
    (of_decide_eq_true (by kernel_rfl)) (by unfold Func.isWrapper; first | (rw [if_pos (by decide +kernel)]; kernel_rfl) | (rw [if_neg (by decide +kernel)]; exact ⟨rfl,rfl⟩))
    (fun os started H enc _ => lifted os started H enc)

theorem proved:Rows.FnCellsSaid:=over
#print axioms proved
end Go.Proofs.Ytdlnekmchikddaa.fnCells
