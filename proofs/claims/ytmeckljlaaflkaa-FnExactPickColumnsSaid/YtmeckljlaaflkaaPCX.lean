/- 'FnExactPickColumns': for every input the law returns true, and each argument reads behind the call as it read before. No condition. -/
import Derived.Test.YtmeckljlaaflkaaPCL
import Derived.WalkKit
import Derived.ProofKit
import Derived.OpenShut
import Derived.ShutString
import Derived.ChangeOld
import Derived.Below
set_option linter.all false
namespace Go.R
open Go Go.Proofs
set_option linter.unusedSimpArgs false
set_option maxHeartbeats 8000000
def TTPC (t:TypeId) (az:List AV):Prop :=
  bif Nat.beq t 74 then ∃ x:GTable,az = [(.str x.Name),(.lst 8 (x.Columns.map encGColumn)),(.lst 1 (x.Unique.map encI)),(.bool x.Root)] ∧ okGTable x else
  bif Nat.beq t 9 then ∃ x:Str,az = [(.str x)] ∧ (okS) x else
  bif Nat.beq t 72 then ∃ x:(List GColumn),az = [(.lst 8 (x.map encGColumn))] ∧ (okL (okGColumn)) x else
  bif Nat.beq t 223 then ∃ x:GColumn,az = [(.str x.Name),(.int .i64 x.Kind),(.int .i64 x.Min),(.int .i64 x.Max),(.int .i64 x.Low),(.int .i64 x.High),(.str x.Ref),(.bool x.Strong)] ∧ okGColumn x else
  bif Nat.beq t 3 then ∃ x:Int,az = [(.int .i64 x)] ∧ (okI .i64) x else
  bif Nat.beq t 4 then ∃ x:Bool,az = [(.bool x)] ∧ ((fun _ => True)) x else
  bif Nat.beq t 51 then ∃ x:(List Int),az = [(.lst 1 (x.map encI))] ∧ (okL (okI .i64)) x else
  bif Nat.beq t 77 then ∃ x:GRow,az = [(.int .i64 x.Id),(.lst 1 (x.Cells.map (encL 3 encGAtom)))] ∧ okGRow x else
  bif Nat.beq t 75 then ∃ x:(List (List GAtom)),az = [(.lst 1 (x.map (encL 3 encGAtom)))] ∧ (okL (okL (okGAtom))) x else
  bif Nat.beq t 225 then ∃ x:(List GAtom),az = [(.lst 3 (x.map encGAtom))] ∧ (okL (okGAtom)) x else
  bif Nat.beq t 254 then ∃ x:GAtom,az = [(.int .i64 x.Kind),(.int .i64 x.N),(.str x.T)] ∧ okGAtom x else
  bif Nat.beq t 68 then ∃ x:(List Str),az = [(.lst 1 (x.map AV.str))] ∧ (okL (okS)) x else
  False
theorem ttPC_74 {az:List AV} (h:∃ x:GTable,az = [(.str x.Name),(.lst 8 (x.Columns.map encGColumn)),(.lst 1 (x.Unique.map encI)),(.bool x.Root)] ∧ okGTable x):TTPC 74 az:=h
theorem ttPC_9 {az:List AV} (h:∃ x:Str,az = [(.str x)] ∧ (okS) x):TTPC 9 az:=h
theorem ttPC_72 {az:List AV} (h:∃ x:(List GColumn),az = [(.lst 8 (x.map encGColumn))] ∧ (okL (okGColumn)) x):TTPC 72 az:=h
theorem ttPC_223 {az:List AV} (h:∃ x:GColumn,az = [(.str x.Name),(.int .i64 x.Kind),(.int .i64 x.Min),(.int .i64 x.Max),(.int .i64 x.Low),(.int .i64 x.High),(.str x.Ref),(.bool x.Strong)] ∧ okGColumn x):TTPC 223 az:=h
theorem ttPC_3 {az:List AV} (h:∃ x:Int,az = [(.int .i64 x)] ∧ (okI .i64) x):TTPC 3 az:=h
theorem ttPC_4 {az:List AV} (h:∃ x:Bool,az = [(.bool x)] ∧ ((fun _ => True)) x):TTPC 4 az:=h
theorem ttPC_51 {az:List AV} (h:∃ x:(List Int),az = [(.lst 1 (x.map encI))] ∧ (okL (okI .i64)) x):TTPC 51 az:=h
theorem ttPC_77 {az:List AV} (h:∃ x:GRow,az = [(.int .i64 x.Id),(.lst 1 (x.Cells.map (encL 3 encGAtom)))] ∧ okGRow x):TTPC 77 az:=h
theorem ttPC_75 {az:List AV} (h:∃ x:(List (List GAtom)),az = [(.lst 1 (x.map (encL 3 encGAtom)))] ∧ (okL (okL (okGAtom))) x):TTPC 75 az:=h
theorem ttPC_225 {az:List AV} (h:∃ x:(List GAtom),az = [(.lst 3 (x.map encGAtom))] ∧ (okL (okGAtom)) x):TTPC 225 az:=h
theorem ttPC_254 {az:List AV} (h:∃ x:GAtom,az = [(.int .i64 x.Kind),(.int .i64 x.N),(.str x.T)] ∧ okGAtom x):TTPC 254 az:=h
theorem ttPC_68 {az:List AV} (h:∃ x:(List Str),az = [(.lst 1 (x.map AV.str))] ∧ (okL (okS)) x):TTPC 68 az:=h
def DDPC (t:TypeId):Prop:=t ∈ [74,9,72,223,3,4,51,77,75,225,254,68]
theorem cloPC_74:Clo Try.prog TTPC DDPC 74:=by
  refine ⟨?_⟩
  unfold CloT
  rw [Try.underlying74]
  refine ⟨(And.intro (by kernel_rfl) (And.intro (by kernel_rfl) (And.intro (by kernel_rfl) (And.intro (by kernel_rfl) (show (_:Nat) = _ from by kernel_rfl))))),by simp [DDPC],fun ass h => ?_⟩
  rcases ass with _ | ⟨a0,_ | ⟨a1,_ | ⟨a2,_ | ⟨a3,_ | _⟩⟩⟩⟩
  · exact absurd h (by simp [Fa])
  · exact absurd h (by simp [Fa])
  · exact absurd h (by simp [Fa])
  · exact absurd h (by simp [Fa])
  · obtain ⟨⟨x0,rfl,h0⟩,⟨x1,rfl,h1⟩,⟨x2,rfl,h2⟩,⟨x3,rfl,h3⟩,_⟩:=h
    exact ttPC_74 ⟨⟨x0,x1,x2,x3⟩,rfl,⟨h0,h1,h2,h3⟩⟩
  · exact absurd h (by simp [Fa])
theorem cloPC_9:Clo Try.prog TTPC DDPC 9:=by
  refine ⟨?_⟩
  unfold CloT
  rw [Try.underlying9]
  exact fun s h => ttPC_9 ⟨s,rfl,h⟩
theorem cloPC_72:Clo Try.prog TTPC DDPC 72:=by
  refine ⟨?_⟩
  unfold CloT
  rw [Try.underlying72]
  refine ⟨by simp [DDPC],true,by kernel_rfl,(of_decide_eq_true (by kernel_rfl)),.inl rfl,fun l hl h => ?_⟩
  obtain ⟨ys,rfl,hys⟩:=map_of (enc:=encGColumn) (Q:=okGColumn) l (fun x hx => by
    rcases h x hx with ⟨_,az,rfl,y,rfl,hy⟩ | ⟨h,_⟩
    · exact ⟨y,rfl,hy⟩
    · cases h)
  rw [List.length_map] at hl
  have hc:Try.prog.cellsOf 223 = 8:=by kernel_rfl
  rw [hc]
  exact ttPC_72 ⟨ys,rfl,hl,hys⟩
theorem cloPC_223:Clo Try.prog TTPC DDPC 223:=by
  refine ⟨?_⟩
  unfold CloT
  rw [Try.underlying223]
  refine ⟨(And.intro (by kernel_rfl) (And.intro (by kernel_rfl) (And.intro (by kernel_rfl) (And.intro (by kernel_rfl) (And.intro (by kernel_rfl) (And.intro (by kernel_rfl) (And.intro (by kernel_rfl) (And.intro (by kernel_rfl) (show (_:Nat) = _ from by kernel_rfl))))))))),by simp [DDPC],fun ass h => ?_⟩
  rcases ass with _ | ⟨a0,_ | ⟨a1,_ | ⟨a2,_ | ⟨a3,_ | ⟨a4,_ | ⟨a5,_ | ⟨a6,_ | ⟨a7,_ | _⟩⟩⟩⟩⟩⟩⟩⟩
  · exact absurd h (by simp [Fa])
  · exact absurd h (by simp [Fa])
  · exact absurd h (by simp [Fa])
  · exact absurd h (by simp [Fa])
  · exact absurd h (by simp [Fa])
  · exact absurd h (by simp [Fa])
  · exact absurd h (by simp [Fa])
  · exact absurd h (by simp [Fa])
  · obtain ⟨⟨x0,rfl,h0⟩,⟨x1,rfl,h1⟩,⟨x2,rfl,h2⟩,⟨x3,rfl,h3⟩,⟨x4,rfl,h4⟩,⟨x5,rfl,h5⟩,⟨x6,rfl,h6⟩,⟨x7,rfl,h7⟩,_⟩:=h
    exact ttPC_223 ⟨⟨x0,x1,x2,x3,x4,x5,x6,x7⟩,rfl,⟨h0,h1,h2,h3,h4,h5,h6,h7⟩⟩
  · exact absurd h (by simp [Fa])
theorem cloPC_3:Clo Try.prog TTPC DDPC 3:=by
  refine ⟨?_⟩
  unfold CloT
  rw [Try.underlying3]
  exact fun n h => ttPC_3 ⟨n,rfl,h⟩
theorem cloPC_4:Clo Try.prog TTPC DDPC 4:=by
  refine ⟨?_⟩
  unfold CloT
  rw [Try.underlying4]
  exact fun b => ttPC_4 ⟨b,rfl,trivial⟩
theorem cloPC_51:Clo Try.prog TTPC DDPC 51:=by
  refine ⟨?_⟩
  unfold CloT
  rw [Try.underlying51]
  refine ⟨by simp [DDPC],false,by kernel_rfl,(of_decide_eq_true (by kernel_rfl)),.inr (by kernel_rfl),fun l hl h => ?_⟩
  obtain ⟨ys,rfl,hys⟩:=map_of (enc:=encI) (Q:=okI .i64) l (fun x hx => by
    rcases h x hx with ⟨h,_⟩ | ⟨_,y,hy,hy2⟩
    · cases h
    · simp only [List.cons.injEq,and_true] at hy
      exact ⟨y,hy,hy2⟩)
  rw [List.length_map] at hl
  have hc:Try.prog.cellsOf 3 = 1:=by kernel_rfl
  rw [hc]
  exact ttPC_51 ⟨ys,rfl,hl,hys⟩
theorem cloPC_77:Clo Try.prog TTPC DDPC 77:=by
  refine ⟨?_⟩
  unfold CloT
  rw [Try.underlying77]
  refine ⟨(And.intro (by kernel_rfl) (And.intro (by kernel_rfl) (show (_:Nat) = _ from by kernel_rfl))),by simp [DDPC],fun ass h => ?_⟩
  rcases ass with _ | ⟨a0,_ | ⟨a1,_ | _⟩⟩
  · exact absurd h (by simp [Fa])
  · exact absurd h (by simp [Fa])
  · obtain ⟨⟨x0,rfl,h0⟩,⟨x1,rfl,h1⟩,_⟩:=h
    exact ttPC_77 ⟨⟨x0,x1⟩,rfl,⟨h0,h1⟩⟩
  · exact absurd h (by simp [Fa])
theorem cloPC_75:Clo Try.prog TTPC DDPC 75:=by
  refine ⟨?_⟩
  unfold CloT
  rw [Try.underlying75]
  refine ⟨by simp [DDPC],false,by kernel_rfl,(of_decide_eq_true (by kernel_rfl)),.inr (by kernel_rfl),fun l hl h => ?_⟩
  obtain ⟨ys,rfl,hys⟩:=map_of (enc:=(encL 3 encGAtom)) (Q:=okL (okGAtom)) l (fun x hx => by
    rcases h x hx with ⟨h,_⟩ | ⟨_,y,hy,hy2⟩
    · cases h
    · simp only [List.cons.injEq,and_true] at hy
      exact ⟨y,hy,hy2⟩)
  rw [List.length_map] at hl
  have hc:Try.prog.cellsOf 225 = 1:=by kernel_rfl
  rw [hc]
  exact ttPC_75 ⟨ys,rfl,hl,hys⟩
theorem cloPC_225:Clo Try.prog TTPC DDPC 225:=by
  refine ⟨?_⟩
  unfold CloT
  rw [Try.underlying225]
  refine ⟨by simp [DDPC],true,by kernel_rfl,(of_decide_eq_true (by kernel_rfl)),.inl rfl,fun l hl h => ?_⟩
  obtain ⟨ys,rfl,hys⟩:=map_of (enc:=encGAtom) (Q:=okGAtom) l (fun x hx => by
    rcases h x hx with ⟨_,az,rfl,y,rfl,hy⟩ | ⟨h,_⟩
    · exact ⟨y,rfl,hy⟩
    · cases h)
  rw [List.length_map] at hl
  have hc:Try.prog.cellsOf 254 = 3:=by kernel_rfl
  rw [hc]
  exact ttPC_225 ⟨ys,rfl,hl,hys⟩
theorem cloPC_254:Clo Try.prog TTPC DDPC 254:=by
  refine ⟨?_⟩
  unfold CloT
  rw [Try.underlying254]
  refine ⟨(And.intro (by kernel_rfl) (And.intro (by kernel_rfl) (And.intro (by kernel_rfl) (show (_:Nat) = _ from by kernel_rfl)))),by simp [DDPC],fun ass h => ?_⟩
  rcases ass with _ | ⟨a0,_ | ⟨a1,_ | ⟨a2,_ | _⟩⟩⟩
  · exact absurd h (by simp [Fa])
  · exact absurd h (by simp [Fa])
  · exact absurd h (by simp [Fa])
  · obtain ⟨⟨x0,rfl,h0⟩,⟨x1,rfl,h1⟩,⟨x2,rfl,h2⟩,_⟩:=h
    exact ttPC_254 ⟨⟨x0,x1,x2⟩,rfl,⟨h0,h1,h2⟩⟩
  · exact absurd h (by simp [Fa])
theorem cloPC_68:Clo Try.prog TTPC DDPC 68:=by
  refine ⟨?_⟩
  unfold CloT
  rw [Try.underlying68]
  refine ⟨by simp [DDPC],false,by kernel_rfl,(of_decide_eq_true (by kernel_rfl)),.inr (by kernel_rfl),fun l hl h => ?_⟩
  obtain ⟨ys,rfl,hys⟩:=map_of (enc:=AV.str) (Q:=okS) l (fun x hx => by
    rcases h x hx with ⟨h,_⟩ | ⟨_,y,hy,hy2⟩
    · cases h
    · simp only [List.cons.injEq,and_true] at hy
      exact ⟨y,hy,hy2⟩)
  rw [List.length_map] at hl
  have hc:Try.prog.cellsOf 9 = 1:=by kernel_rfl
  rw [hc]
  exact ttPC_68 ⟨ys,rfl,hl,hys⟩
theorem cloPC:∀ t,DDPC t → Clo Try.prog TTPC DDPC t:=by
  intro t ht
  rcases List.mem_cons.1 ht with h | ht
  · rw [h]; exact cloPC_74
  rcases List.mem_cons.1 ht with h | ht
  · rw [h]; exact cloPC_9
  rcases List.mem_cons.1 ht with h | ht
  · rw [h]; exact cloPC_72
  rcases List.mem_cons.1 ht with h | ht
  · rw [h]; exact cloPC_223
  rcases List.mem_cons.1 ht with h | ht
  · rw [h]; exact cloPC_3
  rcases List.mem_cons.1 ht with h | ht
  · rw [h]; exact cloPC_4
  rcases List.mem_cons.1 ht with h | ht
  · rw [h]; exact cloPC_51
  rcases List.mem_cons.1 ht with h | ht
  · rw [h]; exact cloPC_77
  rcases List.mem_cons.1 ht with h | ht
  · rw [h]; exact cloPC_75
  rcases List.mem_cons.1 ht with h | ht
  · rw [h]; exact cloPC_225
  rcases List.mem_cons.1 ht with h | ht
  · rw [h]; exact cloPC_254
  rcases List.mem_cons.1 ht with h | ht
  · rw [h]; exact cloPC_68
  exact absurd ht List.not_mem_nil
end Go.R
namespace Go.Proofs.Ytmeckljlaaflkaa.fnExactPickColumns
open Go.ChangeShapes Go.WideShapes Go.ChangeAt Go.RowKit Go.R
open Go.ChangeMaps (open_string shut_string)
set_option linter.unusedVariables false

theorem own:ownKnob Try.prog.godebug = none:=by kernel_rfl
theorem laidOut:laidOutB Try.prog = true:=by kernel_rfl

set_option maxRecDepth 100000 in
theorem lifted (os:Os) (started:os.Started) (H:Type) (enc:TypeId × Value → H) :
    ReturnsInHanded {} Try.checked os 8 .any (Rows.fnExactPickColumnsSpec.pre6 enc Try.prog Try.f8 Rows.fnExactPickColumnsRow.domain false) (Rows.fnExactPickColumnsSpec.post enc Try.prog Try.f8 false true false false):=by
  refine returnsInHanded_of_change (C:=Try.checked) own started (by kernel_rfl) Try.func8
    (ChangeSpec.witness6 (enc:=enc) (C:=Try.checked) false ⟨#[],#[.agg #[.string ByteArray.empty,.slice none 0 0,.slice none 0 0,.bool false],.agg #[.int .i64 0,.slice none 0 0],.slice none 0 0],[]⟩ 8 (by kernel_rfl) (by kernel_rfl) (by kernel_rfl) (by kernel_rfl)) ?_
  intro W base args ds gs before hval0 hW hcnd _
  have hval:∀ (j:Nat) t v,Try.f8.params[j]? = some t → args[j]? = some v → Value.okWide Try.prog W .any base t v:=hval0
  have hW':=hW
  obtain ⟨p,q,hA0,hV,rfl,hfz,hnd⟩:=hW
  have hA:DataW.TrodAll enc Try.prog W 0 (fun _ => true) true Try.f8.params.toList args.toList ds p:=hA0
  rw [Try.params8] at hA hval
  obtain ⟨v0,vs0,d0,ds0,p0,q0,hargs,rfl,rfl,h0,r0⟩:=trodAll_cons hA
  obtain ⟨v1,vs1,d1,ds1,p1,q1,rfl,rfl,rfl,h1,r1⟩:=trodAll_cons r0
  obtain ⟨v2,vs2,d2,ds2,p2,q2,rfl,rfl,rfl,h2,r2⟩:=trodAll_cons r1
  obtain ⟨rfl,rfl,rfl⟩:=trodAll_nil r2
  obtain rfl:args = #[v0,v1,v2]:=by cases args; simp_all
  obtain ⟨rfl,rfl⟩:=trodVars_none hV
  have k0:=h0
  have lt0:∀ x ∈ p0,x.block < W.heap.size:=by obtain ⟨m,hm⟩:=k0; exact DataW.trod_lt m _ _ _ hm
  obtain ⟨az0,fp0,g0,t0⟩:=openA cloPC Try.underlying74 (by simp [DDPC]) (hval 0 74 v0 rfl rfl) h0
  obtain ⟨x0,rfl,ok0⟩:=t0
  have k1:=h1
  have lt1:∀ x ∈ p1,x.block < W.heap.size:=by obtain ⟨m,hm⟩:=k1; exact DataW.trod_lt m _ _ _ hm
  obtain ⟨az1,fp1,g1,t1⟩:=openA cloPC Try.underlying77 (by simp [DDPC]) (hval 1 77 v1 rfl rfl) h1
  obtain ⟨x1,rfl,ok1⟩:=t1
  have k2:=h2
  have lt2:∀ x ∈ p2,x.block < W.heap.size:=by obtain ⟨m,hm⟩:=k2; exact DataW.trod_lt m _ _ _ hm
  obtain ⟨a2,fp2,g2,t2⟩:=openC cloPC (by rw [Try.underlying68]; simp) (by simp [DDPC]) (hval 2 68 v2 rfl rfl) h2
  obtain ⟨x2,e2,ok2⟩:=t2
  simp only [List.cons.injEq,and_true] at e2
  subst e2
  clear hA0 hval0
  have hc:=w_laws_FnExactPickColumns x0 x1 x2 true (law_FnExactPickColumns x0 x1 x2 ok0 ok1 ok2)
  refine (flat_true hc (RepVs.cons g0 (RepVs.cons g1 (RepVs.cons g2 RepVs.nil)))).mono fun e W' ⟨he,bel⟩ => ?_
  subst he
  exact ⟨_,rfl,_,_,_,[],_,[],hW',trodAll_mk1 (shut_bool Try.underlying4 _),(trodAll_cons_mk (Below.trod laidOut (by kernel_rfl) (of_decide_eq_true (by kernel_rfl)) k0 bel lt0) (trodAll_cons_mk (Below.trod laidOut (by kernel_rfl) (of_decide_eq_true (by kernel_rfl)) k1 bel lt1) (trodAll_cons_mk (Below.trod laidOut (by kernel_rfl) (of_decide_eq_true (by kernel_rfl)) k2 bel lt2) trodAll_mk0))),rfl,bel.frame _,fun h => by cases h⟩

theorem over:Rows.fnExactPickColumnsRow.holds Try.pinned (OpenSpec.ofChange Rows.fnExactPickColumnsSpec) :=
  OpenClaim.holds_of_wide 8 Try.f8 rfl rfl rfl rfl rfl rfl rfl ⟨rfl,rfl,rfl,rfl,rfl⟩ rfl rfl rfl rfl rfl (by kernel_rfl) Try.func8 (by kernel_rfl)
    (of_decide_eq_true (by kernel_rfl)) (by unfold Func.isWrapper; first | (rw [if_pos (by decide +kernel)]; kernel_rfl) | (rw [if_neg (by decide +kernel)]; exact ⟨rfl,rfl⟩))
    (fun os started H enc _ => lifted os started H enc)

theorem proved:Rows.FnExactPickColumnsSaid:=over
#print axioms proved
end Go.Proofs.Ytmeckljlaaflkaa.fnExactPickColumns
