/- 'FnExactInsertIds': for every input the law returns true, and each argument reads behind the call as it read before. No condition. -/
import Derived.Test.YtmeckljlaaflkaaGreatIIL
import Derived.WalkKit
import Derived.ProofKit
import Derived.OpenShut
import Derived.ShutString
import Derived.ChangeOld
import Derived.Below
set_option linter.all false
namespace Go.R
open Go Go.Proofs
set_option linter.unusedSimpArgs false
set_option maxHeartbeats 8000000
def TTII (t:TypeId) (az:List AV):Prop :=
  bif Nat.beq t 43 then ∃ x:(List GOp),az = [(.lst 8 (x.map encGOp))] ∧ (okL (okGOp)) x else
  bif Nat.beq t 121 then ∃ x:GOp,az = [(.int .i64 x.Kind),(.str x.Table),(.str x.Name),(.lst 3 (x.Where.map encGCond)),(.lst 3 (x.Row.map encGSet)),(.lst 3 (x.Muts.map encGMut)),(.lst 1 (x.Columns.map AV.str)),(.bool x.Until)] ∧ okGOp x else
  bif Nat.beq t 3 then ∃ x:Int,az = [(.int .i64 x)] ∧ (okI .i64) x else
  bif Nat.beq t 9 then ∃ x:Str,az = [(.str x)] ∧ (okS) x else
  bif Nat.beq t 118 then ∃ x:(List GCond),az = [(.lst 3 (x.map encGCond))] ∧ (okL (okGCond)) x else
  bif Nat.beq t 245 then ∃ x:GCond,az = [(.str x.Column),(.int .i64 x.Func),(.lst 3 (x.Value.map encGAtom))] ∧ okGCond x else
  bif Nat.beq t 135 then ∃ x:(List GAtom),az = [(.lst 3 (x.map encGAtom))] ∧ (okL (okGAtom)) x else
  bif Nat.beq t 254 then ∃ x:GAtom,az = [(.int .i64 x.Kind),(.int .i64 x.N),(.str x.T)] ∧ okGAtom x else
  bif Nat.beq t 60 then ∃ x:(List GSet),az = [(.lst 3 (x.map encGSet))] ∧ (okL (okGSet)) x else
  bif Nat.beq t 137 then ∃ x:GSet,az = [(.str x.Column),(.lst 3 (x.Value.map encGAtom)),(.lst 1 (x.Names.map AV.str))] ∧ okGSet x else
  bif Nat.beq t 34 then ∃ x:(List Str),az = [(.lst 1 (x.map AV.str))] ∧ (okL (okS)) x else
  bif Nat.beq t 119 then ∃ x:(List GMut),az = [(.lst 3 (x.map encGMut))] ∧ (okL (okGMut)) x else
  bif Nat.beq t 247 then ∃ x:GMut,az = [(.str x.Column),(.int .i64 x.Func),(.lst 3 (x.Value.map encGAtom))] ∧ okGMut x else
  bif Nat.beq t 4 then ∃ x:Bool,az = [(.bool x)] ∧ ((fun _ => True)) x else
  False
theorem ttII_43 {az:List AV} (h:∃ x:(List GOp),az = [(.lst 8 (x.map encGOp))] ∧ (okL (okGOp)) x):TTII 43 az:=h
theorem ttII_121 {az:List AV} (h:∃ x:GOp,az = [(.int .i64 x.Kind),(.str x.Table),(.str x.Name),(.lst 3 (x.Where.map encGCond)),(.lst 3 (x.Row.map encGSet)),(.lst 3 (x.Muts.map encGMut)),(.lst 1 (x.Columns.map AV.str)),(.bool x.Until)] ∧ okGOp x):TTII 121 az:=h
theorem ttII_3 {az:List AV} (h:∃ x:Int,az = [(.int .i64 x)] ∧ (okI .i64) x):TTII 3 az:=h
theorem ttII_9 {az:List AV} (h:∃ x:Str,az = [(.str x)] ∧ (okS) x):TTII 9 az:=h
theorem ttII_118 {az:List AV} (h:∃ x:(List GCond),az = [(.lst 3 (x.map encGCond))] ∧ (okL (okGCond)) x):TTII 118 az:=h
theorem ttII_245 {az:List AV} (h:∃ x:GCond,az = [(.str x.Column),(.int .i64 x.Func),(.lst 3 (x.Value.map encGAtom))] ∧ okGCond x):TTII 245 az:=h
theorem ttII_135 {az:List AV} (h:∃ x:(List GAtom),az = [(.lst 3 (x.map encGAtom))] ∧ (okL (okGAtom)) x):TTII 135 az:=h
theorem ttII_254 {az:List AV} (h:∃ x:GAtom,az = [(.int .i64 x.Kind),(.int .i64 x.N),(.str x.T)] ∧ okGAtom x):TTII 254 az:=h
theorem ttII_60 {az:List AV} (h:∃ x:(List GSet),az = [(.lst 3 (x.map encGSet))] ∧ (okL (okGSet)) x):TTII 60 az:=h
theorem ttII_137 {az:List AV} (h:∃ x:GSet,az = [(.str x.Column),(.lst 3 (x.Value.map encGAtom)),(.lst 1 (x.Names.map AV.str))] ∧ okGSet x):TTII 137 az:=h
theorem ttII_34 {az:List AV} (h:∃ x:(List Str),az = [(.lst 1 (x.map AV.str))] ∧ (okL (okS)) x):TTII 34 az:=h
theorem ttII_119 {az:List AV} (h:∃ x:(List GMut),az = [(.lst 3 (x.map encGMut))] ∧ (okL (okGMut)) x):TTII 119 az:=h
theorem ttII_247 {az:List AV} (h:∃ x:GMut,az = [(.str x.Column),(.int .i64 x.Func),(.lst 3 (x.Value.map encGAtom))] ∧ okGMut x):TTII 247 az:=h
theorem ttII_4 {az:List AV} (h:∃ x:Bool,az = [(.bool x)] ∧ ((fun _ => True)) x):TTII 4 az:=h
def DDII (t:TypeId):Prop:=t ∈ [43,121,3,9,118,245,135,254,60,137,34,119,247,4]
theorem cloII_43:Clo Tryz.prog TTII DDII 43:=by
  refine ⟨?_⟩
  unfold CloT
  rw [Tryz.underlying43]
  refine ⟨by simp [DDII],true,by kernel_rfl,(of_decide_eq_true (by kernel_rfl)),.inl rfl,fun l hl h => ?_⟩
  obtain ⟨ys,rfl,hys⟩:=map_of (enc:=encGOp) (Q:=okGOp) l (fun x hx => by
    rcases h x hx with ⟨_,az,rfl,y,rfl,hy⟩ | ⟨h,_⟩
    · exact ⟨y,rfl,hy⟩
    · cases h)
  rw [List.length_map] at hl
  have hc:Tryz.prog.cellsOf 121 = 8:=by kernel_rfl
  rw [hc]
  exact ttII_43 ⟨ys,rfl,hl,hys⟩
theorem cloII_121:Clo Tryz.prog TTII DDII 121:=by
  refine ⟨?_⟩
  unfold CloT
  rw [Tryz.underlying121]
  refine ⟨(And.intro (by kernel_rfl) (And.intro (by kernel_rfl) (And.intro (by kernel_rfl) (And.intro (by kernel_rfl) (And.intro (by kernel_rfl) (And.intro (by kernel_rfl) (And.intro (by kernel_rfl) (And.intro (by kernel_rfl) (show (_:Nat) = _ from by kernel_rfl))))))))),by simp [DDII],fun ass h => ?_⟩
  rcases ass with _ | ⟨a0,_ | ⟨a1,_ | ⟨a2,_ | ⟨a3,_ | ⟨a4,_ | ⟨a5,_ | ⟨a6,_ | ⟨a7,_ | _⟩⟩⟩⟩⟩⟩⟩⟩
  · exact absurd h (by simp [Fa])
  · exact absurd h (by simp [Fa])
  · exact absurd h (by simp [Fa])
  · exact absurd h (by simp [Fa])
  · exact absurd h (by simp [Fa])
  · exact absurd h (by simp [Fa])
  · exact absurd h (by simp [Fa])
  · exact absurd h (by simp [Fa])
  · obtain ⟨⟨x0,rfl,h0⟩,⟨x1,rfl,h1⟩,⟨x2,rfl,h2⟩,⟨x3,rfl,h3⟩,⟨x4,rfl,h4⟩,⟨x5,rfl,h5⟩,⟨x6,rfl,h6⟩,⟨x7,rfl,h7⟩,_⟩:=h
    exact ttII_121 ⟨⟨x0,x1,x2,x3,x4,x5,x6,x7⟩,rfl,⟨h0,h1,h2,h3,h4,h5,h6,h7⟩⟩
  · exact absurd h (by simp [Fa])
theorem cloII_3:Clo Tryz.prog TTII DDII 3:=by
  refine ⟨?_⟩
  unfold CloT
  rw [Tryz.underlying3]
  exact fun n h => ttII_3 ⟨n,rfl,h⟩
theorem cloII_9:Clo Tryz.prog TTII DDII 9:=by
  refine ⟨?_⟩
  unfold CloT
  rw [Tryz.underlying9]
  exact fun s h => ttII_9 ⟨s,rfl,h⟩
theorem cloII_118:Clo Tryz.prog TTII DDII 118:=by
  refine ⟨?_⟩
  unfold CloT
  rw [Tryz.underlying118]
  refine ⟨by simp [DDII],true,by kernel_rfl,(of_decide_eq_true (by kernel_rfl)),.inl rfl,fun l hl h => ?_⟩
  obtain ⟨ys,rfl,hys⟩:=map_of (enc:=encGCond) (Q:=okGCond) l (fun x hx => by
    rcases h x hx with ⟨_,az,rfl,y,rfl,hy⟩ | ⟨h,_⟩
    · exact ⟨y,rfl,hy⟩
    · cases h)
  rw [List.length_map] at hl
  have hc:Tryz.prog.cellsOf 245 = 3:=by kernel_rfl
  rw [hc]
  exact ttII_118 ⟨ys,rfl,hl,hys⟩
theorem cloII_245:Clo Tryz.prog TTII DDII 245:=by
  refine ⟨?_⟩
  unfold CloT
  rw [Tryz.underlying245]
  refine ⟨(And.intro (by kernel_rfl) (And.intro (by kernel_rfl) (And.intro (by kernel_rfl) (show (_:Nat) = _ from by kernel_rfl)))),by simp [DDII],fun ass h => ?_⟩
  rcases ass with _ | ⟨a0,_ | ⟨a1,_ | ⟨a2,_ | _⟩⟩⟩
  · exact absurd h (by simp [Fa])
  · exact absurd h (by simp [Fa])
  · exact absurd h (by simp [Fa])
  · obtain ⟨⟨x0,rfl,h0⟩,⟨x1,rfl,h1⟩,⟨x2,rfl,h2⟩,_⟩:=h
    exact ttII_245 ⟨⟨x0,x1,x2⟩,rfl,⟨h0,h1,h2⟩⟩
  · exact absurd h (by simp [Fa])
theorem cloII_135:Clo Tryz.prog TTII DDII 135:=by
  refine ⟨?_⟩
  unfold CloT
  rw [Tryz.underlying135]
  refine ⟨by simp [DDII],true,by kernel_rfl,(of_decide_eq_true (by kernel_rfl)),.inl rfl,fun l hl h => ?_⟩
  obtain ⟨ys,rfl,hys⟩:=map_of (enc:=encGAtom) (Q:=okGAtom) l (fun x hx => by
    rcases h x hx with ⟨_,az,rfl,y,rfl,hy⟩ | ⟨h,_⟩
    · exact ⟨y,rfl,hy⟩
    · cases h)
  rw [List.length_map] at hl
  have hc:Tryz.prog.cellsOf 254 = 3:=by kernel_rfl
  rw [hc]
  exact ttII_135 ⟨ys,rfl,hl,hys⟩
theorem cloII_254:Clo Tryz.prog TTII DDII 254:=by
  refine ⟨?_⟩
  unfold CloT
  rw [Tryz.underlying254]
  refine ⟨(And.intro (by kernel_rfl) (And.intro (by kernel_rfl) (And.intro (by kernel_rfl) (show (_:Nat) = _ from by kernel_rfl)))),by simp [DDII],fun ass h => ?_⟩
  rcases ass with _ | ⟨a0,_ | ⟨a1,_ | ⟨a2,_ | _⟩⟩⟩
  · exact absurd h (by simp [Fa])
  · exact absurd h (by simp [Fa])
  · exact absurd h (by simp [Fa])
  · obtain ⟨⟨x0,rfl,h0⟩,⟨x1,rfl,h1⟩,⟨x2,rfl,h2⟩,_⟩:=h
    exact ttII_254 ⟨⟨x0,x1,x2⟩,rfl,⟨h0,h1,h2⟩⟩
  · exact absurd h (by simp [Fa])
theorem cloII_60:Clo Tryz.prog TTII DDII 60:=by
  refine ⟨?_⟩
  unfold CloT
  rw [Tryz.underlying60]
  refine ⟨by simp [DDII],true,by kernel_rfl,(of_decide_eq_true (by kernel_rfl)),.inl rfl,fun l hl h => ?_⟩
  obtain ⟨ys,rfl,hys⟩:=map_of (enc:=encGSet) (Q:=okGSet) l (fun x hx => by
    rcases h x hx with ⟨_,az,rfl,y,rfl,hy⟩ | ⟨h,_⟩
    · exact ⟨y,rfl,hy⟩
    · cases h)
  rw [List.length_map] at hl
  have hc:Tryz.prog.cellsOf 137 = 3:=by kernel_rfl
  rw [hc]
  exact ttII_60 ⟨ys,rfl,hl,hys⟩
theorem cloII_137:Clo Tryz.prog TTII DDII 137:=by
  refine ⟨?_⟩
  unfold CloT
  rw [Tryz.underlying137]
  refine ⟨(And.intro (by kernel_rfl) (And.intro (by kernel_rfl) (And.intro (by kernel_rfl) (show (_:Nat) = _ from by kernel_rfl)))),by simp [DDII],fun ass h => ?_⟩
  rcases ass with _ | ⟨a0,_ | ⟨a1,_ | ⟨a2,_ | _⟩⟩⟩
  · exact absurd h (by simp [Fa])
  · exact absurd h (by simp [Fa])
  · exact absurd h (by simp [Fa])
  · obtain ⟨⟨x0,rfl,h0⟩,⟨x1,rfl,h1⟩,⟨x2,rfl,h2⟩,_⟩:=h
    exact ttII_137 ⟨⟨x0,x1,x2⟩,rfl,⟨h0,h1,h2⟩⟩
  · exact absurd h (by simp [Fa])
theorem cloII_34:Clo Tryz.prog TTII DDII 34:=by
  refine ⟨?_⟩
  unfold CloT
  rw [Tryz.underlying34]
  refine ⟨by simp [DDII],false,by kernel_rfl,(of_decide_eq_true (by kernel_rfl)),.inr (by kernel_rfl),fun l hl h => ?_⟩
  obtain ⟨ys,rfl,hys⟩:=map_of (enc:=AV.str) (Q:=okS) l (fun x hx => by
    rcases h x hx with ⟨h,_⟩ | ⟨_,y,hy,hy2⟩
    · cases h
    · simp only [List.cons.injEq,and_true] at hy
      exact ⟨y,hy,hy2⟩)
  rw [List.length_map] at hl
  have hc:Tryz.prog.cellsOf 9 = 1:=by kernel_rfl
  rw [hc]
  exact ttII_34 ⟨ys,rfl,hl,hys⟩
theorem cloII_119:Clo Tryz.prog TTII DDII 119:=by
  refine ⟨?_⟩
  unfold CloT
  rw [Tryz.underlying119]
  refine ⟨by simp [DDII],true,by kernel_rfl,(of_decide_eq_true (by kernel_rfl)),.inl rfl,fun l hl h => ?_⟩
  obtain ⟨ys,rfl,hys⟩:=map_of (enc:=encGMut) (Q:=okGMut) l (fun x hx => by
    rcases h x hx with ⟨_,az,rfl,y,rfl,hy⟩ | ⟨h,_⟩
    · exact ⟨y,rfl,hy⟩
    · cases h)
  rw [List.length_map] at hl
  have hc:Tryz.prog.cellsOf 247 = 3:=by kernel_rfl
  rw [hc]
  exact ttII_119 ⟨ys,rfl,hl,hys⟩
theorem cloII_247:Clo Tryz.prog TTII DDII 247:=by
  refine ⟨?_⟩
  unfold CloT
  rw [Tryz.underlying247]
  refine ⟨(And.intro (by kernel_rfl) (And.intro (by kernel_rfl) (And.intro (by kernel_rfl) (show (_:Nat) = _ from by kernel_rfl)))),by simp [DDII],fun ass h => ?_⟩
  rcases ass with _ | ⟨a0,_ | ⟨a1,_ | ⟨a2,_ | _⟩⟩⟩
  · exact absurd h (by simp [Fa])
  · exact absurd h (by simp [Fa])
  · exact absurd h (by simp [Fa])
  · obtain ⟨⟨x0,rfl,h0⟩,⟨x1,rfl,h1⟩,⟨x2,rfl,h2⟩,_⟩:=h
    exact ttII_247 ⟨⟨x0,x1,x2⟩,rfl,⟨h0,h1,h2⟩⟩
  · exact absurd h (by simp [Fa])
theorem cloII_4:Clo Tryz.prog TTII DDII 4:=by
  refine ⟨?_⟩
  unfold CloT
  rw [Tryz.underlying4]
  exact fun b => ttII_4 ⟨b,rfl,trivial⟩
theorem cloII:∀ t,DDII t → Clo Tryz.prog TTII DDII t:=by
  intro t ht
  rcases List.mem_cons.1 ht with h | ht
  · rw [h]; exact cloII_43
  rcases List.mem_cons.1 ht with h | ht
  · rw [h]; exact cloII_121
  rcases List.mem_cons.1 ht with h | ht
  · rw [h]; exact cloII_3
  rcases List.mem_cons.1 ht with h | ht
  · rw [h]; exact cloII_9
  rcases List.mem_cons.1 ht with h | ht
  · rw [h]; exact cloII_118
  rcases List.mem_cons.1 ht with h | ht
  · rw [h]; exact cloII_245
  rcases List.mem_cons.1 ht with h | ht
  · rw [h]; exact cloII_135
  rcases List.mem_cons.1 ht with h | ht
  · rw [h]; exact cloII_254
  rcases List.mem_cons.1 ht with h | ht
  · rw [h]; exact cloII_60
  rcases List.mem_cons.1 ht with h | ht
  · rw [h]; exact cloII_137
  rcases List.mem_cons.1 ht with h | ht
  · rw [h]; exact cloII_34
  rcases List.mem_cons.1 ht with h | ht
  · rw [h]; exact cloII_119
  rcases List.mem_cons.1 ht with h | ht
  · rw [h]; exact cloII_247
  rcases List.mem_cons.1 ht with h | ht
  · rw [h]; exact cloII_4
  exact absurd ht List.not_mem_nil
end Go.R
namespace Go.Proofs.YtmeckljlaaflkaaGreat.fnExactInsertIds
open Go.ChangeShapes Go.WideShapes Go.ChangeAt Go.RowKit Go.R
open Go.ChangeMaps (open_string shut_string)
set_option linter.unusedVariables false

theorem own:ownKnob Tryz.prog.godebug = none:=by kernel_rfl
theorem laidOut:laidOutB Tryz.prog = true:=by kernel_rfl

set_option maxRecDepth 100000 in
theorem lifted (os:Os) (started:os.Started) (H:Type) (enc:TypeId × Value → H) :
    ReturnsInHanded {} Tryz.checked os 4 .any (Rows.fnExactInsertIdsSpec.pre6 enc Tryz.prog Tryz.f4 Rows.fnExactInsertIdsRow.domain false) (Rows.fnExactInsertIdsSpec.post enc Tryz.prog Tryz.f4 false true false false):=by
  refine returnsInHanded_of_change (C:=Tryz.checked) own started (by kernel_rfl) Tryz.func4
    (ChangeSpec.witness6 (enc:=enc) (C:=Tryz.checked) false ⟨#[],#[.slice none 0 0,.int .i64 0],[]⟩ 8 (by kernel_rfl) (by kernel_rfl) (by kernel_rfl) (by kernel_rfl)) ?_
  intro W base args ds gs before hval0 hW hcnd _
  have hval:∀ (j:Nat) t v,Tryz.f4.params[j]? = some t → args[j]? = some v → Value.okWide Tryz.prog W .any base t v:=hval0
  have hW':=hW
  obtain ⟨p,q,hA0,hV,rfl,hfz,hnd⟩:=hW
  have hA:DataW.TrodAll enc Tryz.prog W 0 (fun _ => true) true Tryz.f4.params.toList args.toList ds p:=hA0
  rw [Tryz.params4] at hA hval
  obtain ⟨v0,vs0,d0,ds0,p0,q0,hargs,rfl,rfl,h0,r0⟩:=trodAll_cons hA
  obtain ⟨v1,vs1,d1,ds1,p1,q1,rfl,rfl,rfl,h1,r1⟩:=trodAll_cons r0
  obtain ⟨rfl,rfl,rfl⟩:=trodAll_nil r1
  obtain rfl:args = #[v0,v1]:=by cases args; simp_all
  obtain ⟨rfl,rfl⟩:=trodVars_none hV
  have k0:=h0
  have lt0:∀ x ∈ p0,x.block < W.heap.size:=by obtain ⟨m,hm⟩:=k0; exact DataW.trod_lt m _ _ _ hm
  obtain ⟨a0,fp0,g0,t0⟩:=openC cloII (by rw [Tryz.underlying43]; simp) (by simp [DDII]) (hval 0 43 v0 rfl rfl) h0
  obtain ⟨x0,e0,ok0⟩:=t0
  simp only [List.cons.injEq,and_true] at e0
  subst e0
  have k1:=h1
  have lt1:∀ x ∈ p1,x.block < W.heap.size:=by obtain ⟨m,hm⟩:=k1; exact DataW.trod_lt m _ _ _ hm
  obtain ⟨a1,fp1,g1,t1⟩:=openC cloII (by rw [Tryz.underlying3]; simp) (by simp [DDII]) (hval 1 3 v1 rfl rfl) h1
  obtain ⟨x1,e1,ok1⟩:=t1
  simp only [List.cons.injEq,and_true] at e1
  subst e1
  clear hA0 hval0
  have hc:=w_laws_FnExactInsertIds x0 x1 true (law_FnExactInsertIds x0 x1 ok0 ok1)
  refine (flat_true hc (RepVs.cons g0 (RepVs.cons g1 RepVs.nil))).mono fun e W' ⟨he,bel⟩ => ?_
  subst he
  exact ⟨_,rfl,_,_,_,[],_,[],hW',trodAll_mk1 (shut_bool Tryz.underlying4 _),(trodAll_cons_mk (Below.trod laidOut (by kernel_rfl) (of_decide_eq_true (by kernel_rfl)) k0 bel lt0) (trodAll_cons_mk (Below.trod laidOut (by kernel_rfl) (of_decide_eq_true (by kernel_rfl)) k1 bel lt1) trodAll_mk0)),rfl,bel.frame _,fun h => by cases h⟩

theorem over:Rows.fnExactInsertIdsRow.holds Tryz.pinned (OpenSpec.ofChange Rows.fnExactInsertIdsSpec) :=
  OpenClaim.holds_of_wide 4 Tryz.f4 rfl rfl rfl rfl rfl rfl rfl ⟨rfl,rfl,rfl,rfl,rfl⟩ rfl rfl rfl rfl rfl (by kernel_rfl) Tryz.func4 (by kernel_rfl)
    (of_decide_eq_true (by kernel_rfl)) (by unfold Func.isWrapper; first | (rw [if_pos (by decide +kernel)]; kernel_rfl) | (rw [if_neg (by decide +kernel)]; exact ⟨rfl,rfl⟩))
    (fun os started H enc _ => lifted os started H enc)

theorem proved:Rows.FnExactInsertIdsSaid:=over
#print axioms proved
end Go.Proofs.YtmeckljlaaflkaaGreat.fnExactInsertIds
