/- 'FnExactSetRow': for every input the law returns true, and each argument reads behind the call as it read before. No condition. -/
import Derived.Test.YtmeckljlaaflkaaGreatSWL
import Derived.WalkKit
import Derived.ProofKit
import Derived.OpenShut
import Derived.ShutString
import Derived.ChangeOld
import Derived.Below
set_option linter.all false
namespace Go.R
open Go Go.Proofs
set_option linter.unusedSimpArgs false
set_option maxHeartbeats 8000000
def TTSW (t:TypeId) (az:List AV):Prop :=
  bif Nat.beq t 56 then ∃ x:GTable,az = [(.str x.Name),(.lst 8 (x.Columns.map encGColumn)),(.lst 1 (x.Unique.map encI)),(.bool x.Root)] ∧ okGTable x else
  bif Nat.beq t 9 then ∃ x:Str,az = [(.str x)] ∧ (okS) x else
  bif Nat.beq t 54 then ∃ x:(List GColumn),az = [(.lst 8 (x.map encGColumn))] ∧ (okL (okGColumn)) x else
  bif Nat.beq t 202 then ∃ x:GColumn,az = [(.str x.Name),(.int .i64 x.Kind),(.int .i64 x.Min),(.int .i64 x.Max),(.int .i64 x.Low),(.int .i64 x.High),(.str x.Ref),(.bool x.Strong)] ∧ okGColumn x else
  bif Nat.beq t 3 then ∃ x:Int,az = [(.int .i64 x)] ∧ (okI .i64) x else
  bif Nat.beq t 4 then ∃ x:Bool,az = [(.bool x)] ∧ ((fun _ => True)) x else
  bif Nat.beq t 45 then ∃ x:(List Int),az = [(.lst 1 (x.map encI))] ∧ (okL (okI .i64)) x else
  bif Nat.beq t 59 then ∃ x:GRow,az = [(.int .i64 x.Id),(.lst 1 (x.Cells.map (encL 3 encGAtom)))] ∧ okGRow x else
  bif Nat.beq t 57 then ∃ x:(List (List GAtom)),az = [(.lst 1 (x.map (encL 3 encGAtom)))] ∧ (okL (okL (okGAtom))) x else
  bif Nat.beq t 135 then ∃ x:(List GAtom),az = [(.lst 3 (x.map encGAtom))] ∧ (okL (okGAtom)) x else
  bif Nat.beq t 254 then ∃ x:GAtom,az = [(.int .i64 x.Kind),(.int .i64 x.N),(.str x.T)] ∧ okGAtom x else
  bif Nat.beq t 60 then ∃ x:(List GSet),az = [(.lst 3 (x.map encGSet))] ∧ (okL (okGSet)) x else
  bif Nat.beq t 137 then ∃ x:GSet,az = [(.str x.Column),(.lst 3 (x.Value.map encGAtom)),(.lst 1 (x.Names.map AV.str))] ∧ okGSet x else
  bif Nat.beq t 34 then ∃ x:(List Str),az = [(.lst 1 (x.map AV.str))] ∧ (okL (okS)) x else
  False
theorem ttSW_56 {az:List AV} (h:∃ x:GTable,az = [(.str x.Name),(.lst 8 (x.Columns.map encGColumn)),(.lst 1 (x.Unique.map encI)),(.bool x.Root)] ∧ okGTable x):TTSW 56 az:=h
theorem ttSW_9 {az:List AV} (h:∃ x:Str,az = [(.str x)] ∧ (okS) x):TTSW 9 az:=h
theorem ttSW_54 {az:List AV} (h:∃ x:(List GColumn),az = [(.lst 8 (x.map encGColumn))] ∧ (okL (okGColumn)) x):TTSW 54 az:=h
theorem ttSW_202 {az:List AV} (h:∃ x:GColumn,az = [(.str x.Name),(.int .i64 x.Kind),(.int .i64 x.Min),(.int .i64 x.Max),(.int .i64 x.Low),(.int .i64 x.High),(.str x.Ref),(.bool x.Strong)] ∧ okGColumn x):TTSW 202 az:=h
theorem ttSW_3 {az:List AV} (h:∃ x:Int,az = [(.int .i64 x)] ∧ (okI .i64) x):TTSW 3 az:=h
theorem ttSW_4 {az:List AV} (h:∃ x:Bool,az = [(.bool x)] ∧ ((fun _ => True)) x):TTSW 4 az:=h
theorem ttSW_45 {az:List AV} (h:∃ x:(List Int),az = [(.lst 1 (x.map encI))] ∧ (okL (okI .i64)) x):TTSW 45 az:=h
theorem ttSW_59 {az:List AV} (h:∃ x:GRow,az = [(.int .i64 x.Id),(.lst 1 (x.Cells.map (encL 3 encGAtom)))] ∧ okGRow x):TTSW 59 az:=h
theorem ttSW_57 {az:List AV} (h:∃ x:(List (List GAtom)),az = [(.lst 1 (x.map (encL 3 encGAtom)))] ∧ (okL (okL (okGAtom))) x):TTSW 57 az:=h
theorem ttSW_135 {az:List AV} (h:∃ x:(List GAtom),az = [(.lst 3 (x.map encGAtom))] ∧ (okL (okGAtom)) x):TTSW 135 az:=h
theorem ttSW_254 {az:List AV} (h:∃ x:GAtom,az = [(.int .i64 x.Kind),(.int .i64 x.N),(.str x.T)] ∧ okGAtom x):TTSW 254 az:=h
theorem ttSW_60 {az:List AV} (h:∃ x:(List GSet),az = [(.lst 3 (x.map encGSet))] ∧ (okL (okGSet)) x):TTSW 60 az:=h
theorem ttSW_137 {az:List AV} (h:∃ x:GSet,az = [(.str x.Column),(.lst 3 (x.Value.map encGAtom)),(.lst 1 (x.Names.map AV.str))] ∧ okGSet x):TTSW 137 az:=h
theorem ttSW_34 {az:List AV} (h:∃ x:(List Str),az = [(.lst 1 (x.map AV.str))] ∧ (okL (okS)) x):TTSW 34 az:=h
def DDSW (t:TypeId):Prop:=t ∈ [56,9,54,202,3,4,45,59,57,135,254,60,137,34]
theorem cloSW_56:Clo Tryz.prog TTSW DDSW 56:=by
  refine ⟨?_⟩
  unfold CloT
  rw [Tryz.underlying56]
  refine ⟨(And.intro (by kernel_rfl) (And.intro (by kernel_rfl) (And.intro (by kernel_rfl) (And.intro (by kernel_rfl) (show (_:Nat) = _ from by kernel_rfl))))),by simp [DDSW],fun ass h => ?_⟩
  rcases ass with _ | ⟨a0,_ | ⟨a1,_ | ⟨a2,_ | ⟨a3,_ | _⟩⟩⟩⟩
  · exact absurd h (by simp [Fa])
  · exact absurd h (by simp [Fa])
  · exact absurd h (by simp [Fa])
  · exact absurd h (by simp [Fa])
  · obtain ⟨⟨x0,rfl,h0⟩,⟨x1,rfl,h1⟩,⟨x2,rfl,h2⟩,⟨x3,rfl,h3⟩,_⟩:=h
    exact ttSW_56 ⟨⟨x0,x1,x2,x3⟩,rfl,⟨h0,h1,h2,h3⟩⟩
  · exact absurd h (by simp [Fa])
theorem cloSW_9:Clo Tryz.prog TTSW DDSW 9:=by
  refine ⟨?_⟩
  unfold CloT
  rw [Tryz.underlying9]
  exact fun s h => ttSW_9 ⟨s,rfl,h⟩
theorem cloSW_54:Clo Tryz.prog TTSW DDSW 54:=by
  refine ⟨?_⟩
  unfold CloT
  rw [Tryz.underlying54]
  refine ⟨by simp [DDSW],true,by kernel_rfl,(of_decide_eq_true (by kernel_rfl)),.inl rfl,fun l hl h => ?_⟩
  obtain ⟨ys,rfl,hys⟩:=map_of (enc:=encGColumn) (Q:=okGColumn) l (fun x hx => by
    rcases h x hx with ⟨_,az,rfl,y,rfl,hy⟩ | ⟨h,_⟩
    · exact ⟨y,rfl,hy⟩
    · cases h)
  rw [List.length_map] at hl
  have hc:Tryz.prog.cellsOf 202 = 8:=by kernel_rfl
  rw [hc]
  exact ttSW_54 ⟨ys,rfl,hl,hys⟩
theorem cloSW_202:Clo Tryz.prog TTSW DDSW 202:=by
  refine ⟨?_⟩
  unfold CloT
  rw [Tryz.underlying202]
  refine ⟨(And.intro (by kernel_rfl) (And.intro (by kernel_rfl) (And.intro (by kernel_rfl) (And.intro (by kernel_rfl) (And.intro (by kernel_rfl) (And.intro (by kernel_rfl) (And.intro (by kernel_rfl) (And.intro (by kernel_rfl) (show (_:Nat) = _ from by kernel_rfl))))))))),by simp [DDSW],fun ass h => ?_⟩
  rcases ass with _ | ⟨a0,_ | ⟨a1,_ | ⟨a2,_ | ⟨a3,_ | ⟨a4,_ | ⟨a5,_ | ⟨a6,_ | ⟨a7,_ | _⟩⟩⟩⟩⟩⟩⟩⟩
  · exact absurd h (by simp [Fa])
  · exact absurd h (by simp [Fa])
  · exact absurd h (by simp [Fa])
  · exact absurd h (by simp [Fa])
  · exact absurd h (by simp [Fa])
  · exact absurd h (by simp [Fa])
  · exact absurd h (by simp [Fa])
  · exact absurd h (by simp [Fa])
  · obtain ⟨⟨x0,rfl,h0⟩,⟨x1,rfl,h1⟩,⟨x2,rfl,h2⟩,⟨x3,rfl,h3⟩,⟨x4,rfl,h4⟩,⟨x5,rfl,h5⟩,⟨x6,rfl,h6⟩,⟨x7,rfl,h7⟩,_⟩:=h
    exact ttSW_202 ⟨⟨x0,x1,x2,x3,x4,x5,x6,x7⟩,rfl,⟨h0,h1,h2,h3,h4,h5,h6,h7⟩⟩
  · exact absurd h (by simp [Fa])
theorem cloSW_3:Clo Tryz.prog TTSW DDSW 3:=by
  refine ⟨?_⟩
  unfold CloT
  rw [Tryz.underlying3]
  exact fun n h => ttSW_3 ⟨n,rfl,h⟩
theorem cloSW_4:Clo Tryz.prog TTSW DDSW 4:=by
  refine ⟨?_⟩
  unfold CloT
  rw [Tryz.underlying4]
  exact fun b => ttSW_4 ⟨b,rfl,trivial⟩
theorem cloSW_45:Clo Tryz.prog TTSW DDSW 45:=by
  refine ⟨?_⟩
  unfold CloT
  rw [Tryz.underlying45]
  refine ⟨by simp [DDSW],false,by kernel_rfl,(of_decide_eq_true (by kernel_rfl)),.inr (by kernel_rfl),fun l hl h => ?_⟩
  obtain ⟨ys,rfl,hys⟩:=map_of (enc:=encI) (Q:=okI .i64) l (fun x hx => by
    rcases h x hx with ⟨h,_⟩ | ⟨_,y,hy,hy2⟩
    · cases h
    · simp only [List.cons.injEq,and_true] at hy
      exact ⟨y,hy,hy2⟩)
  rw [List.length_map] at hl
  have hc:Tryz.prog.cellsOf 3 = 1:=by kernel_rfl
  rw [hc]
  exact ttSW_45 ⟨ys,rfl,hl,hys⟩
theorem cloSW_59:Clo Tryz.prog TTSW DDSW 59:=by
  refine ⟨?_⟩
  unfold CloT
  rw [Tryz.underlying59]
  refine ⟨(And.intro (by kernel_rfl) (And.intro (by kernel_rfl) (show (_:Nat) = _ from by kernel_rfl))),by simp [DDSW],fun ass h => ?_⟩
  rcases ass with _ | ⟨a0,_ | ⟨a1,_ | _⟩⟩
  · exact absurd h (by simp [Fa])
  · exact absurd h (by simp [Fa])
  · obtain ⟨⟨x0,rfl,h0⟩,⟨x1,rfl,h1⟩,_⟩:=h
    exact ttSW_59 ⟨⟨x0,x1⟩,rfl,⟨h0,h1⟩⟩
  · exact absurd h (by simp [Fa])
theorem cloSW_57:Clo Tryz.prog TTSW DDSW 57:=by
  refine ⟨?_⟩
  unfold CloT
  rw [Tryz.underlying57]
  refine ⟨by simp [DDSW],false,by kernel_rfl,(of_decide_eq_true (by kernel_rfl)),.inr (by kernel_rfl),fun l hl h => ?_⟩
  obtain ⟨ys,rfl,hys⟩:=map_of (enc:=(encL 3 encGAtom)) (Q:=okL (okGAtom)) l (fun x hx => by
    rcases h x hx with ⟨h,_⟩ | ⟨_,y,hy,hy2⟩
    · cases h
    · simp only [List.cons.injEq,and_true] at hy
      exact ⟨y,hy,hy2⟩)
  rw [List.length_map] at hl
  have hc:Tryz.prog.cellsOf 135 = 1:=by kernel_rfl
  rw [hc]
  exact ttSW_57 ⟨ys,rfl,hl,hys⟩
theorem cloSW_135:Clo Tryz.prog TTSW DDSW 135:=by
  refine ⟨?_⟩
  unfold CloT
  rw [Tryz.underlying135]
  refine ⟨by simp [DDSW],true,by kernel_rfl,(of_decide_eq_true (by kernel_rfl)),.inl rfl,fun l hl h => ?_⟩
  obtain ⟨ys,rfl,hys⟩:=map_of (enc:=encGAtom) (Q:=okGAtom) l (fun x hx => by
    rcases h x hx with ⟨_,az,rfl,y,rfl,hy⟩ | ⟨h,_⟩
    · exact ⟨y,rfl,hy⟩
    · cases h)
  rw [List.length_map] at hl
  have hc:Tryz.prog.cellsOf 254 = 3:=by kernel_rfl
  rw [hc]
  exact ttSW_135 ⟨ys,rfl,hl,hys⟩
theorem cloSW_254:Clo Tryz.prog TTSW DDSW 254:=by
  refine ⟨?_⟩
  unfold CloT
  rw [Tryz.underlying254]
  refine ⟨(And.intro (by kernel_rfl) (And.intro (by kernel_rfl) (And.intro (by kernel_rfl) (show (_:Nat) = _ from by kernel_rfl)))),by simp [DDSW],fun ass h => ?_⟩
  rcases ass with _ | ⟨a0,_ | ⟨a1,_ | ⟨a2,_ | _⟩⟩⟩
  · exact absurd h (by simp [Fa])
  · exact absurd h (by simp [Fa])
  · exact absurd h (by simp [Fa])
  · obtain ⟨⟨x0,rfl,h0⟩,⟨x1,rfl,h1⟩,⟨x2,rfl,h2⟩,_⟩:=h
    exact ttSW_254 ⟨⟨x0,x1,x2⟩,rfl,⟨h0,h1,h2⟩⟩
  · exact absurd h (by simp [Fa])
theorem cloSW_60:Clo Tryz.prog TTSW DDSW 60:=by
  refine ⟨?_⟩
  unfold CloT
  rw [Tryz.underlying60]
  refine ⟨by simp [DDSW],true,by kernel_rfl,(of_decide_eq_true (by kernel_rfl)),.inl rfl,fun l hl h => ?_⟩
  obtain ⟨ys,rfl,hys⟩:=map_of (enc:=encGSet) (Q:=okGSet) l (fun x hx => by
    rcases h x hx with ⟨_,az,rfl,y,rfl,hy⟩ | ⟨h,_⟩
    · exact ⟨y,rfl,hy⟩
    · cases h)
  rw [List.length_map] at hl
  have hc:Tryz.prog.cellsOf 137 = 3:=by kernel_rfl
  rw [hc]
  exact ttSW_60 ⟨ys,rfl,hl,hys⟩
theorem cloSW_137:Clo Tryz.prog TTSW DDSW 137:=by
  refine ⟨?_⟩
  unfold CloT
  rw [Tryz.underlying137]
  refine ⟨(And.intro (by kernel_rfl) (And.intro (by kernel_rfl) (And.intro (by kernel_rfl) (show (_:Nat) = _ from by kernel_rfl)))),by simp [DDSW],fun ass h => ?_⟩
  rcases ass with _ | ⟨a0,_ | ⟨a1,_ | ⟨a2,_ | _⟩⟩⟩
  · exact absurd h (by simp [Fa])
  · exact absurd h (by simp [Fa])
  · exact absurd h (by simp [Fa])
  · obtain ⟨⟨x0,rfl,h0⟩,⟨x1,rfl,h1⟩,⟨x2,rfl,h2⟩,_⟩:=h
    exact ttSW_137 ⟨⟨x0,x1,x2⟩,rfl,⟨h0,h1,h2⟩⟩
  · exact absurd h (by simp [Fa])
theorem cloSW_34:Clo Tryz.prog TTSW DDSW 34:=by
  refine ⟨?_⟩
  unfold CloT
  rw [Tryz.underlying34]
  refine ⟨by simp [DDSW],false,by kernel_rfl,(of_decide_eq_true (by kernel_rfl)),.inr (by kernel_rfl),fun l hl h => ?_⟩
  obtain ⟨ys,rfl,hys⟩:=map_of (enc:=AV.str) (Q:=okS) l (fun x hx => by
    rcases h x hx with ⟨h,_⟩ | ⟨_,y,hy,hy2⟩
    · cases h
    · simp only [List.cons.injEq,and_true] at hy
      exact ⟨y,hy,hy2⟩)
  rw [List.length_map] at hl
  have hc:Tryz.prog.cellsOf 9 = 1:=by kernel_rfl
  rw [hc]
  exact ttSW_34 ⟨ys,rfl,hl,hys⟩
theorem cloSW:∀ t,DDSW t → Clo Tryz.prog TTSW DDSW t:=by
  intro t ht
  rcases List.mem_cons.1 ht with h | ht
  · rw [h]; exact cloSW_56
  rcases List.mem_cons.1 ht with h | ht
  · rw [h]; exact cloSW_9
  rcases List.mem_cons.1 ht with h | ht
  · rw [h]; exact cloSW_54
  rcases List.mem_cons.1 ht with h | ht
  · rw [h]; exact cloSW_202
  rcases List.mem_cons.1 ht with h | ht
  · rw [h]; exact cloSW_3
  rcases List.mem_cons.1 ht with h | ht
  · rw [h]; exact cloSW_4
  rcases List.mem_cons.1 ht with h | ht
  · rw [h]; exact cloSW_45
  rcases List.mem_cons.1 ht with h | ht
  · rw [h]; exact cloSW_59
  rcases List.mem_cons.1 ht with h | ht
  · rw [h]; exact cloSW_57
  rcases List.mem_cons.1 ht with h | ht
  · rw [h]; exact cloSW_135
  rcases List.mem_cons.1 ht with h | ht
  · rw [h]; exact cloSW_254
  rcases List.mem_cons.1 ht with h | ht
  · rw [h]; exact cloSW_60
  rcases List.mem_cons.1 ht with h | ht
  · rw [h]; exact cloSW_137
  rcases List.mem_cons.1 ht with h | ht
  · rw [h]; exact cloSW_34
  exact absurd ht List.not_mem_nil
end Go.R
namespace Go.Proofs.YtmeckljlaaflkaaGreat.fnExactSetRow
open Go.ChangeShapes Go.WideShapes Go.ChangeAt Go.RowKit Go.R
open Go.ChangeMaps (open_string shut_string)
set_option linter.unusedVariables false

theorem own:ownKnob Tryz.prog.godebug = none:=by kernel_rfl
theorem laidOut:laidOutB Tryz.prog = true:=by kernel_rfl

set_option maxRecDepth 100000 in
theorem lifted (os:Os) (started:os.Started) (H:Type) (enc:TypeId × Value → H) :
    ReturnsInHanded {} Tryz.checked os 5 .any (Rows.fnExactSetRowSpec.pre6 enc Tryz.prog Tryz.f5 Rows.fnExactSetRowRow.domain false) (Rows.fnExactSetRowSpec.post enc Tryz.prog Tryz.f5 false true false false):=by
  refine returnsInHanded_of_change (C:=Tryz.checked) own started (by kernel_rfl) Tryz.func5
    (ChangeSpec.witness6 (enc:=enc) (C:=Tryz.checked) false ⟨#[],#[.agg #[.string ByteArray.empty,.slice none 0 0,.slice none 0 0,.bool false],.agg #[.int .i64 0,.slice none 0 0],.slice none 0 0],[]⟩ 8 (by kernel_rfl) (by kernel_rfl) (by kernel_rfl) (by kernel_rfl)) ?_
  intro W base args ds gs before hval0 hW hcnd _
  have hval:∀ (j:Nat) t v,Tryz.f5.params[j]? = some t → args[j]? = some v → Value.okWide Tryz.prog W .any base t v:=hval0
  have hW':=hW
  obtain ⟨p,q,hA0,hV,rfl,hfz,hnd⟩:=hW
  have hA:DataW.TrodAll enc Tryz.prog W 0 (fun _ => true) true Tryz.f5.params.toList args.toList ds p:=hA0
  rw [Tryz.params5] at hA hval
  obtain ⟨v0,vs0,d0,ds0,p0,q0,hargs,rfl,rfl,h0,r0⟩:=trodAll_cons hA
  obtain ⟨v1,vs1,d1,ds1,p1,q1,rfl,rfl,rfl,h1,r1⟩:=trodAll_cons r0
  obtain ⟨v2,vs2,d2,ds2,p2,q2,rfl,rfl,rfl,h2,r2⟩:=trodAll_cons r1
  obtain ⟨rfl,rfl,rfl⟩:=trodAll_nil r2
  obtain rfl:args = #[v0,v1,v2]:=by cases args; simp_all
  obtain ⟨rfl,rfl⟩:=trodVars_none hV
  have k0:=h0
  have lt0:∀ x ∈ p0,x.block < W.heap.size:=by obtain ⟨m,hm⟩:=k0; exact DataW.trod_lt m _ _ _ hm
  obtain ⟨az0,fp0,g0,t0⟩:=openA cloSW Tryz.underlying56 (by simp [DDSW]) (hval 0 56 v0 rfl rfl) h0
  obtain ⟨x0,rfl,ok0⟩:=t0
  have k1:=h1
  have lt1:∀ x ∈ p1,x.block < W.heap.size:=by obtain ⟨m,hm⟩:=k1; exact DataW.trod_lt m _ _ _ hm
  obtain ⟨az1,fp1,g1,t1⟩:=openA cloSW Tryz.underlying59 (by simp [DDSW]) (hval 1 59 v1 rfl rfl) h1
  obtain ⟨x1,rfl,ok1⟩:=t1
  have k2:=h2
  have lt2:∀ x ∈ p2,x.block < W.heap.size:=by obtain ⟨m,hm⟩:=k2; exact DataW.trod_lt m _ _ _ hm
  obtain ⟨a2,fp2,g2,t2⟩:=openC cloSW (by rw [Tryz.underlying60]; simp) (by simp [DDSW]) (hval 2 60 v2 rfl rfl) h2
  obtain ⟨x2,e2,ok2⟩:=t2
  simp only [List.cons.injEq,and_true] at e2
  subst e2
  clear hA0 hval0
  have hc:=w_laws_FnExactSetRow x0 x1 x2 true (law_FnExactSetRow x0 x1 x2 ok0 ok1 ok2)
  refine (flat_true hc (RepVs.cons g0 (RepVs.cons g1 (RepVs.cons g2 RepVs.nil)))).mono fun e W' ⟨he,bel⟩ => ?_
  subst he
  exact ⟨_,rfl,_,_,_,[],_,[],hW',trodAll_mk1 (shut_bool Tryz.underlying4 _),(trodAll_cons_mk (Below.trod laidOut (by kernel_rfl) (of_decide_eq_true (by kernel_rfl)) k0 bel lt0) (trodAll_cons_mk (Below.trod laidOut (by kernel_rfl) (of_decide_eq_true (by kernel_rfl)) k1 bel lt1) (trodAll_cons_mk (Below.trod laidOut (by kernel_rfl) (of_decide_eq_true (by kernel_rfl)) k2 bel lt2) trodAll_mk0))),rfl,bel.frame _,fun h => by cases h⟩

theorem over:Rows.fnExactSetRowRow.holds Tryz.pinned (OpenSpec.ofChange Rows.fnExactSetRowSpec) :=
  OpenClaim.holds_of_wide 5 Tryz.f5 rfl rfl rfl rfl rfl rfl rfl ⟨rfl,rfl,rfl,rfl,rfl⟩ rfl rfl rfl rfl rfl (by kernel_rfl) Tryz.func5 (by kernel_rfl)
    (of_decide_eq_true (by kernel_rfl)) (by unfold Func.isWrapper; first | (rw [if_pos (by decide +kernel)]; kernel_rfl) | (rw [if_neg (by decide +kernel)]; exact ⟨rfl,rfl⟩))
    (fun os started H enc _ => lifted os started H enc)

theorem proved:Rows.FnExactSetRowSaid:=over
#print axioms proved
end Go.Proofs.YtmeckljlaaflkaaGreat.fnExactSetRow
