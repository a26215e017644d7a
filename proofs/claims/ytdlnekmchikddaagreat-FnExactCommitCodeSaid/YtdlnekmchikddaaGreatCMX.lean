/- 'FnExactCommitCode': for every input the law returns true, and each argument reads behind the call as it read before. No condition. -/
import Derived.Test.YtdlnekmchikddaaGreatCML
import Derived.WalkKit
import Derived.ProofKit
import Derived.OpenShut
import Derived.ShutString
import Derived.ChangeOld
import Derived.Below
set_option linter.all false
namespace Go.R
open Go Go.Proofs
set_option linter.unusedSimpArgs false
set_option maxHeartbeats 8000000
def TTCM (t:TypeId) (az:List AV):Prop :=
  bif Nat.beq t 45 then ∃ x:GSchema,az = [(.lst 4 (x.Tables.map encGTable))] ∧ okGSchema x else
  bif Nat.beq t 43 then ∃ x:(List GTable),az = [(.lst 4 (x.map encGTable))] ∧ (okL (okGTable)) x else
  bif Nat.beq t 150 then ∃ x:GTable,az = [(.str x.Name),(.lst 8 (x.Columns.map encGColumn)),(.lst 1 (x.Unique.map encI)),(.bool x.Root)] ∧ okGTable x else
  bif Nat.beq t 9 then ∃ x:Str,az = [(.str x)] ∧ (okS) x else
  bif Nat.beq t 148 then ∃ x:(List GColumn),az = [(.lst 8 (x.map encGColumn))] ∧ (okL (okGColumn)) x else
  bif Nat.beq t 213 then ∃ x:GColumn,az = [(.str x.Name),(.int .i64 x.Kind),(.int .i64 x.Min),(.int .i64 x.Max),(.int .i64 x.Low),(.int .i64 x.High),(.str x.Ref),(.bool x.Strong)] ∧ okGColumn x else
  bif Nat.beq t 3 then ∃ x:Int,az = [(.int .i64 x)] ∧ (okI .i64) x else
  bif Nat.beq t 4 then ∃ x:Bool,az = [(.bool x)] ∧ ((fun _ => True)) x else
  bif Nat.beq t 62 then ∃ x:(List Int),az = [(.lst 1 (x.map encI))] ∧ (okL (okI .i64)) x else
  bif Nat.beq t 48 then ∃ x:GStore,az = [(.lst 1 (x.Tables.map (encL 2 encGRow))),(.int .i64 x.Next)] ∧ okGStore x else
  bif Nat.beq t 46 then ∃ x:(List (List GRow)),az = [(.lst 1 (x.map (encL 2 encGRow)))] ∧ (okL (okL (okGRow))) x else
  bif Nat.beq t 152 then ∃ x:(List GRow),az = [(.lst 2 (x.map encGRow))] ∧ (okL (okGRow)) x else
  bif Nat.beq t 191 then ∃ x:GRow,az = [(.int .i64 x.Id),(.lst 1 (x.Cells.map (encL 3 encGAtom)))] ∧ okGRow x else
  bif Nat.beq t 189 then ∃ x:(List (List GAtom)),az = [(.lst 1 (x.map (encL 3 encGAtom)))] ∧ (okL (okL (okGAtom))) x else
  bif Nat.beq t 228 then ∃ x:(List GAtom),az = [(.lst 3 (x.map encGAtom))] ∧ (okL (okGAtom)) x else
  bif Nat.beq t 237 then ∃ x:GAtom,az = [(.int .i64 x.Kind),(.int .i64 x.N),(.str x.T)] ∧ okGAtom x else
  False
theorem ttCM_45 {az:List AV} (h:∃ x:GSchema,az = [(.lst 4 (x.Tables.map encGTable))] ∧ okGSchema x):TTCM 45 az:=h
theorem ttCM_43 {az:List AV} (h:∃ x:(List GTable),az = [(.lst 4 (x.map encGTable))] ∧ (okL (okGTable)) x):TTCM 43 az:=h
theorem ttCM_150 {az:List AV} (h:∃ x:GTable,az = [(.str x.Name),(.lst 8 (x.Columns.map encGColumn)),(.lst 1 (x.Unique.map encI)),(.bool x.Root)] ∧ okGTable x):TTCM 150 az:=h
theorem ttCM_9 {az:List AV} (h:∃ x:Str,az = [(.str x)] ∧ (okS) x):TTCM 9 az:=h
theorem ttCM_148 {az:List AV} (h:∃ x:(List GColumn),az = [(.lst 8 (x.map encGColumn))] ∧ (okL (okGColumn)) x):TTCM 148 az:=h
theorem ttCM_213 {az:List AV} (h:∃ x:GColumn,az = [(.str x.Name),(.int .i64 x.Kind),(.int .i64 x.Min),(.int .i64 x.Max),(.int .i64 x.Low),(.int .i64 x.High),(.str x.Ref),(.bool x.Strong)] ∧ okGColumn x):TTCM 213 az:=h
theorem ttCM_3 {az:List AV} (h:∃ x:Int,az = [(.int .i64 x)] ∧ (okI .i64) x):TTCM 3 az:=h
theorem ttCM_4 {az:List AV} (h:∃ x:Bool,az = [(.bool x)] ∧ ((fun _ => True)) x):TTCM 4 az:=h
theorem ttCM_62 {az:List AV} (h:∃ x:(List Int),az = [(.lst 1 (x.map encI))] ∧ (okL (okI .i64)) x):TTCM 62 az:=h
theorem ttCM_48 {az:List AV} (h:∃ x:GStore,az = [(.lst 1 (x.Tables.map (encL 2 encGRow))),(.int .i64 x.Next)] ∧ okGStore x):TTCM 48 az:=h
theorem ttCM_46 {az:List AV} (h:∃ x:(List (List GRow)),az = [(.lst 1 (x.map (encL 2 encGRow)))] ∧ (okL (okL (okGRow))) x):TTCM 46 az:=h
theorem ttCM_152 {az:List AV} (h:∃ x:(List GRow),az = [(.lst 2 (x.map encGRow))] ∧ (okL (okGRow)) x):TTCM 152 az:=h
theorem ttCM_191 {az:List AV} (h:∃ x:GRow,az = [(.int .i64 x.Id),(.lst 1 (x.Cells.map (encL 3 encGAtom)))] ∧ okGRow x):TTCM 191 az:=h
theorem ttCM_189 {az:List AV} (h:∃ x:(List (List GAtom)),az = [(.lst 1 (x.map (encL 3 encGAtom)))] ∧ (okL (okL (okGAtom))) x):TTCM 189 az:=h
theorem ttCM_228 {az:List AV} (h:∃ x:(List GAtom),az = [(.lst 3 (x.map encGAtom))] ∧ (okL (okGAtom)) x):TTCM 228 az:=h
theorem ttCM_237 {az:List AV} (h:∃ x:GAtom,az = [(.int .i64 x.Kind),(.int .i64 x.N),(.str x.T)] ∧ okGAtom x):TTCM 237 az:=h
def DDCM (t:TypeId):Prop:=t ∈ [45,43,150,9,148,213,3,4,62,48,46,152,191,189,228,237]
theorem cloCM_45:Clo Tryz.prog TTCM DDCM 45:=by
  refine ⟨?_⟩
  unfold CloT
  rw [Tryz.underlying45]
  refine ⟨(And.intro (by kernel_rfl) (show (_:Nat) = _ from by kernel_rfl)),by simp [DDCM],fun ass h => ?_⟩
  rcases ass with _ | ⟨a0,_ | _⟩
  · exact absurd h (by simp [Fa])
  · obtain ⟨⟨x0,rfl,h0⟩,_⟩:=h
    exact ttCM_45 ⟨⟨x0⟩,rfl,h0⟩
  · exact absurd h (by simp [Fa])
theorem cloCM_43:Clo Tryz.prog TTCM DDCM 43:=by
  refine ⟨?_⟩
  unfold CloT
  rw [Tryz.underlying43]
  refine ⟨by simp [DDCM],true,by kernel_rfl,(of_decide_eq_true (by kernel_rfl)),.inl rfl,fun l hl h => ?_⟩
  obtain ⟨ys,rfl,hys⟩:=map_of (enc:=encGTable) (Q:=okGTable) l (fun x hx => by
    rcases h x hx with ⟨_,az,rfl,y,rfl,hy⟩ | ⟨h,_⟩
    · exact ⟨y,rfl,hy⟩
    · cases h)
  rw [List.length_map] at hl
  have hc:Tryz.prog.cellsOf 150 = 4:=by kernel_rfl
  rw [hc]
  exact ttCM_43 ⟨ys,rfl,hl,hys⟩
theorem cloCM_150:Clo Tryz.prog TTCM DDCM 150:=by
  refine ⟨?_⟩
  unfold CloT
  rw [Tryz.underlying150]
  refine ⟨(And.intro (by kernel_rfl) (And.intro (by kernel_rfl) (And.intro (by kernel_rfl) (And.intro (by kernel_rfl) (show (_:Nat) = _ from by kernel_rfl))))),by simp [DDCM],fun ass h => ?_⟩
  rcases ass with _ | ⟨a0,_ | ⟨a1,_ | ⟨a2,_ | ⟨a3,_ | _⟩⟩⟩⟩
  · exact absurd h (by simp [Fa])
  · exact absurd h (by simp [Fa])
  · exact absurd h (by simp [Fa])
  · exact absurd h (by simp [Fa])
  · obtain ⟨⟨x0,rfl,h0⟩,⟨x1,rfl,h1⟩,⟨x2,rfl,h2⟩,⟨x3,rfl,h3⟩,_⟩:=h
    exact ttCM_150 ⟨⟨x0,x1,x2,x3⟩,rfl,⟨h0,h1,h2,h3⟩⟩
  · exact absurd h (by simp [Fa])
theorem cloCM_9:Clo Tryz.prog TTCM DDCM 9:=by
  refine ⟨?_⟩
  unfold CloT
  rw [Tryz.underlying9]
  exact fun s h => ttCM_9 ⟨s,rfl,h⟩
theorem cloCM_148:Clo Tryz.prog TTCM DDCM 148:=by
  refine ⟨?_⟩
  unfold CloT
  rw [Tryz.underlying148]
  refine ⟨by simp [DDCM],true,by kernel_rfl,(of_decide_eq_true (by kernel_rfl)),.inl rfl,fun l hl h => ?_⟩
  obtain ⟨ys,rfl,hys⟩:=map_of (enc:=encGColumn) (Q:=okGColumn) l (fun x hx => by
    rcases h x hx with ⟨_,az,rfl,y,rfl,hy⟩ | ⟨h,_⟩
    · exact ⟨y,rfl,hy⟩
    · cases h)
  rw [List.length_map] at hl
  have hc:Tryz.prog.cellsOf 213 = 8:=by kernel_rfl
  rw [hc]
  exact ttCM_148 ⟨ys,rfl,hl,hys⟩
theorem cloCM_213:Clo Tryz.prog TTCM DDCM 213:=by
  refine ⟨?_⟩
  unfold CloT
  rw [Tryz.underlying213]
  refine ⟨(And.intro (by kernel_rfl) (And.intro (by kernel_rfl) (And.intro (by kernel_rfl) (And.intro (by kernel_rfl) (And.intro (by kernel_rfl) (And.intro (by kernel_rfl) (And.intro (by kernel_rfl) (And.intro (by kernel_rfl) (show (_:Nat) = _ from by kernel_rfl))))))))),by simp [DDCM],fun ass h => ?_⟩
  rcases ass with _ | ⟨a0,_ | ⟨a1,_ | ⟨a2,_ | ⟨a3,_ | ⟨a4,_ | ⟨a5,_ | ⟨a6,_ | ⟨a7,_ | _⟩⟩⟩⟩⟩⟩⟩⟩
  · exact absurd h (by simp [Fa])
  · exact absurd h (by simp [Fa])
  · exact absurd h (by simp [Fa])
  · exact absurd h (by simp [Fa])
  · exact absurd h (by simp [Fa])
  · exact absurd h (by simp [Fa])
  · exact absurd h (by simp [Fa])
  · exact absurd h (by simp [Fa])
  · obtain ⟨⟨x0,rfl,h0⟩,⟨x1,rfl,h1⟩,⟨x2,rfl,h2⟩,⟨x3,rfl,h3⟩,⟨x4,rfl,h4⟩,⟨x5,rfl,h5⟩,⟨x6,rfl,h6⟩,⟨x7,rfl,h7⟩,_⟩:=h
    exact ttCM_213 ⟨⟨x0,x1,x2,x3,x4,x5,x6,x7⟩,rfl,⟨h0,h1,h2,h3,h4,h5,h6,h7⟩⟩
  · exact absurd h (by simp [Fa])
theorem cloCM_3:Clo Tryz.prog TTCM DDCM 3:=by
  refine ⟨?_⟩
  unfold CloT
  rw [Tryz.underlying3]
  exact fun n h => ttCM_3 ⟨n,rfl,h⟩
theorem cloCM_4:Clo Tryz.prog TTCM DDCM 4:=by
  refine ⟨?_⟩
  unfold CloT
  rw [Tryz.underlying4]
  exact fun b => ttCM_4 ⟨b,rfl,trivial⟩
theorem cloCM_62:Clo Tryz.prog TTCM DDCM 62:=by
  refine ⟨?_⟩
  unfold CloT
  rw [Tryz.underlying62]
  refine ⟨by simp [DDCM],false,by kernel_rfl,(of_decide_eq_true (by kernel_rfl)),.inr (by kernel_rfl),fun l hl h => ?_⟩
  obtain ⟨ys,rfl,hys⟩:=map_of (enc:=encI) (Q:=okI .i64) l (fun x hx => by
    rcases h x hx with ⟨h,_⟩ | ⟨_,y,hy,hy2⟩
    · cases h
    · simp only [List.cons.injEq,and_true] at hy
      exact ⟨y,hy,hy2⟩)
  rw [List.length_map] at hl
  have hc:Tryz.prog.cellsOf 3 = 1:=by kernel_rfl
  rw [hc]
  exact ttCM_62 ⟨ys,rfl,hl,hys⟩
theorem cloCM_48:Clo Tryz.prog TTCM DDCM 48:=by
  refine ⟨?_⟩
  unfold CloT
  rw [Tryz.underlying48]
  refine ⟨(And.intro (by kernel_rfl) (And.intro (by kernel_rfl) (show (_:Nat) = _ from by kernel_rfl))),by simp [DDCM],fun ass h => ?_⟩
  rcases ass with _ | ⟨a0,_ | ⟨a1,_ | _⟩⟩
  · exact absurd h (by simp [Fa])
  · exact absurd h (by simp [Fa])
  · obtain ⟨⟨x0,rfl,h0⟩,⟨x1,rfl,h1⟩,_⟩:=h
    exact ttCM_48 ⟨⟨x0,x1⟩,rfl,⟨h0,h1⟩⟩
  · exact absurd h (by simp [Fa])
theorem cloCM_46:Clo Tryz.prog TTCM DDCM 46:=by
  refine ⟨?_⟩
  unfold CloT
  rw [Tryz.underlying46]
  refine ⟨by simp [DDCM],false,by kernel_rfl,(of_decide_eq_true (by kernel_rfl)),.inr (by kernel_rfl),fun l hl h => ?_⟩
  obtain ⟨ys,rfl,hys⟩:=map_of (enc:=(encL 2 encGRow)) (Q:=okL (okGRow)) l (fun x hx => by
    rcases h x hx with ⟨h,_⟩ | ⟨_,y,hy,hy2⟩
    · cases h
    · simp only [List.cons.injEq,and_true] at hy
      exact ⟨y,hy,hy2⟩)
  rw [List.length_map] at hl
  have hc:Tryz.prog.cellsOf 152 = 1:=by kernel_rfl
  rw [hc]
  exact ttCM_46 ⟨ys,rfl,hl,hys⟩
theorem cloCM_152:Clo Tryz.prog TTCM DDCM 152:=by
  refine ⟨?_⟩
  unfold CloT
  rw [Tryz.underlying152]
  refine ⟨by simp [DDCM],true,by kernel_rfl,(of_decide_eq_true (by kernel_rfl)),.inl rfl,fun l hl h => ?_⟩
  obtain ⟨ys,rfl,hys⟩:=map_of (enc:=encGRow) (Q:=okGRow) l (fun x hx => by
    rcases h x hx with ⟨_,az,rfl,y,rfl,hy⟩ | ⟨h,_⟩
    · exact ⟨y,rfl,hy⟩
    · cases h)
  rw [List.length_map] at hl
  have hc:Tryz.prog.cellsOf 191 = 2:=by kernel_rfl
  rw [hc]
  exact ttCM_152 ⟨ys,rfl,hl,hys⟩
theorem cloCM_191:Clo Tryz.prog TTCM DDCM 191:=by
  refine ⟨?_⟩
  unfold CloT
  rw [Tryz.underlying191]
  refine ⟨(And.intro (by kernel_rfl) (And.intro (by kernel_rfl) (show (_:Nat) = _ from by kernel_rfl))),by simp [DDCM],fun ass h => ?_⟩
  rcases ass with _ | ⟨a0,_ | ⟨a1,_ | _⟩⟩
  · exact absurd h (by simp [Fa])
  · exact absurd h (by simp [Fa])
  · obtain ⟨⟨x0,rfl,h0⟩,⟨x1,rfl,h1⟩,_⟩:=h
    exact ttCM_191 ⟨⟨x0,x1⟩,rfl,⟨h0,h1⟩⟩
  · exact absurd h (by simp [Fa])
theorem cloCM_189:Clo Tryz.prog TTCM DDCM 189:=by
  refine ⟨?_⟩
  unfold CloT
  rw [Tryz.underlying189]
  refine ⟨by simp [DDCM],false,by kernel_rfl,(of_decide_eq_true (by kernel_rfl)),.inr (by kernel_rfl),fun l hl h => ?_⟩
  obtain ⟨ys,rfl,hys⟩:=map_of (enc:=(encL 3 encGAtom)) (Q:=okL (okGAtom)) l (fun x hx => by
    rcases h x hx with ⟨h,_⟩ | ⟨_,y,hy,hy2⟩
    · cases h
    · simp only [List.cons.injEq,and_true] at hy
      exact ⟨y,hy,hy2⟩)
  rw [List.length_map] at hl
  have hc:Tryz.prog.cellsOf 228 = 1:=by kernel_rfl
  rw [hc]
  exact ttCM_189 ⟨ys,rfl,hl,hys⟩
theorem cloCM_228:Clo Tryz.prog TTCM DDCM 228:=by
  refine ⟨?_⟩
  unfold CloT
  rw [Tryz.underlying228]
  refine ⟨by simp [DDCM],true,by kernel_rfl,(of_decide_eq_true (by kernel_rfl)),.inl rfl,fun l hl h => ?_⟩
  obtain ⟨ys,rfl,hys⟩:=map_of (enc:=encGAtom) (Q:=okGAtom) l (fun x hx => by
    rcases h x hx with ⟨_,az,rfl,y,rfl,hy⟩ | ⟨h,_⟩
    · exact ⟨y,rfl,hy⟩
    · cases h)
  rw [List.length_map] at hl
  have hc:Tryz.prog.cellsOf 237 = 3:=by kernel_rfl
  rw [hc]
  exact ttCM_228 ⟨ys,rfl,hl,hys⟩
theorem cloCM_237:Clo Tryz.prog TTCM DDCM 237:=by
  refine ⟨?_⟩
  unfold CloT
  rw [Tryz.underlying237]
  refine ⟨(And.intro (by kernel_rfl) (And.intro (by kernel_rfl) (And.intro (by kernel_rfl) (show (_:Nat) = _ from by kernel_rfl)))),by simp [DDCM],fun ass h => ?_⟩
  rcases ass with _ | ⟨a0,_ | ⟨a1,_ | ⟨a2,_ | _⟩⟩⟩
  · exact absurd h (by simp [Fa])
  · exact absurd h (by simp [Fa])
  · exact absurd h (by simp [Fa])
  · obtain ⟨⟨x0,rfl,h0⟩,⟨x1,rfl,h1⟩,⟨x2,rfl,h2⟩,_⟩:=h
    exact ttCM_237 ⟨⟨x0,x1,x2⟩,rfl,⟨h0,h1,h2⟩⟩
  · exact absurd h (by simp [Fa])
theorem cloCM:∀ t,DDCM t → Clo Tryz.prog TTCM DDCM t:=by
  intro t ht
  rcases List.mem_cons.1 ht with h | ht
  · rw [h]; exact cloCM_45
  rcases List.mem_cons.1 ht with h | ht
  · rw [h]; exact cloCM_43
  rcases List.mem_cons.1 ht with h | ht
  · rw [h]; exact cloCM_150
  rcases List.mem_cons.1 ht with h | ht
  · rw [h]; exact cloCM_9
  rcases List.mem_cons.1 ht with h | ht
  · rw [h]; exact cloCM_148
  rcases List.mem_cons.1 ht with h | ht
  · rw [h]; exact cloCM_213
  rcases List.mem_cons.1 ht with h | ht
  · rw [h]; exact cloCM_3
  rcases List.mem_cons.1 ht with h | ht
  · rw [h]; exact cloCM_4
  rcases List.mem_cons.1 ht with h | ht
  · rw [h]; exact cloCM_62
  rcases List.mem_cons.1 ht with h | ht
  · rw [h]; exact cloCM_48
  rcases List.mem_cons.1 ht with h | ht
  · rw [h]; exact cloCM_46
  rcases List.mem_cons.1 ht with h | ht
  · rw [h]; exact cloCM_152
  rcases List.mem_cons.1 ht with h | ht
  · rw [h]; exact cloCM_191
  rcases List.mem_cons.1 ht with h | ht
  · rw [h]; exact cloCM_189
  rcases List.mem_cons.1 ht with h | ht
  · rw [h]; exact cloCM_228
  rcases List.mem_cons.1 ht with h | ht
  · rw [h]; exact cloCM_237
  exact absurd ht List.not_mem_nil
end Go.R
namespace Go.Proofs.YtdlnekmchikddaaGreat.fnExactCommitCode
open Go.ChangeShapes Go.WideShapes Go.ChangeAt Go.RowKit Go.R
open Go.ChangeMaps (open_string shut_string)
set_option linter.unusedVariables false

theorem own:ownKnob Tryz.prog.godebug = none:=by kernel_rfl
theorem laidOut:laidOutB Tryz.prog = true:=by kernel_rfl

set_option maxRecDepth 100000 in
theorem lifted (os:Os) (started:os.Started) (H:Type) (enc:TypeId × Value → H) :
    ReturnsInHanded {} Tryz.checked os 4 .any (Rows.fnExactCommitCodeSpec.pre6 enc Tryz.prog Tryz.f4 Rows.fnExactCommitCodeRow.domain false) (Rows.fnExactCommitCodeSpec.post enc Tryz.prog Tryz.f4 false true false false):=by
  refine returnsInHanded_of_change (C:=Tryz.checked) own started (by kernel_rfl) Tryz.func4
    (ChangeSpec.witness6 (enc:=enc) (C:=Tryz.checked) false ⟨#[],#[.agg #[.slice none 0 0],.agg #[.slice none 0 0,.int .i64 0]],[]⟩ 8 (by kernel_rfl) (by kernel_rfl) (by kernel_rfl) (by kernel_rfl)) ?_
  intro W base args ds gs before hval0 hW hcnd _
  have hval:∀ (j:Nat) t v,Tryz.f4.params[j]? = some t → args[j]? = some v → Value.okWide Tryz.prog W .any base t v:=hval0
  have hW':=hW
  obtain ⟨p,q,hA0,hV,rfl,hfz,hnd⟩:=hW
  have hA:DataW.TrodAll enc Tryz.prog W 0 (fun _ => true) true Tryz.f4.params.toList args.toList ds p:=hA0
  rw [Tryz.params4] at hA hval
  obtain ⟨v0,vs0,d0,ds0,p0,q0,hargs,rfl,rfl,h0,r0⟩:=trodAll_cons hA
  obtain ⟨v1,vs1,d1,ds1,p1,q1,rfl,rfl,rfl,h1,r1⟩:=trodAll_cons r0
  obtain ⟨rfl,rfl,rfl⟩:=trodAll_nil r1
  obtain rfl:args = #[v0,v1]:=by cases args; simp_all
  obtain ⟨rfl,rfl⟩:=trodVars_none hV
  have k0:=h0
  have lt0:∀ x ∈ p0,x.block < W.heap.size:=by obtain ⟨m,hm⟩:=k0; exact DataW.trod_lt m _ _ _ hm
  obtain ⟨az0,fp0,g0,t0⟩:=openA cloCM Tryz.underlying45 (by simp [DDCM]) (hval 0 45 v0 rfl rfl) h0
  obtain ⟨x0,rfl,ok0⟩:=t0
  have k1:=h1
  have lt1:∀ x ∈ p1,x.block < W.heap.size:=by obtain ⟨m,hm⟩:=k1; exact DataW.trod_lt m _ _ _ hm
  obtain ⟨az1,fp1,g1,t1⟩:=openA cloCM Tryz.underlying48 (by simp [DDCM]) (hval 1 48 v1 rfl rfl) h1
  obtain ⟨x1,rfl,ok1⟩:=t1
  clear hA0 hval0
  have hc:=w_laws_FnExactCommitCode x0 x1 true (law_FnExactCommitCode x0 x1 ok0 ok1)
  refine (flat_true hc (RepVs.cons g0 (RepVs.cons g1 RepVs.nil))).mono fun e W' ⟨he,bel⟩ => ?_
  subst he
  exact ⟨_,rfl,_,_,_,[],_,[],hW',trodAll_mk1 (shut_bool Tryz.underlying4 _),(trodAll_cons_mk (Below.trod laidOut (by kernel_rfl) (of_decide_eq_true (by kernel_rfl)) k0 bel lt0) (trodAll_cons_mk (Below.trod laidOut (by kernel_rfl) (of_decide_eq_true (by kernel_rfl)) k1 bel lt1) trodAll_mk0)),rfl,bel.frame _,fun h => by cases h⟩

theorem over:Rows.fnExactCommitCodeRow.holds Tryz.pinned (OpenSpec.ofChange Rows.fnExactCommitCodeSpec) :=
  OpenClaim.holds_of_wide 4 Tryz.f4 rfl rfl rfl rfl rfl rfl rfl ⟨rfl,rfl,rfl,rfl,rfl⟩ rfl rfl rfl rfl rfl (by kernel_rfl) Tryz.func4 (by kernel_rfl)
    (of_decide_eq_true (by kernel_rfl)) (by unfold Func.isWrapper; first | (rw [if_pos (by decide +kernel)]; kernel_rfl) | (rw [if_neg (by decide +kernel)]; exact ⟨rfl,rfl⟩))
    (fun os started H enc _ => lifted os started H enc)

theorem proved:Rows.FnExactCommitCodeSaid:=over
#print axioms proved
end Go.Proofs.YtdlnekmchikddaaGreat.fnExactCommitCode
