/- 'FnExactOpCode': for every input the law returns true, and each argument reads behind the call as it read before. No condition. -/
import Derived.Test.YthejoafcjkoahaaGreatOPC
import Derived.WalkKit
import Derived.ProofKit
import Derived.OpenShut
import Derived.ShutString
import Derived.ChangeOld
import Derived.Below
set_option linter.all false
namespace Go.R
open Go Go.Proofs
set_option linter.unusedSimpArgs false
set_option maxHeartbeats 8000000
def TTOC (t:TypeId) (az:List AV):Prop :=
  bif Nat.beq t 24 then ∃ x:GSchema,az = [(.lst 4 (x.Tables.map encGTable))] ∧ okGSchema x else
  bif Nat.beq t 22 then ∃ x:(List GTable),az = [(.lst 4 (x.map encGTable))] ∧ (okL (okGTable)) x else
  bif Nat.beq t 87 then ∃ x:GTable,az = [(.str x.Name),(.lst 8 (x.Columns.map encGColumn)),(.lst 1 (x.Unique.map encI)),(.bool x.Root)] ∧ okGTable x else
  bif Nat.beq t 9 then ∃ x:Str,az = [(.str x)] ∧ (okS) x else
  bif Nat.beq t 84 then ∃ x:(List GColumn),az = [(.lst 8 (x.map encGColumn))] ∧ (okL (okGColumn)) x else
  bif Nat.beq t 191 then ∃ x:GColumn,az = [(.str x.Name),(.int .i64 x.Kind),(.int .i64 x.Min),(.int .i64 x.Max),(.int .i64 x.Low),(.int .i64 x.High),(.str x.Ref),(.bool x.Strong)] ∧ okGColumn x else
  bif Nat.beq t 3 then ∃ x:Int,az = [(.int .i64 x)] ∧ (okI .i64) x else
  bif Nat.beq t 4 then ∃ x:Bool,az = [(.bool x)] ∧ ((fun _ => True)) x else
  bif Nat.beq t 85 then ∃ x:(List Int),az = [(.lst 1 (x.map encI))] ∧ (okL (okI .i64)) x else
  bif Nat.beq t 48 then ∃ x:GOp,az = [(.int .i64 x.Kind),(.str x.Table),(.str x.Name),(.lst 3 (x.Where.map encGCond)),(.lst 3 (x.Row.map encGSet)),(.lst 3 (x.Muts.map encGMut)),(.lst 1 (x.Columns.map AV.str)),(.bool x.Until)] ∧ okGOp x else
  bif Nat.beq t 43 then ∃ x:(List GCond),az = [(.lst 3 (x.map encGCond))] ∧ (okL (okGCond)) x else
  bif Nat.beq t 117 then ∃ x:GCond,az = [(.str x.Column),(.int .i64 x.Func),(.lst 3 (x.Value.map encGAtom))] ∧ okGCond x else
  bif Nat.beq t 115 then ∃ x:(List GAtom),az = [(.lst 3 (x.map encGAtom))] ∧ (okL (okGAtom)) x else
  bif Nat.beq t 203 then ∃ x:GAtom,az = [(.int .i64 x.Kind),(.int .i64 x.N),(.str x.T)] ∧ okGAtom x else
  bif Nat.beq t 44 then ∃ x:(List GSet),az = [(.lst 3 (x.map encGSet))] ∧ (okL (okGSet)) x else
  bif Nat.beq t 120 then ∃ x:GSet,az = [(.str x.Column),(.lst 3 (x.Value.map encGAtom)),(.lst 1 (x.Names.map AV.str))] ∧ okGSet x else
  bif Nat.beq t 46 then ∃ x:(List Str),az = [(.lst 1 (x.map AV.str))] ∧ (okL (okS)) x else
  bif Nat.beq t 45 then ∃ x:(List GMut),az = [(.lst 3 (x.map encGMut))] ∧ (okL (okGMut)) x else
  bif Nat.beq t 122 then ∃ x:GMut,az = [(.str x.Column),(.int .i64 x.Func),(.lst 3 (x.Value.map encGAtom))] ∧ okGMut x else
  False
theorem ttOC_24 {az:List AV} (h:∃ x:GSchema,az = [(.lst 4 (x.Tables.map encGTable))] ∧ okGSchema x):TTOC 24 az:=h
theorem ttOC_22 {az:List AV} (h:∃ x:(List GTable),az = [(.lst 4 (x.map encGTable))] ∧ (okL (okGTable)) x):TTOC 22 az:=h
theorem ttOC_87 {az:List AV} (h:∃ x:GTable,az = [(.str x.Name),(.lst 8 (x.Columns.map encGColumn)),(.lst 1 (x.Unique.map encI)),(.bool x.Root)] ∧ okGTable x):TTOC 87 az:=h
theorem ttOC_9 {az:List AV} (h:∃ x:Str,az = [(.str x)] ∧ (okS) x):TTOC 9 az:=h
theorem ttOC_84 {az:List AV} (h:∃ x:(List GColumn),az = [(.lst 8 (x.map encGColumn))] ∧ (okL (okGColumn)) x):TTOC 84 az:=h
theorem ttOC_191 {az:List AV} (h:∃ x:GColumn,az = [(.str x.Name),(.int .i64 x.Kind),(.int .i64 x.Min),(.int .i64 x.Max),(.int .i64 x.Low),(.int .i64 x.High),(.str x.Ref),(.bool x.Strong)] ∧ okGColumn x):TTOC 191 az:=h
theorem ttOC_3 {az:List AV} (h:∃ x:Int,az = [(.int .i64 x)] ∧ (okI .i64) x):TTOC 3 az:=h
theorem ttOC_4 {az:List AV} (h:∃ x:Bool,az = [(.bool x)] ∧ ((fun _ => True)) x):TTOC 4 az:=h
theorem ttOC_85 {az:List AV} (h:∃ x:(List Int),az = [(.lst 1 (x.map encI))] ∧ (okL (okI .i64)) x):TTOC 85 az:=h
theorem ttOC_48 {az:List AV} (h:∃ x:GOp,az = [(.int .i64 x.Kind),(.str x.Table),(.str x.Name),(.lst 3 (x.Where.map encGCond)),(.lst 3 (x.Row.map encGSet)),(.lst 3 (x.Muts.map encGMut)),(.lst 1 (x.Columns.map AV.str)),(.bool x.Until)] ∧ okGOp x):TTOC 48 az:=h
theorem ttOC_43 {az:List AV} (h:∃ x:(List GCond),az = [(.lst 3 (x.map encGCond))] ∧ (okL (okGCond)) x):TTOC 43 az:=h
theorem ttOC_117 {az:List AV} (h:∃ x:GCond,az = [(.str x.Column),(.int .i64 x.Func),(.lst 3 (x.Value.map encGAtom))] ∧ okGCond x):TTOC 117 az:=h
theorem ttOC_115 {az:List AV} (h:∃ x:(List GAtom),az = [(.lst 3 (x.map encGAtom))] ∧ (okL (okGAtom)) x):TTOC 115 az:=h
theorem ttOC_203 {az:List AV} (h:∃ x:GAtom,az = [(.int .i64 x.Kind),(.int .i64 x.N),(.str x.T)] ∧ okGAtom x):TTOC 203 az:=h
theorem ttOC_44 {az:List AV} (h:∃ x:(List GSet),az = [(.lst 3 (x.map encGSet))] ∧ (okL (okGSet)) x):TTOC 44 az:=h
theorem ttOC_120 {az:List AV} (h:∃ x:GSet,az = [(.str x.Column),(.lst 3 (x.Value.map encGAtom)),(.lst 1 (x.Names.map AV.str))] ∧ okGSet x):TTOC 120 az:=h
theorem ttOC_46 {az:List AV} (h:∃ x:(List Str),az = [(.lst 1 (x.map AV.str))] ∧ (okL (okS)) x):TTOC 46 az:=h
theorem ttOC_45 {az:List AV} (h:∃ x:(List GMut),az = [(.lst 3 (x.map encGMut))] ∧ (okL (okGMut)) x):TTOC 45 az:=h
theorem ttOC_122 {az:List AV} (h:∃ x:GMut,az = [(.str x.Column),(.int .i64 x.Func),(.lst 3 (x.Value.map encGAtom))] ∧ okGMut x):TTOC 122 az:=h
def DDOC (t:TypeId):Prop:=t ∈ [24,22,87,9,84,191,3,4,85,48,43,117,115,203,44,120,46,45,122]
theorem cloOC_24:Clo Tryz.prog TTOC DDOC 24:=by
  refine ⟨?_⟩
  unfold CloT
  rw [Tryz.underlying24]
  refine ⟨(And.intro (by kernel_rfl) (show (_:Nat) = _ from by kernel_rfl)),by simp [DDOC],fun ass h => ?_⟩
  rcases ass with _ | ⟨a0,_ | _⟩
  · exact absurd h (by simp [Fa])
  · obtain ⟨⟨x0,rfl,h0⟩,_⟩:=h
    exact ttOC_24 ⟨⟨x0⟩,rfl,h0⟩
  · exact absurd h (by simp [Fa])
theorem cloOC_22:Clo Tryz.prog TTOC DDOC 22:=by
  refine ⟨?_⟩
  unfold CloT
  rw [Tryz.underlying22]
  refine ⟨by simp [DDOC],true,by kernel_rfl,(of_decide_eq_true (by kernel_rfl)),.inl rfl,fun l hl h => ?_⟩
  obtain ⟨ys,rfl,hys⟩:=map_of (enc:=encGTable) (Q:=okGTable) l (fun x hx => by
    rcases h x hx with ⟨_,az,rfl,y,rfl,hy⟩ | ⟨h,_⟩
    · exact ⟨y,rfl,hy⟩
    · cases h)
  rw [List.length_map] at hl
  have hc:Tryz.prog.cellsOf 87 = 4:=by kernel_rfl
  rw [hc]
  exact ttOC_22 ⟨ys,rfl,hl,hys⟩
theorem cloOC_87:Clo Tryz.prog TTOC DDOC 87:=by
  refine ⟨?_⟩
  unfold CloT
  rw [Tryz.underlying87]
  refine ⟨(And.intro (by kernel_rfl) (And.intro (by kernel_rfl) (And.intro (by kernel_rfl) (And.intro (by kernel_rfl) (show (_:Nat) = _ from by kernel_rfl))))),by simp [DDOC],fun ass h => ?_⟩
  rcases ass with _ | ⟨a0,_ | ⟨a1,_ | ⟨a2,_ | ⟨a3,_ | _⟩⟩⟩⟩
  · exact absurd h (by simp [Fa])
  · exact absurd h (by simp [Fa])
  · exact absurd h (by simp [Fa])
  · exact absurd h (by simp [Fa])
  · obtain ⟨⟨x0,rfl,h0⟩,⟨x1,rfl,h1⟩,⟨x2,rfl,h2⟩,⟨x3,rfl,h3⟩,_⟩:=h
    exact ttOC_87 ⟨⟨x0,x1,x2,x3⟩,rfl,⟨h0,h1,h2,h3⟩⟩
  · exact absurd h (by simp [Fa])
theorem cloOC_9:Clo Tryz.prog TTOC DDOC 9:=by
  refine ⟨?_⟩
  unfold CloT
  rw [Tryz.underlying9]
  exact fun s h => ttOC_9 ⟨s,rfl,h⟩
theorem cloOC_84:Clo Tryz.prog TTOC DDOC 84:=by
  refine ⟨?_⟩
  unfold CloT
  rw [Tryz.underlying84]
  refine ⟨by simp [DDOC],true,by kernel_rfl,(of_decide_eq_true (by kernel_rfl)),.inl rfl,fun l hl h => ?_⟩
  obtain ⟨ys,rfl,hys⟩:=map_of (enc:=encGColumn) (Q:=okGColumn) l (fun x hx => by
    rcases h x hx with ⟨_,az,rfl,y,rfl,hy⟩ | ⟨h,_⟩
    · exact ⟨y,rfl,hy⟩
    · cases h)
  rw [List.length_map] at hl
  have hc:Tryz.prog.cellsOf 191 = 8:=by kernel_rfl
  rw [hc]
  exact ttOC_84 ⟨ys,rfl,hl,hys⟩
theorem cloOC_191:Clo Tryz.prog TTOC DDOC 191:=by
  refine ⟨?_⟩
  unfold CloT
  rw [Tryz.underlying191]
  refine ⟨(And.intro (by kernel_rfl) (And.intro (by kernel_rfl) (And.intro (by kernel_rfl) (And.intro (by kernel_rfl) (And.intro (by kernel_rfl) (And.intro (by kernel_rfl) (And.intro (by kernel_rfl) (And.intro (by kernel_rfl) (show (_:Nat) = _ from by kernel_rfl))))))))),by simp [DDOC],fun ass h => ?_⟩
  rcases ass with _ | ⟨a0,_ | ⟨a1,_ | ⟨a2,_ | ⟨a3,_ | ⟨a4,_ | ⟨a5,_ | ⟨a6,_ | ⟨a7,_ | _⟩⟩⟩⟩⟩⟩⟩⟩
  · exact absurd h (by simp [Fa])
  · exact absurd h (by simp [Fa])
  · exact absurd h (by simp [Fa])
  · exact absurd h (by simp [Fa])
  · exact absurd h (by simp [Fa])
  · exact absurd h (by simp [Fa])
  · exact absurd h (by simp [Fa])
  · exact absurd h (by simp [Fa])
  · obtain ⟨⟨x0,rfl,h0⟩,⟨x1,rfl,h1⟩,⟨x2,rfl,h2⟩,⟨x3,rfl,h3⟩,⟨x4,rfl,h4⟩,⟨x5,rfl,h5⟩,⟨x6,rfl,h6⟩,⟨x7,rfl,h7⟩,_⟩:=h
    exact ttOC_191 ⟨⟨x0,x1,x2,x3,x4,x5,x6,x7⟩,rfl,⟨h0,h1,h2,h3,h4,h5,h6,h7⟩⟩
  · exact absurd h (by simp [Fa])
theorem cloOC_3:Clo Tryz.prog TTOC DDOC 3:=by
  refine ⟨?_⟩
  unfold CloT
  rw [Tryz.underlying3]
  exact fun n h => ttOC_3 ⟨n,rfl,h⟩
theorem cloOC_4:Clo Tryz.prog TTOC DDOC 4:=by
  refine ⟨?_⟩
  unfold CloT
  rw [Tryz.underlying4]
  exact fun b => ttOC_4 ⟨b,rfl,trivial⟩
theorem cloOC_85:Clo Tryz.prog TTOC DDOC 85:=by
  refine ⟨?_⟩
  unfold CloT
  rw [Tryz.underlying85]
  refine ⟨by simp [DDOC],false,by kernel_rfl,(of_decide_eq_true (by kernel_rfl)),.inr (by kernel_rfl),fun l hl h => ?_⟩
  obtain ⟨ys,rfl,hys⟩:=map_of (enc:=encI) (Q:=okI .i64) l (fun x hx => by
    rcases h x hx with ⟨h,_⟩ | ⟨_,y,hy,hy2⟩
    · cases h
    · simp only [List.cons.injEq,and_true] at hy
      exact ⟨y,hy,hy2⟩)
  rw [List.length_map] at hl
  have hc:Tryz.prog.cellsOf 3 = 1:=by kernel_rfl
  rw [hc]
  exact ttOC_85 ⟨ys,rfl,hl,hys⟩
theorem cloOC_48:Clo Tryz.prog TTOC DDOC 48:=by
  refine ⟨?_⟩
  unfold CloT
  rw [Tryz.underlying48]
  refine ⟨(And.intro (by kernel_rfl) (And.intro (by kernel_rfl) (And.intro (by kernel_rfl) (And.intro (by kernel_rfl) (And.intro (by kernel_rfl) (And.intro (by kernel_rfl) (And.intro (by kernel_rfl) (And.intro (by kernel_rfl) (show (_:Nat) = _ from by kernel_rfl))))))))),by simp [DDOC],fun ass h => ?_⟩
  rcases ass with _ | ⟨a0,_ | ⟨a1,_ | ⟨a2,_ | ⟨a3,_ | ⟨a4,_ | ⟨a5,_ | ⟨a6,_ | ⟨a7,_ | _⟩⟩⟩⟩⟩⟩⟩⟩
  · exact absurd h (by simp [Fa])
  · exact absurd h (by simp [Fa])
  · exact absurd h (by simp [Fa])
  · exact absurd h (by simp [Fa])
  · exact absurd h (by simp [Fa])
  · exact absurd h (by simp [Fa])
  · exact absurd h (by simp [Fa])
  · exact absurd h (by simp [Fa])
  · obtain ⟨⟨x0,rfl,h0⟩,⟨x1,rfl,h1⟩,⟨x2,rfl,h2⟩,⟨x3,rfl,h3⟩,⟨x4,rfl,h4⟩,⟨x5,rfl,h5⟩,⟨x6,rfl,h6⟩,⟨x7,rfl,h7⟩,_⟩:=h
    exact ttOC_48 ⟨⟨x0,x1,x2,x3,x4,x5,x6,x7⟩,rfl,⟨h0,h1,h2,h3,h4,h5,h6,h7⟩⟩
  · exact absurd h (by simp [Fa])
theorem cloOC_43:Clo Tryz.prog TTOC DDOC 43:=by
  refine ⟨?_⟩
  unfold CloT
  rw [Tryz.underlying43]
  refine ⟨by simp [DDOC],true,by kernel_rfl,(of_decide_eq_true (by kernel_rfl)),.inl rfl,fun l hl h => ?_⟩
  obtain ⟨ys,rfl,hys⟩:=map_of (enc:=encGCond) (Q:=okGCond) l (fun x hx => by
    rcases h x hx with ⟨_,az,rfl,y,rfl,hy⟩ | ⟨h,_⟩
    · exact ⟨y,rfl,hy⟩
    · cases h)
  rw [List.length_map] at hl
  have hc:Tryz.prog.cellsOf 117 = 3:=by kernel_rfl
  rw [hc]
  exact ttOC_43 ⟨ys,rfl,hl,hys⟩
theorem cloOC_117:Clo Tryz.prog TTOC DDOC 117:=by
  refine ⟨?_⟩
  unfold CloT
  rw [Tryz.underlying117]
  refine ⟨(And.intro (by kernel_rfl) (And.intro (by kernel_rfl) (And.intro (by kernel_rfl) (show (_:Nat) = _ from by kernel_rfl)))),by simp [DDOC],fun ass h => ?_⟩
  rcases ass with _ | ⟨a0,_ | ⟨a1,_ | ⟨a2,_ | _⟩⟩⟩
  · exact absurd h (by simp [Fa])
  · exact absurd h (by simp [Fa])
  · exact absurd h (by simp [Fa])
  · obtain ⟨⟨x0,rfl,h0⟩,⟨x1,rfl,h1⟩,⟨x2,rfl,h2⟩,_⟩:=h
    exact ttOC_117 ⟨⟨x0,x1,x2⟩,rfl,⟨h0,h1,h2⟩⟩
  · exact absurd h (by simp [Fa])
theorem cloOC_115:Clo Tryz.prog TTOC DDOC 115:=by
  refine ⟨?_⟩
  unfold CloT
  rw [Tryz.underlying115]
  refine ⟨by simp [DDOC],true,by kernel_rfl,(of_decide_eq_true (by kernel_rfl)),.inl rfl,fun l hl h => ?_⟩
  obtain ⟨ys,rfl,hys⟩:=map_of (enc:=encGAtom) (Q:=okGAtom) l (fun x hx => by
    rcases h x hx with ⟨_,az,rfl,y,rfl,hy⟩ | ⟨h,_⟩
    · exact ⟨y,rfl,hy⟩
    · cases h)
  rw [List.length_map] at hl
  have hc:Tryz.prog.cellsOf 203 = 3:=by kernel_rfl
  rw [hc]
  exact ttOC_115 ⟨ys,rfl,hl,hys⟩
theorem cloOC_203:Clo Tryz.prog TTOC DDOC 203:=by
  refine ⟨?_⟩
  unfold CloT
  rw [Tryz.underlying203]
  refine ⟨(And.intro (by kernel_rfl) (And.intro (by kernel_rfl) (And.intro (by kernel_rfl) (show (_:Nat) = _ from by kernel_rfl)))),by simp [DDOC],fun ass h => ?_⟩
  rcases ass with _ | ⟨a0,_ | ⟨a1,_ | ⟨a2,_ | _⟩⟩⟩
  · exact absurd h (by simp [Fa])
  · exact absurd h (by simp [Fa])
  · exact absurd h (by simp [Fa])
  · obtain ⟨⟨x0,rfl,h0⟩,⟨x1,rfl,h1⟩,⟨x2,rfl,h2⟩,_⟩:=h
    exact ttOC_203 ⟨⟨x0,x1,x2⟩,rfl,⟨h0,h1,h2⟩⟩
  · exact absurd h (by simp [Fa])
theorem cloOC_44:Clo Tryz.prog TTOC DDOC 44:=by
  refine ⟨?_⟩
  unfold CloT
  rw [Tryz.underlying44]
  refine ⟨by simp [DDOC],true,by kernel_rfl,(of_decide_eq_true (by kernel_rfl)),.inl rfl,fun l hl h => ?_⟩
  obtain ⟨ys,rfl,hys⟩:=map_of (enc:=encGSet) (Q:=okGSet) l (fun x hx => by
    rcases h x hx with ⟨_,az,rfl,y,rfl,hy⟩ | ⟨h,_⟩
    · exact ⟨y,rfl,hy⟩
    · cases h)
  rw [List.length_map] at hl
  have hc:Tryz.prog.cellsOf 120 = 3:=by kernel_rfl
  rw [hc]
  exact ttOC_44 ⟨ys,rfl,hl,hys⟩
theorem cloOC_120:Clo Tryz.prog TTOC DDOC 120:=by
  refine ⟨?_⟩
  unfold CloT
  rw [Tryz.underlying120]
  refine ⟨(And.intro (by kernel_rfl) (And.intro (by kernel_rfl) (And.intro (by kernel_rfl) (show (_:Nat) = _ from by kernel_rfl)))),by simp [DDOC],fun ass h => ?_⟩
  rcases ass with _ | ⟨a0,_ | ⟨a1,_ | ⟨a2,_ | _⟩⟩⟩
  · exact absurd h (by simp [Fa])
  · exact absurd h (by simp [Fa])
  · exact absurd h (by simp [Fa])
  · obtain ⟨⟨x0,rfl,h0⟩,⟨x1,rfl,h1⟩,⟨x2,rfl,h2⟩,_⟩:=h
    exact ttOC_120 ⟨⟨x0,x1,x2⟩,rfl,⟨h0,h1,h2⟩⟩
  · exact absurd h (by simp [Fa])
theorem cloOC_46:Clo Tryz.prog TTOC DDOC 46:=by
  refine ⟨?_⟩
  unfold CloT
  rw [Tryz.underlying46]
  refine ⟨by simp [DDOC],false,by kernel_rfl,(of_decide_eq_true (by kernel_rfl)),.inr (by kernel_rfl),fun l hl h => ?_⟩
  obtain ⟨ys,rfl,hys⟩:=map_of (enc:=AV.str) (Q:=okS) l (fun x hx => by
    rcases h x hx with ⟨h,_⟩ | ⟨_,y,hy,hy2⟩
    · cases h
    · simp only [List.cons.injEq,and_true] at hy
      exact ⟨y,hy,hy2⟩)
  rw [List.length_map] at hl
  have hc:Tryz.prog.cellsOf 9 = 1:=by kernel_rfl
  rw [hc]
  exact ttOC_46 ⟨ys,rfl,hl,hys⟩
theorem cloOC_45:Clo Tryz.prog TTOC DDOC 45:=by
  refine ⟨?_⟩
  unfold CloT
  rw [Tryz.underlying45]
  refine ⟨by simp [DDOC],true,by kernel_rfl,(of_decide_eq_true (by kernel_rfl)),.inl rfl,fun l hl h => ?_⟩
  obtain ⟨ys,rfl,hys⟩:=map_of (enc:=encGMut) (Q:=okGMut) l (fun x hx => by
    rcases h x hx with ⟨_,az,rfl,y,rfl,hy⟩ | ⟨h,_⟩
    · exact ⟨y,rfl,hy⟩
    · cases h)
  rw [List.length_map] at hl
  have hc:Tryz.prog.cellsOf 122 = 3:=by kernel_rfl
  rw [hc]
  exact ttOC_45 ⟨ys,rfl,hl,hys⟩
theorem cloOC_122:Clo Tryz.prog TTOC DDOC 122:=by
  refine ⟨?_⟩
  unfold CloT
  rw [Tryz.underlying122]
  refine ⟨(And.intro (by kernel_rfl) (And.intro (by kernel_rfl) (And.intro (by kernel_rfl) (show (_:Nat) = _ from by kernel_rfl)))),by simp [DDOC],fun ass h => ?_⟩
  rcases ass with _ | ⟨a0,_ | ⟨a1,_ | ⟨a2,_ | _⟩⟩⟩
  · exact absurd h (by simp [Fa])
  · exact absurd h (by simp [Fa])
  · exact absurd h (by simp [Fa])
  · obtain ⟨⟨x0,rfl,h0⟩,⟨x1,rfl,h1⟩,⟨x2,rfl,h2⟩,_⟩:=h
    exact ttOC_122 ⟨⟨x0,x1,x2⟩,rfl,⟨h0,h1,h2⟩⟩
  · exact absurd h (by simp [Fa])
theorem cloOC:∀ t,DDOC t → Clo Tryz.prog TTOC DDOC t:=by
  intro t ht
  rcases List.mem_cons.1 ht with h | ht
  · rw [h]; exact cloOC_24
  rcases List.mem_cons.1 ht with h | ht
  · rw [h]; exact cloOC_22
  rcases List.mem_cons.1 ht with h | ht
  · rw [h]; exact cloOC_87
  rcases List.mem_cons.1 ht with h | ht
  · rw [h]; exact cloOC_9
  rcases List.mem_cons.1 ht with h | ht
  · rw [h]; exact cloOC_84
  rcases List.mem_cons.1 ht with h | ht
  · rw [h]; exact cloOC_191
  rcases List.mem_cons.1 ht with h | ht
  · rw [h]; exact cloOC_3
  rcases List.mem_cons.1 ht with h | ht
  · rw [h]; exact cloOC_4
  rcases List.mem_cons.1 ht with h | ht
  · rw [h]; exact cloOC_85
  rcases List.mem_cons.1 ht with h | ht
  · rw [h]; exact cloOC_48
  rcases List.mem_cons.1 ht with h | ht
  · rw [h]; exact cloOC_43
  rcases List.mem_cons.1 ht with h | ht
  · rw [h]; exact cloOC_117
  rcases List.mem_cons.1 ht with h | ht
  · rw [h]; exact cloOC_115
  rcases List.mem_cons.1 ht with h | ht
  · rw [h]; exact cloOC_203
  rcases List.mem_cons.1 ht with h | ht
  · rw [h]; exact cloOC_44
  rcases List.mem_cons.1 ht with h | ht
  · rw [h]; exact cloOC_120
  rcases List.mem_cons.1 ht with h | ht
  · rw [h]; exact cloOC_46
  rcases List.mem_cons.1 ht with h | ht
  · rw [h]; exact cloOC_45
  rcases List.mem_cons.1 ht with h | ht
  · rw [h]; exact cloOC_122
  exact absurd ht List.not_mem_nil
end Go.R
namespace Go.Proofs.YthejoafcjkoahaaGreat.fnExactOpCode
open Go.ChangeShapes Go.WideShapes Go.ChangeAt Go.RowKit Go.R
open Go.ChangeMaps (open_string shut_string)
set_option linter.unusedVariables false

theorem own:ownKnob Tryz.prog.godebug = none:=by kernel_rfl
theorem laidOut:laidOutB Tryz.prog = true:=by kernel_rfl

set_option maxRecDepth 100000 in
theorem lifted (os:Os) (started:os.Started) (H:Type) (enc:TypeId × Value → H) :
    ReturnsInHanded {} Tryz.checked os 4 .any (Rows.fnExactOpCodeSpec.pre6 enc Tryz.prog Tryz.f4 Rows.fnExactOpCodeRow.domain false) (Rows.fnExactOpCodeSpec.post enc Tryz.prog Tryz.f4 false true false false):=by
  refine returnsInHanded_of_change (C:=Tryz.checked) own started (by kernel_rfl) Tryz.func4
    (ChangeSpec.witness6 (enc:=enc) (C:=Tryz.checked) false ⟨#[],#[.agg #[.slice none 0 0],.agg #[.int .i64 0,.string ByteArray.empty,.string ByteArray.empty,.slice none 0 0,.slice none 0 0,.slice none 0 0,.slice none 0 0,.bool false]],[]⟩ 8 (by kernel_rfl) (by kernel_rfl) (by kernel_rfl) (by kernel_rfl)) ?_
  intro W base args ds gs before hval0 hW hcnd _
  have hval:∀ (j:Nat) t v,Tryz.f4.params[j]? = some t → args[j]? = some v → Value.okWide Tryz.prog W .any base t v:=hval0
  have hW':=hW
  obtain ⟨p,q,hA0,hV,rfl,hfz,hnd⟩:=hW
  have hA:DataW.TrodAll enc Tryz.prog W 0 (fun _ => true) true Tryz.f4.params.toList args.toList ds p:=hA0
  rw [Tryz.params4] at hA hval
  obtain ⟨v0,vs0,d0,ds0,p0,q0,hargs,rfl,rfl,h0,r0⟩:=trodAll_cons hA
  obtain ⟨v1,vs1,d1,ds1,p1,q1,rfl,rfl,rfl,h1,r1⟩:=trodAll_cons r0
  obtain ⟨rfl,rfl,rfl⟩:=trodAll_nil r1
  obtain rfl:args = #[v0,v1]:=by cases args; simp_all
  obtain ⟨rfl,rfl⟩:=trodVars_none hV
  have k0:=h0
  have lt0:∀ x ∈ p0,x.block < W.heap.size:=by obtain ⟨m,hm⟩:=k0; exact DataW.trod_lt m _ _ _ hm
  obtain ⟨az0,fp0,g0,t0⟩:=openA cloOC Tryz.underlying24 (by simp [DDOC]) (hval 0 24 v0 rfl rfl) h0
  obtain ⟨x0,rfl,ok0⟩:=t0
  have k1:=h1
  have lt1:∀ x ∈ p1,x.block < W.heap.size:=by obtain ⟨m,hm⟩:=k1; exact DataW.trod_lt m _ _ _ hm
  obtain ⟨az1,fp1,g1,t1⟩:=openA cloOC Tryz.underlying48 (by simp [DDOC]) (hval 1 48 v1 rfl rfl) h1
  obtain ⟨x1,rfl,ok1⟩:=t1
  clear hA0 hval0
  have hc:=w_laws_FnExactOpCode x0 x1 true (law_FnExactOpCode x0 x1 ok0 ok1)
  refine (flat_true hc (RepVs.cons g0 (RepVs.cons g1 RepVs.nil))).mono fun e W' ⟨he,bel⟩ => ?_
  subst he
  exact ⟨_,rfl,_,_,_,[],_,[],hW',trodAll_mk1 (shut_bool Tryz.underlying4 _),(trodAll_cons_mk (Below.trod laidOut (by kernel_rfl) (of_decide_eq_true (by kernel_rfl)) k0 bel lt0) (trodAll_cons_mk (Below.trod laidOut (by kernel_rfl) (of_decide_eq_true (by kernel_rfl)) k1 bel lt1) trodAll_mk0)),rfl,bel.frame _,fun h => by cases h⟩

theorem over:Rows.fnExactOpCodeRow.holds Tryz.pinned (OpenSpec.ofChange Rows.fnExactOpCodeSpec) :=
  OpenClaim.holds_of_wide 4 Tryz.f4 rfl rfl rfl rfl rfl rfl rfl ⟨rfl,rfl,rfl,rfl,rfl⟩ rfl rfl rfl rfl rfl (by kernel_rfl) Tryz.func4 (by kernel_rfl)
    (of_decide_eq_true (by kernel_rfl)) (by unfold Func.isWrapper; first | (rw [if_pos (by decide +kernel)]; kernel_rfl) | (rw [if_neg (by decide +kernel)]; exact ⟨rfl,rfl⟩))
    (fun os started H enc _ => lifted os started H enc)

theorem proved:Rows.FnExactOpCodeSaid:=over
#print axioms proved
end Go.Proofs.YthejoafcjkoahaaGreat.fnExactOpCode
