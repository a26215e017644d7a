/- 'FnExactLeaveAll': for every input the law returns true, and each argument reads behind the call as it read before. No condition. -/
import Derived.Test.YtdnjjfoooagphaaLAL
import Derived.WalkKit
import Derived.ProofKit
import Derived.OpenShut
import Derived.ShutString
import Derived.ChangeOld
import Derived.Below
set_option linter.all false
namespace Go.R
open Go Go.Proofs
set_option linter.unusedSimpArgs false
set_option maxHeartbeats 8000000
def TTLA (t : TypeId) (az : List AV) : Prop :=
  bif Nat.beq t 50 then ∃ x : (List GLock), az = [(.lst 2 (x.map encGLock))] ∧ (okL (okGLock)) x else
  bif Nat.beq t 141 then ∃ x : GLock, az = [(.str x.Name), (.lst 1 (x.Queue.map encI))] ∧ okGLock x else
  bif Nat.beq t 9 then ∃ x : Str, az = [(.str x)] ∧ (okS) x else
  bif Nat.beq t 123 then ∃ x : (List Int), az = [(.lst 1 (x.map encI))] ∧ (okL (okI .i64)) x else
  bif Nat.beq t 3 then ∃ x : Int, az = [(.int .i64 x)] ∧ (okI .i64) x else
  False
theorem ttLA_50 {az : List AV} (h : ∃ x : (List GLock), az = [(.lst 2 (x.map encGLock))] ∧ (okL (okGLock)) x) : TTLA 50 az := h
theorem ttLA_141 {az : List AV} (h : ∃ x : GLock, az = [(.str x.Name), (.lst 1 (x.Queue.map encI))] ∧ okGLock x) : TTLA 141 az := h
theorem ttLA_9 {az : List AV} (h : ∃ x : Str, az = [(.str x)] ∧ (okS) x) : TTLA 9 az := h
theorem ttLA_123 {az : List AV} (h : ∃ x : (List Int), az = [(.lst 1 (x.map encI))] ∧ (okL (okI .i64)) x) : TTLA 123 az := h
theorem ttLA_3 {az : List AV} (h : ∃ x : Int, az = [(.int .i64 x)] ∧ (okI .i64) x) : TTLA 3 az := h
def DDLA (t : TypeId) : Prop := t ∈ [50, 141, 9, 123, 3]
theorem cloLA_50 : Clo Try.prog TTLA DDLA 50 := by
  refine ⟨?_⟩
  unfold CloT
  rw [Try.underlying50]
  refine ⟨by simp [DDLA], true, by kernel_rfl, (of_decide_eq_true (by kernel_rfl)), .inl rfl, fun l hl h => ?_⟩
  obtain ⟨ys, rfl, hys⟩ := map_of (enc := encGLock) (Q := okGLock) l (fun x hx => by
    rcases h x hx with ⟨_, az, rfl, y, rfl, hy⟩ | ⟨h, _⟩
    · exact ⟨y, rfl, hy⟩
    · cases h)
  rw [List.length_map] at hl
  have hc : Try.prog.cellsOf 141 = 2 := by kernel_rfl
  rw [hc]
  exact ttLA_50 ⟨ys, rfl, hl, hys⟩
theorem cloLA_141 : Clo Try.prog TTLA DDLA 141 := by
  refine ⟨?_⟩
  unfold CloT
  rw [Try.underlying141]
  refine ⟨(And.intro (by kernel_rfl) (And.intro (by kernel_rfl) (show (_ : Nat) = _ from by kernel_rfl))), by simp [DDLA], fun ass h => ?_⟩
  rcases ass with _ | ⟨a0, _ | ⟨a1, _ | _⟩⟩
  · exact absurd h (by simp [Fa])
  · exact absurd h (by simp [Fa])
  · obtain ⟨⟨x0, rfl, h0⟩, ⟨x1, rfl, h1⟩, _⟩ := h
    exact ttLA_141 ⟨⟨x0, x1⟩, rfl, ⟨h0, h1⟩⟩
  · exact absurd h (by simp [Fa])
theorem cloLA_9 : Clo Try.prog TTLA DDLA 9 := by
  refine ⟨?_⟩
  unfold CloT
  rw [Try.underlying9]
  exact fun s h => ttLA_9 ⟨s, rfl, h⟩
theorem cloLA_123 : Clo Try.prog TTLA DDLA 123 := by
  refine ⟨?_⟩
  unfold CloT
  rw [Try.underlying123]
  refine ⟨by simp [DDLA], false, by kernel_rfl, (of_decide_eq_true (by kernel_rfl)), .inr (by kernel_rfl), fun l hl h => ?_⟩
  obtain ⟨ys, rfl, hys⟩ := map_of (enc := encI) (Q := okI .i64) l (fun x hx => by
    rcases h x hx with ⟨h, _⟩ | ⟨_, y, hy, hy2⟩
    · cases h
    · simp only [List.cons.injEq, and_true] at hy
      exact ⟨y, hy, hy2⟩)
  rw [List.length_map] at hl
  have hc : Try.prog.cellsOf 3 = 1 := by kernel_rfl
  rw [hc]
  exact ttLA_123 ⟨ys, rfl, hl, hys⟩
theorem cloLA_3 : Clo Try.prog TTLA DDLA 3 := by
  refine ⟨?_⟩
  unfold CloT
  rw [Try.underlying3]
  exact fun n h => ttLA_3 ⟨n, rfl, h⟩
theorem cloLA : ∀ t, DDLA t → Clo Try.prog TTLA DDLA t := by
  intro t ht
  rcases List.mem_cons.1 ht with h | ht
  · rw [h]; exact cloLA_50
  rcases List.mem_cons.1 ht with h | ht
  · rw [h]; exact cloLA_141
  rcases List.mem_cons.1 ht with h | ht
  · rw [h]; exact cloLA_9
  rcases List.mem_cons.1 ht with h | ht
  · rw [h]; exact cloLA_123
  rcases List.mem_cons.1 ht with h | ht
  · rw [h]; exact cloLA_3
  exact absurd ht List.not_mem_nil
end Go.R
namespace Go.Proofs.Ytdnjjfoooagphaa.fnExactLeaveAll
open Go.ChangeShapes Go.WideShapes Go.ChangeAt Go.RowKit Go.R
open Go.ChangeMaps (open_string shut_string)
set_option linter.unusedVariables false

theorem own : ownKnob Try.prog.godebug = none := by kernel_rfl
theorem laidOut : laidOutB Try.prog = true := by kernel_rfl

set_option maxRecDepth 100000 in
theorem lifted (os : Os) (started : os.Started) (H : Type) (enc : TypeId × Value → H) :
    ReturnsInHanded {} Try.checked os 6 .any (Rows.fnExactLeaveAllSpec.pre6 enc Try.prog Try.f6 Rows.fnExactLeaveAllRow.domain false) (Rows.fnExactLeaveAllSpec.post enc Try.prog Try.f6 false true false false) := by
  refine returnsInHanded_of_change (C := Try.checked) own started (by kernel_rfl) Try.func6
    (ChangeSpec.witness6 (enc := enc) (C := Try.checked) false ⟨#[], #[.slice none 0 0, .int .i64 0], []⟩ 8 (by kernel_rfl) (by kernel_rfl) (by kernel_rfl) (by kernel_rfl)) ?_
  intro W base args ds gs before hval0 hW hcnd _
  have hval : ∀ (j : Nat) t v, Try.f6.params[j]? = some t → args[j]? = some v → Value.okWide Try.prog W .any base t v := hval0
  have hW' := hW
  obtain ⟨p, q, hA0, hV, rfl, hfz, hnd⟩ := hW
  have hA : DataW.TrodAll enc Try.prog W 0 (fun _ => true) true Try.f6.params.toList args.toList ds p := hA0
  rw [Try.params6] at hA hval
  obtain ⟨v0, vs0, d0, ds0, p0, q0, hargs, rfl, rfl, h0, r0⟩ := trodAll_cons hA
  obtain ⟨v1, vs1, d1, ds1, p1, q1, rfl, rfl, rfl, h1, r1⟩ := trodAll_cons r0
  obtain ⟨rfl, rfl, rfl⟩ := trodAll_nil r1
  obtain rfl : args = #[v0, v1] := by cases args; simp_all
  obtain ⟨rfl, rfl⟩ := trodVars_none hV
  have k0 := h0
  have lt0 : ∀ x ∈ p0, x.block < W.heap.size := by obtain ⟨m, hm⟩ := k0; exact DataW.trod_lt m _ _ _ hm
  obtain ⟨a0, fp0, g0, t0⟩ := openC cloLA (by rw [Try.underlying50]; simp) (by simp [DDLA]) (hval 0 50 v0 rfl rfl) h0
  obtain ⟨x0, e0, ok0⟩ := t0
  simp only [List.cons.injEq, and_true] at e0
  subst e0
  have k1 := h1
  have lt1 : ∀ x ∈ p1, x.block < W.heap.size := by obtain ⟨m, hm⟩ := k1; exact DataW.trod_lt m _ _ _ hm
  obtain ⟨a1, fp1, g1, t1⟩ := openC cloLA (by rw [Try.underlying3]; simp) (by simp [DDLA]) (hval 1 3 v1 rfl rfl) h1
  obtain ⟨x1, e1, ok1⟩ := t1
  simp only [List.cons.injEq, and_true] at e1
  subst e1
  clear hA0 hval0
  have hc := w_laws_FnExactLeaveAll x0 x1 true (law_FnExactLeaveAll x0 x1 ok0 ok1)
  refine (flat_true hc (RepVs.cons g0 (RepVs.cons g1 RepVs.nil))).mono fun e W' ⟨he, bel⟩ => ?_
  subst he
  exact ⟨_, rfl, _, _, _, [], _, [], hW', trodAll_mk1 (shut_bool Try.underlying4 _), (trodAll_cons_mk (Below.trod laidOut (by kernel_rfl) (of_decide_eq_true (by kernel_rfl)) k0 bel lt0) (trodAll_cons_mk (Below.trod laidOut (by kernel_rfl) (of_decide_eq_true (by kernel_rfl)) k1 bel lt1) trodAll_mk0)), rfl, bel.frame _, fun h => by cases h⟩

theorem and2 {a b : Bool} (h : a = true) (g : b = true) : (a && b) = true := by rw [h, g]; rfl
theorem j0 : (Rows.fnExactLeaveAllRow.wf (OpenSpec.ofChange Rows.fnExactLeaveAllSpec)) = true := by kernel_rfl
theorem j1 : (laidOutB Try.prog) = true := laidOut
theorem j2 : (mapsRowed Try.prog) = true := by kernel_rfl
theorem j3 : (Try.f6.params.all (Program.readableRec Try.prog ·)) = true := by kernel_rfl
theorem j4 : (namedTie Try.prog Rows.fnExactLeaveAllRow.named Rows.fnExactLeaveAllSpec.vars) = true := by kernel_rfl
theorem j5 : ((Rows.fnExactLeaveAllRow.stops == [])) = true := by kernel_rfl
theorem j6 : ((Try.prog.stops == [])) = true := by kernel_rfl
theorem j7 : ((Rows.fnExactLeaveAllRow.knobs == [])) = true := by kernel_rfl
theorem j8 : ((Try.prog.stopKnobs == [])) = true := by kernel_rfl
theorem j9 : ((Rows.fnExactLeaveAllRow.inPlace == Try.prog.inPlace 6)) = true := by kernel_rfl
theorem j10 : ((Rows.fnExactLeaveAllRow.unfollowed == Try.prog.unfollowed 6)) = true := by kernel_rfl
theorem j11 : ((Rows.fnExactLeaveAllRow.recurses == Try.prog.recurses 6)) = true := by kernel_rfl
theorem j12 : ((Rows.fnExactLeaveAllRow.named == Try.prog.varsNamed 6)) = true := by kernel_rfl
theorem j13 : ((Rows.fnExactLeaveAllRow.maps == (Try.f6.params.toList ++ Rows.fnExactLeaveAllSpec.plain.varTypes Try.prog).any (Try.prog.mapsRec ·))) = true := by kernel_rfl
theorem j14 : ((Rows.fnExactLeaveAllRow.ifaces == (Try.f6.params.toList ++ Rows.fnExactLeaveAllSpec.plain.varTypes Try.prog).any (Try.prog.ifacesRec ·))) = true := by kernel_rfl
theorem j15 : ((Rows.fnExactLeaveAllRow.mapsOut == Try.prog.mapsAmong Try.f6.resultTypes.toList)) = true := by kernel_rfl
theorem j16 : ((Rows.fnExactLeaveAllRow.loops == (Try.f6.params.toList ++ Rows.fnExactLeaveAllSpec.plain.varTypes Try.prog).any (Try.prog.loopsFrom ·))) = true := by kernel_rfl
theorem j17 : ((Rows.fnExactLeaveAllRow.wideKeys == (Try.f6.params.toList ++ Rows.fnExactLeaveAllSpec.plain.varTypes Try.prog ++ Try.f6.resultTypes.toList).any (Try.prog.wideKeysFrom ·))) = true := by kernel_rfl
theorem j18 : (Rows.fnExactLeaveAllSpec.vars.all (Try.prog.varReadable ·)) = true := by kernel_rfl
theorem j19 : (Try.f6.resultTypes.all (fun t => Try.prog.readableRec t && decide (t < Try.prog.types.size))) = true := by kernel_rfl
theorem j20 : ((Rows.fnExactLeaveAllRow.ifacesOut == Try.f6.resultTypes.toList.any (Try.prog.ifacesRec ·))) = true := by kernel_rfl
theorem j21 : ((Rows.fnExactLeaveAllRow.loopsOut == Try.f6.resultTypes.toList.any (Try.prog.loopsFrom ·))) = true := by kernel_rfl
theorem j22 : ((Rows.fnExactLeaveAllRow.plainKeys == Try.prog.plainKeys)) = true := by kernel_rfl
theorem j23 : (Rows.fnExactLeaveAllRow.shortTexts.isNone) = true := by kernel_rfl
theorem j24 : (Try.prog.stopsHeard) = true := by kernel_rfl
theorem j25 : (Try.prog.mayEnter) = true := by kernel_rfl
theorem j26 : ((Rows.fnExactLeaveAllRow.lifted == Try.prog.liftsFinal)) = true := by kernel_rfl
theorem j27 : ((Try.prog.make == some Rows.fnExactLeaveAllRow.make)) = true := by kernel_rfl
theorem j28 : ((Rows.fnExactLeaveAllRow.kinds == (if Rows.fnExactLeaveAllRow.domain.isEmpty then [] else Try.f6.params.toList.map fun t => match Try.prog.underlying t with | some (.int k) => some k | _ => none))) = true := by kernel_rfl
theorem j29 : ((Rows.fnExactLeaveAllRow.pinned == Rows.fnExactLeaveAllRow.pinnedBy)) = true := by kernel_rfl
theorem j30 : ((Rows.fnExactLeaveAllRow.veiled == (Try.f6.params.toList ++ Rows.fnExactLeaveAllSpec.plain.varTypes Try.prog ++ Try.f6.resultTypes.toList).any (Try.prog.veiledRec ·))) = true := by kernel_rfl
theorem j31 : (Rows.fnExactLeaveAllRow.veiledFits Try.prog Try.f6.params.toList (Try.f6.params.toList ++ Rows.fnExactLeaveAllSpec.plain.varTypes Try.prog ++ Try.f6.resultTypes.toList)) = true := by kernel_rfl
set_option maxRecDepth 100000 in
theorem closed : joinedFacts Try.prog 6 Try.f6 Rows.fnExactLeaveAllSpec Rows.fnExactLeaveAllRow = true := (and2 (and2 (and2 (and2 (and2 (and2 (and2 (and2 (and2 (and2 (and2 (and2 (and2 (and2 (and2 (and2 (and2 (and2 (and2 (and2 (and2 (and2 (and2 (and2 (and2 (and2 (and2 (and2 (and2 (and2 (and2 j0 j1) j2) j3) j4) j5) j6) j7) j8) j9) j10) j11) j12) j13) j14) j15) j16) j17) j18) j19) j20) j21) j22) j23) j24) j25) j26) j27) j28) j29) j30) j31)
theorem named : Try.prog.funcNamed Rows.fnExactLeaveAllRow.func = some 6 := by kernel_rfl
theorem inst : Try.f6.isInstance Try.prog Rows.fnExactLeaveAllRow.origin Rows.fnExactLeaveAllRow.targs := of_decide_eq_true (by kernel_rfl)
theorem wrap : Try.f6.isWrapper Try.prog Rows.fnExactLeaveAllRow.wrapper Rows.fnExactLeaveAllRow.mainSum := by unfold Func.isWrapper; first | (rw [if_pos (by decide +kernel)]; kernel_rfl) | (rw [if_neg (by decide +kernel)]; exact ⟨rfl, rfl⟩)
theorem over : Rows.fnExactLeaveAllRow.holds Try.pinned (OpenSpec.ofChange Rows.fnExactLeaveAllSpec) :=
  OpenClaim.holds_of_wide 6 Try.f6 rfl rfl rfl rfl rfl rfl rfl ⟨rfl, rfl, rfl, rfl, rfl⟩ rfl rfl rfl rfl rfl named Try.func6 closed inst wrap
    (fun os started H enc _ => lifted os started H enc)

theorem proved : Rows.FnExactLeaveAllSaid := over
#print axioms proved
end Go.Proofs.Ytdnjjfoooagphaa.fnExactLeaveAll
