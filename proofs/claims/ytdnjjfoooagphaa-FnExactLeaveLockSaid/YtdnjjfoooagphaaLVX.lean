/- 'FnExactLeaveLock': for every input the law returns true, and each argument reads behind the call as it read before. No condition. -/
import Derived.Test.YtdnjjfoooagphaaLVL
import Derived.WalkKit
import Derived.ProofKit
import Derived.OpenShut
import Derived.ShutString
import Derived.ChangeOld
import Derived.Below
set_option linter.all false
namespace Go.R
open Go Go.Proofs
set_option linter.unusedSimpArgs false
set_option maxHeartbeats 8000000
def TTLV (t : TypeId) (az : List AV) : Prop :=
  bif Nat.beq t 50 then ∃ x : (List GLock), az = [(.lst 2 (x.map encGLock))] ∧ (okL (okGLock)) x else
  bif Nat.beq t 141 then ∃ x : GLock, az = [(.str x.Name), (.lst 1 (x.Queue.map encI))] ∧ okGLock x else
  bif Nat.beq t 9 then ∃ x : Str, az = [(.str x)] ∧ (okS) x else
  bif Nat.beq t 123 then ∃ x : (List Int), az = [(.lst 1 (x.map encI))] ∧ (okL (okI .i64)) x else
  bif Nat.beq t 3 then ∃ x : Int, az = [(.int .i64 x)] ∧ (okI .i64) x else
  False
theorem ttLV_50 {az : List AV} (h : ∃ x : (List GLock), az = [(.lst 2 (x.map encGLock))] ∧ (okL (okGLock)) x) : TTLV 50 az := h
theorem ttLV_141 {az : List AV} (h : ∃ x : GLock, az = [(.str x.Name), (.lst 1 (x.Queue.map encI))] ∧ okGLock x) : TTLV 141 az := h
theorem ttLV_9 {az : List AV} (h : ∃ x : Str, az = [(.str x)] ∧ (okS) x) : TTLV 9 az := h
theorem ttLV_123 {az : List AV} (h : ∃ x : (List Int), az = [(.lst 1 (x.map encI))] ∧ (okL (okI .i64)) x) : TTLV 123 az := h
theorem ttLV_3 {az : List AV} (h : ∃ x : Int, az = [(.int .i64 x)] ∧ (okI .i64) x) : TTLV 3 az := h
def DDLV (t : TypeId) : Prop := t ∈ [50, 141, 9, 123, 3]
theorem cloLV_50 : Clo Try.prog TTLV DDLV 50 := by
  refine ⟨?_⟩
  unfold CloT
  rw [Try.underlying50]
  refine ⟨by simp [DDLV], true, by kernel_rfl, (of_decide_eq_true (by kernel_rfl)), .inl rfl, fun l hl h => ?_⟩
  obtain ⟨ys, rfl, hys⟩ := map_of (enc := encGLock) (Q := okGLock) l (fun x hx => by
    rcases h x hx with ⟨_, az, rfl, y, rfl, hy⟩ | ⟨h, _⟩
    · exact ⟨y, rfl, hy⟩
    · cases h)
  rw [List.length_map] at hl
  have hc : Try.prog.cellsOf 141 = 2 := by kernel_rfl
  rw [hc]
  exact ttLV_50 ⟨ys, rfl, hl, hys⟩
theorem cloLV_141 : Clo Try.prog TTLV DDLV 141 := by
  refine ⟨?_⟩
  unfold CloT
  rw [Try.underlying141]
  refine ⟨(And.intro (by kernel_rfl) (And.intro (by kernel_rfl) (show (_ : Nat) = _ from by kernel_rfl))), by simp [DDLV], fun ass h => ?_⟩
  rcases ass with _ | ⟨a0, _ | ⟨a1, _ | _⟩⟩
  · exact absurd h (by simp [Fa])
  · exact absurd h (by simp [Fa])
  · obtain ⟨⟨x0, rfl, h0⟩, ⟨x1, rfl, h1⟩, _⟩ := h
    exact ttLV_141 ⟨⟨x0, x1⟩, rfl, ⟨h0, h1⟩⟩
  · exact absurd h (by simp [Fa])
theorem cloLV_9 : Clo Try.prog TTLV DDLV 9 := by
  refine ⟨?_⟩
  unfold CloT
  rw [Try.underlying9]
  exact fun s h => ttLV_9 ⟨s, rfl, h⟩
theorem cloLV_123 : Clo Try.prog TTLV DDLV 123 := by
  refine ⟨?_⟩
  unfold CloT
  rw [Try.underlying123]
  refine ⟨by simp [DDLV], false, by kernel_rfl, (of_decide_eq_true (by kernel_rfl)), .inr (by kernel_rfl), fun l hl h => ?_⟩
  obtain ⟨ys, rfl, hys⟩ := map_of (enc := encI) (Q := okI .i64) l (fun x hx => by
    rcases h x hx with ⟨h, _⟩ | ⟨_, y, hy, hy2⟩
    · cases h
    · simp only [List.cons.injEq, and_true] at hy
      exact ⟨y, hy, hy2⟩)
  rw [List.length_map] at hl
  have hc : Try.prog.cellsOf 3 = 1 := by kernel_rfl
  rw [hc]
  exact ttLV_123 ⟨ys, rfl, hl, hys⟩
theorem cloLV_3 : Clo Try.prog TTLV DDLV 3 := by
  refine ⟨?_⟩
  unfold CloT
  rw [Try.underlying3]
  exact fun n h => ttLV_3 ⟨n, rfl, h⟩
theorem cloLV : ∀ t, DDLV t → Clo Try.prog TTLV DDLV t := by
  intro t ht
  rcases List.mem_cons.1 ht with h | ht
  · rw [h]; exact cloLV_50
  rcases List.mem_cons.1 ht with h | ht
  · rw [h]; exact cloLV_141
  rcases List.mem_cons.1 ht with h | ht
  · rw [h]; exact cloLV_9
  rcases List.mem_cons.1 ht with h | ht
  · rw [h]; exact cloLV_123
  rcases List.mem_cons.1 ht with h | ht
  · rw [h]; exact cloLV_3
  exact absurd ht List.not_mem_nil
end Go.R
namespace Go.Proofs.Ytdnjjfoooagphaa.fnExactLeaveLock
open Go.ChangeShapes Go.WideShapes Go.ChangeAt Go.RowKit Go.R
open Go.ChangeMaps (open_string shut_string)
set_option linter.unusedVariables false

theorem own : ownKnob Try.prog.godebug = none := by kernel_rfl
theorem laidOut : laidOutB Try.prog = true := by kernel_rfl

set_option maxRecDepth 100000 in
theorem lifted (os : Os) (started : os.Started) (H : Type) (enc : TypeId × Value → H) :
    ReturnsInHanded {} Try.checked os 5 .any (Rows.fnExactLeaveLockSpec.pre6 enc Try.prog Try.f5 Rows.fnExactLeaveLockRow.domain false) (Rows.fnExactLeaveLockSpec.post enc Try.prog Try.f5 false true false false) := by
  refine returnsInHanded_of_change (C := Try.checked) own started (by kernel_rfl) Try.func5
    (ChangeSpec.witness6 (enc := enc) (C := Try.checked) false ⟨#[], #[.slice none 0 0, .int .i64 0, .string ByteArray.empty], []⟩ 8 (by kernel_rfl) (by kernel_rfl) (by kernel_rfl) (by kernel_rfl)) ?_
  intro W base args ds gs before hval0 hW hcnd _
  have hval : ∀ (j : Nat) t v, Try.f5.params[j]? = some t → args[j]? = some v → Value.okWide Try.prog W .any base t v := hval0
  have hW' := hW
  obtain ⟨p, q, hA0, hV, rfl, hfz, hnd⟩ := hW
  have hA : DataW.TrodAll enc Try.prog W 0 (fun _ => true) true Try.f5.params.toList args.toList ds p := hA0
  rw [Try.params5] at hA hval
  obtain ⟨v0, vs0, d0, ds0, p0, q0, hargs, rfl, rfl, h0, r0⟩ := trodAll_cons hA
  obtain ⟨v1, vs1, d1, ds1, p1, q1, rfl, rfl, rfl, h1, r1⟩ := trodAll_cons r0
  obtain ⟨v2, vs2, d2, ds2, p2, q2, rfl, rfl, rfl, h2, r2⟩ := trodAll_cons r1
  obtain ⟨rfl, rfl, rfl⟩ := trodAll_nil r2
  obtain rfl : args = #[v0, v1, v2] := by cases args; simp_all
  obtain ⟨rfl, rfl⟩ := trodVars_none hV
  have k0 := h0
  have lt0 : ∀ x ∈ p0, x.block < W.heap.size := by obtain ⟨m, hm⟩ := k0; exact DataW.trod_lt m _ _ _ hm
  obtain ⟨a0, fp0, g0, t0⟩ := openC cloLV (by rw [Try.underlying50]; simp) (by simp [DDLV]) (hval 0 50 v0 rfl rfl) h0
  obtain ⟨x0, e0, ok0⟩ := t0
  simp only [List.cons.injEq, and_true] at e0
  subst e0
  have k1 := h1
  have lt1 : ∀ x ∈ p1, x.block < W.heap.size := by obtain ⟨m, hm⟩ := k1; exact DataW.trod_lt m _ _ _ hm
  obtain ⟨a1, fp1, g1, t1⟩ := openC cloLV (by rw [Try.underlying3]; simp) (by simp [DDLV]) (hval 1 3 v1 rfl rfl) h1
  obtain ⟨x1, e1, ok1⟩ := t1
  simp only [List.cons.injEq, and_true] at e1
  subst e1
  have k2 := h2
  have lt2 : ∀ x ∈ p2, x.block < W.heap.size := by obtain ⟨m, hm⟩ := k2; exact DataW.trod_lt m _ _ _ hm
  obtain ⟨a2, fp2, g2, t2⟩ := openC cloLV (by rw [Try.underlying9]; simp) (by simp [DDLV]) (hval 2 9 v2 rfl rfl) h2
  obtain ⟨x2, e2, ok2⟩ := t2
  simp only [List.cons.injEq, and_true] at e2
  subst e2
  clear hA0 hval0
  have hc := w_laws_FnExactLeaveLock x0 x1 x2 true (law_FnExactLeaveLock x0 x1 x2 ok0 ok1 ok2)
  refine (flat_true hc (RepVs.cons g0 (RepVs.cons g1 (RepVs.cons g2 RepVs.nil)))).mono fun e W' ⟨he, bel⟩ => ?_
  subst he
  exact ⟨_, rfl, _, _, _, [], _, [], hW', trodAll_mk1 (shut_bool Try.underlying4 _), (trodAll_cons_mk (Below.trod laidOut (by kernel_rfl) (of_decide_eq_true (by kernel_rfl)) k0 bel lt0) (trodAll_cons_mk (Below.trod laidOut (by kernel_rfl) (of_decide_eq_true (by kernel_rfl)) k1 bel lt1) (trodAll_cons_mk (Below.trod laidOut (by kernel_rfl) (of_decide_eq_true (by kernel_rfl)) k2 bel lt2) trodAll_mk0))), rfl, bel.frame _, fun h => by cases h⟩

theorem and2 {a b : Bool} (h : a = true) (g : b = true) : (a && b) = true := by rw [h, g]; rfl
theorem j0 : (Rows.fnExactLeaveLockRow.wf (OpenSpec.ofChange Rows.fnExactLeaveLockSpec)) = true := by kernel_rfl
theorem j1 : (laidOutB Try.prog) = true := laidOut
theorem j2 : (mapsRowed Try.prog) = true := by kernel_rfl
theorem j3 : (Try.f5.params.all (Program.readableRec Try.prog ·)) = true := by kernel_rfl
theorem j4 : (namedTie Try.prog Rows.fnExactLeaveLockRow.named Rows.fnExactLeaveLockSpec.vars) = true := by kernel_rfl
theorem j5 : ((Rows.fnExactLeaveLockRow.stops == [])) = true := by kernel_rfl
theorem j6 : ((Try.prog.stops == [])) = true := by kernel_rfl
theorem j7 : ((Rows.fnExactLeaveLockRow.knobs == [])) = true := by kernel_rfl
theorem j8 : ((Try.prog.stopKnobs == [])) = true := by kernel_rfl
theorem j9 : ((Rows.fnExactLeaveLockRow.inPlace == Try.prog.inPlace 5)) = true := by kernel_rfl
theorem j10 : ((Rows.fnExactLeaveLockRow.unfollowed == Try.prog.unfollowed 5)) = true := by kernel_rfl
theorem j11 : ((Rows.fnExactLeaveLockRow.recurses == Try.prog.recurses 5)) = true := by kernel_rfl
theorem j12 : ((Rows.fnExactLeaveLockRow.named == Try.prog.varsNamed 5)) = true := by kernel_rfl
theorem j13 : ((Rows.fnExactLeaveLockRow.maps == (Try.f5.params.toList ++ Rows.fnExactLeaveLockSpec.plain.varTypes Try.prog).any (Try.prog.mapsRec ·))) = true := by kernel_rfl
theorem j14 : ((Rows.fnExactLeaveLockRow.ifaces == (Try.f5.params.toList ++ Rows.fnExactLeaveLockSpec.plain.varTypes Try.prog).any (Try.prog.ifacesRec ·))) = true := by kernel_rfl
theorem j15 : ((Rows.fnExactLeaveLockRow.mapsOut == Try.prog.mapsAmong Try.f5.resultTypes.toList)) = true := by kernel_rfl
theorem j16 : ((Rows.fnExactLeaveLockRow.loops == (Try.f5.params.toList ++ Rows.fnExactLeaveLockSpec.plain.varTypes Try.prog).any (Try.prog.loopsFrom ·))) = true := by kernel_rfl
theorem j17 : ((Rows.fnExactLeaveLockRow.wideKeys == (Try.f5.params.toList ++ Rows.fnExactLeaveLockSpec.plain.varTypes Try.prog ++ Try.f5.resultTypes.toList).any (Try.prog.wideKeysFrom ·))) = true := by kernel_rfl
theorem j18 : (Rows.fnExactLeaveLockSpec.vars.all (Try.prog.varReadable ·)) = true := by kernel_rfl
theorem j19 : (Try.f5.resultTypes.all (fun t => Try.prog.readableRec t && decide (t < Try.prog.types.size))) = true := by kernel_rfl
theorem j20 : ((Rows.fnExactLeaveLockRow.ifacesOut == Try.f5.resultTypes.toList.any (Try.prog.ifacesRec ·))) = true := by kernel_rfl
theorem j21 : ((Rows.fnExactLeaveLockRow.loopsOut == Try.f5.resultTypes.toList.any (Try.prog.loopsFrom ·))) = true := by kernel_rfl
theorem j22 : ((Rows.fnExactLeaveLockRow.plainKeys == Try.prog.plainKeys)) = true := by kernel_rfl
theorem j23 : (Rows.fnExactLeaveLockRow.shortTexts.isNone) = true := by kernel_rfl
theorem j24 : (Try.prog.stopsHeard) = true := by kernel_rfl
theorem j25 : (Try.prog.mayEnter) = true := by kernel_rfl
theorem j26 : ((Rows.fnExactLeaveLockRow.lifted == Try.prog.liftsFinal)) = true := by kernel_rfl
theorem j27 : ((Try.prog.make == some Rows.fnExactLeaveLockRow.make)) = true := by kernel_rfl
theorem j28 : ((Rows.fnExactLeaveLockRow.kinds == (if Rows.fnExactLeaveLockRow.domain.isEmpty then [] else Try.f5.params.toList.map fun t => match Try.prog.underlying t with | some (.int k) => some k | _ => none))) = true := by kernel_rfl
theorem j29 : ((Rows.fnExactLeaveLockRow.pinned == Rows.fnExactLeaveLockRow.pinnedBy)) = true := by kernel_rfl
theorem j30 : ((Rows.fnExactLeaveLockRow.veiled == (Try.f5.params.toList ++ Rows.fnExactLeaveLockSpec.plain.varTypes Try.prog ++ Try.f5.resultTypes.toList).any (Try.prog.veiledRec ·))) = true := by kernel_rfl
theorem j31 : (Rows.fnExactLeaveLockRow.veiledFits Try.prog Try.f5.params.toList (Try.f5.params.toList ++ Rows.fnExactLeaveLockSpec.plain.varTypes Try.prog ++ Try.f5.resultTypes.toList)) = true := by kernel_rfl
set_option maxRecDepth 100000 in
theorem closed : joinedFacts Try.prog 5 Try.f5 Rows.fnExactLeaveLockSpec Rows.fnExactLeaveLockRow = true := (and2 (and2 (and2 (and2 (and2 (and2 (and2 (and2 (and2 (and2 (and2 (and2 (and2 (and2 (and2 (and2 (and2 (and2 (and2 (and2 (and2 (and2 (and2 (and2 (and2 (and2 (and2 (and2 (and2 (and2 (and2 j0 j1) j2) j3) j4) j5) j6) j7) j8) j9) j10) j11) j12) j13) j14) j15) j16) j17) j18) j19) j20) j21) j22) j23) j24) j25) j26) j27) j28) j29) j30) j31)
theorem named : Try.prog.funcNamed Rows.fnExactLeaveLockRow.func = some 5 := by kernel_rfl
theorem inst : Try.f5.isInstance Try.prog Rows.fnExactLeaveLockRow.origin Rows.fnExactLeaveLockRow.targs := of_decide_eq_true (by kernel_rfl)
theorem wrap : Try.f5.isWrapper Try.prog Rows.fnExactLeaveLockRow.wrapper Rows.fnExactLeaveLockRow.mainSum := by unfold Func.isWrapper; first | (rw [if_pos (by decide +kernel)]; kernel_rfl) | (rw [if_neg (by decide +kernel)]; exact ⟨rfl, rfl⟩)
theorem over : Rows.fnExactLeaveLockRow.holds Try.pinned (OpenSpec.ofChange Rows.fnExactLeaveLockSpec) :=
  OpenClaim.holds_of_wide 5 Try.f5 rfl rfl rfl rfl rfl rfl rfl ⟨rfl, rfl, rfl, rfl, rfl⟩ rfl rfl rfl rfl rfl named Try.func5 closed inst wrap
    (fun os started H enc _ => lifted os started H enc)

theorem proved : Rows.FnExactLeaveLockSaid := over
#print axioms proved
end Go.Proofs.Ytdnjjfoooagphaa.fnExactLeaveLock
