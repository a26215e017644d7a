/- 'FnExactApplyUpdates': for every input the law returns true, and each argument reads behind the call as it read before. No condition. -/
import Derived.Test.YthneidgpgfgecaaAPUL
import Derived.WalkKit
import Derived.ProofKit
import Derived.OpenShut
import Derived.ShutString
import Derived.ChangeOld
import Derived.Below
set_option linter.all false
namespace Go.R
open Go Go.Proofs
set_option linter.unusedSimpArgs false
set_option maxHeartbeats 8000000
def TTAPU (t : TypeId) (az : List AV) : Prop :=
  bif Nat.beq t 22 then ∃ x : (List GRow), az = [(.lst 2 (x.map encGRow))] ∧ (okL (okGRow)) x else
  bif Nat.beq t 62 then ∃ x : GRow, az = [(.int .i64 x.Id), (.lst 1 (x.Cells.map (encL 3 encGAtom)))] ∧ okGRow x else
  bif Nat.beq t 3 then ∃ x : Int, az = [(.int .i64 x)] ∧ (okI .i64) x else
  bif Nat.beq t 60 then ∃ x : (List (List GAtom)), az = [(.lst 1 (x.map (encL 3 encGAtom)))] ∧ (okL (okL (okGAtom))) x else
  bif Nat.beq t 125 then ∃ x : (List GAtom), az = [(.lst 3 (x.map encGAtom))] ∧ (okL (okGAtom)) x else
  bif Nat.beq t 142 then ∃ x : GAtom, az = [(.int .i64 x.Kind), (.int .i64 x.N), (.str x.T)] ∧ okGAtom x else
  bif Nat.beq t 9 then ∃ x : Str, az = [(.str x)] ∧ (okS) x else
  bif Nat.beq t 23 then ∃ x : (List GUpdate), az = [(.lst 5 (x.map encGUpdate))] ∧ (okL (okGUpdate)) x else
  bif Nat.beq t 65 then ∃ x : GUpdate, az = [(.int .i64 x.Id), (.int .i64 x.Old.Id), (.lst 1 (x.Old.Cells.map (encL 3 encGAtom))), (.int .i64 x.New.Id), (.lst 1 (x.New.Cells.map (encL 3 encGAtom)))] ∧ okGUpdate x else
  False
theorem ttAPU_22 {az : List AV} (h : ∃ x : (List GRow), az = [(.lst 2 (x.map encGRow))] ∧ (okL (okGRow)) x) : TTAPU 22 az := h
theorem ttAPU_62 {az : List AV} (h : ∃ x : GRow, az = [(.int .i64 x.Id), (.lst 1 (x.Cells.map (encL 3 encGAtom)))] ∧ okGRow x) : TTAPU 62 az := h
theorem ttAPU_3 {az : List AV} (h : ∃ x : Int, az = [(.int .i64 x)] ∧ (okI .i64) x) : TTAPU 3 az := h
theorem ttAPU_60 {az : List AV} (h : ∃ x : (List (List GAtom)), az = [(.lst 1 (x.map (encL 3 encGAtom)))] ∧ (okL (okL (okGAtom))) x) : TTAPU 60 az := h
theorem ttAPU_125 {az : List AV} (h : ∃ x : (List GAtom), az = [(.lst 3 (x.map encGAtom))] ∧ (okL (okGAtom)) x) : TTAPU 125 az := h
theorem ttAPU_142 {az : List AV} (h : ∃ x : GAtom, az = [(.int .i64 x.Kind), (.int .i64 x.N), (.str x.T)] ∧ okGAtom x) : TTAPU 142 az := h
theorem ttAPU_9 {az : List AV} (h : ∃ x : Str, az = [(.str x)] ∧ (okS) x) : TTAPU 9 az := h
theorem ttAPU_23 {az : List AV} (h : ∃ x : (List GUpdate), az = [(.lst 5 (x.map encGUpdate))] ∧ (okL (okGUpdate)) x) : TTAPU 23 az := h
theorem ttAPU_65 {az : List AV} (h : ∃ x : GUpdate, az = [(.int .i64 x.Id), (.int .i64 x.Old.Id), (.lst 1 (x.Old.Cells.map (encL 3 encGAtom))), (.int .i64 x.New.Id), (.lst 1 (x.New.Cells.map (encL 3 encGAtom)))] ∧ okGUpdate x) : TTAPU 65 az := h
def DDAPU (t : TypeId) : Prop := t ∈ [22, 62, 3, 60, 125, 142, 9, 23, 65]
theorem cloAPU_22 : Clo Try.prog TTAPU DDAPU 22 := by
  refine ⟨?_⟩
  unfold CloT
  rw [Try.underlying22]
  refine ⟨by simp [DDAPU], true, by kernel_rfl, (of_decide_eq_true (by kernel_rfl)), .inl rfl, fun l hl h => ?_⟩
  obtain ⟨ys, rfl, hys⟩ := map_of (enc := encGRow) (Q := okGRow) l (fun x hx => by
    rcases h x hx with ⟨_, az, rfl, y, rfl, hy⟩ | ⟨h, _⟩
    · exact ⟨y, rfl, hy⟩
    · cases h)
  rw [List.length_map] at hl
  have hc : Try.prog.cellsOf 62 = 2 := by kernel_rfl
  rw [hc]
  exact ttAPU_22 ⟨ys, rfl, hl, hys⟩
theorem cloAPU_62 : Clo Try.prog TTAPU DDAPU 62 := by
  refine ⟨?_⟩
  unfold CloT
  rw [Try.underlying62]
  refine ⟨(And.intro (by kernel_rfl) (And.intro (by kernel_rfl) (show (_ : Nat) = _ from by kernel_rfl))), by simp [DDAPU], fun ass h => ?_⟩
  rcases ass with _ | ⟨a0, _ | ⟨a1, _ | _⟩⟩
  · exact absurd h (by simp [Fa])
  · exact absurd h (by simp [Fa])
  · obtain ⟨⟨x0, rfl, h0⟩, ⟨x1, rfl, h1⟩, _⟩ := h
    exact ttAPU_62 ⟨⟨x0, x1⟩, rfl, ⟨h0, h1⟩⟩
  · exact absurd h (by simp [Fa])
theorem cloAPU_3 : Clo Try.prog TTAPU DDAPU 3 := by
  refine ⟨?_⟩
  unfold CloT
  rw [Try.underlying3]
  exact fun n h => ttAPU_3 ⟨n, rfl, h⟩
theorem cloAPU_60 : Clo Try.prog TTAPU DDAPU 60 := by
  refine ⟨?_⟩
  unfold CloT
  rw [Try.underlying60]
  refine ⟨by simp [DDAPU], false, by kernel_rfl, (of_decide_eq_true (by kernel_rfl)), .inr (by kernel_rfl), fun l hl h => ?_⟩
  obtain ⟨ys, rfl, hys⟩ := map_of (enc := (encL 3 encGAtom)) (Q := okL (okGAtom)) l (fun x hx => by
    rcases h x hx with ⟨h, _⟩ | ⟨_, y, hy, hy2⟩
    · cases h
    · simp only [List.cons.injEq, and_true] at hy
      exact ⟨y, hy, hy2⟩)
  rw [List.length_map] at hl
  have hc : Try.prog.cellsOf 125 = 1 := by kernel_rfl
  rw [hc]
  exact ttAPU_60 ⟨ys, rfl, hl, hys⟩
theorem cloAPU_125 : Clo Try.prog TTAPU DDAPU 125 := by
  refine ⟨?_⟩
  unfold CloT
  rw [Try.underlying125]
  refine ⟨by simp [DDAPU], true, by kernel_rfl, (of_decide_eq_true (by kernel_rfl)), .inl rfl, fun l hl h => ?_⟩
  obtain ⟨ys, rfl, hys⟩ := map_of (enc := encGAtom) (Q := okGAtom) l (fun x hx => by
    rcases h x hx with ⟨_, az, rfl, y, rfl, hy⟩ | ⟨h, _⟩
    · exact ⟨y, rfl, hy⟩
    · cases h)
  rw [List.length_map] at hl
  have hc : Try.prog.cellsOf 142 = 3 := by kernel_rfl
  rw [hc]
  exact ttAPU_125 ⟨ys, rfl, hl, hys⟩
theorem cloAPU_142 : Clo Try.prog TTAPU DDAPU 142 := by
  refine ⟨?_⟩
  unfold CloT
  rw [Try.underlying142]
  refine ⟨(And.intro (by kernel_rfl) (And.intro (by kernel_rfl) (And.intro (by kernel_rfl) (show (_ : Nat) = _ from by kernel_rfl)))), by simp [DDAPU], fun ass h => ?_⟩
  rcases ass with _ | ⟨a0, _ | ⟨a1, _ | ⟨a2, _ | _⟩⟩⟩
  · exact absurd h (by simp [Fa])
  · exact absurd h (by simp [Fa])
  · exact absurd h (by simp [Fa])
  · obtain ⟨⟨x0, rfl, h0⟩, ⟨x1, rfl, h1⟩, ⟨x2, rfl, h2⟩, _⟩ := h
    exact ttAPU_142 ⟨⟨x0, x1, x2⟩, rfl, ⟨h0, h1, h2⟩⟩
  · exact absurd h (by simp [Fa])
theorem cloAPU_9 : Clo Try.prog TTAPU DDAPU 9 := by
  refine ⟨?_⟩
  unfold CloT
  rw [Try.underlying9]
  exact fun s h => ttAPU_9 ⟨s, rfl, h⟩
theorem cloAPU_23 : Clo Try.prog TTAPU DDAPU 23 := by
  refine ⟨?_⟩
  unfold CloT
  rw [Try.underlying23]
  refine ⟨by simp [DDAPU], true, by kernel_rfl, (of_decide_eq_true (by kernel_rfl)), .inl rfl, fun l hl h => ?_⟩
  obtain ⟨ys, rfl, hys⟩ := map_of (enc := encGUpdate) (Q := okGUpdate) l (fun x hx => by
    rcases h x hx with ⟨_, az, rfl, y, rfl, hy⟩ | ⟨h, _⟩
    · exact ⟨y, rfl, hy⟩
    · cases h)
  rw [List.length_map] at hl
  have hc : Try.prog.cellsOf 65 = 5 := by kernel_rfl
  rw [hc]
  exact ttAPU_23 ⟨ys, rfl, hl, hys⟩
theorem cloAPU_65 : Clo Try.prog TTAPU DDAPU 65 := by
  refine ⟨?_⟩
  unfold CloT
  rw [Try.underlying65]
  refine ⟨(And.intro (by kernel_rfl) (And.intro (by kernel_rfl) (And.intro (by kernel_rfl) (show (_ : Nat) = _ from by kernel_rfl)))), by simp [DDAPU], fun ass h => ?_⟩
  rcases ass with _ | ⟨a0, _ | ⟨a1, _ | ⟨a2, _ | _⟩⟩⟩
  · exact absurd h (by simp [Fa])
  · exact absurd h (by simp [Fa])
  · exact absurd h (by simp [Fa])
  · obtain ⟨⟨x0, rfl, h0⟩, ⟨x1, rfl, h1⟩, ⟨x2, rfl, h2⟩, _⟩ := h
    exact ttAPU_65 ⟨⟨x0, x1, x2⟩, rfl, ⟨h0, h1, h2⟩⟩
  · exact absurd h (by simp [Fa])
theorem cloAPU : ∀ t, DDAPU t → Clo Try.prog TTAPU DDAPU t := by
  intro t ht
  rcases List.mem_cons.1 ht with h | ht
  · rw [h]; exact cloAPU_22
  rcases List.mem_cons.1 ht with h | ht
  · rw [h]; exact cloAPU_62
  rcases List.mem_cons.1 ht with h | ht
  · rw [h]; exact cloAPU_3
  rcases List.mem_cons.1 ht with h | ht
  · rw [h]; exact cloAPU_60
  rcases List.mem_cons.1 ht with h | ht
  · rw [h]; exact cloAPU_125
  rcases List.mem_cons.1 ht with h | ht
  · rw [h]; exact cloAPU_142
  rcases List.mem_cons.1 ht with h | ht
  · rw [h]; exact cloAPU_9
  rcases List.mem_cons.1 ht with h | ht
  · rw [h]; exact cloAPU_23
  rcases List.mem_cons.1 ht with h | ht
  · rw [h]; exact cloAPU_65
  exact absurd ht List.not_mem_nil
end Go.R
namespace Go.Proofs.Ythneidgpgfgecaa.fnExactApplyUpdates
open Go.ChangeShapes Go.WideShapes Go.ChangeAt Go.RowKit Go.R
open Go.ChangeMaps (open_string shut_string)
set_option linter.unusedVariables false

theorem own : ownKnob Try.prog.godebug = none := by kernel_rfl
theorem laidOut : laidOutB Try.prog = true := by kernel_rfl

set_option maxRecDepth 100000 in
theorem lifted (os : Os) (started : os.Started) (H : Type) (enc : TypeId × Value → H) :
    ReturnsInHanded {} Try.checked os 3 .any (Rows.fnExactApplyUpdatesSpec.pre6 enc Try.prog Try.f3 Rows.fnExactApplyUpdatesRow.domain false) (Rows.fnExactApplyUpdatesSpec.post enc Try.prog Try.f3 false true false false) := by
  refine returnsInHanded_of_change (C := Try.checked) own started (by kernel_rfl) Try.func3
    (ChangeSpec.witness6 (enc := enc) (C := Try.checked) false ⟨#[], #[.slice none 0 0, .slice none 0 0], []⟩ 8 (by kernel_rfl) (by kernel_rfl) (by kernel_rfl) (by kernel_rfl)) ?_
  intro W base args ds gs before hval0 hW hcnd _
  have hval : ∀ (j : Nat) t v, Try.f3.params[j]? = some t → args[j]? = some v → Value.okWide Try.prog W .any base t v := hval0
  have hW' := hW
  obtain ⟨p, q, hA0, hV, rfl, hfz, hnd⟩ := hW
  have hA : DataW.TrodAll enc Try.prog W 0 (fun _ => true) true Try.f3.params.toList args.toList ds p := hA0
  rw [Try.params3] at hA hval
  obtain ⟨v0, vs0, d0, ds0, p0, q0, hargs, rfl, rfl, h0, r0⟩ := trodAll_cons hA
  obtain ⟨v1, vs1, d1, ds1, p1, q1, rfl, rfl, rfl, h1, r1⟩ := trodAll_cons r0
  obtain ⟨rfl, rfl, rfl⟩ := trodAll_nil r1
  obtain rfl : args = #[v0, v1] := by cases args; simp_all
  obtain ⟨rfl, rfl⟩ := trodVars_none hV
  have k0 := h0
  have lt0 : ∀ x ∈ p0, x.block < W.heap.size := by obtain ⟨m, hm⟩ := k0; exact DataW.trod_lt m _ _ _ hm
  obtain ⟨a0, fp0, g0, t0⟩ := openC cloAPU (by rw [Try.underlying22]; simp) (by simp [DDAPU]) (hval 0 22 v0 rfl rfl) h0
  obtain ⟨x0, e0, ok0⟩ := t0
  simp only [List.cons.injEq, and_true] at e0
  subst e0
  have k1 := h1
  have lt1 : ∀ x ∈ p1, x.block < W.heap.size := by obtain ⟨m, hm⟩ := k1; exact DataW.trod_lt m _ _ _ hm
  obtain ⟨a1, fp1, g1, t1⟩ := openC cloAPU (by rw [Try.underlying23]; simp) (by simp [DDAPU]) (hval 1 23 v1 rfl rfl) h1
  obtain ⟨x1, e1, ok1⟩ := t1
  simp only [List.cons.injEq, and_true] at e1
  subst e1
  clear hA0 hval0
  have hc := w_laws_FnExactApplyUpdates x0 x1 true (law_FnExactApplyUpdates x0 x1 ok0 ok1)
  refine (flat_true hc (RepVs.cons g0 (RepVs.cons g1 RepVs.nil))).mono fun e W' ⟨he, bel⟩ => ?_
  subst he
  exact ⟨_, rfl, _, _, _, [], _, [], hW', trodAll_mk1 (shut_bool Try.underlying4 _), (trodAll_cons_mk (Below.trod laidOut (by kernel_rfl) (of_decide_eq_true (by kernel_rfl)) k0 bel lt0) (trodAll_cons_mk (Below.trod laidOut (by kernel_rfl) (of_decide_eq_true (by kernel_rfl)) k1 bel lt1) trodAll_mk0)), rfl, bel.frame _, fun h => by cases h⟩

theorem and2 {a b : Bool} (h : a = true) (g : b = true) : (a && b) = true := by rw [h, g]; rfl
theorem j0 : (Rows.fnExactApplyUpdatesRow.wf (OpenSpec.ofChange Rows.fnExactApplyUpdatesSpec)) = true := by kernel_rfl
theorem j1 : (laidOutB Try.prog) = true := laidOut
theorem j2 : (mapsRowed Try.prog) = true := by kernel_rfl
theorem j3 : (Try.f3.params.all (Program.readableRec Try.prog ·)) = true := by kernel_rfl
theorem j4 : (namedTie Try.prog Rows.fnExactApplyUpdatesRow.named Rows.fnExactApplyUpdatesSpec.vars) = true := by kernel_rfl
theorem j5 : ((Rows.fnExactApplyUpdatesRow.stops == [])) = true := by kernel_rfl
theorem j6 : ((Try.prog.stops == [])) = true := by kernel_rfl
theorem j7 : ((Rows.fnExactApplyUpdatesRow.knobs == [])) = true := by kernel_rfl
theorem j8 : ((Try.prog.stopKnobs == [])) = true := by kernel_rfl
theorem j9 : ((Rows.fnExactApplyUpdatesRow.inPlace == Try.prog.inPlace 3)) = true := by kernel_rfl
theorem j10 : ((Rows.fnExactApplyUpdatesRow.unfollowed == Try.prog.unfollowed 3)) = true := by kernel_rfl
theorem j11 : ((Rows.fnExactApplyUpdatesRow.recurses == Try.prog.recurses 3)) = true := by kernel_rfl
theorem j12 : ((Rows.fnExactApplyUpdatesRow.named == Try.prog.varsNamed 3)) = true := by kernel_rfl
theorem j13 : ((Rows.fnExactApplyUpdatesRow.maps == (Try.f3.params.toList ++ Rows.fnExactApplyUpdatesSpec.plain.varTypes Try.prog).any (Try.prog.mapsRec ·))) = true := by kernel_rfl
theorem j14 : ((Rows.fnExactApplyUpdatesRow.ifaces == (Try.f3.params.toList ++ Rows.fnExactApplyUpdatesSpec.plain.varTypes Try.prog).any (Try.prog.ifacesRec ·))) = true := by kernel_rfl
theorem j15 : ((Rows.fnExactApplyUpdatesRow.mapsOut == Try.prog.mapsAmong Try.f3.resultTypes.toList)) = true := by kernel_rfl
theorem j16 : ((Rows.fnExactApplyUpdatesRow.loops == (Try.f3.params.toList ++ Rows.fnExactApplyUpdatesSpec.plain.varTypes Try.prog).any (Try.prog.loopsFrom ·))) = true := by kernel_rfl
theorem j17 : ((Rows.fnExactApplyUpdatesRow.wideKeys == (Try.f3.params.toList ++ Rows.fnExactApplyUpdatesSpec.plain.varTypes Try.prog ++ Try.f3.resultTypes.toList).any (Try.prog.wideKeysFrom ·))) = true := by kernel_rfl
theorem j18 : (Rows.fnExactApplyUpdatesSpec.vars.all (Try.prog.varReadable ·)) = true := by kernel_rfl
theorem j19 : (Try.f3.resultTypes.all (fun t => Try.prog.readableRec t && decide (t < Try.prog.types.size))) = true := by kernel_rfl
theorem j20 : ((Rows.fnExactApplyUpdatesRow.ifacesOut == Try.f3.resultTypes.toList.any (Try.prog.ifacesRec ·))) = true := by kernel_rfl
theorem j21 : ((Rows.fnExactApplyUpdatesRow.loopsOut == Try.f3.resultTypes.toList.any (Try.prog.loopsFrom ·))) = true := by kernel_rfl
theorem j22 : ((Rows.fnExactApplyUpdatesRow.plainKeys == Try.prog.plainKeys)) = true := by kernel_rfl
theorem j23 : (Rows.fnExactApplyUpdatesRow.shortTexts.isNone) = true := by kernel_rfl
theorem j24 : (Try.prog.stopsHeard) = true := by kernel_rfl
theorem j25 : (Try.prog.mayEnter) = true := by kernel_rfl
theorem j26 : ((Rows.fnExactApplyUpdatesRow.lifted == Try.prog.liftsFinal)) = true := by kernel_rfl
theorem j27 : ((Try.prog.make == some Rows.fnExactApplyUpdatesRow.make)) = true := by kernel_rfl
theorem j28 : ((Rows.fnExactApplyUpdatesRow.kinds == (if Rows.fnExactApplyUpdatesRow.domain.isEmpty then [] else Try.f3.params.toList.map fun t => match Try.prog.underlying t with | some (.int k) => some k | _ => none))) = true := by kernel_rfl
theorem j29 : ((Rows.fnExactApplyUpdatesRow.pinned == Rows.fnExactApplyUpdatesRow.pinnedBy)) = true := by kernel_rfl
theorem j30 : ((Rows.fnExactApplyUpdatesRow.veiled == (Try.f3.params.toList ++ Rows.fnExactApplyUpdatesSpec.plain.varTypes Try.prog ++ Try.f3.resultTypes.toList).any (Try.prog.veiledRec ·))) = true := by kernel_rfl
theorem j31 : (Rows.fnExactApplyUpdatesRow.veiledFits Try.prog Try.f3.params.toList (Try.f3.params.toList ++ Rows.fnExactApplyUpdatesSpec.plain.varTypes Try.prog ++ Try.f3.resultTypes.toList)) = true := by kernel_rfl
set_option maxRecDepth 100000 in
theorem closed : joinedFacts Try.prog 3 Try.f3 Rows.fnExactApplyUpdatesSpec Rows.fnExactApplyUpdatesRow = true := (and2 (and2 (and2 (and2 (and2 (and2 (and2 (and2 (and2 (and2 (and2 (and2 (and2 (and2 (and2 (and2 (and2 (and2 (and2 (and2 (and2 (and2 (and2 (and2 (and2 (and2 (and2 (and2 (and2 (and2 (and2 j0 j1) j2) j3) j4) j5) j6) j7) j8) j9) j10) j11) j12) j13) j14) j15) j16) j17) j18) j19) j20) j21) j22) j23) j24) j25) j26) j27) j28) j29) j30) j31)
theorem named : Try.prog.funcNamed Rows.fnExactApplyUpdatesRow.func = some 3 := by kernel_rfl
theorem inst : Try.f3.isInstance Try.prog Rows.fnExactApplyUpdatesRow.origin Rows.fnExactApplyUpdatesRow.targs := of_decide_eq_true (by kernel_rfl)
theorem wrap : Try.f3.isWrapper Try.prog Rows.fnExactApplyUpdatesRow.wrapper Rows.fnExactApplyUpdatesRow.mainSum := by unfold Func.isWrapper; first | (rw [if_pos (by decide +kernel)]; kernel_rfl) | (rw [if_neg (by decide +kernel)]; exact ⟨rfl, rfl⟩)
theorem over : Rows.fnExactApplyUpdatesRow.holds Try.pinned (OpenSpec.ofChange Rows.fnExactApplyUpdatesSpec) :=
  OpenClaim.holds_of_wide 3 Try.f3 rfl rfl rfl rfl rfl rfl rfl ⟨rfl, rfl, rfl, rfl, rfl⟩ rfl rfl rfl rfl rfl named Try.func3 closed inst wrap
    (fun os started H enc _ => lifted os started H enc)

theorem proved : Rows.FnExactApplyUpdatesSaid := over
#print axioms proved
end Go.Proofs.Ythneidgpgfgecaa.fnExactApplyUpdates
