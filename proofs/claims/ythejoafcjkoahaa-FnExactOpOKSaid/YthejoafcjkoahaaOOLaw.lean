/- OpOK: the law. -/
import Derived.Test.YthejoafcjkoahaaOOL
set_option linter.all false
namespace Go.R
open Go
set_option linter.all false
theorem law_FnExactOpOK (o : GOp) (h : okGOp o) : laws_FnExactOpOK o = some true := by
  unfold laws_FnExactOpOK
  obtain ⟨r, e, hr⟩ := p_szOp o 1048576 (by omega) (by omega) h
  rw [e, Option.bind_some]
  split
  · rfl
  · rename_i hn
    simp only [decide_eq_true_eq] at hn
    obtain ⟨h1, h2, h3⟩ := hr.resolve_left hn
    have et := p_toOp o (smOp_mono (by omega) h3)
    have hl : OpLen o := by
      obtain ⟨_, _, _, hw, hr, hm, _, _⟩ := h
      exact ⟨fun c hc => (hw.2 c hc).2.2.1, fun c hc => (hm.2 c hc).2.2.1, fun c hc => (hr.2 c hc).2.1.1⟩
    have g1 := p_OpOK o hl
    have g2 := p_sOpOK o
    have eq := p_eqOp o
    simp only [et, Option.bind_some, g1, g2, eq]
    simp
end Go.R
