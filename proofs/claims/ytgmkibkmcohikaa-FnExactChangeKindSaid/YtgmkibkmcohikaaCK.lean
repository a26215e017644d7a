/- The plain law of ChangeKind. -/
import Derived.Test.YtgmkibkmcohikaaCKH
set_option linter.all false
namespace Go.R
open Go
theorem p_kind (c : GChange) : ∃ k, spec_l10Kind c = some k ∧ impl_kindOf c.Id c.Old c.New = some (if c.Id < 1 then 0 else k) := by
  unfold spec_l10Kind impl_kindOf
  by_cases h1 : c.Id < 1
  · simp only [h1, decide_true, if_true]
    cases (c.Old.Id == 0) <;> cases (c.New.Id == 0) <;> cases (c.Old.Id == c.Id) <;> cases (c.New.Id == c.Id) <;> exact ⟨_, rfl, trivial⟩
  · simp only [h1, decide_false, if_false]
    have h2 : ¬ ((c.Old.Id == 0) = true ∧ (c.Old.Id == c.Id) = true) := by simp only [beq_iff_eq]; omega
    have h3 : ¬ ((c.New.Id == 0) = true ∧ (c.New.Id == c.Id) = true) := by simp only [beq_iff_eq]; omega
    revert h2 h3
    cases (c.Old.Id == 0) <;> cases (c.New.Id == 0) <;> cases (c.Old.Id == c.Id) <;> cases (c.New.Id == c.Id) <;> intro h2 h3 <;> first | exact ⟨_, rfl, rfl⟩ | exact absurd ⟨rfl, rfl⟩ h2 | exact absurd ⟨rfl, rfl⟩ h3
theorem p_ChangeKind (c : GChange) : ∃ r, impl_ChangeKind c = some r ∧ spec_ChangeKind c = some r := by
  obtain ⟨k, h1, h2⟩ := p_kind c
  unfold impl_ChangeKind spec_ChangeKind
  rw [h1, h2]
  by_cases h : c.Id < 1
  · simp [h]
  · by_cases h3 : k = 0 <;> simp [h, h3]
theorem law_FnExactChangeKind (c : GChange) (h : okGChange c) : laws_FnExactChangeKind c = some true := by
  unfold laws_FnExactChangeKind
  obtain ⟨r, e, hr⟩ := p_szChange c 1048576 (by omega) (by omega) h
  rw [e, Option.bind_some]
  split
  · rfl
  · rename_i hn
    simp only [decide_eq_true_eq] at hn
    have hs := (hr.resolve_left hn).2.2
    have et := p_toChange c (smChange_mono (by omega) hs)
    obtain ⟨b, e1, e2⟩ := p_ChangeKind c
    simp only [et, Option.bind_some, e1, e2, p_eqChange]
    simp
end Go.R
