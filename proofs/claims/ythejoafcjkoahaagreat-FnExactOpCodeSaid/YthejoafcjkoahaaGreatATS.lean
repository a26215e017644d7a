/- Atoms and sets, as the reference asks; behind ATI, TXS, ORDS. -/
import Derived.Test.YthejoafcjkoahaaGreatATI
set_option linter.all false
namespace Go.R
open Go
set_option linter.all false
theorem p_sAtomOK (a:GAtom):spec_AtomOK a = some (atomB a):=by
  unfold spec_AtomOK atomB
  simp only [p_in,p_text,Option.bind_some]
  by_cases h1:a.Kind = 1
  · simp only [h1]
    by_cases c:(-1000000000 ≤ a.N ∧ a.N ≤ 1000000000) <;> by_cases d:a.T = [] <;> simp [c,d]
  by_cases h2:a.Kind = 2
  · simp only [h2]
    by_cases c:a.N = 0 <;> simp [c]
  by_cases h3:a.Kind = 3
  · simp only [h3]
    by_cases c:(0 ≤ a.N ∧ a.N ≤ 1) <;> by_cases d:a.T = [] <;> simp [c,d]
  by_cases h4:a.Kind = 4
  · simp only [h4]
    by_cases c:(1 ≤ a.N ∧ a.N ≤ 1000000) <;> by_cases d:a.T = [] <;> simp [c,d]
  · simp [h1,h2,h3,h4]
theorem p_sDatumOK_L1 (d:List GAtom) (hl:d.length ≤ maxLen):∀ (xs:List GAtom) (i:Nat),d.drop i = xs → spec_DatumOK_L1 d xs i = some (if allS d xs i = true then .go () else .ret false)
  | [],i,h => by rw [spec_DatumOK_L1]; simp [allS]
  | x :: xs,i,h => by
    rw [spec_DatumOK_L1,p_step d i x (drop_lt h) hl spec_AtomOK p_sAtomOK spec_l03Order p_Order,Option.bind_some,p_sDatumOK_L1 d hl xs (i + 1) (drop_next h)]
    cases hs:stepB d i x <;> simp [allS,hs]
theorem p_sDatumOK (d:List GAtom):spec_DatumOK d = some (datB d):=by
  unfold spec_DatumOK datB
  by_cases h:(d.length:Int) > 4096
  · rw [if_pos (by simpa using h)]
    have:¬ (d.length:Int) ≤ 8:=by omega
    simp [this]
  · rw [if_neg (by simpa using h),p_sDatumOK_L1 d (by simp only [maxLen]; omega) d 0 (by simp)]
    cases allS d d 0 <;> simp
end Go.R
