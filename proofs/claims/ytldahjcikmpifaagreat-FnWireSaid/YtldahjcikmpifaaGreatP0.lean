/- Plain tools. -/
import Derived.Test.YtldahjcikmpifaaGreatE0
set_option linter.all false
namespace Go.R
open Go

theorem a3k {n:Int} (h:-9223372036854775808 ≤ n ∧ n < 9223372036854775808):w64 n = n:=d6z h.1 h.2

theorem getElem?_replicate_some {α:Type} {n i:Nat} {x:α} (h:i < n):(List.replicate n x)[i]? = some x:=by simp [h]

theorem b1h {α:Type} (l:List α) (i:Nat):idx l (i:Int) = l[i]?:=by simp [idx]
theorem b9f {α:Type} {l:List α} {i:Nat} {x:α} {xs:List α} (h:l.drop i = x :: xs):idx l (i:Int) = some x:=by
  rw [b1h]
  have:=congrArg List.head? h
  rw [List.head?_drop] at this
  simpa using this
theorem b2o {α:Type} {l:List α} {i:Nat} {x:α} {xs:List α} (h:l.drop i = x :: xs):l.drop (i + 1) = xs:=by
  have:=congrArg List.tail h
  rw [List.tail_drop] at this
  simpa using this
theorem c8v {α:Type} {l:List α} {i:Nat} {x:α} {xs:List α} (h:l.drop i = x :: xs):i < l.length:=by
  rcases Nat.lt_or_ge i l.length with h1 | h1
  · exact h1
  · rw [List.drop_of_length_le h1] at h; cases h
end Go.R
