import Derived.Test.YtldahjcikmpifaaGreatE0
set_option linter.all false
namespace Go.R
open Go
theorem a3p {n:Int} (h:-9223372036854775808 ≤ n ∧ n < 9223372036854775808):w64 n = n:=e0l h.1 h.2
theorem b5i {α:Type} (l:List α) (i:Nat) (y:α) (ys:List α) (h:i < l.length):(l.set i y).take (i + 1) ++ ys = l.take i ++ y :: ys:=by
 rw [List.take_set,List.take_add_one,List.getElem?_eq_getElem h,List.set_append_right _ _ (by simp; omega)]
 have:i - (l.take i).length = 0:=by simp; omega
 rw [this]
 simp
theorem getElem?_replicate_some {α:Type} {n i:Nat} {x:α} (h:i < n):(List.replicate n x)[i]? = some x:=by simp [h]
theorem b4r {α:Type} (l:List α) (i:Nat):idx l (i:Int) = l[i]?:=by simp [idx]
theorem b7o {α:Type} {l:List α} {i:Nat} {x:α} {xs:List α} (h:l.drop i = x :: xs):idx l (i:Int) = some x:=by
 rw [b4r]
 have:=congrArg List.head? h
 rw [List.head?_drop] at this
 simpa using this
theorem b0x {α:Type} {l:List α} {i:Nat} {x:α} {xs:List α} (h:l.drop i = x :: xs):l.drop (i + 1) = xs:=by
 have:=congrArg List.tail h
 rw [List.tail_drop] at this
 simpa using this
theorem c5p {α:Type} {l:List α} {i:Nat} {x:α} {xs:List α} (h:l.drop i = x :: xs):i < l.length:=by
 rcases Nat.lt_or_ge i l.length with h1 | h1
 ·exact h1
 ·rw [List.drop_of_length_le h1] at h; cases h
end Go.R
