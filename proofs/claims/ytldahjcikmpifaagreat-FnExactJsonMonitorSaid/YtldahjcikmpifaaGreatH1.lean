import Derived.Test.YtldahjcikmpifaaGreatC23
set_option linter.all false
namespace Go.R
open Go Go.RowKit
theorem take_add {α:Type} {A B:List α} {a b:Nat} (h:A.length = a):(A ++ B).take (a + b) = A ++ B.take b:=by
 subst h
 rw [List.take_append,List.take_of_length_le (by omega),Nat.add_sub_cancel_left]
section
variable {P:Program} {C:Ctx} {σ:Sg} {φ:Nat → List Nat} {h:List y9} {w w':World}
theorem e3e (hr:a0b C σ φ h w) {o z n:Nat} {l:List AV} {v:Value} (ho:h[o]? = some (.row z l)) (hv:RV C σ h w (.own o 0 n) v) (hn:n = l.length) :
  (v = .slice none 0 0 ∧ l = [] ∧ σ o = none ∧ φ o = []) ∨ ∃ g c cur e,σ o = some (g,c) ∧ v = .slice (some ⟨g,0,none⟩) n c ∧ n ≤ c ∧ c ≤ maxLen ∧ w.heap[g]? = some (.cells cur e (0,0)) ∧ cur.size = c * z ∧
   a0n C.dm w z l cur.toList (φ o):=by
 simp only [RV,ho] at hv
 obtain ⟨a,cap,rfl,g1,g2,g3,g4⟩:=hv
 obtain ⟨h0,hob⟩:=hr.obj o _ ho
 cases hs:σ o with
 | none =>
  rw [hs] at hob g4
  obtain ⟨rfl,rfl⟩:=g4
  obtain ⟨rfl,hp⟩:=hob
  subst hn
  exact .inl ⟨rfl,rfl,rfl,hp⟩
 | some p =>
  obtain ⟨g,c⟩:=p
  rw [hs] at hob g4
  obtain ⟨rfl,rfl⟩:=g4.2 rfl
  obtain ⟨h1,cur,e,h2,h3,h4,h5⟩:=hob
  exact .inr ⟨g,cap,cur,e,rfl,rfl,g2,g3,h2,h3,h4⟩
end
section
variable {P:Program}
end
end Go.R
