/- Part of the proof. -/
import Derived.Test.YtldahjcikmpifaaGreatS3
import Derived.Lib.AppendZerosOnto
import Derived.Lib.Overlaps
import Derived.Shelf.RegionOpenPlain
import Derived.Shelf.Small.Strs
import Derived.Lib.SlKept
section
set_option linter.all false
namespace Go.R
open Go Go.RowKit
section
variable {P:Program}
theorem f3m {w:World} {g:Nat} {cur:Array Value} {e:TypeId} {fz:Nat × Nat} (hg:w.heap[g]? = some (.cells cur e fz)) (off n:Nat):∀ j v,((cur.toList.take n).drop off)[j]? = some v → w.cell? ((⟨g,off,none⟩:Addr).add j) = some v:=by
 intro j v hj
 have hadd:(⟨g,off,none⟩:Addr).add j = ⟨g,off + j,none⟩:=by unfold Addr.add; split <;> simp_all
 rw [hadd,b7j hg]
 rw [List.getElem?_drop,List.getElem?_take] at hj
 split at hj
 ·simpa using hj
 ·cases hj
end
end Go.R
end
section
set_option linter.all false
namespace Go.R
open Go Go.Proofs Go.RowKit Go.Lib
set_option maxHeartbeats 400000
def fl2 (d:List (Value × Value)):List Value:=d.flatMap fun x => [x.1,x.2]
theorem f0q:fl2 [] = []:=rfl
theorem c5d (x:Value × Value) (d:List (Value × Value)):fl2 (x :: d) = x.1 :: x.2 :: fl2 d:=rfl
theorem c9g (a b:List (Value × Value)):fl2 (a ++ b) = fl2 a ++ fl2 b:=by simp [fl2]
theorem b7l:∀ d:List (Value × Value),(fl2 d).length = d.length * 2
 | [] => rfl
 | x :: d => by rw [c5d,List.length_cons,List.length_cons,b7l d,List.length_cons]; omega
theorem e7a:∀ (n:Nat) (cs:List Value),cs.length = n * 2 → ∃ d,d.length = n ∧ cs = fl2 d
 | 0,cs,h => ⟨[],rfl,by rw [f0q]; simpa using h⟩
 | n + 1,cs,h => by
  match cs,h with
  | a :: b :: r,h =>
   obtain ⟨d,h1,h2⟩:=e7a n r (by simp only [List.length_cons] at h; omega)
   exact ⟨(a,b) :: d,by simp [h1],by rw [c5d,← h2]⟩
  | [_],h => simp only [List.length_cons,List.length_nil] at h; omega
  | [],h => simp only [List.length_nil] at h; omega
theorem d0w (d:List (Value × Value)) (i:Nat) (h:i < d.length):(fl2 d).drop (i * 2) = d[i].1 :: d[i].2 :: fl2 (d.drop (i + 1)):=by
 have h1:fl2 d = fl2 (d.take i) ++ fl2 (d.drop i):=by rw [← c9g,List.take_append_drop]
 have h2:(fl2 (d.take i)).length = i * 2:=by rw [b7l,List.length_take]; omega
 rw [h1,List.drop_left' h2,List.drop_eq_getElem_cons h,c5d]
theorem d8h (d:List (Value × Value)) (i:Nat) (h:i ≤ d.length):(fl2 d).take (i * 2) = fl2 (d.take i):=by
 have h1:fl2 d = fl2 (d.take i) ++ fl2 (d.drop i):=by rw [← c9g,List.take_append_drop]
 have h2:(fl2 (d.take i)).length = i * 2:=by rw [b7l,List.length_take]; omega
 rw [h1,List.take_left' h2]
structure DW (w:World) (g:Nat) (e:TypeId) (rest:List Value) (d:Array (Value × Value)) (W:World):Prop where
 os:W.os = w.os
 tape:W.tape = w.tape
 output:W.output = w.output
 size:w.heap.size ≤ W.heap.size
 block:∀ k,k < w.heap.size → k ≠ g → W.heap[k]? = w.heap[k]?
 lt:g < w.heap.size
 row:W.heap[g]? = some (.cells (fl2 d.toList ++ rest).toArray e (0,0))
section
variable {w W W':World} {g:Nat} {e:TypeId} {rest:List Value} {d:Array (Value × Value)}
theorem DW.below (h:DW w g e rest d W) (hb:Below W.heap.size W W'):DW w g e rest d W' where
 os:=hb.os.trans h.os
 tape:=hb.tape.trans h.tape
 output:=hb.output.trans h.output
 size:=Nat.le_trans h.size hb.size
 block k hk hn:=(hb.block k (Nat.lt_of_lt_of_le hk h.size)).trans (h.block k hk hn)
 lt:=h.lt
 row:=(hb.block g (Nat.lt_of_lt_of_le h.lt h.size)).trans h.row
theorem DW.alloc (h:DW w g e rest d W) (o:Obj):DW w g e rest d (W.alloc o):=h.below ((Below.refl _ _).alloc (Nat.le_refl _) o)
theorem DW.load (h:DW w g e rest d W) (P:Program) (i:Nat) (hi:i < d.size):Sem.run P (loadCellsFrom ⟨g,i * 2,none⟩ 0 2 #[]) W = .ok #[(d[i]!).1,(d[i]!).2] W:=by
 have hc:∀ j v,([(d[i]!).1,(d[i]!).2]:List Value)[j]? = some v → W.cell? ((⟨g,i * 2,none⟩:Addr).add j) = some v:=by
  intro j v hj
  have hadd:(⟨g,i * 2,none⟩:Addr).add j = ⟨g,i * 2 + j,none⟩:=by unfold Addr.add; split <;> simp_all
  rw [hadd,b7j h.row]
  have hdr:=d0w d.toList i (by simpa using hi)
  have hdg:d[i]! = d.toList[i]'(by simpa using hi):=by rw [getElem!_pos d i hi]; simp
  have hjl:j < 2:=by
   rcases Nat.lt_or_ge j 2 with h | h
   ·exact h
   ·rw [List.getElem?_eq_none (by simpa using h)] at hj; cases hj
  have h2:i * 2 + j < (fl2 d.toList).length:=by rw [b7l]; simp; omega
  rw [List.getElem?_toArray,List.getElem?_append_left h2,← List.getElem?_drop,hdr,← hdg,← hj]
  rcases j with _ | _ | j
  ·rfl
  ·rfl
  ·omega
 have:=run_loadCells_list (P:=P) (w:=W) ⟨g,i * 2,none⟩ [(d[i]!).1,(d[i]!).2] hc
 simpa [loadCells] using this
theorem DW.cells (h:DW w g e rest d W) (i:Nat) (hi:i < d.size):W.cell? ⟨g,i * 2,none⟩ = some (d[i]!).1 ∧ W.cell? ⟨g,i * 2 + 1,none⟩ = some (d[i]!).2:=by
 have hdr:=d0w d.toList i (by simpa using hi)
 have hdg:d[i]! = d.toList[i]'(by simpa using hi):=by rw [getElem!_pos d i hi]; simp
 have key:∀ j,j < 2 → W.cell? ⟨g,i * 2 + j,none⟩ = ((d[i]!).1 :: (d[i]!).2 :: fl2 (d.toList.drop (i + 1)))[j]?:=by
  intro j hj
  have h2:i * 2 + j < (fl2 d.toList).length:=by rw [b7l]; simp; omega
  rw [b7j h.row,List.getElem?_toArray,List.getElem?_append_left h2,← List.getElem?_drop,hdr,← hdg]
 exact ⟨key 0 (by decide),key 1 (by decide)⟩
theorem DW.frozen (h:DW w g e rest d W) (i:Nat):W.frozen? ⟨g,i,none⟩ = false:=by simp [World.frozen?,h.row]
theorem DW.setCell (h:DW w g e rest d W) (b o:Nat) (hb:w.heap.size ≤ b) (v:Value):DW w g e rest d (W.setCell ⟨b,o,none⟩ v) where
 os:=h.os
 tape:=h.tape
 output:=h.output
 size:=by simpa [World.setCell] using h.size
 block k hk hn:=by rw [heap_setCell_other _ _ _ _ (show k ≠ b by omega)]; exact h.block k hk hn
 lt:=h.lt
 row:=by rw [heap_setCell_other _ _ _ _ (show g ≠ b by have:=h.lt; omega)]; exact h.row
theorem set_mid {α:Type} (A B:List α) (x y a b:α):((A ++ x :: y :: B).set A.length a).set (A.length + 1) b = A ++ a :: b :: B:=by
 induction A with
 | nil => rfl
 | cons z A ih => simp only [List.cons_append,List.length_cons,List.set_cons_succ,ih]
theorem DW.put (h:DW w g e rest d W) (i:Nat) (hi:i < d.size) (a b:Value):DW w g e rest (d.setIfInBounds i (a,b)) ((W.setCell ⟨g,i * 2,none⟩ a).setCell ⟨g,i * 2 + 1,none⟩ b) where
 os:=h.os
 tape:=h.tape
 output:=h.output
 size:=by simpa [World.setCell] using h.size
 block k hk hn:=by rw [heap_setCell_other _ _ _ _ hn,heap_setCell_other _ _ _ _ hn]; exact h.block k hk hn
 lt:=h.lt
 row:=by
  have hl:i < d.toList.length:=by simpa using hi
  have h1:=heap_setCell_same W g (i * 2) _ e a h.row
  rw [heap_setCell_same _ g (i * 2 + 1) _ e b h1]
  have hA:(fl2 (d.toList.take i)).length = i * 2:=by rw [b7l,List.length_take]; omega
  have e1:fl2 d.toList = fl2 (d.toList.take i) ++ d.toList[i].1 :: d.toList[i].2 :: fl2 (d.toList.drop (i + 1)):=by
   rw [← d8h _ _ (by omega),← d0w _ _ hl,List.take_append_drop]
  have e2:fl2 (d.setIfInBounds i (a,b)).toList = fl2 (d.toList.take i) ++ a :: b :: fl2 (d.toList.drop (i + 1)):=by
   rw [Array.toList_setIfInBounds,List.set_eq_take_append_cons_drop,if_pos hl,c9g,c5d]
  rw [e2,e1]
  congr 2
  have:=set_mid (fl2 (d.toList.take i)) (fl2 (d.toList.drop (i + 1)) ++ rest) d.toList[i].1 d.toList[i].2 a b
  rw [hA] at this
  simp only [List.append_assoc,List.cons_append,List.setIfInBounds_toArray,this]
theorem DW.clear (h:DW w g e rest d W) (i n:Nat) (hi:i ≤ n) (hn:d.size = n) (Z:List Value) (hZ:Z.length = (n - i) * 2) :
  ∃ dk:Array (Value × Value),DW w g e rest dk (W.setRow g ((fl2 d.toList ++ rest).take (i * 2) ++ Z ++ (fl2 d.toList ++ rest).drop (i * 2 + (n - i) * 2)).toArray) ∧ dk.size = n ∧ dk.toList.take i = d.toList.take i:=by
 obtain ⟨z,z1,rfl⟩:=e7a _ _ hZ
 have hdl:d.toList.length = n:=by simpa using hn
 refine ⟨(d.toList.take i ++ z).toArray,⟨h.os,h.tape,h.output,by simpa [World.setRow] using h.size,fun k hk hkn => ?_,h.lt,?_⟩,?_,?_⟩
 ·rw [setRow_other _ _ _ _ hkn]; exact h.block k hk hkn
 ·rw [setRow_heap _ _ _ _ _ _ h.row]
  have h1:i * 2 + (n - i) * 2 = (fl2 d.toList).length:=by rw [b7l,hdl,← Nat.add_mul]; congr 1; omega
  rw [h1,List.drop_left,List.take_append_of_le_length (by rw [b7l,hdl]; omega),d8h _ _ (by omega),← c9g]
 ·simp only [List.size_toArray,List.length_append,List.length_take,z1,hdl]; omega
 ·have:(d.toList.take i).length = i:=by rw [List.length_take,hdl]; omega
  simp only [List.take_left' this]
end
end Go.R
end
