/- Part of the proof. -/
import Derived.Test.YtldahjcikmpifaaGreatG3
import Derived.Lib.AppendZerosOnto
import Derived.Lib.Overlaps
import Derived.Shelf.RegionOpenPlain
import Derived.Shelf.Small.Strs
import Derived.Lib.SlKept
section
set_option linter.all false
namespace Go.R
open Go Go.RowKit
section
variable {P:Program}
theorem step_copy_runI {ops:Array Oper} {o:Oper} {a:Act} {w:World} {K:Act → World → Prop} {Q:Exit → Act → World → Prop} {E:Prop}
  (hg:o.guard = none) (d x:Operand) (dT sT:TypeId) (hop:o.op = Op.call { callee:=Callee.builtin Builtin.copy,args:=#[d,x],argTypes:=#[dT,sT] })
  (v u:Value) (hd:a.eval d = v) (hx:a.eval x = u) {v':Value} {w':World} (hr:(Builtin.copy_ #[dT,sT] o.type #[v,u]).run P w = .ok v' w') (hK:K (a.put o.dst v') w') :
  if Region.wanted o (yielded ops a.tmps) = true then Oper.wp P o a w K Q else E:=by
 have hw:Region.wanted o (yielded ops a.tmps) = true:=by simp [Region.wanted,hg]
 rw [if_pos hw]
 unfold Oper.wp
 simp [execOp,hop,resolve,invoke,builtin,hd,hx,hr,Result.andThen]
 exact hK
theorem c8b {w:World} {g:Nat} {cur:Array Value} {e:TypeId} {fz:Nat × Nat} (hg:w.heap[g]? = some (.cells cur e fz)) (off n:Nat):∀ j v,((cur.toList.take n).drop off)[j]? = some v → w.cell? ((⟨g,off,none⟩:Addr).add j) = some v:=by
 intro j v hj
 have hadd:(⟨g,off,none⟩:Addr).add j = ⟨g,off + j,none⟩:=by unfold Addr.add; split <;> simp_all
 rw [hadd,b5m hg]
 rw [List.getElem?_drop,List.getElem?_take] at hj
 split at hj
 ·simpa using hj
 ·cases hj
theorem d9q {t:TypeId} {s b:Nat} {z:Value} (h:(P.info? t).map (fun i => (i.size,i.bytes,i.zero)) = some (s,b,some z)):∃ i:TypeInfo,P.info? t = some i ∧ i.size = s ∧ i.bytes = b ∧ i.zero = some z:=by
 cases hi:P.info? t with
 | none => rw [hi] at h; cases h
 | some i =>
  rw [hi] at h
  simp only [Option.map_some,Option.some.injEq,Prod.mk.injEq] at h
  exact ⟨i,rfl,h.1,h.2.1,h.2.2⟩
theorem c8c {l:List Value} {a b:Nat}:(l.take b).drop a = (l.drop a).take (b - a):=by rw [List.drop_take]
theorem e1k {cur vs:List Value} {i m n z:Nat} (hi:i ≤ n) (hl:(n + m) * z ≤ cur.length) (hv:vs.length = m * z) {A1 A2:Array Value}
  (h1:A1 = (cur.take ((i + m) * z) ++ (cur.take (n * z)).drop (i * z) ++ cur.drop ((i + m) * z + ((cur.take (n * z)).drop (i * z)).length)).toArray)
  (h2:A2 = (A1.toList.take (i * z) ++ vs ++ A1.toList.drop (i * z + vs.length)).toArray) :
  A1.size = cur.length ∧ A2.size = cur.length ∧ A2.toList.take ((i + m + (n - i)) * z) = cur.take (i * z) ++ vs ++ (cur.drop (i * z)).take ((n - i) * z):=by
 have e1:i * z ≤ n * z:=Nat.mul_le_mul_right _ hi
 have e2:(n - i) * z = n * z - i * z:=Nat.sub_mul _ _ _
 have e3:(n + m) * z = n * z + m * z:=Nat.add_mul _ _ _
 have e4:(i + m) * z = i * z + m * z:=Nat.add_mul _ _ _
 have e5:(i + m + (n - i)) * z = i * z + m * z + (n * z - i * z):=by rw [Nat.add_mul,e4,e2]
 have hcs:((cur.take (n * z)).drop (i * z)).length = n * z - i * z:=by rw [List.length_drop,List.length_take]; omega
 have hX:(cur.take ((i + m) * z)).length = (i + m) * z:=by rw [List.length_take]; omega
 have hA1:A1.toList = cur.take ((i + m) * z) ++ ((cur.take (n * z)).drop (i * z) ++ cur.drop ((i + m) * z + ((cur.take (n * z)).drop (i * z)).length)):=by rw [h1]; simp
 have t1:A1.toList.take (i * z) = cur.take (i * z):=by
  rw [hA1,List.take_append_of_le_length (by rw [hX]; omega),List.take_take]
  congr 1
  omega
 have t2:A1.toList.drop (i * z + vs.length) = (cur.take (n * z)).drop (i * z) ++ cur.drop ((i + m) * z + ((cur.take (n * z)).drop (i * z)).length):=by
  rw [hA1,hv,← e4,List.drop_left' hX]
 have hT:(cur.take (i * z)).length = i * z:=by rw [List.length_take]; omega
 have s1:A1.size = cur.length:=by
  have:A1.toList.length = cur.length:=by
   rw [hA1,List.length_append,List.length_append,hX,hcs,List.length_drop]
   omega
  simpa using this
 refine ⟨s1,?_,?_⟩
 ·rw [h2,List.size_toArray,List.length_append,List.length_append,t1,t2,hT,hv,List.length_append,hcs,List.length_drop]
  omega
 ·rw [h2]
  simp only [t1,t2]
  rw [List.append_assoc (cur.take (i * z)),e5,Nat.add_assoc,take_add hT,take_add hv,List.take_left' hcs,c8c,e2,List.append_assoc]
theorem d7v {cur vs:List Value} {R:List Value} {i m n z:Nat} (hi:i ≤ n) (hl:n * z ≤ cur.length) (hv:vs.length = m * z) (hR:(n + m) * z ≤ i * z + R.length) {B1 B2:Array Value}
  (h1:B1 = (cur.take (i * z) ++ vs ++ R.drop vs.length).toArray)
  (h2:B2 = (B1.toList.take ((i + m) * z) ++ (cur.take (n * z)).drop (i * z) ++ B1.toList.drop ((i + m) * z + ((cur.take (n * z)).drop (i * z)).length)).toArray) :
  B1.size = i * z + R.length ∧ B2.size = i * z + R.length ∧ B2.toList.take ((i + m + (n - i)) * z) = cur.take (i * z) ++ vs ++ (cur.drop (i * z)).take ((n - i) * z):=by
 have e1:i * z ≤ n * z:=Nat.mul_le_mul_right _ hi
 have e2:(n - i) * z = n * z - i * z:=Nat.sub_mul _ _ _
 have e3:(n + m) * z = n * z + m * z:=Nat.add_mul _ _ _
 have e4:(i + m) * z = i * z + m * z:=Nat.add_mul _ _ _
 have e5:(i + m + (n - i)) * z = (i + m) * z + (n * z - i * z):=by rw [Nat.add_mul,e2]
 have hcs:((cur.take (n * z)).drop (i * z)).length = n * z - i * z:=by rw [List.length_drop,List.length_take]; omega
 have hT:(cur.take (i * z)).length = i * z:=by rw [List.length_take]; omega
 have hTV:(cur.take (i * z) ++ vs).length = (i + m) * z:=by rw [List.length_append,hT,hv,e4]
 have t1:B1.toList.take ((i + m) * z) = cur.take (i * z) ++ vs:=by rw [h1]; exact List.take_left' hTV
 have s1:B1.toList.length = i * z + R.length:=by
  rw [h1,List.length_append,hTV,List.length_drop,hv]
  omega
 refine ⟨by simpa using s1,?_,?_⟩
 ·rw [h2,List.size_toArray,List.length_append,List.length_append,t1,hTV,hcs,List.length_drop,s1]
  omega
 ·rw [h2]
  simp only [t1]
  rw [List.append_assoc (cur.take (i * z) ++ vs),e5,take_add hTV,List.take_left' hcs,c8c,e2]
end
end Go.R
end
section
set_option linter.all false
namespace Go.R
open Go Go.Proofs Go.RowKit Go.Lib
set_option maxHeartbeats 400000
def fl2 (d:List (Value × Value)):List Value:=d.flatMap fun x => [x.1,x.2]
theorem e7p:fl2 [] = []:=rfl
theorem b8d (x:Value × Value) (d:List (Value × Value)):fl2 (x :: d) = x.1 :: x.2 :: fl2 d:=rfl
theorem c6a (a b:List (Value × Value)):fl2 (a ++ b) = fl2 a ++ fl2 b:=by simp [fl2]
theorem a9y:∀ d:List (Value × Value),(fl2 d).length = d.length * 2
 | [] => rfl
 | x :: d => by rw [b8d,List.length_cons,List.length_cons,a9y d,List.length_cons]; omega
theorem d7w:∀ (n:Nat) (cs:List Value),cs.length = n * 2 → ∃ d,d.length = n ∧ cs = fl2 d
 | 0,cs,h => ⟨[],rfl,by rw [e7p]; simpa using h⟩
 | n + 1,cs,h => by
  match cs,h with
  | a :: b :: r,h =>
   obtain ⟨d,h1,h2⟩:=d7w n r (by simp only [List.length_cons] at h; omega)
   exact ⟨(a,b) :: d,by simp [h1],by rw [b8d,← h2]⟩
  | [_],h => simp only [List.length_cons,List.length_nil] at h; omega
  | [],h => simp only [List.length_nil] at h; omega
theorem c2h (d:List (Value × Value)) (i:Nat) (h:i < d.length):(fl2 d).drop (i * 2) = d[i].1 :: d[i].2 :: fl2 (d.drop (i + 1)):=by
 have h1:fl2 d = fl2 (d.take i) ++ fl2 (d.drop i):=by rw [← c6a,List.take_append_drop]
 have h2:(fl2 (d.take i)).length = i * 2:=by rw [a9y,List.length_take]; omega
 rw [h1,List.drop_left' h2,List.drop_eq_getElem_cons h,b8d]
theorem c8d (d:List (Value × Value)) (i:Nat) (h:i ≤ d.length):(fl2 d).take (i * 2) = fl2 (d.take i):=by
 have h1:fl2 d = fl2 (d.take i) ++ fl2 (d.drop i):=by rw [← c6a,List.take_append_drop]
 have h2:(fl2 (d.take i)).length = i * 2:=by rw [a9y,List.length_take]; omega
 rw [h1,List.take_left' h2]
structure DW (w:World) (g:Nat) (e:TypeId) (rest:List Value) (d:Array (Value × Value)) (W:World):Prop where
 os:W.os = w.os
 tape:W.tape = w.tape
 output:W.output = w.output
 size:w.heap.size ≤ W.heap.size
 block:∀ k,k < w.heap.size → k ≠ g → W.heap[k]? = w.heap[k]?
 lt:g < w.heap.size
 row:W.heap[g]? = some (.cells (fl2 d.toList ++ rest).toArray e (0,0))
section
variable {w W W':World} {g:Nat} {e:TypeId} {rest:List Value} {d:Array (Value × Value)}
theorem DW.below (h:DW w g e rest d W) (hb:Below W.heap.size W W'):DW w g e rest d W' where
 os:=hb.os.trans h.os
 tape:=hb.tape.trans h.tape
 output:=hb.output.trans h.output
 size:=Nat.le_trans h.size hb.size
 block k hk hn:=(hb.block k (Nat.lt_of_lt_of_le hk h.size)).trans (h.block k hk hn)
 lt:=h.lt
 row:=(hb.block g (Nat.lt_of_lt_of_le h.lt h.size)).trans h.row
theorem DW.alloc (h:DW w g e rest d W) (o:Obj):DW w g e rest d (W.alloc o):=h.below ((Below.refl _ _).alloc (Nat.le_refl _) o)
theorem DW.load (h:DW w g e rest d W) (P:Program) (i:Nat) (hi:i < d.size):Sem.run P (loadCellsFrom ⟨g,i * 2,none⟩ 0 2 #[]) W = .ok #[(d[i]!).1,(d[i]!).2] W:=by
 have hc:∀ j v,([(d[i]!).1,(d[i]!).2]:List Value)[j]? = some v → W.cell? ((⟨g,i * 2,none⟩:Addr).add j) = some v:=by
  intro j v hj
  have hadd:(⟨g,i * 2,none⟩:Addr).add j = ⟨g,i * 2 + j,none⟩:=by unfold Addr.add; split <;> simp_all
  rw [hadd,b5m h.row]
  have hdr:=c2h d.toList i (by simpa using hi)
  have hdg:d[i]! = d.toList[i]'(by simpa using hi):=by rw [getElem!_pos d i hi]; simp
  have hjl:j < 2:=by
   rcases Nat.lt_or_ge j 2 with h | h
   ·exact h
   ·rw [List.getElem?_eq_none (by simpa using h)] at hj; cases hj
  have h2:i * 2 + j < (fl2 d.toList).length:=by rw [a9y]; simp; omega
  rw [List.getElem?_toArray,List.getElem?_append_left h2,← List.getElem?_drop,hdr,← hdg,← hj]
  rcases j with _ | _ | j
  ·rfl
  ·rfl
  ·omega
 have:=run_loadCells_list (P:=P) (w:=W) ⟨g,i * 2,none⟩ [(d[i]!).1,(d[i]!).2] hc
 simpa [loadCells] using this
theorem DW.cells (h:DW w g e rest d W) (i:Nat) (hi:i < d.size):W.cell? ⟨g,i * 2,none⟩ = some (d[i]!).1 ∧ W.cell? ⟨g,i * 2 + 1,none⟩ = some (d[i]!).2:=by
 have hdr:=c2h d.toList i (by simpa using hi)
 have hdg:d[i]! = d.toList[i]'(by simpa using hi):=by rw [getElem!_pos d i hi]; simp
 have key:∀ j,j < 2 → W.cell? ⟨g,i * 2 + j,none⟩ = ((d[i]!).1 :: (d[i]!).2 :: fl2 (d.toList.drop (i + 1)))[j]?:=by
  intro j hj
  have h2:i * 2 + j < (fl2 d.toList).length:=by rw [a9y]; simp; omega
  rw [b5m h.row,List.getElem?_toArray,List.getElem?_append_left h2,← List.getElem?_drop,hdr,← hdg]
 exact ⟨key 0 (by decide),key 1 (by decide)⟩
theorem DW.frozen (h:DW w g e rest d W) (i:Nat):W.frozen? ⟨g,i,none⟩ = false:=by simp [World.frozen?,h.row]
theorem DW.setCell (h:DW w g e rest d W) (b o:Nat) (hb:w.heap.size ≤ b) (v:Value):DW w g e rest d (W.setCell ⟨b,o,none⟩ v) where
 os:=h.os
 tape:=h.tape
 output:=h.output
 size:=by simpa [World.setCell] using h.size
 block k hk hn:=by rw [heap_setCell_other _ _ _ _ (show k ≠ b by omega)]; exact h.block k hk hn
 lt:=h.lt
 row:=by rw [heap_setCell_other _ _ _ _ (show g ≠ b by have:=h.lt; omega)]; exact h.row
theorem set_mid {α:Type} (A B:List α) (x y a b:α):((A ++ x :: y :: B).set A.length a).set (A.length + 1) b = A ++ a :: b :: B:=by
 induction A with
 | nil => rfl
 | cons z A ih => simp only [List.cons_append,List.length_cons,List.set_cons_succ,ih]
theorem DW.put (h:DW w g e rest d W) (i:Nat) (hi:i < d.size) (a b:Value):DW w g e rest (d.setIfInBounds i (a,b)) ((W.setCell ⟨g,i * 2,none⟩ a).setCell ⟨g,i * 2 + 1,none⟩ b) where
 os:=h.os
 tape:=h.tape
 output:=h.output
 size:=by simpa [World.setCell] using h.size
 block k hk hn:=by rw [heap_setCell_other _ _ _ _ hn,heap_setCell_other _ _ _ _ hn]; exact h.block k hk hn
 lt:=h.lt
 row:=by
  have hl:i < d.toList.length:=by simpa using hi
  have h1:=heap_setCell_same W g (i * 2) _ e a h.row
  rw [heap_setCell_same _ g (i * 2 + 1) _ e b h1]
  have hA:(fl2 (d.toList.take i)).length = i * 2:=by rw [a9y,List.length_take]; omega
  have e1:fl2 d.toList = fl2 (d.toList.take i) ++ d.toList[i].1 :: d.toList[i].2 :: fl2 (d.toList.drop (i + 1)):=by
   rw [← c8d _ _ (by omega),← c2h _ _ hl,List.take_append_drop]
  have e2:fl2 (d.setIfInBounds i (a,b)).toList = fl2 (d.toList.take i) ++ a :: b :: fl2 (d.toList.drop (i + 1)):=by
   rw [Array.toList_setIfInBounds,List.set_eq_take_append_cons_drop,if_pos hl,c6a,b8d]
  rw [e2,e1]
  congr 2
  have:=set_mid (fl2 (d.toList.take i)) (fl2 (d.toList.drop (i + 1)) ++ rest) d.toList[i].1 d.toList[i].2 a b
  rw [hA] at this
  simp only [List.append_assoc,List.cons_append,List.setIfInBounds_toArray,this]
theorem DW.clear (h:DW w g e rest d W) (i n:Nat) (hi:i ≤ n) (hn:d.size = n) (Z:List Value) (hZ:Z.length = (n - i) * 2) :
  ∃ dk:Array (Value × Value),DW w g e rest dk (W.setRow g ((fl2 d.toList ++ rest).take (i * 2) ++ Z ++ (fl2 d.toList ++ rest).drop (i * 2 + (n - i) * 2)).toArray) ∧ dk.size = n ∧ dk.toList.take i = d.toList.take i:=by
 obtain ⟨z,z1,rfl⟩:=d7w _ _ hZ
 have hdl:d.toList.length = n:=by simpa using hn
 refine ⟨(d.toList.take i ++ z).toArray,⟨h.os,h.tape,h.output,by simpa [World.setRow] using h.size,fun k hk hkn => ?_,h.lt,?_⟩,?_,?_⟩
 ·rw [setRow_other _ _ _ _ hkn]; exact h.block k hk hkn
 ·rw [setRow_heap _ _ _ _ _ _ h.row]
  have h1:i * 2 + (n - i) * 2 = (fl2 d.toList).length:=by rw [a9y,hdl,← Nat.add_mul]; congr 1; omega
  rw [h1,List.drop_left,List.take_append_of_le_length (by rw [a9y,hdl]; omega),c8d _ _ (by omega),← c6a]
 ·simp only [List.size_toArray,List.length_append,List.length_take,z1,hdl]; omega
 ·have:(d.toList.take i).length = i:=by rw [List.length_take,hdl]; omega
  simp only [List.take_left' this]
end
theorem c8e {m:Bool} {w:World}:∀ (l:List AV) (d:List (Value × Value)) (fp:List Nat) (kp:Nat → Bool) ,l.length = d.length → y7 m w 2 l (fl2 d) fp →
  ∃ f,y7 m w 2 (((List.range l.length).filter kp).map fun i => (l[i]?).getD .undef) (fl2 (((List.range d.length).filter kp).map (d.toArray[·]!))) f ∧ List.Sublist f fp
 | [],d,fp,kp,hl,h => by
  have:d = []:=List.eq_nil_of_length_eq_zero hl.symm
  subst this
  exact ⟨[],by simp [y7],List.nil_sublist _⟩
 | a :: l,[],fp,kp,hl,h => by simp at hl
 | a :: l,x :: d,fp,kp,hl,h => by
  simp only [y7] at h
  obtain ⟨f1,f2,⟨h1,h1'⟩,h2,h3,rfl⟩:=h
  have hd:(fl2 (x :: d)).drop 2 = fl2 d:=rfl
  have ht:(fl2 (x :: d)).take 2 = [x.1,x.2]:=rfl
  rw [hd] at h3
  obtain ⟨f,g1,g2⟩:=c8e l d f2 (fun i => kp (i + 1)) (by simpa using hl) h3
  have e1:((List.range (a :: l).length).filter kp).map (fun i => (((a :: l)[i]?).getD AV.undef)) = (if kp 0 then [a] else []) ++ ((List.range l.length).filter fun i => kp (i + 1)).map fun i => (l[i]?).getD .undef:=by
   rw [List.length_cons,List.range_succ_eq_map,List.filter_cons]
   by_cases h0:kp 0 <;> simp [h0,List.filter_map,Function.comp_def]
  have e2:((List.range (x :: d).length).filter kp).map ((x :: d).toArray[·]!) = (if kp 0 then [x] else []) ++ ((List.range d.length).filter fun i => kp (i + 1)).map (d.toArray[·]!):=by
   rw [List.length_cons,List.range_succ_eq_map,List.filter_cons]
   by_cases h0:kp 0 <;> simp [h0,List.filter_map,Function.comp_def]
  rw [e1,e2]
  by_cases h0:kp 0
  ·rw [if_pos h0,if_pos h0]
   refine ⟨f1 ++ f,?_,List.Sublist.append (List.Sublist.refl _) g2⟩
   simp only [List.cons_append,List.nil_append,y7,b8d]
   exact ⟨f1,f,⟨rfl,h1'⟩,by rw [ht] at h2; exact h2,g1,rfl⟩
  ·rw [if_neg h0,if_neg h0]
   exact ⟨f,by simpa using g1,g2.trans (List.sublist_append_right _ _)⟩
theorem c0z {α:Type} {enc:α → AV} (p:α → Bool):∀ (xs:List α) (kp:Nat → Bool),(∀ (j:Nat) x,xs[j]? = some x → kp j = p x) →
  (xs.filter p).map enc = ((List.range (xs.map enc).length).filter kp).map fun i => ((xs.map enc)[i]?).getD .undef
 | [],kp,h => rfl
 | x :: xs,kp,h => by
  have h0:kp 0 = p x:=h 0 x rfl
  have ih:=c0z (enc:=enc) p xs (fun i => kp (i + 1)) (fun j y hj => h (j + 1) y hj)
  rw [List.map_cons,List.length_cons,List.range_succ_eq_map,List.filter_cons,List.filter_cons,h0]
  by_cases hp:p x
  ·rw [if_pos hp,if_pos hp,List.map_cons,ih]
   simp [List.filter_map,Function.comp_def]
  ·rw [if_neg hp,if_neg hp,ih]
   simp [List.filter_map,Function.comp_def]
theorem e7q {C:Ctx} {σ:Sg} {φ:Nat → List Nat} {w w':World} {z:Nat} (hr:o9 C σ φ [.row z []] w) (hb:Below w.heap.size w w') :
  ∃ σ' φ',o9 C σ' φ' [.dead,.row z []] w' ∧ Ev σ [.row z []] w σ' [.dead,.row z []] w' ∧ σ' 1 = none:=by
 obtain ⟨hz,_⟩:=hr.obj 0 _ rfl
 have key:=o9.puts (σ':=upd σ 1 none) (φ':=upd φ 1 []) (w':=w') (ks:=[0]) (xs:=[.row z []]) hr
  (fun o ho => by
          have:o ≠ 1:=by simp at ho; omega
          simp [upd,this])
  hb.size
  (by
    intro j x hj g c hs
    have:j = 0:=by
     rcases j with _ | j
     ·rfl
     ·simp at hj
    subst this
    simp [upd] at hs)
  (fun b hb' _ => hb.block b hb')
  (by
    intro ev j x hj
    have:j = 0:=by
     rcases j with _ | j
     ·rfl
     ·simp at hj
    subst this
    cases hj
    exact ⟨hz,by simp [upd]⟩)
  (by
    intro j j' g c c' hj hj' _ _
    simp at hj hj'; omega)
  (by
    intro _ j x hj _
    have:j = 0:=by
     rcases j with _ | j
     ·rfl
     ·simp at hj
    subst this
    refine ⟨by simp [upd],by simp [upd],?_,by simp [upd]⟩
    intro j' x' hj'
    have:j' = 0:=by
     rcases j' with _ | j'
     ·rfl
     ·simp at hj'
    subst this
    simp)
 exact ⟨_,_,key.1,key.2,by simp [upd]⟩
end Go.R
end
