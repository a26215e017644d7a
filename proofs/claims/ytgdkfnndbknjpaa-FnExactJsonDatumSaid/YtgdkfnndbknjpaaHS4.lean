/- slices.SortFunc of atoms, a contract over the caller's row. -/
import Derived.Test.YtgdkfnndbknjpaaHS2
import Derived.Shelf.SlSortCmp.NoneTotal
set_option linter.all false
namespace Go.R
open Go Go.Proofs Go.RowKit
set_option linter.all false
set_option maxHeartbeats 400000
open Go.Sort
def c6n (x:Int × Int × List UInt8):AV:=.agg [.int .i64 x.1,.int .i64 x.2.1,.str x.2.2]
theorem c7h {m:Bool} {w:World}:∀ (l:List (Int × Int × List UInt8)) (cs:List Value) (fp:List Nat),a0e m w 3 (l.map c6n) cs fp →
    fp = [] ∧ (∀ x ∈ l,x.2.2.length ≤ maxLen) ∧ cs.take (l.length * 3) = l.flatMap vA
  | [],cs,fp,h => by simp only [List.map_nil,a0e] at h;exact ⟨h,by simp,by simp⟩
  | x :: l,cs,fp,h => by
    simp only [List.map_cons,a0e] at h
    obtain ⟨f1,f2,⟨h1,_⟩,hr,hs,rfl⟩:=h
    obtain ⟨rfl,i2,i3⟩:=c7h l _ _ hs
    simp only [c6n,Rep,a0f] at hr
    obtain ⟨c1,r1,g1,g2,e1,_,⟨p1,rfl⟩,⟨c2,r2,g3,g4,e2,_,⟨p2,rfl⟩,⟨c3,r3,g5,g6,e3,_,⟨p3,p4,rfl⟩,⟨e4,rfl⟩,rfl⟩,rfl⟩,rfl⟩:=hr
    subst e2 e3 e4
    simp only [List.cons.injEq,and_true] at p1 p2 p3
    subst p1 p2 p3
    refine ⟨rfl,?_,?_⟩
    · intro y hy
      rcases List.mem_cons.1 hy with rfl | hy
      · exact p4
      · exact i2 y hy
    · rw [List.length_cons,Nat.add_mul,Nat.one_mul,Nat.add_comm,List.take_add,e1,i3]
      rfl
theorem c7i {m:Bool} {w:World}:∀ (l:List (Int × Int × List UInt8)) (cs:List Value),(∀ x ∈ l,x.2.2.length ≤ maxLen) → cs.take (l.length * 3) = l.flatMap vA → a0e m w 3 (l.map c6n) cs []
  | [],cs,_,_ => by simp only [List.map_nil,a0e]
  | x :: l,cs,h,hc => by
    rw [List.length_cons,Nat.add_mul,Nat.one_mul,Nat.add_comm,List.take_add,List.flatMap_cons] at hc
    have hl:(cs.take 3).length = 3:=by
      have:=congrArg List.length hc
      simp only [List.length_append,List.length_take,List.length_drop,vA,List.length_cons,List.length_nil] at this ⊢
      omega
    obtain ⟨h1,h2⟩:=List.append_inj hc (by rw [hl];rfl)
    simp only [List.map_cons,a0e]
    refine ⟨[],[],⟨hl,rfl⟩,?_,c7i l _ (fun y hy => h y (List.mem_cons_of_mem _ hy)) h2,rfl⟩
    rw [h1]
    simp only [c6n,vA,Rep,a0f]
    exact ⟨_,_,[],[],rfl,rfl,⟨rfl,rfl⟩,⟨_,_,[],[],rfl,rfl,⟨rfl,rfl⟩,⟨_,_,[],[],rfl,rfl,⟨rfl,h x (List.mem_cons_self ..),rfl⟩,⟨rfl,rfl⟩,rfl⟩,rfl⟩,rfl⟩
theorem c6o:∀ (l:List (Int × Int × List UInt8)) (j:Nat),j < l.length * 3 → (l.flatMap vA)[j]? = some ((vA l[j / 3]!)[j % 3]!)
  | [],j,h => by simp at h
  | x :: l,j,h => by
    rw [List.flatMap_cons]
    rcases Nat.lt_or_ge j 3 with h3 | h3
    · rw [List.getElem?_append_left (by exact h3)]
      rcases j with _ | _ | _ | j
      · rfl
      · rfl
      · rfl
      · omega
    · obtain ⟨k,rfl⟩:∃ k,j = k + 3:=⟨j - 3,by omega⟩
      rw [List.getElem?_append_right (by exact h3),show k + 3 - (vA x).length = k from rfl,c6o l k (by rw [List.length_cons] at h;omega),Nat.add_div_right k (by decide:0 < 3),Nat.add_mod_right]
      rfl
theorem c9t:∀ l:List (Int × Int × List UInt8),(l.flatMap vA).length = l.length * 3
  | [] => rfl
  | x :: l => by rw [List.flatMap_cons,List.length_append,c9t l,List.length_cons,Nat.add_mul,Nat.add_comm];rfl
theorem d4j (l:List (Int × Int × List UInt8)):(flatK vA 3 l.toArray).toList = l.flatMap vA:=by
  apply List.ext_getElem?
  intro j
  rcases Nat.lt_or_ge j (l.length * 3) with h | h
  · rw [c6o l j h]
    have hg:=get_flatK vA 3 l.toArray j (by simpa using h)
    rw [getElem!_pos _ j (by simpa using h)] at hg
    rw [List.getElem?_eq_getElem (by simpa using h)]
    refine congrArg some ?_
    rw [Array.getElem_toList]
    refine hg.trans ?_
    simp
  · rw [List.getElem?_eq_none (l:=l.flatMap vA) (by rw [c9t];exact h),List.getElem?_eq_none (by simpa using h)]
theorem holdsA {w:World} {g:Nat} {cur:Array Value} {e:TypeId} {l:List (Int × Int × List UInt8)} (hg:w.heap[g]? = some (.cells cur e (0,0))) (hc:cur.toList.take (l.length * 3) = l.flatMap vA):HoldsK vA 3 w g 0 l.toArray:=by
  intro j hj
  have hj':j < l.length * 3:=by simpa using hj
  have h1:cur.toList[j]? = some ((vA l[j / 3]!)[j % 3]!):=by
    rw [← c6o l j hj',← hc,List.getElem?_take_of_lt hj']
  refine ⟨?_,?_⟩
  · rw [get_flatK _ _ _ _ (by simpa using hj')]
    simp only [World.cell?,hg,Nat.zero_add,Option.isSome_none,Bool.false_eq_true,if_false,id]
    rw [← Array.getElem?_toList,h1]
    simp
  · simp [World.frozen?,hg]
theorem c8g {F:Array Value} {cur:Array Value} (h:F.size ≤ cur.size):(Go.Sort.putCells id 0 F cur).toList.take F.size = F.toList:=by
  apply List.ext_getElem?
  intro j
  rcases Nat.lt_or_ge j F.size with hj | hj
  · rw [List.getElem?_take_of_lt hj,Array.getElem?_toList,Go.Sort.putCells,Array.getElem?_mapIdx,Array.getElem?_eq_getElem (by omega)]
    simp [hj]
  · rw [List.getElem?_eq_none (by rw [List.length_take];omega),List.getElem?_eq_none (by simpa using hj)]
theorem put_size {F:Array Value} {cur:Array Value}:(Go.Sort.putCells id 0 F cur).size = cur.size:=by simp [Go.Sort.putCells]
end Go.R
