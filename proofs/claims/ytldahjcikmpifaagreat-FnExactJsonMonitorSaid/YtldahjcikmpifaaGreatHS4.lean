import Derived.Test.YtldahjcikmpifaaGreatHS2
import Derived.Shelf.SlSortCmp.NoneTotal
set_option linter.all false
namespace Go.R
open Go Go.Proofs Go.RowKit
set_option maxHeartbeats 400000
open Go.Sort
def d5y (x:Int × Int × List UInt8):AV:=.agg [.int .i64 x.1,.int .i64 x.2.1,.str x.2.2]
theorem d7c {m:Bool} {w:World}:∀ (l:List (Int × Int × List UInt8)) (cs:List Value) (fp:List Nat),a0n m w 3 (l.map d5y) cs fp →
    fp = [] ∧ (∀ x ∈ l,x.2.2.length ≤ maxLen) ∧ cs.take (l.length * 3) = l.flatMap vA
  | [],cs,fp,h => by simp only [List.map_nil,a0n] at h;exact ⟨h,by simp,by simp⟩
  | x :: l,cs,fp,h => by
    simp only [List.map_cons,a0n] at h
    obtain ⟨f1,f2,⟨h1,_⟩,hr,hs,rfl⟩:=h
    obtain ⟨rfl,i2,i3⟩:=d7c l _ _ hs
    simp only [d5y,Rep,a0o] at hr
    obtain ⟨c1,r1,g1,g2,e1,_,⟨p1,rfl⟩,⟨c2,r2,g3,g4,e2,_,⟨p2,rfl⟩,⟨c3,r3,g5,g6,e3,_,⟨p3,p4,rfl⟩,⟨e4,rfl⟩,rfl⟩,rfl⟩,rfl⟩:=hr
    subst e2 e3 e4
    simp only [List.cons.injEq,and_true] at p1 p2 p3
    subst p1 p2 p3
    refine ⟨rfl,?_,?_⟩
    · intro y hy
      rcases List.mem_cons.1 hy with rfl | hy
      · exact p4
      · exact i2 y hy
    · rw [List.length_cons,Nat.add_mul,Nat.one_mul,Nat.add_comm,List.take_add,e1,i3]
      rfl
theorem d7d {m:Bool} {w:World}:∀ (l:List (Int × Int × List UInt8)) (cs:List Value),(∀ x ∈ l,x.2.2.length ≤ maxLen) → cs.take (l.length * 3) = l.flatMap vA → a0n m w 3 (l.map d5y) cs []
  | [],cs,_,_ => by simp only [List.map_nil,a0n]
  | x :: l,cs,h,hc => by
    rw [List.length_cons,Nat.add_mul,Nat.one_mul,Nat.add_comm,List.take_add,List.flatMap_cons] at hc
    have hl:(cs.take 3).length = 3:=by
      have:=congrArg List.length hc
      simp only [List.length_append,List.length_take,List.length_drop,vA,List.length_cons,List.length_nil] at this ⊢
      omega
    obtain ⟨h1,h2⟩:=List.append_inj hc (by rw [hl];rfl)
    simp only [List.map_cons,a0n]
    refine ⟨[],[],⟨hl,rfl⟩,?_,d7d l _ (fun y hy => h y (List.mem_cons_of_mem _ hy)) h2,rfl⟩
    rw [h1]
    simp only [d5y,vA,Rep,a0o]
    exact ⟨_,_,[],[],rfl,rfl,⟨rfl,rfl⟩,⟨_,_,[],[],rfl,rfl,⟨rfl,rfl⟩,⟨_,_,[],[],rfl,rfl,⟨rfl,h x (List.mem_cons_self ..),rfl⟩,⟨rfl,rfl⟩,rfl⟩,rfl⟩,rfl⟩
theorem d5z:∀ (l:List (Int × Int × List UInt8)) (j:Nat),j < l.length * 3 → (l.flatMap vA)[j]? = some ((vA l[j / 3]!)[j % 3]!)
  | [],j,h => by simp at h
  | x :: l,j,h => by
    rw [List.flatMap_cons]
    rcases Nat.lt_or_ge j 3 with h3 | h3
    · rw [List.getElem?_append_left (by exact h3)]
      rcases j with _ | _ | _ | j
      · rfl
      · rfl
      · rfl
      · omega
    · obtain ⟨k,rfl⟩:∃ k,j = k + 3:=⟨j - 3,by omega⟩
      rw [List.getElem?_append_right (by exact h3),show k + 3 - (vA x).length = k from rfl,d5z l k (by rw [List.length_cons] at h;omega),Nat.add_div_right k (by decide:0 < 3),Nat.add_mod_right]
      rfl
theorem e0u:∀ l:List (Int × Int × List UInt8),(l.flatMap vA).length = l.length * 3
  | [] => rfl
  | x :: l => by rw [List.flatMap_cons,List.length_append,e0u l,List.length_cons,Nat.add_mul,Nat.add_comm];rfl
theorem e5x (l:List (Int × Int × List UInt8)):(flatK vA 3 l.toArray).toList = l.flatMap vA:=by
  apply List.ext_getElem?
  intro j
  rcases Nat.lt_or_ge j (l.length * 3) with h | h
  · rw [d5z l j h]
    have hg:=get_flatK vA 3 l.toArray j (by simpa using h)
    rw [getElem!_pos _ j (by simpa using h)] at hg
    rw [List.getElem?_eq_getElem (by simpa using h)]
    refine congrArg some ?_
    rw [Array.getElem_toList]
    refine hg.trans ?_
    simp
  · rw [List.getElem?_eq_none (l:=l.flatMap vA) (by rw [e0u];exact h),List.getElem?_eq_none (by simpa using h)]
theorem holdsA {w:World} {g:Nat} {cur:Array Value} {e:TypeId} {l:List (Int × Int × List UInt8)} (hg:w.heap[g]? = some (.cells cur e (0,0))) (hc:cur.toList.take (l.length * 3) = l.flatMap vA):HoldsK vA 3 w g 0 l.toArray:=by
  intro j hj
  have hj':j < l.length * 3:=by simpa using hj
  have h1:cur.toList[j]? = some ((vA l[j / 3]!)[j % 3]!):=by
    rw [← d5z l j hj',← hc,List.getElem?_take_of_lt hj']
  refine ⟨?_,?_⟩
  · rw [get_flatK _ _ _ _ (by simpa using hj')]
    simp only [World.cell?,hg,Nat.zero_add,Option.isSome_none,Bool.false_eq_true,if_false,id]
    rw [← Array.getElem?_toList,h1]
    simp
  · simp [World.frozen?,hg]
theorem d8u {F:Array Value} {cur:Array Value} (h:F.size ≤ cur.size):(Go.Sort.putCells id 0 F cur).toList.take F.size = F.toList:=by
  apply List.ext_getElem?
  intro j
  rcases Nat.lt_or_ge j F.size with hj | hj
  · rw [List.getElem?_take_of_lt hj,Array.getElem?_toList,Go.Sort.putCells,Array.getElem?_mapIdx,Array.getElem?_eq_getElem (by omega)]
    simp [hj]
  · rw [List.getElem?_eq_none (by rw [List.length_take];omega),List.getElem?_eq_none (by simpa using hj)]
theorem put_size {F:Array Value} {cur:Array Value}:(Go.Sort.putCells id 0 F cur).size = cur.size:=by simp [Go.Sort.putCells]
end Go.R
