/- slices.Sort of ints, a contract over the caller's row. -/
import Derived.Test.YthneidgpgfgecaaH2
import Derived.Test.YthneidgpgfgecaaSortIAP
set_option linter.all false
namespace Go.R
open Go Go.Proofs Go.RowKit
set_option linter.all false
set_option maxHeartbeats 400000
open Go.Sort Go.Shelf
theorem d0y {C:Ctx} {σ:Sg} {φ:Nat → List Nat} {w w':World} {l l':List AV} {g c z:Nat} {cur:Array Value} {e:TypeId} (hz:0 < z) (hr:x8 C σ φ [.row z l] w) (hσ:σ 0 = some (g,c)) (hφ:φ 0 = []) (hc:c ≤ maxLen) (hsize:w.heap.size ≤ w'.heap.size)
    (hblk:∀ b,b < w.heap.size → b ≠ g → w'.heap[b]? = w.heap[b]?) (hg:w'.heap[g]? = some (.cells cur e (0,0))) (hcs:cur.size = c * z) (hrep:a0h C.dm w' z l' cur.toList []) (hlen:l'.length = l.length) :
    x8 C σ φ [.row z l'] w' ∧ EvX C σ [.row z l] w σ [.row z l'] w':=by
  have one:∀ {l:List AV} (o:Nat) x,([o9.row z l]:List o9)[o]? = some x → o = 0 ∧ x = .row z l:=by
    intro l o x h
    cases o with
    | zero => simp at h; exact ⟨rfl,h.symm⟩
    | succ o => simp at h
  have lv:∀ b,liveAt [o9.row z l'] σ b ↔ liveAt [o9.row z l] σ b:=by
    intro b
    constructor
    · rintro ⟨o,x,c,h1,h2,h3⟩
      obtain ⟨rfl,rfl⟩:=one o x h1
      exact ⟨0,_,c,rfl,rfl,h3⟩
    · rintro ⟨o,x,c,h1,h2,h3⟩
      obtain ⟨rfl,rfl⟩:=one o x h1
      exact ⟨0,_,c,rfl,rfl,h3⟩
  refine ⟨⟨?_,?_,?_,?_⟩,⟨?_,?_,?_,?_,hsize⟩⟩
  · intro o x h
    obtain ⟨rfl,rfl⟩:=one o x h
    refine ⟨hz,?_⟩
    rw [hσ]
    exact ⟨hc,cur,e,hg,hcs,by rw [hφ]; exact hrep,by rw [hφ]; simp⟩
  · intro o o' x x' b c c' h1 _ h2 _ _ _
    rw [(one o x h1).1,(one o' x' h2).1]
  · intro o x b c h1 _ h3
    obtain ⟨rfl,rfl⟩:=one o x h1
    exact hr.base 0 _ b c rfl rfl h3
  · intro _ o x h1 _
    obtain ⟨rfl,rfl⟩:=one o x h1
    rw [hφ]
    refine ⟨List.nodup_nil,by simp,by simp⟩
  · intro o x h1 _
    obtain ⟨rfl,rfl⟩:=one o x h1
    exact .inr ⟨rfl,_,rfl,⟨rfl,hlen.symm⟩⟩
  · intro o h1
    have:=one o _ h1
    cases this.2
  · intro b _ h
    exact .inl ((lv b).1 h)
  · intro b hb h _
    refine hblk b hb ?_
    rintro rfl
    exact h ⟨0,_,c,rfl,rfl,hσ⟩

theorem c9s {m:Bool} {w:World}:∀ (l:List Int) (cs:List Value) (fp:List Nat),a0h m w 1 (l.map (AV.int .i64)) cs fp → fp = [] ∧ cs.take l.length = l.map (Value.int .i64)
  | [],cs,fp,h => by simp only [List.map_nil,a0h] at h; exact ⟨h,by simp⟩
  | x :: l,cs,fp,h => by
    simp only [List.map_cons,a0h] at h
    obtain ⟨f1,f2,⟨h1,_⟩,hr,hs,rfl⟩:=h
    obtain ⟨rfl,i3⟩:=c9s l _ _ hs
    simp only [Rep] at hr
    obtain ⟨e1,rfl⟩:=hr
    refine ⟨rfl,?_⟩
    rw [List.length_cons,Nat.add_comm,List.take_add,e1,i3]
    rfl
theorem c9t {m:Bool} {w:World}:∀ (l:List Int) (cs:List Value),cs.take l.length = l.map (Value.int .i64) → a0h m w 1 (l.map (AV.int .i64)) cs []
  | [],cs,_ => by simp only [List.map_nil,a0h]
  | x :: l,[],h => by simp at h
  | x :: l,c :: cs,h => by
    simp only [List.length_cons,List.take_succ_cons,List.map_cons,List.cons.injEq] at h
    obtain ⟨rfl,h⟩:=h
    simp only [List.map_cons,a0h]
    exact ⟨[],[],⟨rfl,rfl⟩,by simp [Rep],c9t l cs h,rfl⟩
set_option maxRecDepth 100000 in
theorem d5c (dm:Md) (l:List Int) (hl30:l.length ≤ 2 ^ 30) :
    a1l Try.prog dm 93 [.own 0 0 l.length] [.row 1 (l.map (AV.int .i64))] (.tup []) [.row 1 ((l.mergeSort fun x y => decide (x ≤ y)).map (AV.int .i64))]:=by
  intro C σ φ w vals _ _ hok hb hr hv
  simp only [RVs] at hv
  obtain ⟨v1,_,rfl,h1,rfl⟩:=hv
  rcases d5a hr rfl h1 (by rw [List.length_map]) with ⟨rfl,hl,_⟩ | ⟨g,c,cur,e,hσ,rfl,hnc,hcm,hg,hcs,hrep⟩
  · have hl':l = []:=by simpa using hl
    subst hl'
    refine (Try.slices_Sort_int_none none 0 w).mono ?_
    rintro _ _ ⟨rfl,rfl⟩
    exact ⟨σ,φ,by simpa using hr,by simpa using EvX.refl (C:=C) σ _ _,by simp [RV,RVs],Below.refl _ _⟩
  · obtain ⟨hφ,hcell⟩:=c9s l _ _ hrep
    have hglt:g < w.heap.size:=by
      rcases Nat.lt_or_ge g w.heap.size with h | h
      · exact h
      · rw [Array.getElem?_eq_none h] at hg; cases hg
    have hH:Holds (Value.int .i64) w g 0 l.toArray:=by
      intro j hj
      have hj':j < l.length:=by simpa using hj
      have hc:cur.toList[j]? = some (.int .i64 l[j]):=by
        have:=congrArg (fun z:List Value => z[j]?) hcell
        simp only [List.getElem?_take_of_lt hj',List.getElem?_map,List.getElem?_eq_getElem hj'] at this
        exact this
      refine ⟨?_,by simp [World.frozen?,hg]⟩
      simp only [World.cell?,hg,Nat.zero_add]
      simpa [hj'] using hc
    refine (Try.slices_Sort_int g 0 c l w hH hglt (by omega)).mono ?_
    rintro _ w' ⟨rfl,n,os,rfl⟩
    obtain ⟨s,hs⟩:∃ s,s = l.mergeSort fun x y => decide (x ≤ y):=⟨_,rfl⟩
    have hsl:s.length = l.length:=by rw [hs,List.length_mergeSort]
    simp only [← hs]
    have hgs:(grow (putRow (Value.int .i64) (Go.Sort.ahead w n) g 0 s.toArray) os).heap[g]? = some (.cells (Go.Sort.putCells (Value.int .i64) 0 s.toArray cur) e (0,0)):=by
      rw [heap_grow_old _ _ (by simpa [putRow,mapBlock,Go.Sort.ahead] using hglt)]
      simp only [putRow,mapBlock,Go.Sort.ahead]
      rw [Array.getElem?_modify,if_pos rfl,hg]
      rfl
    have hbl:∀ b,b < w.heap.size → b ≠ g → (grow (putRow (Value.int .i64) (Go.Sort.ahead w n) g 0 s.toArray) os).heap[b]? = w.heap[b]?:=by
      intro b hb hbg
      rw [heap_grow_old _ _ (by simpa [putRow,mapBlock,Go.Sort.ahead] using hb)]
      simp only [putRow,mapBlock,Go.Sort.ahead]
      rw [Array.getElem?_modify,if_neg (Ne.symm hbg)]
    have hsize:w.heap.size ≤ (grow (putRow (Value.int .i64) (Go.Sort.ahead w n) g 0 s.toArray) os).heap.size:=by
      simp [grow,putRow,mapBlock,Go.Sort.ahead]
    obtain ⟨k1,k2⟩:=d0y (l':=s.map (AV.int .i64)) (by decide) hr hσ hφ hcm hsize hbl hgs (by simpa [Go.Sort.putCells] using hcs) (by
      refine c9t s _ ?_
      apply List.ext_getElem?
      intro j
      rcases Nat.lt_or_ge j s.length with hj | hj
      · have hjc:j < cur.size:=by omega
        rw [List.getElem?_take_of_lt hj,Array.getElem?_toList,Go.Sort.putCells,Array.getElem?_mapIdx,Array.getElem?_eq_getElem hjc]
        simp [hj]
      · rw [List.getElem?_eq_none (by rw [List.length_take]; omega),List.getElem?_eq_none (by simpa using hj)]) (by rw [List.length_map,List.length_map,hsl])
    have hgb:C.mine g:=hr.base 0 _ g c rfl rfl hσ
    refine ⟨σ,φ,k1,k2,by simp [RV,RVs],⟨rfl,rfl,rfl,hsize,fun k hk => ?_⟩⟩
    have:=hgb.1
    rcases Nat.lt_or_ge k w.heap.size with h | h
    · exact hbl k h (by omega)
    · omega
end Go.R
