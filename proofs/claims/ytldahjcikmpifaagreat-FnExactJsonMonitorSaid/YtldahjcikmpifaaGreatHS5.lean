import Derived.Test.YtldahjcikmpifaaGreatHS4
import Derived.Test.YtldahjcikmpifaaGreatSortAP
set_option linter.all false
namespace Go.R
open Go Go.Proofs Go.RowKit
set_option maxHeartbeats 400000
open Go.Sort Go.Shelf
theorem e0v {C:Ctx} {σ:Sg} {φ:Nat → List Nat} {w w':World} {l l':List AV} {g c:Nat} {cur:Array Value} {e:TypeId} (hr:a0b C σ φ [.row 3 l] w) (hσ:σ 0 = some (g,c)) (hφ:φ 0 = []) (hc:c ≤ maxLen) (hsize:w.heap.size ≤ w'.heap.size)
    (hblk:∀ b,b < w.heap.size → b ≠ g → w'.heap[b]? = w.heap[b]?) (hg:w'.heap[g]? = some (.cells cur e (0,0))) (hcs:cur.size = c * 3) (hrep:a0n C.dm w' 3 l' cur.toList []) (hlen:l'.length = l.length) :
    a0b C σ φ [.row 3 l'] w' ∧ EvX C σ [.row 3 l] w σ [.row 3 l'] w':=by
  have one:∀ {l:List AV} (o:Nat) x,([y9.row 3 l]:List y9)[o]? = some x → o = 0 ∧ x = .row 3 l:=by
    intro l o x h
    cases o with
    | zero => simp at h;exact ⟨rfl,h.symm⟩
    | succ o => simp at h
  have lv:∀ b,liveAt [y9.row 3 l'] σ b ↔ liveAt [y9.row 3 l] σ b:=by
    intro b
    constructor
    · rintro ⟨o,x,c,h1,h2,h3⟩
      obtain ⟨rfl,rfl⟩:=one o x h1
      exact ⟨0,_,c,rfl,rfl,h3⟩
    · rintro ⟨o,x,c,h1,h2,h3⟩
      obtain ⟨rfl,rfl⟩:=one o x h1
      exact ⟨0,_,c,rfl,rfl,h3⟩
  refine ⟨⟨?_,?_,?_,?_⟩,⟨?_,?_,?_,?_,hsize⟩⟩
  · intro o x h
    obtain ⟨rfl,rfl⟩:=one o x h
    refine ⟨by decide,?_⟩
    rw [hσ]
    exact ⟨hc,cur,e,hg,hcs,by rw [hφ];exact hrep,by rw [hφ];simp⟩
  · intro o o' x x' b c c' h1 _ h2 _ _ _
    rw [(one o x h1).1,(one o' x' h2).1]
  · intro o x b c h1 _ h3
    obtain ⟨rfl,rfl⟩:=one o x h1
    exact hr.base 0 _ b c rfl rfl h3
  · intro _ o x h1 _
    obtain ⟨rfl,rfl⟩:=one o x h1
    rw [hφ]
    refine ⟨List.nodup_nil,by simp,by simp⟩
  · intro o x h1 _
    obtain ⟨rfl,rfl⟩:=one o x h1
    exact .inr ⟨rfl,_,rfl,⟨rfl,hlen.symm⟩⟩
  · intro o h1
    have:=one o _ h1
    cases this.2
  · intro b _ h
    exact .inl ((lv b).1 h)
  · intro b hb h _
    refine hblk b hb ?_
    rintro rfl
    exact h ⟨0,_,c,rfl,rfl,hσ⟩
set_option maxRecDepth 100000 in
theorem e0w (hO:SWO (ltOf cfA)) (hT:∀ x y,(ltOf cfA) x y = false → (ltOf cfA) y x = false → x = y) (dm:Md) (l:List (Int × Int × List UInt8)) (hl30:l.length ≤ 2 ^ 30) :
    a0z Tryz.prog dm 352 [.own 0 0 l.length,.fn 227 []] [.row 3 (l.map d5y)] (.tup []) [.row 3 ((l.mergeSort fun x y => !(ltOf cfA) y x).map d5y)]:=by
  intro C σ φ w vals _ _ hok hb hr hv
  simp only [RVs] at hv
  obtain ⟨v1,_,rfl,h1,v2,_,rfl,h2,rfl⟩:=hv
  have e2:v2 = .func (.func 227) #[] #[]:=by
    simp only [RV,RVs] at h2
    obtain ⟨vs,rfl,h3⟩:=h2
    have:vs = #[]:=by simpa using h3
    rw [this]
  subst e2
  rcases e3e hr rfl h1 (by rw [List.length_map]) with ⟨rfl,hl,_⟩ | ⟨g,c,cur,e,hσ,rfl,hnc,hcm,hg,hcs,hrep⟩
  · have hl':l = []:=by simpa using hl
    subst hl'
    have:=AnyF.slices_SortFunc_none Tryz.sortAtom none 0 (.func (.func 227) #[] #[]) w
    change Calls Tryz.prog 352 _ _ _ at this
    refine this.mono ?_
    rintro _ _ ⟨rfl,rfl⟩
    exact ⟨σ,φ,by simpa using hr,by simpa using EvX.refl (C:=C) σ _ _,by simp [RV,RVs],Below.refl _ _⟩
  · obtain ⟨hφ,hmx,hcell⟩:=d7c l _ _ hrep
    have hglt:g < w.heap.size:=by
      rcases Nat.lt_or_ge g w.heap.size with h | h
      · exact h
      · rw [Array.getElem?_eq_none h] at hg;cases hg
    have eg:∀ args w,(callFunc 227 args).run Tryz.prog w = .ok (.enter 227 args) w:=enters_of Tryz.func227 (by kernel_rfl) rfl
    have hcon:=AnyQ.slices_SortFunc_total Tryz.sortAtom 3 Tryz.isAgg101 Tryz.sizeOf101 vA (fun _ => rfl) (fun x v hv => by simp only [vA,List.mem_cons,List.not_mem_nil,or_false] at hv;rcases hv with rfl | rfl | rfl <;> rfl) cfA hO 227 #[] g 0 c l.toArray w eg
      (fun m os dk _ x y => e3j x y _) (holdsA hg hcell) hglt (by rw [List.size_toArray];omega) hT
    change Calls Tryz.prog 352 _ _ _ at hcon
    rw [List.size_toArray] at hcon
    refine hcon.mono ?_
    rintro _ w' ⟨rfl,n,os,rfl⟩
    obtain ⟨s,hs⟩:∃ s,s = l.mergeSort fun x y => !(ltOf cfA) y x:=⟨_,rfl⟩
    have hsl:s.length = l.length:=by rw [hs,List.length_mergeSort]
    simp only [← hs]
    have hF:(flatK vA 3 s.toArray).size = l.length * 3:=by rw [size_flatK,List.size_toArray,hsl]
    have hgs:(sortWorldK vA 3 w g 0 n s.toArray os).heap[g]? = some (.cells (Go.Sort.putCells id 0 (flatK vA 3 s.toArray) cur) e (0,0)):=by
      unfold sortWorldK
      rw [heap_grow_old _ _ (by simpa [putRowK] using hglt)]
      simp only [putRowK,putRow,mapBlock,Go.Sort.ahead]
      rw [Array.getElem?_modify,if_pos rfl,hg]
      rfl
    have hbl:∀ b,b < w.heap.size → b ≠ g → (sortWorldK vA 3 w g 0 n s.toArray os).heap[b]? = w.heap[b]?:=by
      intro b hb hbg
      unfold sortWorldK
      rw [heap_grow_old _ _ (by simpa [putRowK] using hb)]
      simp only [putRowK,putRow,mapBlock,Go.Sort.ahead]
      rw [Array.getElem?_modify,if_neg (Ne.symm hbg)]
    have hsize:w.heap.size ≤ (sortWorldK vA 3 w g 0 n s.toArray os).heap.size:=by
      simp [sortWorldK,grow,putRowK]
    obtain ⟨k1,k2⟩:=e0v (l':=s.map d5y) hr hσ hφ hcm hsize hbl hgs (by rw [put_size];exact hcs) (by
      refine d7d s _ (fun x hx => hmx x (by rw [hs] at hx;exact List.mem_mergeSort.1 hx)) ?_
      have:=d8u (F:=flatK vA 3 s.toArray) (cur:=cur) (by rw [hF,hcs];exact Nat.mul_le_mul_right _ hnc)
      rw [hF] at this
      rw [hsl,this,e5x]) (by rw [List.length_map,List.length_map,hsl])
    have hgb:C.mine g:=hr.base 0 _ g c rfl rfl hσ
    refine ⟨σ,φ,k1,k2,by simp [RV,RVs],⟨rfl,rfl,rfl,hsize,fun k hk => ?_⟩⟩
    have:=hgb.1
    rcases Nat.lt_or_ge k w.heap.size with h | h
    · exact hbl k h (by omega)
    · omega
end Go.R
