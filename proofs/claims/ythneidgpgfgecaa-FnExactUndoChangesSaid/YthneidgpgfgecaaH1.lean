/- Rows made anew of pieces of rows that die: what stands behind slices.Insert, slices.Delete, slices.DeleteFunc. -/
import Derived.Test.YthneidgpgfgecaaC23
set_option linter.all false
namespace Go.R
open Go Go.RowKit
set_option linter.unusedVariables false
set_option linter.unusedSimpArgs false
set_option linter.all false

theorem take_add {α:Type} {A B:List α} {a b:Nat} (h:A.length = a):(A ++ B).take (a + b) = A ++ B.take b:=by
  subst h
  rw [List.take_append,List.take_of_length_le (by omega),Nat.add_sub_cancel_left]
section
variable {P:Program} {C:Ctx} {σ:Sg} {φ:Nat → List Nat} {h:List o9} {w w':World}

theorem Taken.perm {ks f g:List Nat} (a:Taken C σ φ h ks f) (hp:f.Perm g):Taken C σ φ h ks g :=
  ⟨fun b hb => a.ok b (hp.mem_iff.2 hb),fun b hb => a.live b (hp.mem_iff.2 hb),fun hdm b hb => a.own hdm b (hp.mem_iff.2 hb),fun hdm hn => hp.nodup_iff.1 (a.nodup hdm hn)⟩
theorem c0y (hr:x9 C σ φ h w) {o z:Nat} {l:List AV} (ho:h[o]? = some (.row z l)):Taken C σ φ h [o] (φ o) :=
  ⟨fun b hb => (hr.phi ho hb).1,fun b hb hl => absurd hl (hr.phi ho hb).2,fun hdm b hb => ⟨o,by simp,.inr ⟨hb,_,ho,rfl⟩⟩,fun hdm _ => (hr.deep hdm o _ l ho).1⟩

theorem c8o (hr:x9 C σ φ h w) {o z n:Nat} {l:List AV} {v:Value} (ho:h[o]? = some (.row z l)) (hv:RV C σ h w (.own o 0 n) v) (hn:n = l.length) :
    (v = .slice none 0 0 ∧ l = [] ∧ σ o = none ∧ φ o = []) ∨ ∃ g c cur e,σ o = some (g,c) ∧ v = .slice (some ⟨g,0,none⟩) n c ∧ n ≤ c ∧ c ≤ maxLen ∧ w.heap[g]? = some (.cells cur e (0,0)) ∧ cur.size = c * z ∧
      a0j C.dm w z l cur.toList (φ o):=by
  simp only [RV,ho] at hv
  obtain ⟨a,cap,rfl,g1,g2,g3,g4⟩:=hv
  obtain ⟨h0,hob⟩:=hr.obj o _ ho
  cases hs:σ o with
  | none =>
    rw [hs] at hob g4
    obtain ⟨rfl,rfl⟩:=g4
    obtain ⟨rfl,hp⟩:=hob
    subst hn
    exact .inl ⟨rfl,rfl,rfl,hp⟩
  | some p =>
    obtain ⟨g,c⟩:=p
    rw [hs] at hob g4
    obtain ⟨rfl,rfl⟩:=g4.2 rfl
    obtain ⟨h1,cur,e,h2,h3,h4,h5⟩:=hob
    exact .inr ⟨g,cap,cur,e,rfl,rfl,g2,g3,h2,h3,h4⟩

theorem b4y (hr:x9 C σ φ h w) {o o' z:Nat} {l:List AV} {y:o9} {g c b:Nat} (ho:h[o]? = some (.row z l)) (hb:b ∈ φ o) (ho':h[o']? = some y) (hy:y.isLive = true) (hs:σ o' = some (g,c)):b ≠ g:=by
  rintro rfl
  exact (hr.phi ho hb).2 ⟨o',y,c,ho',hy,hs⟩

theorem e0e {z:Nat} {l l':List AV} (hr:x9 C σ φ [.row z l] w) (hsize:w.heap.size ≤ w'.heap.size) {g c:Nat} (hσ:σ 0 = some (g,c)) (hc:c ≤ maxLen)
    (hblk:∀ b,b < w.heap.size → b ≠ g → w'.heap[b]? = w.heap[b]?) {cur':Array Value} {e':TypeId} (hg':w'.heap[g]? = some (.cells cur' e' (0,0))) (hcs':cur'.size = c * z)
    {f cs:List _} (hsub:List.Sublist f (φ 0)) (hrep:a0j C.dm w z l' cs f) (hcell:cur'.toList.take (l'.length * z) = cs.take (l'.length * z)) :
    ∃ σ' φ',x9 C σ' φ' [.dead,.row z l'] w' ∧ Ev σ [.row z l] w σ' [.dead,.row z l'] w' ∧ σ' 1 = some (g,c):=by
  have ho:([.row z l]:List o9)[0]? = some (.row z l):=rfl
  obtain ⟨h0,_⟩:=hr.obj 0 _ ho
  have hgb:C.mine g:=hr.base 0 _ g c ho rfl hσ
  have hlt:∀ b ∈ f,b < w.heap.size:=a0j.lt _ _ _ hrep
  have hne:∀ b ∈ f,b ≠ g:=fun b hb => b4y hr ho (hsub.subset hb) ho rfl hσ
  have key:=b6r (w':=w') (ks:=[0]) (as:=l') (fp:=f) hr hsize (g:=g) (c:=c) (sz:=z) ⟨hgb,.inr ⟨0,by simp,_,c,ho,rfl,hσ⟩⟩ hblk hg' h0 hc hcs'
    (a0j.congr hcell (a0j.world _ _ _ (fun b hb => hblk b (hlt b hb) (hne b hb)) hrep)) ((c0y hr ho).sub hsub) hlt (fun b hb => (hr.phi ho (hsub.subset hb)).2) (fun _ => by simp)
  exact ⟨_,_,key.1,key.2,by simp [upd]⟩

theorem d3u {z:Nat} {l v:List AV} (hr:x9 C σ φ [.row z l,.row z v] w) (hb:∀ b,w.heap.size ≤ b → C.mine b) (hsize:w.heap.size ≤ w'.heap.size) {cs0 csv:List Value}
    (h0:a0j C.dm w z l cs0 (φ 0)) (h1:a0j C.dm w z v csv (φ 1)) (i:Nat) (hi:i ≤ l.length) {g' c':Nat} {cur':Array Value} {e':TypeId}
    (hg:w.heap.size ≤ g' ∨ ∃ c0,σ 0 = some (g',c0)) (hblk:∀ b,b < w.heap.size → b ≠ g' → w'.heap[b]? = w.heap[b]?) (hcur:w'.heap[g']? = some (.cells cur' e' (0,0))) (hcs':cur'.size = c' * z) (hc':c' ≤ maxLen)
    (hcell:cur'.toList.take ((i + v.length + (l.length - i)) * z) = cs0.take (i * z) ++ csv.take (v.length * z) ++ (cs0.drop (i * z)).take ((l.length - i) * z)) :
    ∃ σ' φ',x9 C σ' φ' [.dead,.dead,.row z (l.take i ++ v ++ l.drop i)] w' ∧ Ev σ [.row z l,.row z v] w σ' [.dead,.dead,.row z (l.take i ++ v ++ l.drop i)] w' ∧ σ' 2 = some (g',c'):=by
  have ho:([.row z l,.row z v]:List o9)[0]? = some (.row z l):=rfl
  have ho1:([.row z l,.row z v]:List o9)[1]? = some (.row z v):=rfl
  obtain ⟨hz,_⟩:=hr.obj 0 _ ho
  obtain ⟨fa,fb,hfab,ra,rb⟩:=h0.split i
  have hmine:C.mine g':=by
    rcases hg with hg | ⟨c0,hg⟩
    · exact hb _ hg
    · exact hr.base 0 _ g' c0 ho rfl hg
  have hmem:∀ b,b ∈ fa ++ φ 1 ++ fb → b ∈ φ 0 ∨ b ∈ φ 1:=by
    intro b hb'
    rw [hfab]
    simp only [List.mem_append] at hb' ⊢
    rcases hb' with (h | h) | h
    · exact .inl (.inl h)
    · exact .inr h
    · exact .inl (.inr h)
  have hlt:∀ b ∈ fa ++ φ 1 ++ fb,b < w.heap.size:=by
    intro b hb'
    rcases hmem b hb' with h | h
    · exact a0j.lt _ _ _ h0 b h
    · exact a0j.lt _ _ _ h1 b h
  have hnl:∀ b ∈ fa ++ φ 1 ++ fb,¬ liveAt [.row z l,.row z v] σ b:=by
    intro b hb'
    rcases hmem b hb' with h | h
    · exact (hr.phi ho h).2
    · exact (hr.phi ho1 h).2
  have hne:∀ b ∈ fa ++ φ 1 ++ fb,b ≠ g':=by
    intro b hb'
    rcases hg with hg | ⟨c0,hg⟩
    · have:=hlt b hb'; omega
    · rintro rfl
      exact hnl b hb' ⟨0,_,c0,ho,rfl,hg⟩
  have htk:Taken C σ φ [.row z l,.row z v] [0,1] (fa ++ φ 1 ++ fb):=by
    refine Taken.perm ((c0y hr ho).append hr (c0y hr ho1)) ?_
    rw [hfab,List.append_assoc,List.append_assoc]
    exact List.Perm.append_left _ List.perm_append_comm
  have hl0:(l.take i).length = i:=by rw [List.length_take]; omega
  have hl1:(l.drop i).length = l.length - i:=by rw [List.length_drop]
  have hc0:(cs0.take (i * z)).length = i * z:=by
    have hlen:=h0.length
    rw [List.length_take]
    have:i * z ≤ l.length * z:=Nat.mul_le_mul_right _ (by omega)
    omega
  have hcv:(csv.take (v.length * z)).length = v.length * z:=by
    have hlen:=h1.length
    rw [List.length_take]; omega
  have hA:=a0j.append (a0j.congr (cs':=cs0.take (i * z)) (by rw [hl0,List.take_take,Nat.min_self]) ra) (by rw [hc0,hl0]) (a0j.congr (cs':=csv.take (v.length * z)) (by rw [List.take_take,Nat.min_self]) h1)
  have hB:=a0j.append hA (by rw [List.length_append,List.length_append,hc0,hl0,hcv,Nat.add_mul]) rb
  have key:=b6r (w':=w') (ks:=[0,1]) (as:=l.take i ++ v ++ l.drop i) (fp:=fa ++ φ 1 ++ fb) hr hsize (g:=g') (c:=c') (sz:=z)
    ⟨hmine,hg.imp id fun ⟨c0,hg⟩ => ⟨0,by simp,_,c0,ho,rfl,hg⟩⟩ hblk hcur hz hc' hcs'
    (a0j.congr (by
      rw [List.length_append,List.length_append,hl0,hl1,hcell,Nat.add_mul (i + v.length),take_add (by rw [List.length_append,hc0,hcv,Nat.add_mul])])
      (a0j.world _ _ _ (fun b hb' => hblk b (hlt b hb') (hne b hb')) hB)) htk hlt hnl (fun _ => by decide)
  exact ⟨_,_,key.1,key.2,by simp [upd]⟩
end

section
variable {P:Program}
theorem b1n (w:World) (dT sT ty elem:TypeId) (i:TypeInfo) (g o dLen dCap:Nat) (a:Addr) (sLen sCap:Nat) (cur:Array Value) (t:TypeId) (cs:List Value)
    (hu:P.underlying dT = some (.slice elem)) (hs:P.info? elem = some i)
    (hg:w.heap[g]? = some (.cells cur t (0,0))) (hn:cs.length = Nat.min sLen dLen * i.size)
    (hsrc:∀ j v,cs[j]? = some v → w.cell? (a.add j) = some v) (hfit:o + cs.length ≤ cur.size) (h1:∀ v ∈ cs,v.oneCell' = true) :
    (Builtin.copy_ #[dT,sT] ty #[.slice (some ⟨g,o,none⟩) dLen dCap,.slice (some a) sLen sCap]).run P w =
      .ok (goInt (Nat.min sLen dLen)) (w.setRow g (cur.toList.take o ++ cs ++ cur.toList.drop (o + cs.length)).toArray):=by
  have hl:=run_loadCells_list (P:=P) w a cs hsrc
  have hst:=run_storeCells_at P g o t cs 0 cur w hg (by simpa using hfit) h1
  simp [Builtin.copy_,run_underlying hu,Builtin.lenOf,Builtin.firstCells,sizeOf,typeInfo,hs,← hn,hl,hst]
theorem c4p (w:World) (dT ty elem:TypeId) (i:TypeInfo) (zv:Value) (g o n cap:Nat) (cur:Array Value) (t:TypeId)
    (hu:P.underlying dT = some (.slice elem)) (hs:P.info? elem = some i) (hzv:i.zero = some zv) (hzs:zv.cells.size = i.size) (h1:∀ v ∈ zv.cells.toList,v.oneCell' = true)
    (hg:w.heap[g]? = some (.cells cur t (0,0))) (hn:0 < n) (hfit:o + n * i.size ≤ cur.size) :
    (Builtin.clear_ #[dT] ty #[.slice (some ⟨g,o,none⟩) n cap]).run P w =
      .ok (.tuple #[]) (w.setRow g (cur.toList.take o ++ (Builtin.zeroCells zv.cells n).toList ++ cur.toList.drop (o + n * i.size)).toArray):=by
  have hl:(Builtin.zeroCells zv.cells n).toList.length = n * i.size:=by rw [Array.length_toList,size_zeroCells,hzs]
  have hst:=run_storeCells_at P g o t (Builtin.zeroCells zv.cells n).toList 0 cur w hg (by rw [hl]; simpa using hfit) (by
    intro v hv
    simp only [Builtin.zeroCells] at hv
    simp at hv
    obtain ⟨k,hk,rfl⟩:=hv
    have hp:0 < zv.cells.size:=by
      rcases Nat.eq_zero_or_pos zv.cells.size with h | h
      · rw [h] at hk; omega
      · exact h
    have hm:=Nat.mod_lt k hp
    rw [getElem!_pos zv.cells (k % zv.cells.size) hm]
    exact h1 _ (by simp))
  rw [hl] at hst
  obtain ⟨m,rfl⟩:∃ m,n = m + 1:=⟨n - 1,by omega⟩
  have hz0:(zeroValue elem).run P w = .ok zv w:=by simp [zeroValue,typeInfo,hs,hzv]
  simp [Builtin.clear_,run_underlying hu,hz0,hst]
end
end Go.R
