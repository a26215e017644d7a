import Derived.Test.YtldahjcikmpifaaGreatC9
set_option linter.all false
namespace Go.R
open Go Go.RowKit
def upd {α:Type} (f:Nat → α) (n:Nat) (v:α) (m:Nat):α:=if m = n then v else f m
section loud
variable {P:Program} {C:Ctx} {σ:Sg} {φ:Nat → List Nat} {h:List y9} {w:World} {t:Nat → AV} {ρ:Operand → Value}
theorem c2x (w:World) (o:Obj):({ w with heap:=w.heap.push o }:World).heap[w.heap.size]? = some o:=by simp
theorem b4y (w:World) (o:Obj) (b:Nat) (hb:b < w.heap.size):({ w with heap:=w.heap.push o }:World).heap[b]? = w.heap[b]?:=by
 show (w.heap.push o)[b]? = _
 rw [Array.getElem?_push,if_neg (by omega)]
theorem Below.push (B:Nat) (w:World) (o:Obj) (hB:B ≤ w.heap.size):Below B w { w with heap:=w.heap.push o } :=
 ⟨rfl,rfl,rfl,by simp,fun k hk => b4y w o k (by omega)⟩
theorem a0b.add (hr:a0b C σ φ h w) (hb:∀ b,w.heap.size ≤ b → C.mine b) {ks:List Nat} (x:y9) (c:Nat) (fx:List Nat) (ob:Obj)
  (hobj:Ev σ h w (upd σ h.length (some (w.heap.size,c))) (kill h ks ++ [x]) { w with heap:=w.heap.push ob } →
   b2b C (upd σ h.length (some (w.heap.size,c))) (upd φ h.length fx) (kill h ks ++ [x]) { w with heap:=w.heap.push ob } h.length x)
  (hdeep:C.dm = true → x.rw = true → fx.Nodup ∧ (∀ b ∈ fx,C.mine b) ∧ ∀ o x',h[o]? = some x' → x'.rw = true → o ∉ ks → ∀ b ∈ fx,b ∉ φ o) :
  a0b C (upd σ h.length (some (w.heap.size,c))) (upd φ h.length fx) (kill h ks ++ [x]) { w with heap:=w.heap.push ob } ∧
  Ev σ h w (upd σ h.length (some (w.heap.size,c))) (kill h ks ++ [x]) { w with heap:=w.heap.push ob }:=by
 refine a0b.puts hr ?_ (by simp) ?_ ?_ ?_ ?_ ?_
 ·intro o ho
  have:o ≠ h.length:=by omega
  simp [upd,this]
 ·intro j y hj g c' hs
  cases j with
  | zero =>
   simp [upd] at hs
   obtain ⟨rfl,rfl⟩:=hs
   exact ⟨hb _ (Nat.le_refl _),.inl (Nat.le_refl _)⟩
  | succ j => simp at hj
 ·intro b hb' _
  exact b4y w ob b hb'
 ·intro ev j y hj
  cases j with
  | zero => simp at hj; subst hj; exact hobj ev
  | succ j => simp at hj
 ·intro j j' g c1 c2 hj hj' _ _
  simp at hj hj'
  omega
 ·intro hdm j y hj hy
  cases j with
  | zero =>
   simp at hj
   subst hj
   have:=hdeep hdm hy
   have e:upd φ h.length fx (h.length + 0) = fx:=by simp [upd]
   rw [e]
   refine ⟨this.1,this.2.1,?_,this.2.2⟩
   intro j' x' hj' _ hne
   cases j' with
   | zero => exact absurd rfl hne
   | succ j' => simp at hj'
  | succ j => simp at hj
theorem c9n (hr:a0b C σ φ h w) (hb:∀ b,w.heap.size ≤ b → C.mine b) (ty:TypeId) {a:AV} {v:Value} {sz:Nat} (hv:RV C σ h w a v) (hs:a7h h a) (hl:a.cells.length = sz) :
  ∃ u w' σ' φ',(Instr.box ty v).run P w = .ok u w' ∧ a0b C σ' φ' (h ++ [.box sz a]) w' ∧ Ev σ h w σ' (h ++ [.box sz a]) w' ∧ RV C σ' (h ++ [.box sz a]) w' (.ptr h.length 0 0) u ∧ Below C.base w w':=by
 have hc:=hv.cells hs
 have hlen:=hc.length
 have key:=hr.add hb (ks:=[]) (.box sz a) 1 [] (.cells v.cells ty) (fun ev => by
  refine ⟨w.heap.size,v.cells,ty,by simp [upd],c2x _ _,?_,ev.rvs _ _ hc⟩
  rw [← hl,← hlen]; simp) (by intro _ e; cases e)
 simp only [kill] at key
 refine ⟨.pointer (some ⟨w.heap.size,0,none⟩),{ w with heap:=w.heap.push (.cells v.cells ty) },_,_,?_,key.1,key.2,?_,Below.push _ _ _ (hb _ (Nat.le_refl _)).1⟩
 ·simp [Instr.box,newVar,newRow]
 ·simp only [RV]
  simp only [List.getElem?_append_right (Nat.le_refl _),Nat.sub_self,List.getElem?_cons_zero]
  exact ⟨trivial,w.heap.size,1,by simp [upd],rfl⟩
theorem b9s (size:Nat):∀ (vs:List Value) (k:Nat) (cs:Array Value),(∀ v ∈ vs,v.cells.size = size) → (k + vs.length) * size ≤ cs.size →
  Instr.fill (fun i => some (i * size,size)) cs ((vs.zipIdx k).map fun p => (p.2,p.1)) =
   some (cs.toList.take (k * size) ++ (vs.flatMap fun v => v.cells.toList) ++ cs.toList.drop ((k + vs.length) * size)).toArray
 | [],k,cs,_,hl => by simp [Instr.fill]
 | v :: vs,k,cs,hs,hl => by
  have hv:=hs v (by simp)
  simp only [List.length_cons] at hl
  have h1:(k + 1) * size = k * size + size:=by rw [Nat.add_mul]; omega
  have h2:(k + (vs.length + 1)) * size = k * size + size + vs.length * size:=by rw [Nat.add_mul,Nat.add_mul]; omega
  have h3:(k + 1 + vs.length) * size = k * size + size + vs.length * size:=by rw [Nat.add_mul,Nat.add_mul]; omega
  simp only [List.zipIdx_cons,List.map_cons,Instr.fill]
  rw [if_neg (by simp [hv]; omega)]
  rw [← Array.foldl_toList,Array.toList_zipIdx,foldl_set (k * size) _ 0 cs (by simp [hv]; omega)]
  rw [b9s size vs (k + 1) _ (fun u hu => hs u (by simp [hu])) (by simp [hv]; omega)]
  congr 1
  apply Array.toList_inj.1
  simp only [Nat.add_zero,Array.length_toList,hv,List.length_cons,h1,h2,h3]
  have hlen:v.cells.toList.length = size:=by simp [hv]
  have t1:(cs.toList.take (k * size) ++ v.cells.toList ++ cs.toList.drop (k * size + size)).take (k * size + size) = cs.toList.take (k * size) ++ v.cells.toList:=by
   rw [List.take_append_of_le_length (by simp [hlen]; omega),List.take_of_length_le (by simp [hlen]; omega)]
  have t2:(cs.toList.take (k * size) ++ v.cells.toList ++ cs.toList.drop (k * size + size)).drop (k * size + size + vs.length * size) = cs.toList.drop (k * size + size + vs.length * size):=by
   have e:(cs.toList.take (k * size) ++ v.cells.toList).length = k * size + size:=by simp [hlen]; omega
   rw [show k * size + size + vs.length * size = (cs.toList.take (k * size) ++ v.cells.toList).length + vs.length * size by rw [e],List.drop_length_add_append,e,List.drop_drop]
  simp only [t1,t2,List.flatMap_cons]
  simp
theorem b9t {ρ:Operand → Value}:∀ (parts:List (Nat × Operand)) (k:Nat) (xs:List AX),b3z k parts = some xs →
  (parts.map fun p => (p.1,ρ p.2)) = ((parts.map fun p => ρ p.2).zipIdx k).map fun p => (p.2,p.1)
 | [],k,xs,_ => rfl
 | (i,x) :: rest,k,xs,hp => by
  simp only [b3z] at hp
  cases h1:cx x with
  | none => simp [h1] at hp
  | some a =>
   cases h2:b3z (k + 1) rest with
   | none => simp [h1,h2] at hp
   | some l =>
    simp only [h1,h2] at hp
    split at hp
    ·rename_i e
     subst e
     simp only [List.map_cons,List.zipIdx_cons]
     rw [b9t rest (i + 1) l h2]
    ·cases hp
theorem c2y (he:a7b C σ h w t ρ):∀ (parts:List (Nat × Operand)) (k:Nat) (xs:List AX),b3z k parts = some xs → RVs C σ h w (xs.map (AX.ev t)) (parts.map fun p => ρ p.2)
 | [],k,xs,hp => by simp only [b3z] at hp; cases hp; simp [RVs]
 | (i,x) :: rest,k,xs,hp => by
  simp only [b3z] at hp
  cases h1:cx x with
  | none => simp [h1] at hp
  | some a =>
   cases h2:b3z (k + 1) rest with
   | none => simp [h1,h2] at hp
   | some l =>
    simp only [h1,h2] at hp
    split at hp
    ·cases hp
     simp only [List.map_cons,RVs]
     exact ⟨_,_,rfl,he x a h1,c2y he rest (k + 1) l h2⟩
    ·cases hp
theorem d0w (hr:a0b C σ φ h w) (hb:∀ b,w.heap.size ≤ b → C.mine b) (ty:TypeId) {ks fp:List Nat} {as:List AV} {sz c:Nat} {cur:Array Value} (hsz:0 < sz) (hc:c ≤ maxLen) (hcs:cur.size = c * sz)
  (hrep:a0n C.dm w sz as cur.toList fp) (ht:Taken C σ φ h ks fp) (hn:C.dm = true → ks.Nodup) :
  ∃ σ' φ',a0b C σ' φ' (kill h ks ++ [.row sz as]) { w with heap:=w.heap.push (.cells cur ty) } ∧ Ev σ h w σ' (kill h ks ++ [.row sz as]) { w with heap:=w.heap.push (.cells cur ty) } ∧
   σ' h.length = some (w.heap.size,c):=by
 have hlt:=a0n.lt _ _ _ hrep
 have key:=hr.add hb (ks:=ks) (.row sz as) c fp (.cells cur ty) (fun ev => by
  refine ⟨hsz,?_⟩
  have e1:upd σ h.length (some (w.heap.size,c)) h.length = some (w.heap.size,c):=by simp [upd]
  have e2:upd φ h.length fp h.length = fp:=by simp [upd]
  rw [e1,e2]
  refine ⟨hc,cur,ty,c2x _ _,hcs,?_,?_⟩
  ·exact a0n.world _ _ _ (fun b hb => b4y w _ b (hlt b hb)) hrep
  ·intro b hb'
   refine ⟨ht.ok b hb',?_⟩
   rintro ⟨o,x,c',h1,h2,h3⟩
   rcases a7i h1 h2 with ⟨hl,g1,g2⟩ | ⟨hge,g1⟩
   ·have:o ≠ h.length:=by omega
    simp only [upd,if_neg this] at h3
    have hlv:liveAt h σ b:=⟨o,x,c',g1,h2,h3⟩
    obtain ⟨k,k1,k2⟩:=ht.live b hb' hlv
    rcases k2 with ⟨y,c'',y1,y2,y3⟩ | ⟨y1,y,y2,y3⟩
    ·have:=hr.inj o k x y b c' c'' g1 h2 y1 y2 h3 y3
     subst this
     exact g2 k1
    ·exact (hr.phix y2 y3 y1).2 hlv
   ·have e:o - h.length = 0:=by
     rcases Nat.eq_zero_or_pos (o - h.length) with h0 | h0
     ·exact h0
     ·rw [List.getElem?_eq_none (by simp only [List.length_cons,List.length_nil]; omega)] at g1; cases g1
    have:o = h.length:=by omega
    subst this
    rw [e1] at h3
    cases h3
    have:=hlt _ hb'
    omega) (by
  intro hdm _
  refine ⟨ht.nodup hdm (hn hdm),?_,?_⟩
  ·intro b hb'
   obtain ⟨k,_,hk⟩:=ht.own hdm b hb'
   exact hk.base hr hdm
  ·intro o x' ho hx' hok b hb' hbo
   obtain ⟨k,k1,k2⟩:=ht.own hdm b hb'
   have:=a7x.unique hr hdm k2 (.inr ⟨hbo,x',ho,hx'⟩)
   subst this
   exact hok k1)
 exact ⟨_,_,key.1,key.2,by simp [upd]⟩
theorem d0x (hr:a0b C σ φ h w) (hok:∀ b,C.mine b → C.ok b) (hb:∀ b,w.heap.size ≤ b → C.mine b) {ty e:TypeId} {i:TypeInfo} {n:Nat} {parts:Array (Nat × Operand)} {xs:List AX} (ht:P.underlying ty = some (.slice e)) (hi:P.info? e = some i)
  (hz:i.zero.isSome = true) (hz0:0 < (i.zero.getD undef).cells.size) (h0:0 < i.size) (hle:n * i.size ≤ 2 ^ 24) (hn:n = xs.length) (hx:b3z 0 parts.toList = some xs) (he:a7b C σ h w t ρ)
  {as:List AV} {ks:List Nat} (ha:a1n C.dm h (xs.map (AX.ev t)) = some (as,ks)) (hnd:C.dm = true → ks.Nodup) (hl:∀ a ∈ as,a.cells.length = i.size) :
  ∃ u w' σ' φ',(Instr.buildSlice ty n (parts.map fun (i,x) => (i,ρ x))).run P w = .ok u w' ∧ a0b C σ' φ' (kill h ks ++ [.row i.size as]) w' ∧ Ev σ h w σ' (kill h ks ++ [.row i.size as]) w' ∧
   RV C σ' (kill h ks ++ [.row i.size as]) w' (.own h.length 0 as.length) u ∧ Below C.base w w':=by
 have hrv:=c2y he parts.toList 0 xs hx
 obtain ⟨fp,r1,r2,r3,r4⟩:=a1n.repS hr hok _ as ks _ ha hrv hl
 have hasl:as.length = n:=by
  have h1:=hrv.length
  have:as.length = (xs.map (AX.ev t)).length:=by
   have:∀ (l:List AV) (bs:List AV) (k:List Nat),a1n C.dm h l = some (bs,k) → bs.length = l.length:=by
    intro l
    induction l with
    | nil => intro bs k hc; simp only [a1n] at hc; cases hc; rfl
    | cons a l ih =>
     intro bs k hc
     simp only [a1n] at hc
     split at hc
     ·rename_i b k1 bs' k2 g1 g2
      cases hc
      simp [ih _ _ g2]
     ·cases hc
   exact this _ _ _ ha
  rw [this,List.length_map,hn]
 obtain ⟨z,hzz⟩:=Option.isSome_iff_exists.1 hz
 rw [hzz] at hz0
 simp only [Option.getD_some] at hz0
 have hm:n ≤ maxLen:=by
  have:n ≤ n * i.size:=Nat.le_mul_of_pos_right n h0
  simp only [maxLen]
  omega
 have hcur:((parts.toList.map fun p => ρ p.2).flatMap fun v => v.cells.toList).toArray.size = n * i.size:=by simpa [hasl] using r2
 obtain ⟨σ',φ',k1,k2,k3⟩:=d0w hr hb e h0 hm hcur (by simpa using r1) r4 hnd
 refine ⟨.slice (some ⟨w.heap.size,0,none⟩) n n,_,σ',φ',?_,k1,k2,?_,Below.push _ _ _ (hb _ (Nat.le_refl _)).1⟩
 ·have hplen:(parts.toList.map fun p => ρ p.2).length = n:=by
   rw [hrv.length,List.length_map,hn]
  have hfill:∀ z':Array Value,z'.size = n * i.size → Instr.fill (fun j => some (j * i.size,i.size)) z' (parts.toList.map fun p => (p.1,ρ p.2)) = some ((parts.toList.map fun p => ρ p.2).flatMap fun v => v.cells.toList).toArray:=by
   intro z' hz'
   rw [b9t parts.toList 0 xs hx,b9s i.size _ 0 z' r3 (by rw [Nat.zero_add,hplen,hz']; exact Nat.le_refl _)]
   simp only [Nat.zero_mul,List.take_zero,List.nil_append,Nat.zero_add,hplen]
   rw [List.drop_of_length_le (by simp [hz'])]
   simp
  have hmk:∀ z':Array Value,((Array.range (n * i.size)).map (fun x => z'[x % z'.size]!)).size = n * i.size:=by intro z'; simp
  simp only [Instr.buildSlice,Sem.run_bind,run_underlying ht,Result.andThen_ok,sizeOf,typeInfo,run_program,hi,Sem.run_pure]
  rw [if_neg (by omega)]
  by_cases hnz:n * i.size = 0
  ·simp only [hnz,if_true,Sem.run_bind,Sem.run_pure,Result.andThen_ok]
   have hf:=hfill ((Array.range 0).map (fun x => (#[]:Array Value)[x % (#[]:Array Value).size]!)) (by simp [hnz])
   simp only [Array.toList_map]
   rw [hf]
   simp [newRow]
  ·rw [if_neg hnz]
   have hf:=hfill _ (hmk z.cells)
   simp only [Sem.run_bind,zeroValue,typeInfo,run_program,hi,Result.andThen_ok,hzz,Sem.run_pure,Array.toList_map]
   rw [hf]
   simp [newRow]
 ·simp only [RV]
  have:(kill h ks ++ [y9.row i.size as])[h.length]? = some (.row i.size as):=by
   rw [List.getElem?_append_right (by rw [a5q]; exact Nat.le_refl _),a5q,Nat.sub_self]; rfl
  rw [this]
  simp only
  refine ⟨_,n,by rw [hasl],by omega,by omega,hm,?_⟩
  rw [k3]
  simp
end loud
end Go.R
