/- Maps of the call's own whose keys are texts: making, writing, reading. -/
import Derived.Test.YtldahjcikmpifaaGreatC16
import Derived.Maps.Own
set_option linter.all false
namespace Go.R
open Go Go.RowKit
open Go.ChangeMaps (setBlock heap_setBlock_same heap_setBlock_other)
set_option linter.unusedVariables false
set_option linter.unusedSimpArgs false

def b2a {α:Type}:List (List UInt8 × α) → List UInt8 → α → List (List UInt8 × α)
  | [],k,v => [(k,v)]
  | (k',v') :: r,k,v => if k' = k then (k',v) :: r else (k',v') :: b2a r k v
def a5m {α:Type}:List (List UInt8 × α) → List UInt8 → Option α
  | [],_ => none
  | (k',v) :: r,k => if k' = k then some v else a5m r k
theorem d0f {α β:Type} (f:α → β) (k:List UInt8) (v:α):∀ m:List (List UInt8 × α),(b2a m k v).map (fun p => (p.1,f p.2)) = b2a (m.map fun p => (p.1,f p.2)) k (f v)
  | [] => rfl
  | (k',v') :: r => by
    simp only [b2a,List.map_cons]
    split
    · rfl
    · rw [List.map_cons,d0f f k v r]
theorem c6p {α β:Type} (f:α → β) (k:List UInt8):∀ m:List (List UInt8 × α),a5m (m.map fun p => (p.1,f p.2)) k = (a5m m k).map f
  | [] => rfl
  | (k',v') :: r => by
    simp only [a5m,List.map_cons]
    split
    · rfl
    · exact c6p f k r

section
variable {P:Program} {C:Ctx} {σ:Sg} {φ:Nat → List Nat} {h:List o9} {w w':World} {t:Nat → AV} {ρ:Operand → Value}
abbrev a7p (k:List UInt8):Value:=.string ⟨k.toArray⟩
theorem d3f (a b:List UInt8):((⟨a.toArray⟩:ByteArray) == ⟨b.toArray⟩) = decide (a = b):=by
  show (a.toArray == b.toArray) = decide (a = b)
  by_cases h:a = b
  · subst h; simp
  · rw [decide_eq_false h]
    exact beq_eq_false_iff_ne.2 (by intro hh; exact h (by simpa using hh))
theorem b8r {a b:List UInt8}:a7p a = a7p b ↔ a = b:=by
  constructor
  · intro h; simpa [a7p] using h
  · rintro rfl; rfl

open Classical in
noncomputable def setE (k:List UInt8) (x:Value) (ck:Nat):List MapEntry → List MapEntry
  | [] => [⟨a7p k,x,ck⟩]
  | e :: L => if e.key = a7p k then ⟨a7p k,x,e.born⟩ :: L else e :: setE k x ck L
open Classical in
noncomputable def lookE (k:List UInt8) (z:Value):List MapEntry → Value
  | [] => z
  | e :: L => if e.key = a7p k then e.val else lookE k z L
theorem c0k (k:List UInt8) (x:Value) (ck:Nat) (z:Value):∀ (m:List (List UInt8 × AV)) (L:List MapEntry) (i:Nat),L.map (·.key) = m.map (fun p => a7p p.1) →
    (Instr.findNow .string (a7p k) L i = some none ∧ setE k x ck L = L ++ [⟨a7p k,x,ck⟩] ∧ lookE k z L = z) ∨
    ∃ j e,Instr.findNow .string (a7p k) L i = some (some (i + j,e.val)) ∧ L[j]? = some e ∧ e.key = a7p k ∧ setE k x ck L = L.set j ⟨a7p k,x,e.born⟩ ∧ lookE k z L = e.val
  | [],[],i,_ => .inl ⟨rfl,rfl,rfl⟩
  | [],_ :: _,_,h => by simp at h
  | _ :: _,[],_,h => by simp at h
  | p :: m,e :: L,i,h => by
    simp only [List.map_cons,List.cons.injEq] at h
    obtain ⟨h1,h2⟩:=h
    by_cases hk:p.1 = k
    · have he:e.key = a7p k:=by rw [h1,hk]
      refine .inr ⟨0,e,?_,rfl,he,?_,?_⟩
      · simp [Instr.findNow,he,Instr.sameNow,d3f]
      · simp [setE,he]
      · simp [lookE,he]
    · have he:e.key ≠ a7p k:=by rw [h1]; intro hh; exact hk (b8r.1 hh)
      have hs:Instr.sameNow .string (a7p k) e.key = some false:=by
        rw [h1]
        simp only [Instr.sameNow,a7p,d3f,Option.some.injEq,decide_eq_false_iff_not]
        exact fun hh => hk hh.symm
      have hf:Instr.findNow .string (a7p k) (e :: L) i = Instr.findNow .string (a7p k) L (i + 1):=by simp only [Instr.findNow,hs]
      rcases c0k k x ck z m L (i + 1) h2 with ⟨g1,g2,g3⟩ | ⟨j,e',g1,g2,g3,g4,g5⟩
      · exact .inl ⟨hf.trans g1,by simp [setE,he,g2],by simp [lookE,he,g3]⟩
      · exact .inr ⟨j + 1,e',by rw [hf,g1]; congr 3; omega,by simpa using g2,g3,by simp [setE,he,g4],by simp [lookE,he,g5]⟩
theorem c6q (k:List UInt8) (x:Value) (ck:Nat) (a:AV):∀ (m:List (List UInt8 × AV)) (L:List MapEntry),L.map (·.key) = m.map (fun p => a7p p.1) → (setE k x ck L).map (·.key) = (b2a m k a).map (fun p => a7p p.1)
  | [],[],_ => rfl
  | [],_ :: _,h => by simp at h
  | _ :: _,[],h => by simp at h
  | p :: m,e :: L,h => by
    simp only [List.map_cons,List.cons.injEq] at h
    obtain ⟨h1,h2⟩:=h
    by_cases hk:p.1 = k
    · have he:e.key = a7p k:=by rw [h1,hk]
      simp [setE,he,b2a,hk,h2]
    · have he:e.key ≠ a7p k:=by rw [h1]; intro hh; exact hk (b8r.1 hh)
      simp [setE,he,b2a,hk,h1,c6q k x ck a m L h2]
theorem c6r {k:List UInt8} {x:Value} {ck:Nat} {a:AV} (hx:RV C σ h w a x):∀ (m:List (List UInt8 × AV)) (L:List MapEntry),L.map (·.key) = m.map (fun p => a7p p.1) → RVs C σ h w (m.map Prod.snd) (L.map (·.val)) → RVs C σ h w ((b2a m k a).map Prod.snd) ((setE k x ck L).map (·.val))
  | [],[],_,_ => by simp only [b2a,setE,List.map_cons,List.map_nil,RVs]; exact ⟨_,_,rfl,hx,rfl⟩
  | [],_ :: _,h,_ => by simp at h
  | _ :: _,[],h,_ => by simp at h
  | p :: m,e :: L,h,hv => by
    simp only [List.map_cons,List.cons.injEq] at h
    obtain ⟨h1,h2⟩:=h
    simp only [List.map_cons,RVs] at hv
    obtain ⟨v,vs,e1,g1,g2⟩:=hv
    simp only [List.cons.injEq] at e1
    obtain ⟨rfl,rfl⟩:=e1
    by_cases hk:p.1 = k
    · have he:e.key = a7p k:=by rw [h1,hk]
      simp only [setE,he,b2a,hk,if_true,List.map_cons,RVs]
      exact ⟨_,_,rfl,hx,g2⟩
    · have he:e.key ≠ a7p k:=by rw [h1]; intro hh; exact hk (b8r.1 hh)
      simp only [setE,he,b2a,hk,if_false,List.map_cons,RVs]
      exact ⟨_,_,rfl,g1,c6r hx m L h2 g2⟩
theorem d0g {k:List UInt8} {z:Value} {za:AV} (hz:RV C σ h w za z):∀ (m:List (List UInt8 × AV)) (L:List MapEntry),L.map (·.key) = m.map (fun p => a7p p.1) → RVs C σ h w (m.map Prod.snd) (L.map (·.val)) → RV C σ h w ((a5m m k).getD za) (lookE k z L)
  | [],[],_,_ => hz
  | [],_ :: _,h,_ => by simp at h
  | _ :: _,[],h,_ => by simp at h
  | p :: m,e :: L,h,hv => by
    simp only [List.map_cons,List.cons.injEq] at h
    obtain ⟨h1,h2⟩:=h
    simp only [List.map_cons,RVs] at hv
    obtain ⟨v,vs,e1,g1,g2⟩:=hv
    simp only [List.cons.injEq] at e1
    obtain ⟨rfl,rfl⟩:=e1
    by_cases hk:p.1 = k
    · have he:e.key = a7p k:=by rw [h1,hk]
      simp only [lookE,he,a5m,hk,if_true,Option.getD_some]
      exact g1
    · have he:e.key ≠ a7p k:=by rw [h1]; intro hh; exact hk (b8r.1 hh)
      simp only [lookE,he,a5m,hk,if_false]
      exact d0g hz m L h2 g2

theorem c5q {ty kt e:TypeId} (ht:P.underlying ty = some (.map kt e)) (hk:P.underlying kt = some .string) {b:Nat} {es:Array MapEntry} {ck:Nat} (hb:w.heap[b]? = some (.map es ck)) {m:List (List UInt8 × AV)} (hm:c1q m es) {k:List UInt8} (hkl:k.length ≤ maxLen) (x:Value) :
    ∃ es' ck',(Instr.mapUpdate ty (.map (some b)) (a7p k) x).run P w = .ok () (setBlock w b (.map es' ck')) ∧ es'.toList = setE k x ck es.toList:=by
  have hsz:(⟨k.toArray⟩:ByteArray).size ≤ maxLen:=by show k.toArray.size ≤ maxLen; simpa using hkl
  have hkey:=WideMaps.keyOf_string_mk hk hsz
  have K:=Maps.string_keyed hk
  have hcheck:=K.check w false hkey
  have hfk:∀ r,Instr.findNow .string (a7p k) es.toList 0 = some r → (Instr.findKey kt (a7p k) es.toList).run P w = .ok r w:=by
    intro r hr
    simp [Instr.findKey,run_underlying hk,hr]
  rcases c0k k x ck x m es.toList 0 hm with ⟨g1,g2,_⟩ | ⟨j,e0,g1,g2,g3,g4,_⟩
  · refine ⟨es.push ⟨a7p k,x,ck⟩,ck + 1,?_,by rw [g2]; simp⟩
    simp [Instr.mapUpdate,run_underlying ht,MapKept.run_getObj_map hb,hcheck,hfk _ g1,MapKept.run_setObj_map _ hb,Result.andThen,setBlock]
  · rw [Nat.zero_add] at g1
    have hj:es[j]? = some e0:=by simpa using g2
    have hst:(Instr.keyThatStays (a7p k) (a7p k)).run P w = .ok (a7p k) w:=K.stays w hkey
    refine ⟨es.modify j fun e => { e with key:=a7p k,val:=x },ck,?_,?_⟩
    · simp [Instr.mapUpdate,run_underlying ht,MapKept.run_getObj_map hb,hcheck,hfk _ g1,hj,g3,hst,MapKept.run_setObj_map _ hb,Result.andThen,setBlock]
    · rw [g4]
      obtain ⟨hlt,he⟩:=List.getElem?_eq_some_iff.1 g2
      apply List.ext_getElem?
      intro i
      simp only [Array.toList_modify,List.getElem?_modify,List.getElem?_set]
      by_cases hij:j = i
      · subst hij; simp [g2]; simpa using hlt
      · simp [hij]
theorem d2f {ty kt e:TypeId} (ht:P.underlying ty = some (.map kt e)) (hk:P.underlying kt = some .string) {b:Nat} {es:Array MapEntry} {ck:Nat} (hb:w.heap[b]? = some (.map es ck)) {m:List (List UInt8 × AV)} (hm:c1q m es) {k:List UInt8} (hkl:k.length ≤ maxLen) {z:Value} (hz:(zeroValue e).run P w = .ok z w) :
    (Instr.lookup ty (.map (some b)) (a7p k) false).run P w = .ok (lookE k z es.toList) w:=by
  have hsz:(⟨k.toArray⟩:ByteArray).size ≤ maxLen:=by show k.toArray.size ≤ maxLen; simpa using hkl
  have hkey:=WideMaps.keyOf_string_mk hk hsz
  have K:=Maps.string_keyed hk
  have hcheck:=fun em => K.check w em hkey
  have hfk:∀ r,Instr.findNow .string (a7p k) es.toList 0 = some r → (Instr.findKey kt (a7p k) es.toList).run P w = .ok r w:=by
    intro r hr
    simp [Instr.findKey,run_underlying hk,hr]
  rcases c0k k z ck z m es.toList 0 hm with ⟨g1,_,g3⟩ | ⟨j,e0,g1,g2,_,_,g5⟩
  · rw [g3]
    simp [Instr.lookup,run_underlying ht,MapKept.run_getObj_map hb,hcheck,hfk _ g1,hz,Result.andThen]
  · rw [g5]
    simp [Instr.lookup,run_underlying ht,MapKept.run_getObj_map hb,hcheck,hfk _ g1,Result.andThen]

theorem d0h (hr:y5 C σ φ h w) (hb:∀ b,w.heap.size ≤ b → C.mine b) (ty:TypeId) :
    ∃ u w' σ' φ',(Instr.makeMap ty none).run P w = .ok u w' ∧ y5 C σ' φ' (h ++ [.map []]) w' ∧ Ev σ h w σ' (h ++ [.map []]) w' ∧ RV C σ' (h ++ [.map []]) w' (.ptr h.length 0 0) u ∧ Below C.base w w':=by
  have key:=hr.add hb (ks:=[]) (.map []) 1 [] (.map #[] 0) (fun ev => by
    exact ⟨w.heap.size,#[],0,by simp [upd],c0h _ _,rfl,by simp [RVs]⟩) (by intro _ e; cases e)
  simp only [kill] at key
  refine ⟨.map (some w.heap.size),{ w with heap:=w.heap.push (.map #[] 0) },_,_,rfl,key.1,key.2,?_,Below.push _ _ _ (hb _ (Nat.le_refl _)).1⟩
  simp only [RV]
  simp only [List.getElem?_append_right (Nat.le_refl _),Nat.sub_self,List.getElem?_cons_zero]
  exact ⟨w.heap.size,1,by simp [upd],rfl⟩

theorem b8s (hr:y5 C σ φ h w) {ty kt e:TypeId} (ht:P.underlying ty = some (.map kt e)) (hk:P.underlying kt = some .string) {o i f:Nat} {m:List (List UInt8 × AV)} {k:List UInt8} {v:AV} {a kv x:Value} (ho:h[o]? = some (.map m)) (ha:RV C σ h w (.ptr o i f) a) (hkv:RV C σ h w (.str k) kv) (hx:RV C σ h w v x) :
    ∃ w' φ',(Instr.mapUpdate ty a kv x).run P w = .ok () w' ∧ y5 C σ φ' (h.set o (.map (b2a m k v))) w' ∧ Ev σ h w σ (h.set o (.map (b2a m k v))) w' ∧ Below C.base w w':=by
  obtain ⟨g,es,ck,h1,h2,h3,h4⟩:=hr.obj o _ ho
  simp only [RV,ho] at ha
  obtain ⟨g',c',hσ',rfl⟩:=ha
  rw [h1] at hσ'
  cases hσ'
  simp only [RV] at hkv
  obtain ⟨rfl,hkl⟩:=hkv
  obtain ⟨es',ck',hrun,hes⟩:=c5q ht hk h2 h3 hkl x
  have hb:C.mine g:=hr.base o _ g 1 ho rfl h1
  have key:=hr.turn (w':=setBlock w g (.map es' ck')) ho (x':=.map (b2a m k v)) rfl trivial h1 (ks:=[]) (by simp) (fx:=φ o) (by simp [setBlock]) (fun b hb => heap_setBlock_other h2 _ hb) (fun ev => by
      refine ⟨g,es',ck',h1,heap_setBlock_same h2 _,?_,?_⟩
      · unfold c1q; rw [hes]; exact c6q k x ck v m _ h3
      · rw [hes]; exact c6r (ev.rv _ _ hx) m _ h3 (ev.rvs _ _ h4)) (by intro _ e; cases e)
  simp only [kill] at key
  exact ⟨_,_,hrun,key.1,key.2,⟨rfl,rfl,rfl,by simp [setBlock],fun b hb' => heap_setBlock_other h2 _ (by have:=hb.1; omega)⟩⟩
theorem c8m (hr:y5 C σ φ h w) {ty kt e:TypeId} (ht:P.underlying ty = some (.map kt e)) (hk:P.underlying kt = some .string) {o i f:Nat} {m:List (List UInt8 × AV)} {k:List UInt8} {a kv:Value} (ho:h[o]? = some (.map m)) (ha:RV C σ h w (.ptr o i f) a) (hkv:RV C σ h w (.str k) kv)
    {z:Value} {za:AV} (hz:(zeroValue e).run P w = .ok z w) (hza:RV C σ h w za z) :
    ∃ u,(Instr.lookup ty a kv false).run P w = .ok u w ∧ RV C σ h w ((a5m m k).getD za) u:=by
  obtain ⟨g,es,ck,h1,h2,h3,h4⟩:=hr.obj o _ ho
  simp only [RV,ho] at ha
  obtain ⟨g',c',hσ',rfl⟩:=ha
  rw [h1] at hσ'
  cases hσ'
  simp only [RV] at hkv
  obtain ⟨rfl,hkl⟩:=hkv
  exact ⟨_,d2f ht hk h2 h3 hkl hz,d0g hza m _ h3 h4⟩
end
end Go.R
