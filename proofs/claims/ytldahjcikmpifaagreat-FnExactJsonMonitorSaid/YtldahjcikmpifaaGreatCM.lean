import Derived.Test.YtldahjcikmpifaaGreatC16
import Derived.Maps.Own
set_option linter.all false
namespace Go.R
open Go Go.RowKit
open Go.ChangeMaps (setBlock heap_setBlock_same heap_setBlock_other)
def a9b {α:Type}:List (List UInt8 × α) → List UInt8 → α → List (List UInt8 × α)
 | [],k,v => [(k,v)]
 | (k',v') :: r,k,v => if k' = k then (k',v) :: r else (k',v') :: a9b r k v
def b0e {α:Type}:List (List UInt8 × α) → List UInt8 → Option α
 | [],_ => none
 | (k',v) :: r,k => if k' = k then some v else b0e r k
section
variable {P:Program} {C:Ctx} {σ:Sg} {φ:Nat → List Nat} {h:List y9} {w w':World} {t:Nat → AV} {ρ:Operand → Value}
abbrev a8j (k:List UInt8):Value:=.string ⟨k.toArray⟩
theorem d6r (a b:List UInt8):((⟨a.toArray⟩:ByteArray) == ⟨b.toArray⟩) = decide (a = b):=by
 show (a.toArray == b.toArray) = decide (a = b)
 by_cases h:a = b
 ·subst h; simp
 ·rw [decide_eq_false h]
  exact beq_eq_false_iff_ne.2 (by intro hh; exact h (by simpa using hh))
theorem c0z {a b:List UInt8}:a8j a = a8j b ↔ a = b:=by
 constructor
 ·intro h; simpa [a8j] using h
 ·rintro rfl; rfl
open Classical in
noncomputable def setE (k:List UInt8) (x:Value) (ck:Nat):List MapEntry → List MapEntry
 | [] => [⟨a8j k,x,ck⟩]
 | e :: L => if e.key = a8j k then ⟨a8j k,x,e.born⟩ :: L else e :: setE k x ck L
open Classical in
noncomputable def lookE (k:List UInt8) (z:Value):List MapEntry → Value
 | [] => z
 | e :: L => if e.key = a8j k then e.val else lookE k z L
theorem c3a (k:List UInt8) (x:Value) (ck:Nat) (z:Value):∀ (m:List (List UInt8 × AV)) (L:List MapEntry) (i:Nat),L.map (·.key) = m.map (fun p => a8j p.1) →
  (Instr.findNow .string (a8j k) L i = some none ∧ setE k x ck L = L ++ [⟨a8j k,x,ck⟩] ∧ lookE k z L = z) ∨
  ∃ j e,Instr.findNow .string (a8j k) L i = some (some (i + j,e.val)) ∧ L[j]? = some e ∧ e.key = a8j k ∧ setE k x ck L = L.set j ⟨a8j k,x,e.born⟩ ∧ lookE k z L = e.val
 | [],[],i,_ => .inl ⟨rfl,rfl,rfl⟩
 | [],_ :: _,_,h => by simp at h
 | _ :: _,[],_,h => by simp at h
 | p :: m,e :: L,i,h => by
  simp only [List.map_cons,List.cons.injEq] at h
  obtain ⟨h1,h2⟩:=h
  by_cases hk:p.1 = k
  ·have he:e.key = a8j k:=by rw [h1,hk]
   refine .inr ⟨0,e,?_,rfl,he,?_,?_⟩
   ·simp [Instr.findNow,he,Instr.sameNow,d6r]
   ·simp [setE,he]
   ·simp [lookE,he]
  ·have he:e.key ≠ a8j k:=by rw [h1]; intro hh; exact hk (c0z.1 hh)
   have hs:Instr.sameNow .string (a8j k) e.key = some false:=by
    rw [h1]
    simp only [Instr.sameNow,a8j,d6r,Option.some.injEq,decide_eq_false_iff_not]
    exact fun hh => hk hh.symm
   have hf:Instr.findNow .string (a8j k) (e :: L) i = Instr.findNow .string (a8j k) L (i + 1):=by simp only [Instr.findNow,hs]
   rcases c3a k x ck z m L (i + 1) h2 with ⟨g1,g2,g3⟩ | ⟨j,e',g1,g2,g3,g4,g5⟩
   ·exact .inl ⟨hf.trans g1,by simp [setE,he,g2],by simp [lookE,he,g3]⟩
   ·exact .inr ⟨j + 1,e',by rw [hf,g1]; congr 3; omega,by simpa using g2,g3,by simp [setE,he,g4],by simp [lookE,he,g5]⟩
theorem c9t (k:List UInt8) (x:Value) (ck:Nat) (a:AV):∀ (m:List (List UInt8 × AV)) (L:List MapEntry),L.map (·.key) = m.map (fun p => a8j p.1) → (setE k x ck L).map (·.key) = (a9b m k a).map (fun p => a8j p.1)
 | [],[],_ => rfl
 | [],_ :: _,h => by simp at h
 | _ :: _,[],h => by simp at h
 | p :: m,e :: L,h => by
  simp only [List.map_cons,List.cons.injEq] at h
  obtain ⟨h1,h2⟩:=h
  by_cases hk:p.1 = k
  ·have he:e.key = a8j k:=by rw [h1,hk]
   simp [setE,he,a9b,hk,h2]
  ·have he:e.key ≠ a8j k:=by rw [h1]; intro hh; exact hk (c0z.1 hh)
   simp [setE,he,a9b,hk,h1,c9t k x ck a m L h2]
theorem c9u {k:List UInt8} {x:Value} {ck:Nat} {a:AV} (hx:RV C σ h w a x):∀ (m:List (List UInt8 × AV)) (L:List MapEntry),L.map (·.key) = m.map (fun p => a8j p.1) → RVs C σ h w (m.map Prod.snd) (L.map (·.val)) → RVs C σ h w ((a9b m k a).map Prod.snd) ((setE k x ck L).map (·.val))
 | [],[],_,_ => by simp only [a9b,setE,List.map_cons,List.map_nil,RVs]; exact ⟨_,_,rfl,hx,rfl⟩
 | [],_ :: _,h,_ => by simp at h
 | _ :: _,[],h,_ => by simp at h
 | p :: m,e :: L,h,hv => by
  simp only [List.map_cons,List.cons.injEq] at h
  obtain ⟨h1,h2⟩:=h
  simp only [List.map_cons,RVs] at hv
  obtain ⟨v,vs,e1,g1,g2⟩:=hv
  simp only [List.cons.injEq] at e1
  obtain ⟨rfl,rfl⟩:=e1
  by_cases hk:p.1 = k
  ·have he:e.key = a8j k:=by rw [h1,hk]
   simp only [setE,he,a9b,hk,if_true,List.map_cons,RVs]
   exact ⟨_,_,rfl,hx,g2⟩
  ·have he:e.key ≠ a8j k:=by rw [h1]; intro hh; exact hk (c0z.1 hh)
   simp only [setE,he,a9b,hk,if_false,List.map_cons,RVs]
   exact ⟨_,_,rfl,g1,c9u hx m L h2 g2⟩
theorem d3a {k:List UInt8} {z:Value} {za:AV} (hz:RV C σ h w za z):∀ (m:List (List UInt8 × AV)) (L:List MapEntry),L.map (·.key) = m.map (fun p => a8j p.1) → RVs C σ h w (m.map Prod.snd) (L.map (·.val)) → RV C σ h w ((b0e m k).getD za) (lookE k z L)
 | [],[],_,_ => hz
 | [],_ :: _,h,_ => by simp at h
 | _ :: _,[],h,_ => by simp at h
 | p :: m,e :: L,h,hv => by
  simp only [List.map_cons,List.cons.injEq] at h
  obtain ⟨h1,h2⟩:=h
  simp only [List.map_cons,RVs] at hv
  obtain ⟨v,vs,e1,g1,g2⟩:=hv
  simp only [List.cons.injEq] at e1
  obtain ⟨rfl,rfl⟩:=e1
  by_cases hk:p.1 = k
  ·have he:e.key = a8j k:=by rw [h1,hk]
   simp only [lookE,he,b0e,hk,if_true,Option.getD_some]
   exact g1
  ·have he:e.key ≠ a8j k:=by rw [h1]; intro hh; exact hk (c0z.1 hh)
   simp only [lookE,he,b0e,hk,if_false]
   exact d3a hz m L h2 g2
theorem c8l {ty kt e:TypeId} (ht:P.underlying ty = some (.map kt e)) (hk:P.underlying kt = some .string) {b:Nat} {es:Array MapEntry} {ck:Nat} (hb:w.heap[b]? = some (.map es ck)) {m:List (List UInt8 × AV)} (hm:c3z m es) {k:List UInt8} (hkl:k.length ≤ maxLen) (x:Value) :
  ∃ es' ck',(Instr.mapUpdate ty (.map (some b)) (a8j k) x).run P w = .ok () (setBlock w b (.map es' ck')) ∧ es'.toList = setE k x ck es.toList:=by
 have hsz:(⟨k.toArray⟩:ByteArray).size ≤ maxLen:=by show k.toArray.size ≤ maxLen; simpa using hkl
 have hkey:=WideMaps.keyOf_string_mk hk hsz
 have K:=Maps.string_keyed hk
 have hcheck:=K.check w false hkey
 have hfk:∀ r,Instr.findNow .string (a8j k) es.toList 0 = some r → (Instr.findKey kt (a8j k) es.toList).run P w = .ok r w:=by
  intro r hr
  simp [Instr.findKey,run_underlying hk,hr]
 rcases c3a k x ck x m es.toList 0 hm with ⟨g1,g2,_⟩ | ⟨j,e0,g1,g2,g3,g4,_⟩
 ·refine ⟨es.push ⟨a8j k,x,ck⟩,ck + 1,?_,by rw [g2]; simp⟩
  simp [Instr.mapUpdate,run_underlying ht,MapKept.run_getObj_map hb,hcheck,hfk _ g1,MapKept.run_setObj_map _ hb,Result.andThen,setBlock]
 ·rw [Nat.zero_add] at g1
  have hj:es[j]? = some e0:=by simpa using g2
  have hst:(Instr.keyThatStays (a8j k) (a8j k)).run P w = .ok (a8j k) w:=K.stays w hkey
  refine ⟨es.modify j fun e => { e with key:=a8j k,val:=x },ck,?_,?_⟩
  ·simp [Instr.mapUpdate,run_underlying ht,MapKept.run_getObj_map hb,hcheck,hfk _ g1,hj,g3,hst,MapKept.run_setObj_map _ hb,Result.andThen,setBlock]
  ·rw [g4]
   obtain ⟨hlt,he⟩:=List.getElem?_eq_some_iff.1 g2
   apply List.ext_getElem?
   intro i
   simp only [Array.toList_modify,List.getElem?_modify,List.getElem?_set]
   by_cases hij:j = i
   ·subst hij; simp [g2]; simpa using hlt
   ·simp [hij]
theorem d5m {ty kt e:TypeId} (ht:P.underlying ty = some (.map kt e)) (hk:P.underlying kt = some .string) {b:Nat} {es:Array MapEntry} {ck:Nat} (hb:w.heap[b]? = some (.map es ck)) {m:List (List UInt8 × AV)} (hm:c3z m es) {k:List UInt8} (hkl:k.length ≤ maxLen) {z:Value} (hz:(zeroValue e).run P w = .ok z w) :
  (Instr.lookup ty (.map (some b)) (a8j k) false).run P w = .ok (lookE k z es.toList) w:=by
 have hsz:(⟨k.toArray⟩:ByteArray).size ≤ maxLen:=by show k.toArray.size ≤ maxLen; simpa using hkl
 have hkey:=WideMaps.keyOf_string_mk hk hsz
 have K:=Maps.string_keyed hk
 have hcheck:=fun em => K.check w em hkey
 have hfk:∀ r,Instr.findNow .string (a8j k) es.toList 0 = some r → (Instr.findKey kt (a8j k) es.toList).run P w = .ok r w:=by
  intro r hr
  simp [Instr.findKey,run_underlying hk,hr]
 rcases c3a k z ck z m es.toList 0 hm with ⟨g1,_,g3⟩ | ⟨j,e0,g1,g2,_,_,g5⟩
 ·rw [g3]
  simp [Instr.lookup,run_underlying ht,MapKept.run_getObj_map hb,hcheck,hfk _ g1,hz,Result.andThen]
 ·rw [g5]
  simp [Instr.lookup,run_underlying ht,MapKept.run_getObj_map hb,hcheck,hfk _ g1,Result.andThen]
theorem d3b (hr:a0b C σ φ h w) (hb:∀ b,w.heap.size ≤ b → C.mine b) (ty:TypeId) :
  ∃ u w' σ' φ',(Instr.makeMap ty none).run P w = .ok u w' ∧ a0b C σ' φ' (h ++ [.map []]) w' ∧ Ev σ h w σ' (h ++ [.map []]) w' ∧ RV C σ' (h ++ [.map []]) w' (.ptr h.length 0 0) u ∧ Below C.base w w':=by
 have key:=hr.add hb (ks:=[]) (.map []) 1 [] (.map #[] 0) (fun ev => by
  exact ⟨w.heap.size,#[],0,by simp [upd],c2x _ _,rfl,by simp [RVs]⟩) (by intro _ e; cases e)
 simp only [kill] at key
 refine ⟨.map (some w.heap.size),{ w with heap:=w.heap.push (.map #[] 0) },_,_,rfl,key.1,key.2,?_,Below.push _ _ _ (hb _ (Nat.le_refl _)).1⟩
 simp only [RV]
 simp only [List.getElem?_append_right (Nat.le_refl _),Nat.sub_self,List.getElem?_cons_zero]
 exact ⟨w.heap.size,1,by simp [upd],rfl⟩
theorem c1b (hr:a0b C σ φ h w) {ty kt e:TypeId} (ht:P.underlying ty = some (.map kt e)) (hk:P.underlying kt = some .string) {o i f:Nat} {m:List (List UInt8 × AV)} {k:List UInt8} {v:AV} {a kv x:Value} (ho:h[o]? = some (.map m)) (ha:RV C σ h w (.ptr o i f) a) (hkv:RV C σ h w (.str k) kv) (hx:RV C σ h w v x) :
  ∃ w' φ',(Instr.mapUpdate ty a kv x).run P w = .ok () w' ∧ a0b C σ φ' (h.set o (.map (a9b m k v))) w' ∧ Ev σ h w σ (h.set o (.map (a9b m k v))) w' ∧ Below C.base w w':=by
 obtain ⟨g,es,ck,h1,h2,h3,h4⟩:=hr.obj o _ ho
 simp only [RV,ho] at ha
 obtain ⟨g',c',hσ',rfl⟩:=ha
 rw [h1] at hσ'
 cases hσ'
 simp only [RV] at hkv
 obtain ⟨rfl,hkl⟩:=hkv
 obtain ⟨es',ck',hrun,hes⟩:=c8l ht hk h2 h3 hkl x
 have hb:C.mine g:=hr.base o _ g 1 ho rfl h1
 have key:=hr.turn (w':=setBlock w g (.map es' ck')) ho (x':=.map (a9b m k v)) rfl trivial h1 (ks:=[]) (by simp) (fx:=φ o) (by simp [setBlock]) (fun b hb => heap_setBlock_other h2 _ hb) (fun ev => by
   refine ⟨g,es',ck',h1,heap_setBlock_same h2 _,?_,?_⟩
   ·unfold c3z; rw [hes]; exact c9t k x ck v m _ h3
   ·rw [hes]; exact c9u (ev.rv _ _ hx) m _ h3 (ev.rvs _ _ h4)) (by intro _ e; cases e)
 simp only [kill] at key
 exact ⟨_,_,hrun,key.1,key.2,⟨rfl,rfl,rfl,by simp [setBlock],fun b hb' => heap_setBlock_other h2 _ (by have:=hb.1; omega)⟩⟩
theorem d1e (hr:a0b C σ φ h w) {ty kt e:TypeId} (ht:P.underlying ty = some (.map kt e)) (hk:P.underlying kt = some .string) {o i f:Nat} {m:List (List UInt8 × AV)} {k:List UInt8} {a kv:Value} (ho:h[o]? = some (.map m)) (ha:RV C σ h w (.ptr o i f) a) (hkv:RV C σ h w (.str k) kv)
  {z:Value} {za:AV} (hz:(zeroValue e).run P w = .ok z w) (hza:RV C σ h w za z) :
  ∃ u,(Instr.lookup ty a kv false).run P w = .ok u w ∧ RV C σ h w ((b0e m k).getD za) u:=by
 obtain ⟨g,es,ck,h1,h2,h3,h4⟩:=hr.obj o _ ho
 simp only [RV,ho] at ha
 obtain ⟨g',c',hσ',rfl⟩:=ha
 rw [h1] at hσ'
 cases hσ'
 simp only [RV] at hkv
 obtain ⟨rfl,hkl⟩:=hkv
 exact ⟨_,d5m ht hk h2 h3 hkl hz,d3a hza m _ h3 h4⟩
end
end Go.R
