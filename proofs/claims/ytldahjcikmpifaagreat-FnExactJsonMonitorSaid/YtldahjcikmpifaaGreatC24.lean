import Derived.Test.YtldahjcikmpifaaGreatC23
import Derived.Deep.Slices
import Derived.ChangeArms
set_option linter.all false
namespace Go.R
open Go Go.RowKit
theorem AV.elem_of_cell {a:AV} (h:a.isCell = true):a.isElem = true:=by cases a <;> first | rfl | (simp [AV.isCell] at h; done)
def e0k (P:Program):Nat → List Field → Nat → Prop
  | off,[],n => off = n
  | off,f :: fs,n => f.offset = off ∧ e0k P (off + P.cellsOf f.type) fs n
def Fa (T:TypeId → List AV → Prop):List Field → List (List AV) → Prop
  | [],[] => True
  | f :: fs,a :: as => T f.type a ∧ Fa T fs as
  | _,_ => False
def d3q (P:Program) (T:TypeId → List AV → Prop) (D:TypeId → Prop) (t:TypeId):Prop:=match P.underlying t with
  | some .bool => ∀ b,T t [.bool b]
  | some (.int k) => ∀ n,(Lit.int k n).wf = true → T t [.int k n]
  | some .string => ∀ s,s.length ≤ maxLen → T t [.str s]
  | some (.slice e) => D e ∧ ∃ ag,iag P e = some ag ∧ 0 < P.cellsOf e ∧ (ag = true ∨ P.cellsOf e = 1) ∧ ∀ l:List AV,l.length ≤ maxLen → (∀ x ∈ l,(ag = true ∧ ∃ as,x = .agg as ∧ T e as) ∨ (ag = false ∧ T e [x])) → T t [.lst (P.cellsOf e) l]
  | some (.struct fs) => e0k P 0 fs.toList (P.cellsOf t) ∧ (∀ f ∈ fs.toList,D f.type) ∧ ∀ ass,Fa T fs.toList ass → T t ass.flatten
  | _ => False
structure Clo (P:Program) (T:TypeId → List AV → Prop) (D:TypeId → Prop) (t:TypeId):Prop where
  h:d3q P T D t
section
variable {H:Type} {enc:TypeId × Value → H} {P:Program} {w:World}
theorem d6x {m:Bool} {sz:Nat}:∀ (n:Nat) (cs:List Value) (Q:AV → Prop),(∀ i,i < n → ((cs.drop (i * sz)).take sz).length = sz ∧ ∃ a fp,Rep m w a ((cs.drop (i * sz)).take sz) fp ∧ a.isElem = true ∧ Q a) →
    ∃ l fp,a0n m w sz l cs fp ∧ l.length = n ∧ ∀ a ∈ l,Q a
  | 0,cs,Q,h => ⟨[],[],by simp [a0n],rfl,by simp⟩
  | n + 1,cs,Q,h => by
    obtain ⟨h1,a,f,h2,h3,h4⟩:=h 0 (by omega)
    simp only [Nat.zero_mul,List.drop_zero] at h1 h2
    obtain ⟨l,fp,g1,g2,g3⟩:=d6x n (cs.drop sz) Q (fun i hi => by
      have:=h (i + 1) (by omega)
      rw [Nat.add_mul,Nat.one_mul,Nat.add_comm] at this
      rwa [List.drop_drop])
    refine ⟨a :: l,f ++ fp,?_,by simp [g2],?_⟩
    · simp only [a0n]
      exact ⟨f,fp,⟨h1,h3⟩,h2,g1,rfl⟩
    · intro x hx
      rcases List.mem_cons.1 hx with rfl | hx
      · exact h4
      · exact g3 x hx
theorem bridge {T:TypeId → List AV → Prop} {D:TypeId → Prop} (hD:∀ t,D t → Clo P T D t):∀ (fuel:Nat) (t:TypeId) (cs:List Value) (x:DataW H × List MemPlace),D t → DataW.trod enc P w 0 (fun _ => true) true fuel t cs = some x →
    ∃ as fp,a0o false w as cs fp ∧ T t as:=by
  intro fuel
  induction fuel using Nat.strongRecOn with
  | _ fuel ihs =>
    intro t cs x hdt h
    have hs:=(hD t hdt).h
    cases fuel with
    | zero => simp [DataW.trod] at h
    | succ fuel =>
    have ih:=ihs fuel (Nat.lt_succ_self _)
    · unfold d3q at hs
      split at hs
      · rename_i ht
        obtain ⟨b,rfl,_⟩:=DataW.trod_bool ht h
        exact ⟨[.bool b],[],by simp [a0o,Rep,AV.isCell],hs b⟩
      · rename_i k ht
        obtain ⟨n,rfl,_,hw⟩:=DataW.trod_int ht h
        exact ⟨[.int k n],[],by simp [a0o,Rep,AV.isCell],hs n hw⟩
      · rename_i ht
        obtain ⟨s,rfl,_,hl⟩:=DataW.trod_string ht h
        obtain ⟨⟨l⟩⟩:=s
        have hl':l.length ≤ maxLen:=hl
        exact ⟨[.str l],[],by simp [a0o,Rep,AV.isCell,hl'],hs l hl'⟩
      · rename_i e ht
        obtain ⟨h1,ag,h2,hc,hc2,hT⟩:=hs
        · · replace hc:0 < P.cellsOf e ∧ (ag = true ∨ P.cellsOf e = 1):=⟨hc,hc2⟩
            rcases DataW.trod_slice ht h with ⟨rfl,_⟩ | ⟨a,len,cap,elems,rest,n,hn,rfl,_,_,hlc,hcm,hlen,hel,_,_⟩
            · exact ⟨[.lst (P.cellsOf e) []],[],by simp only [a0o,Rep]; exact ⟨_,[],[],[],rfl,rfl,.inl ⟨trivial,rfl,none,0,rfl,by simp [maxLen],by simp⟩,⟨rfl,rfl⟩,rfl⟩,hT [] (by simp [maxLen]) (by simp)⟩
            · by_cases hl0:len = 0
              · subst hl0
                exact ⟨[.lst (P.cellsOf e) []],[],by simp only [a0o,Rep]; exact ⟨_,[],[],[],rfl,rfl,.inl ⟨trivial,rfl,_,cap,rfl,hcm,by simp⟩,⟨rfl,rfl⟩,rfl⟩,hT [] (by simp [maxLen]) (by simp)⟩
              · have hnf:n = fuel:=by omega
                subst hnf
                have hel':∀ i,i < len → ∃ cs' y,w.cells? 0 ((a.add (i * P.cellsOf e))) (P.cellsOf e) = some cs' ∧ DataW.trod enc P w 0 (fun _ => true) true n e cs' = some y:=by
                  intro i hi
                  have h9:=hel i hi
                  rw [List.getElem?_eq_getElem (by omega),Option.bind_eq_some_iff] at h9
                  obtain ⟨cs',k1,k2⟩:=h9
                  exact ⟨cs',_,k1,k2⟩
                obtain ⟨cs0,_,h30,_⟩:=hel' 0 (by omega)
                obtain ⟨_,hc0,hc1⟩:=World.cells?_some h30
                have hfirst:=hc1 0 hc.1
                have hex:∃ v,w.cell? (a.add 0) = some v:=by
                  rw [Nat.zero_mul] at hfirst
                  have hlt:0 < cs0.length:=by omega
                  refine ⟨cs0[0],?_⟩
                  have:(a.add 0).add 0 = a.add 0:=by unfold Addr.add; split <;> simp_all
                  rw [← this,hfirst]
                  simp [hlt]
                obtain ⟨v0,hv0⟩:=hex
                have hsp:a.spot = none:=by
                  have:=World.cell?_spot hv0
                  unfold Addr.add at this
                  split at this <;> simp_all
                obtain ⟨b,off,sp⟩:=a
                simp only at hsp
                subst hsp
                have hadd:∀ k,(⟨b,off,none⟩:Addr).add k = ⟨b,off + k,none⟩:=fun k => by unfold Addr.add; split <;> simp_all
                have hadd2:∀ k j,(⟨b,off + k,none⟩:Addr).add j = ⟨b,off + k + j,none⟩:=fun k j => by unfold Addr.add; split <;> simp_all
                obtain ⟨cur,el,fz,hg⟩:∃ cur el fz,w.heap[b]? = some (.cells cur el fz):=by
                  rw [hadd] at hv0
                  unfold World.cell? at hv0
                  simp only at hv0
                  split at hv0
                  · rename_i c1 c2 c3 hh; exact ⟨c1,c2,c3,hh⟩
                  · cases hv0
                have hseg:∀ i,i < len → ∃ cs',cs' = ((cur.toList.drop off).drop (i * P.cellsOf e)).take (P.cellsOf e) ∧ cs'.length = P.cellsOf e ∧ ∃ y,DataW.trod enc P w 0 (fun _ => true) true n e cs' = some y:=by
                  intro i hi
                  obtain ⟨cs',y,k1,k2⟩:=hel' i hi
                  obtain ⟨_,k3,k4⟩:=World.cells?_some k1
                  refine ⟨cs',?_,k3,y,k2⟩
                  apply List.ext_getElem?
                  intro j
                  by_cases hj:j < P.cellsOf e
                  · have:=k4 j hj
                    rw [hadd,hadd2,b5w hg] at this
                    rw [← this,List.getElem?_take,if_pos hj,List.getElem?_drop,List.getElem?_drop,Array.getElem?_toList,Nat.add_assoc]
                  · rw [List.getElem?_eq_none (by omega),List.getElem?_eq_none (by rw [List.length_take]; omega)]
                obtain ⟨l,fp,g1,g2,g3⟩:=d6x (m:=false) (w:=w) len (cur.toList.drop off) (fun x => (ag = true ∧ ∃ as,x = .agg as ∧ T e as) ∨ (ag = false ∧ T e [x])) (fun i hi => by
                  obtain ⟨cs',rfl,k1,y,k2⟩:=hseg i hi
                  refine ⟨k1,?_⟩
                  obtain ⟨as,fp,q1,q2⟩:=ih e _ _ h1 k2
                  cases ag with
                  | true => exact ⟨.agg as,fp,by simpa only [Rep] using q1,rfl,.inl ⟨rfl,as,rfl,q2⟩⟩
                  | false =>
                    have hz:P.cellsOf e = 1:=by rcases hc.2 with h | h; cases h; exact h
                    have hl1:=q1.length
                    rw [k1,hz] at hl1
                    match as,hl1 with
                    | [a1],_ =>
                      simp only [a0o] at q1
                      obtain ⟨c,cs',f1,f2,e1,e2,e3,⟨rfl,rfl⟩,rfl⟩:=q1
                      rw [e1]
                      exact ⟨a1,f1,e3,AV.elem_of_cell e2,.inr ⟨rfl,q2⟩⟩)
                refine ⟨[.lst (P.cellsOf e) l],b :: fp,?_,hT l (by omega) g3⟩
                simp only [a0o,Rep]
                exact ⟨_,[],b :: fp,[],rfl,rfl,.inr ⟨b,off,cap,cur,el,fz,fp,by rw [g2],by omega,hcm,hg,by simp,rfl,hc.1,g1⟩,⟨rfl,rfl⟩,by simp⟩
      · rename_i fs ht
        obtain ⟨ho,hDf,hT⟩:=hs
        obtain ⟨xs,n,hn,_,hlen,hxl,hf⟩:=DataW.trod_struct ht h
        have hn':n = fuel:=by omega
        subst hn'
        have key:∀ (rest:List Field) (off i0:Nat),fs.toList.drop i0 = rest → e0k P off rest (P.cellsOf t) → ∃ ass fp,a0o false w ass.flatten (cs.drop off) fp ∧ Fa T rest ass:=by
          intro rest
          induction rest with
          | nil =>
            intro off i0 _ ho
            simp only [e0k] at ho
            refine ⟨[],[],?_,by simp [Fa]⟩
            rw [List.drop_of_length_le (by omega)]
            simp [a0o]
          | cons f rest ihr =>
            intro off i0 hd ho
            simp only [e0k] at ho
            obtain ⟨ho,ho2⟩:=ho
            have hi0:i0 < fs.toList.length:=by
              rcases Nat.lt_or_ge i0 fs.toList.length with h | h
              · exact h
              · rw [List.drop_of_length_le h] at hd; cases hd
            have hget:fs.toList[i0]? = some f:=by
              have:=congrArg List.head? hd
              rw [List.head?_drop] at this
              simpa using this
            have hfi:=hf i0 f (by rw [← Array.getElem?_toList]; exact hget)
            have hx:∃ y,xs[i0]? = some y:=⟨xs[i0]'(by rw [hxl]; simpa using hi0),by rw [List.getElem?_eq_getElem]⟩
            obtain ⟨y,hy⟩:=hx
            rw [hy,ho] at hfi
            obtain ⟨as,fp,q1,q2⟩:=ih f.type _ _ (hDf f (List.mem_of_getElem? hget)) hfi
            obtain ⟨bs,gp,q3,q4⟩:=ihr (off + P.cellsOf f.type) (i0 + 1) (by rw [← List.drop_drop,hd]; rfl) ho2
            refine ⟨as :: bs,fp ++ gp,?_,⟨q2,q4⟩⟩
            have hsplit:cs.drop off = (cs.drop off).take (P.cellsOf f.type) ++ cs.drop (off + P.cellsOf f.type):=by
              rw [← List.drop_drop,List.take_append_drop]
            rw [hsplit]
            exact q1.append q3
        obtain ⟨ass,fp,q1,q2⟩:=key fs.toList 0 0 rfl ho
        exact ⟨ass.flatten,fp,by simpa using q1,hT ass q2⟩
      · exact hs.elim
end
theorem d5v {α:Type} {enc:α → AV} {Q:α → Prop}:∀ (l:List AV),(∀ x ∈ l,∃ y,x = enc y ∧ Q y) → ∃ ys:List α,l = ys.map enc ∧ ∀ y ∈ ys,Q y
  | [],_ => ⟨[],rfl,by simp⟩
  | a :: l,h => by
    obtain ⟨y,rfl,hy⟩:=h a (by simp)
    obtain ⟨ys,rfl,hys⟩:=d5v l (fun x hx => h x (by simp [hx]))
    exact ⟨y :: ys,rfl,by simpa [hy] using hys⟩
end Go.R
