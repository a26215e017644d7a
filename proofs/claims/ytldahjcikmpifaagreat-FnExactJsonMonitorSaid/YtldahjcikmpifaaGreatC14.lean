import Derived.Test.YtldahjcikmpifaaGreatC13
set_option linter.all false
namespace Go.R
open Go Go.RowKit
theorem a0n.set {m:Bool} {w:World} {sz:Nat}:∀ {l:List AV} {cs:List Value} {fp:List Nat} {i:Nat} {a:AV},a0n m w sz l cs fp → l[i]? = some a →
  ∃ A f B,fp = A ++ f ++ B ∧ Rep m w a ((cs.drop (i * sz)).take sz) f ∧ ((cs.drop (i * sz)).take sz).length = sz ∧ a.isElem = true ∧
   ∀ w' a' seg f',(∀ b ∈ A ++ B,w'.heap[b]? = w.heap[b]?) → seg.length = sz → a'.isElem = true → Rep m w' a' seg f' → a0n m w' sz (l.set i a') (cs.take (i * sz) ++ seg ++ cs.drop (i * sz + sz)) (A ++ f' ++ B)
 | [],_,_,_,_,_,h => by simp at h
 | x :: l,cs,fp,0,a,h,hi => by
  simp only [a0n] at h
  obtain ⟨f1,f2,h0,h1,h2,rfl⟩:=h
  simp at hi
  subst hi
  refine ⟨[],f1,f2,by simp,by simpa using h1,by simpa using h0.1,h0.2,?_⟩
  intro w' a' seg f' hw hl he hr
  simp only [List.set_cons_zero,a0n,Nat.zero_mul,List.take_zero,List.nil_append,Nat.zero_add]
  refine ⟨f',f2,⟨by rw [List.take_append_of_le_length (by omega),List.take_of_length_le (by omega)]; exact hl,he⟩,?_,?_,rfl⟩
  ·rw [List.take_append_of_le_length (by omega),List.take_of_length_le (by omega)]; exact hr
  ·rw [List.drop_append_of_le_length (by omega),List.drop_of_length_le (by omega)]
   simpa using a0n.world _ _ _ (fun b hb => hw b (by simpa using hb)) h2
 | x :: l,cs,fp,i + 1,a,h,hi => by
  simp only [a0n] at h
  obtain ⟨f1,f2,h0,h1,h2,rfl⟩:=h
  obtain ⟨A,f,B,rfl,g1,g2,g3,g4⟩:=a0n.set h2 (by simpa using hi)
  have hsz:sz ≤ cs.length:=by have:=h0.1; rw [List.length_take] at this; omega
  rw [List.drop_drop] at g1 g2
  have e:sz + i * sz = (i + 1) * sz:=by rw [Nat.add_mul]; omega
  rw [e] at g1 g2
  refine ⟨f1 ++ A,f,B,by simp,g1,g2,g3,?_⟩
  intro w' a' seg f' hw hl he hr
  have:=g4 w' a' seg f' (fun b hb => hw b (by simp only [List.mem_append] at hb ⊢; rcases hb with hb | hb; exact .inl (.inr hb); exact .inr hb)) hl he hr
  simp only [List.set_cons_succ,a0n]
  have e1:cs.take ((i + 1) * sz) = cs.take sz ++ (cs.drop sz).take (i * sz):=by rw [← e,List.take_add]
  have e2:(cs.drop sz).drop (i * sz + sz) = cs.drop ((i + 1) * sz + sz):=by rw [List.drop_drop]; congr 1; rw [← e]; omega
  rw [e2] at this
  have hl0:(cs.take sz).length = sz:=h0.1
  refine ⟨f1,A ++ f' ++ B,⟨?_,h0.2⟩,?_,?_,by simp⟩
  ·rw [e1,List.append_assoc,List.append_assoc,List.take_append_of_le_length (by omega),List.take_of_length_le (by omega)]; exact hl0
  ·rw [e1,List.append_assoc,List.append_assoc,List.take_append_of_le_length (by omega),List.take_of_length_le (by omega)]
   exact Rep.world _ _ _ (fun b hb => hw b (by simp [hb])) h1
  ·rw [e1,List.append_assoc,List.append_assoc,List.drop_append_of_le_length (by omega),List.drop_of_length_le (by omega),List.nil_append,← List.append_assoc]
   exact this
theorem a0o.append {m:Bool} {w:World}:∀ {as bs:List AV} {cs ds:List Value} {f g:List Nat},a0o m w as cs f → a0o m w bs ds g → a0o m w (as ++ bs) (cs ++ ds) (f ++ g)
 | [],_,_,_,_,_,h,h' => by simp only [a0o] at h; obtain ⟨rfl,rfl⟩:=h; simpa using h'
 | a :: as,bs,cs,ds,f,g,h,h' => by
  simp only [a0o] at h
  obtain ⟨c,cs',f1,f2,rfl,hc,h1,h2,rfl⟩:=h
  simp only [List.cons_append,a0o]
  exact ⟨c,_,f1,f2 ++ g,rfl,hc,h1,a0o.append h2 h',by simp⟩
theorem a0o.world' {m:Bool} {w w':World} {as:List AV} {cs:List Value} {fp:List Nat} (hw:∀ b ∈ fp,w'.heap[b]? = w.heap[b]?) (h:a0o m w as cs fp):a0o m w' as cs fp:=a0o.world as cs fp hw h
theorem Rep.cells1 {m:Bool} {w:World} {a:AV} {cs:List Value} {fp:List Nat} (he:a.isElem = true) (h:Rep m w a cs fp):a0o m w a.cells cs fp:=by
 by_cases hc:a.isCell = true
 ·obtain ⟨c,rfl,_⟩:=h.cell hc
  have hcells:a.cells = [a]:=by cases a <;> simp_all [AV.cells,AV.isCell]
  rw [hcells]
  simp only [a0o]
  exact ⟨c,[],fp,[],rfl,hc,h,⟨rfl,rfl⟩,by simp⟩
 ·cases a with
  | agg as => simp only [Rep] at h; exact h
  | tup as => simp [AV.isElem] at he
  | _ => simp [AV.isCell] at hc
theorem Rep.ofCells {m:Bool} {w:World} {a:AV} {cs:List Value} {fp:List Nat} (he:a.isElem = true) (h:a0o m w a.cells cs fp):Rep m w a cs fp:=by
 by_cases hc:a.isCell = true
 ·have hcells:a.cells = [a]:=by cases a <;> simp_all [AV.cells,AV.isCell]
  rw [hcells] at h
  simp only [a0o] at h
  obtain ⟨c,cs',f1,f2,rfl,_,h1,⟨rfl,rfl⟩,rfl⟩:=h
  simpa using h1
 ·cases a with
  | agg as => simp only [Rep]; exact h
  | tup as => simp [AV.isElem] at he
  | _ => simp [AV.isCell] at hc
def a5u (y:AV) (f:Nat) (v:AV):AV :=
 match y with
 | .agg cs => .agg (putCells cs f v.cells)
 | _ => v
def b0h (y:AV) (f sz:Nat) (v:AV):Prop :=
 v.cells.length = sz ∧ match y with
 | .agg cs => f + sz ≤ cs.length
 | .tup _ => False
 | _ => f = 0 ∧ v.isCell = true
theorem b7f {y:AV} {f sz:Nat} {v:AV} (hp:b0h y f sz v):(a5u y f v).cells = putCells y.cells f v.cells ∧ f + sz ≤ y.cells.length ∧ (a5u y f v).cells.length = y.cells.length:=by
 have hlen:∀ cs:List AV,f + sz ≤ cs.length → (putCells cs f v.cells).length = cs.length:=by
  intro cs hc
  have:=hp.1
  simp only [putCells,List.length_append,List.length_take,List.length_drop]
  omega
 cases y with
 | agg cs =>
  have:=hp.2
  exact ⟨rfl,this,hlen cs this⟩
 | tup _ => exact hp.2.elim
 | _ =>
  obtain ⟨h1,rfl,h2⟩:=hp
  have hc:v.cells = [v]:=by cases v <;> simp_all [AV.cells,AV.isCell]
  rw [hc] at h1
  simp at h1
  subst h1
  simp only [a5u,hc]
  simp [putCells,AV.cells]
section loud
variable {P:Program} {C:Ctx} {σ:Sg} {φ:Nat → List Nat} {h:List y9} {w w':World} {t:Nat → AV} {ρ:Operand → Value}
theorem b7g {ty:TypeId} {sz g off:Nat} {cur:Array Value} {e:TypeId} {v:Value} (hs:isz P ty = some sz) (hg:w.heap[g]? = some (.cells cur e (0,0))) (hv:v.cells.size = sz) (hfit:off + sz ≤ cur.size)
  (h1:∀ u ∈ v.cells.toList,u.oneCell' = true) :
  (Instr.storeAt ty (.pointer (some ⟨g,off,none⟩)) v).run P w = .ok () (w.setRow g (cur.toList.take off ++ v.cells.toList ++ cur.toList.drop (off + sz)).toArray):=by
 have hst:=run_storeCells_at P g off e v.cells.toList 0 cur w hg (by simpa [hv] using hfit) h1
 simp only [Nat.add_zero,Array.length_toList,hv] at hst
 simp [Instr.storeAt,Instr.sureAddr,storeVar,run_sizeOf hs,hv,hst]
theorem d2t {vs:List Value} {as:List AV} (hr:RVs C σ h w as vs) (hc:∀ a ∈ as,a.isCell = true ∧ a7h h a):∀ u ∈ vs,u.oneCell' = true:=by
 induction as generalizing vs with
 | nil => simp only [RVs] at hr; subst hr; simp
 | cons a as ih =>
  simp only [RVs] at hr
  obtain ⟨v,vs',rfl,h1,h2⟩:=hr
  intro u hu
  rcases List.mem_cons.1 hu with rfl | hu
  ·have hcells:=h1.cells (hc a (by simp)).2
   have hac:a.cells = [a]:=by have:=(hc a (by simp)).1; cases a <;> simp_all [AV.cells,AV.isCell]
   obtain ⟨hcell,hsol⟩:=hc a (by simp)
   cases a with
   | int k n => simp only [RV] at h1; subst h1; rfl
   | bool n => simp only [RV] at h1; subst h1; rfl
   | str n => simp only [RV] at h1; obtain ⟨rfl,_⟩:=h1; rfl
   | nil => simp only [RV] at h1; subst h1; rfl
   | lst z l =>
    simp only [RV] at h1
    obtain ⟨fp,⟨cs,rfl,hr'⟩,_⟩:=h1
    obtain ⟨c,rfl,e⟩:=hr'.cell rfl
    rw [e]
    exact Rep.oneCell rfl hr' c (by simp)
   | iptr l f =>
    simp only [RV] at h1
    obtain ⟨fp,⟨cs,rfl,hr'⟩,_⟩:=h1
    obtain ⟨c,rfl,e⟩:=hr'.cell rfl
    rw [e]
    exact Rep.oneCell rfl hr' c (by simp)
   | fn f caps => simp only [RV] at h1; obtain ⟨vs,rfl,_⟩:=h1; rfl
   | own o lo n =>
    simp only [RV] at h1
    simp only [a7h] at hsol
    cases ho:h[o]? with
    | none => simp [ho] at hsol
    | some x =>
     cases x with
     | row sz l => simp only [ho] at h1; obtain ⟨a,cap,rfl,_⟩:=h1; rfl
     | _ => simp [ho] at hsol
   | ptr o i f =>
    simp only [RV] at h1
    simp only [a7h] at hsol
    cases ho:h[o]? with
    | none => simp [ho] at hsol
    | some x =>
     cases x with
     | row sz l => simp only [ho] at h1; obtain ⟨_,g,c,_,rfl⟩:=h1; rfl
     | rowx _ _ _ _ => simp [ho] at hsol
     | box sz l => simp only [ho] at h1; obtain ⟨_,g,c,_,rfl⟩:=h1; rfl
     | _ => simp [ho] at hsol
   | agg _ => simp [AV.isCell] at hcell
   | tup _ => simp [AV.isCell] at hcell
   | undef => simp [a7h] at hsol
   | skip => simp [a7h] at hsol
   | hdr _ _ _ => simp [a7h] at hsol
  ·exact ih h2 (fun b hb => hc b (by simp [hb])) u hu
theorem three {α:Type} (A M B:List α):(A ++ M ++ B).take A.length = A ∧ ((A ++ M ++ B).drop A.length).take M.length = M ∧ (A ++ M ++ B).drop (A.length + M.length) = B:=by
 refine ⟨by simp,by simp,?_⟩
 rw [← List.length_append]; simp
theorem c4x (hr:a0b C σ φ h w) {ty:TypeId} {sz:Nat} (hs:isz P ty = some sz) {o i f z:Nat} {l:List AV} {y v:AV} {a x:Value} (ho:h[o]? = some (.rowx z l i y)) (ha:RV C σ h w (.ptr o i f) a) (hx:RV C σ h w v x)
  (hsol:a7h h v) (hp:b0h y f sz v) (hcs:∀ c ∈ v.cells,c.isCell = true ∧ a7h h c) :
  ∃ w' φ',(Instr.storeAt ty a x).run P w = .ok () w' ∧ a0b C σ φ' (h.set o (.rowx z l i (a5u y f v))) w' ∧ Ev σ h w σ (h.set o (.rowx z l i (a5u y f v))) w' ∧ Below C.base w w':=by
 obtain ⟨hz,hmm,hi,g,c,cur,e,f1,f2,k1,k2,k3,k4,k5,k6,k7,k7',k8,k9⟩:=hr.obj o _ ho
 simp only [RV,ho] at ha
 obtain ⟨_,g',c',hσ',rfl⟩:=ha
 rw [k1] at hσ'
 cases hσ'
 have hv:=hx.cells hsol
 have hlv:=hv.length
 obtain ⟨hc1,hc2,hc3⟩:=b7f hp
 have hl6:=k6.length
 have hvs:x.cells.size = sz:=by rw [← hp.1,← hlv]; simp
 rw [k7'] at hl6 hc2
 have hlen6:((cur.toList.drop (i * z)).take z).length = z:=hl6
 have hroom:i * z + z ≤ cur.size:=by
  rw [List.length_take,List.length_drop,Array.length_toList] at hlen6
  omega
 have hfit:(i * z + f) + sz ≤ cur.size:=by omega
 have hrun:=b7g (P:=P) (w:=w) (ty:=ty) hs k3 hvs hfit (d2t hv hcs)
 have hb:C.mine g:=hr.base o _ g c ho rfl k1
 obtain ⟨W,hW⟩:∃ W,W = w.setRow g (cur.toList.take (i * z + f) ++ x.cells.toList ++ cur.toList.drop (i * z + f + sz)).toArray:=⟨_,rfl⟩
 rw [← hW] at hrun
 have hWs:W.heap.size = w.heap.size:=by rw [hW]; simp
 have hWo:∀ b,b ≠ g → W.heap[b]? = w.heap[b]?:=fun b hb => by rw [hW]; exact setRow_other w g b _ hb
 have hWg:W.heap[g]? = some (.cells (cur.toList.take (i * z + f) ++ x.cells.toList ++ cur.toList.drop (i * z + f + sz)).toArray e (0,0)):=by rw [hW]; exact setRow_heap w g cur _ e _ k3
 obtain ⟨new,hnew⟩:∃ new,new = cur.toList.take (i * z + f) ++ x.cells.toList ++ cur.toList.drop (i * z + f + sz):=⟨_,rfl⟩
 rw [← hnew] at hWg
 have hcl:cur.toList.length = cur.size:=Array.length_toList
 have hxl:x.cells.toList.length = sz:=by simpa using hvs
 have hnl:new.length = cur.size:=by
  rw [hnew]; simp only [List.length_append,List.length_take,List.length_drop,hcl,hxl]; omega
 -- the parts of what is there then
 have a1:cur.toList.take (i * z + f) = cur.toList.take (i * z) ++ ((cur.toList.drop (i * z)).take z).take f:=by
  rw [List.take_add,List.take_take,Nat.min_eq_left (by omega)]
 have a2:cur.toList.drop (i * z + f + sz) = ((cur.toList.drop (i * z)).take z).drop (f + sz) ++ cur.toList.drop (i * z + z):=by
  rw [List.drop_take,List.drop_drop,show i * z + z = (i * z + (f + sz)) + (z - (f + sz)) by omega,← List.drop_drop (i:=z - (f + sz)),List.take_append_drop,Nat.add_assoc]
 obtain ⟨M,hM⟩:∃ M,M = ((cur.toList.drop (i * z)).take z).take f ++ x.cells.toList ++ ((cur.toList.drop (i * z)).take z).drop (f + sz):=⟨_,rfl⟩
 have hMl:M.length = z:=by
  rw [hM]; simp only [List.length_append,List.length_take (i:=f),List.length_drop (i:=f + sz),hlen6,hxl]; omega
 have hAl:(cur.toList.take (i * z)).length = i * z:=by rw [List.length_take,hcl]; omega
 have hn3:new = cur.toList.take (i * z) ++ M ++ cur.toList.drop (i * z + z):=by
  rw [hnew,a1,a2,hM]; simp only [List.append_assoc]
 obtain ⟨t1,t2,t3⟩:=three (cur.toList.take (i * z)) M (cur.toList.drop (i * z + z))
 rw [hAl] at t1 t2 t3
 rw [hMl] at t2 t3
 have p1:new.take (i * z) = cur.toList.take (i * z):=by rw [hn3]; exact t1
 have p2:(new.drop (i * z)).take z = ((cur.toList.drop (i * z)).take z).take f ++ x.cells.toList ++ ((cur.toList.drop (i * z)).take z).drop (f + sz):=by rw [hn3,← hM]; exact t2
 have p3:new.drop ((i + 1) * z) = cur.toList.drop ((i + 1) * z):=by
  have e1:(i + 1) * z = i * z + z:=by rw [Nat.add_mul,Nat.one_mul]
  rw [e1,hn3]; exact t3
 have key:=hr.turn (w':=W) ho (x':=.rowx z l i (a5u y f v)) rfl ⟨rfl,rfl⟩ k1 (ks:=[]) (by simp) (fx:=φ o) hWs hWo (fun ev => by
   have s1:∀ b ∈ f1,C.ok b ∧ ¬ liveAt h σ b:=fun b hb => k9 b (by rw [k8]; simp [hb])
   have s2:∀ b ∈ f2,C.ok b ∧ ¬ liveAt h σ b:=fun b hb => k9 b (by rw [k8]; simp [hb])
   obtain ⟨a1,a2⟩:=ev.immS k5 s1
   obtain ⟨b1,b2⟩:=ev.immS k7 s2
   have hφ:upd φ o (φ o) o = φ o:=by simp [upd]
   refine ⟨hz,hmm,hi,g,c,new.toArray,e,f1,f2,k1,k2,hWg,by rw [List.size_toArray,hnl]; exact k4,?_,?_,?_,by rw [hc3,k7'],by rw [hφ]; exact k8,?_⟩
   ·refine a0n.congr ?_ a1
    have hle:(l.take i).length * z ≤ i * z:=Nat.mul_le_mul_right _ (by rw [List.length_take]; omega)
    have:∀ q:List Value,q.take ((l.take i).length * z) = (q.take (i * z)).take ((l.take i).length * z):=by
     intro q; rw [List.take_take]; congr 1; omega
    rw [this,this cur.toList,p1]
   ·show RVs C σ _ W (a5u y f v).cells ((new.drop (i * z)).take z)
    rw [p2,hc1,putCells,hp.1]
    exact ev.rvs _ _ (((k6.take f).append hv).append (k6.drop (f + sz)))
   ·show a0n C.dm W z (l.drop (i + 1)) (new.drop ((i + 1) * z)) f2
    rw [p3]; exact b1
   ·intro b hb
    rw [hφ,k8] at hb
    rcases List.mem_append.1 hb with hb | hb
    ·exact a2 b hb
    ·exact b2 b hb) (fun hdm _ => by
   obtain ⟨d1,d2,d3⟩:=hr.deepx hdm o _ ho rfl
   exact ⟨d1,d2,fun o' y ho' hy _ hne b hb => d3 o' y ho' hy hne b hb⟩)
 simp only [kill] at key
 exact ⟨_,_,hrun,key.1,key.2,by rw [hW]; exact ⟨rfl,rfl,rfl,by simp,fun k hk => setRow_other w g k _ (by have:=hb.1; omega)⟩⟩
theorem c5z (hr:a0b C σ φ h w) {ty:TypeId} {sz:Nat} (hs:isz P ty = some sz) {o f z:Nat} {y v:AV} {a x:Value} (ho:h[o]? = some (.box z y)) (ha:RV C σ h w (.ptr o 0 f) a) (hx:RV C σ h w v x)
  (hsol:a7h h v) (hp:b0h y f sz v) (hcs:∀ c ∈ v.cells,c.isCell = true ∧ a7h h c) :
  ∃ w' φ',(Instr.storeAt ty a x).run P w = .ok () w' ∧ a0b C σ φ' (h.set o (.box z (a5u y f v))) w' ∧ Ev σ h w σ (h.set o (.box z (a5u y f v))) w' ∧ Below C.base w w':=by
 obtain ⟨g,cur,e,h1,h2,h3,h4⟩:=hr.obj o _ ho
 simp only [RV,ho] at ha
 obtain ⟨_,g',c',hσ',rfl⟩:=ha
 rw [h1] at hσ'
 cases hσ'
 have hv:=hx.cells hsol
 have hlv:=hv.length
 obtain ⟨hc1,hc2,hc3⟩:=b7f hp
 have hl4:=h4.length
 have hvs:x.cells.size = sz:=by rw [← hp.1,← hlv]; simp
 have hfit:f + sz ≤ cur.size:=by rw [← hl4] at hc2; simpa using hc2
 have hrun:=b7g (P:=P) (w:=w) (ty:=ty) hs h2 hvs hfit (d2t hv hcs)
 have hb:C.mine g:=hr.base o _ g 1 ho rfl h1
 have key:=hr.turn (w':=w.setRow g (cur.toList.take f ++ x.cells.toList ++ cur.toList.drop (f + sz)).toArray) ho (x':=.box z (a5u y f v)) rfl rfl h1 (ks:=[]) (by simp) (fx:=φ o) (by simp) (fun b hb => setRow_other w g b _ hb) (fun ev => by
   refine ⟨g,_,e,h1,setRow_heap w g cur _ e _ h2,?_,?_⟩
   ·simp only [List.size_toArray,List.length_append,List.length_take,List.length_drop,Array.length_toList,hvs]; omega
   ·refine ev.rvs _ _ ?_
    rw [hc1,putCells,hp.1]
    exact ((h4.take f).append hv).append (h4.drop (f + sz))) (by intro _ e; cases e)
 simp only [kill] at key
 exact ⟨_,_,hrun,key.1,key.2,⟨rfl,rfl,rfl,by simp,fun k hk => setRow_other w g k _ (by have:=hb.1; omega)⟩⟩
theorem c9o {A s1 fv s3 B:List Nat} (hn2:fv.Nodup) (hn1:(A ++ (s1 ++ s3) ++ B).Nodup) (hdis:∀ b ∈ fv,b ∉ A ++ (s1 ++ s3) ++ B):(A ++ (s1 ++ fv ++ s3) ++ B).Nodup:=by
 have hp1:(A ++ (s1 ++ fv ++ s3) ++ B).Perm (fv ++ (A ++ (s1 ++ s3) ++ B)):=by
  have e1:A ++ (s1 ++ fv ++ s3) ++ B = (A ++ s1) ++ (fv ++ (s3 ++ B)):=by simp
  have e2:fv ++ (A ++ (s1 ++ s3) ++ B) = fv ++ ((A ++ s1) ++ (s3 ++ B)):=by simp
  rw [e1,e2,← List.append_assoc (A ++ s1) fv,← List.append_assoc fv (A ++ s1)]
  exact List.Perm.append_right _ List.perm_append_comm
 rw [hp1.nodup_iff,List.nodup_append]
 refine ⟨hn2,hn1,?_⟩
 intro b hb b' hb' heq
 subst heq
 exact hdis b hb hb'
set_option maxHeartbeats 1000000 in
theorem c6a (hr:a0b C σ φ h w) (hok:∀ b,C.mine b → C.ok b) {ty:TypeId} {sz:Nat} (hs:isz P ty = some sz) {o i f z:Nat} {l:List AV} {el v v':AV} {ks:List Nat} {a x:Value} (ho:h[o]? = some (.row z l)) (hel:l[i]? = some el)
  (ha:RV C σ h w (.ptr o i f) a) (hx:RV C σ h w v x) (hab:a2w C.dm h v = some (v',ks)) (hok':o ∉ ks) (hnd:C.dm = true → ks.Nodup) (hp:b0h el f sz v') :
  ∃ w' φ',(Instr.storeAt ty a x).run P w = .ok () w' ∧ a0b C σ φ' ((kill h ks).set o (.row z (l.set i (a5u el f v')))) w' ∧ Ev σ h w σ ((kill h ks).set o (.row z (l.set i (a5u el f v')))) w' ∧ Below C.base w w':=by
 simp only [RV,ho] at ha
 obtain ⟨hil,g,c,hσ,rfl⟩:=ha
 obtain ⟨hz0,hob⟩:=hr.obj o _ ho
 rw [hσ] at hob
 obtain ⟨hcm,cur,e,h2,h3,h4,h5⟩:=hob
 obtain ⟨fv,⟨cs,rfl,r1⟩,tk⟩:=a2w.rep hr hok v v' ks x hab hx
 obtain ⟨A,fe,B,hfp,g1,g2,g3,g4⟩:=h4.set hel
 have hnt:=b5x hab
 have hve:v'.isElem = true:=by cases v' <;> first | rfl | exact absurd rfl (hnt _)
 have hvc:(mkV v' cs).cells.toList = cs:=by
  cases v' with
  | agg as' => simp [mkV,Value.cells]
  | tup as' => exact absurd rfl (hnt as')
  | _ =>
   obtain ⟨c,rfl,e⟩:=r1.cell rfl
   rw [e]
   exact Rep.cellV rfl r1
 have r1':=r1.cells1 hve
 have hl1:=r1'.length
 obtain ⟨hc1,hc2,hc3⟩:=b7f hp
 have ge:=g1.cells1 g3
 have hle:=ge.length
 rw [g2] at hle
 have hlen4:l.length * z ≤ cur.size:=by simpa using h4.length
 have hvs:(mkV v' cs).cells.size = sz:=by rw [← Array.length_toList,hvc,hl1,hp.1]
 have hisz:i * z + z ≤ l.length * z:=by
  have:(i + 1) * z ≤ l.length * z:=Nat.mul_le_mul_right _ hil
  rwa [Nat.add_mul,Nat.one_mul] at this
 have hfit:i * z + f + sz ≤ cur.size:=by omega
 have hone:∀ u ∈ (mkV v' cs).cells.toList,u.oneCell' = true:=by rw [hvc]; exact Rep.oneCellE hve r1
 have hrun:=b7g (P:=P) (w:=w) (ty:=ty) hs h2 hvs hfit hone
 rw [hvc] at hrun
 obtain ⟨cur',hcur'⟩:∃ c,c = cur.toList.take (i * z + f) ++ cs ++ cur.toList.drop (i * z + f + sz):=⟨_,rfl⟩
 rw [← hcur'] at hrun
 obtain ⟨W,hW⟩:∃ W,W = w.setRow g cur'.toArray:=⟨_,rfl⟩
 rw [← hW] at hrun
 have hwo:∀ b,b ≠ g → W.heap[b]? = w.heap[b]?:=fun b hb => by rw [hW]; exact setRow_other w g b _ hb
 have hWg:W.heap[g]? = some (.cells cur'.toArray e (0,0)):=by rw [hW]; exact setRow_heap w g cur _ e _ h2
 have hWs:W.heap.size = w.heap.size:=by rw [hW]; simp
 have hWb:W.os = w.os ∧ W.tape = w.tape ∧ W.output = w.output:=by rw [hW]; exact ⟨rfl,rfl,rfl⟩
 clear hW
 have hbg:C.mine g:=hr.base o _ g c ho rfl hσ
 have hglive:liveAt h σ g:=⟨o,_,c,ho,rfl,hσ⟩
 have hfvne:∀ b ∈ fv,b ≠ g:=by
  intro b hb he
  subst he
  obtain ⟨k,k1,k2⟩:=tk.live b hb hglive
  rcases k2 with ⟨y,c',y1,y2,y3⟩ | ⟨y1,y,y2,y3⟩
  ·have:=hr.inj o k _ y b c c' ho rfl y1 y2 hσ y3
   subst this
   exact hok' k1
  ·exact (hr.phix y2 y3 y1).2 hglive
 -- the element's new cells
 obtain ⟨p1,q1,e1,t1⟩:=ge.take f
 obtain ⟨p2,q2,e2,t2⟩:=ge.drop (f + sz)
 -- the blocks that the element still leads to
 have hfe:∃ r1 r3,a0o C.dm w (el.cells.take f) (((cur.toList.drop (i * z)).take z).take f) r1 ∧ a0o C.dm w (el.cells.drop (f + sz)) (((cur.toList.drop (i * z)).take z).drop (f + sz)) r3 ∧ List.Sublist (r1 ++ r3) fe:=by
  obtain ⟨p3,q3,e3,t3⟩:=a0o.drop f ge
  have key:∀ {as:List AV} {cs:List Value} {fp:List Nat} (n k:Nat),a0o C.dm w as cs fp → ∃ r1 r3,a0o C.dm w (as.take n) (cs.take n) r1 ∧ a0o C.dm w (as.drop (n + k)) (cs.drop (n + k)) r3 ∧ List.Sublist (r1 ++ r3) fp:=by
   intro as
   induction as with
   | nil =>
    intro cs fp n k hr
    simp only [a0o] at hr
    obtain ⟨rfl,rfl⟩:=hr
    exact ⟨[],[],by simp [a0o],by simp [a0o],by simp⟩
   | cons a as ih =>
    intro cs fp n k hr
    cases n with
    | zero =>
     obtain ⟨f1,f2,e,hd⟩:=hr.drop k
     exact ⟨[],f2,by simp [a0o],by simpa using hd,by rw [e]; simp⟩
    | succ n =>
     simp only [a0o] at hr
     obtain ⟨c,cs',f1,f2,rfl,hc,h1,h2,rfl⟩:=hr
     obtain ⟨r1,r3,x1,x3,xs⟩:=ih n k h2
     refine ⟨f1 ++ r1,r3,?_,?_,by rw [List.append_assoc]; exact List.Sublist.append (List.Sublist.refl _) xs⟩
     ·simp only [List.take_succ_cons,a0o]; exact ⟨c,_,f1,r1,rfl,hc,h1,x1,rfl⟩
     ·rw [show n + 1 + k = (n + k) + 1 by omega]; simpa using x3
  exact key f sz ge
 obtain ⟨s1,s3,u1,u3,hsub⟩:=hfe
 have hseg:∀ b ∈ A ++ fe ++ B,b ≠ g:=by
  intro b hb he
  rw [← hfp] at hb
  exact (h5 b hb).2 (he ▸ hglive)
 have hs1:∀ b ∈ s1,b ∈ fe:=fun b hb => hsub.subset (by simp [hb])
 have hs3:∀ b ∈ s3,b ∈ fe:=fun b hb => hsub.subset (by simp [hb])
 have hnewcells:a0o C.dm W (a5u el f v').cells (((cur.toList.drop (i * z)).take z).take f ++ cs ++ ((cur.toList.drop (i * z)).take z).drop (f + sz)) (s1 ++ fv ++ s3):=by
  rw [hc1,putCells,hp.1]
  refine a0o.append (a0o.append ?_ ?_) ?_
  ·exact a0o.world' (fun b hb => hwo b (hseg b (by simp [hs1 b hb]))) u1
  ·exact a0o.world' (fun b hb => hwo b (hfvne b hb)) r1'
  ·exact a0o.world' (fun b hb => hwo b (hseg b (by simp [hs3 b hb]))) u3
 have hnewlen:(((cur.toList.drop (i * z)).take z).take f ++ cs ++ ((cur.toList.drop (i * z)).take z).drop (f + sz)).length = z:=by
  simp only [List.length_append,List.length_take,List.length_drop]
  have:=g2
  simp only [List.length_take,List.length_drop] at this
  rw [hl1,hp.1]
  omega
 have hnewel:(a5u el f v').isElem = true:=by
  cases el with
  | agg _ => rfl
  | tup _ => exact hp.2.elim
  | _ => exact hve
 have hnew:Rep C.dm W (a5u el f v') (((cur.toList.drop (i * z)).take z).take f ++ cs ++ ((cur.toList.drop (i * z)).take z).drop (f + sz)) (s1 ++ fv ++ s3):=Rep.ofCells hnewel hnewcells
 have hcur:cur.toList.take (i * z + f) ++ cs ++ cur.toList.drop (i * z + f + sz) = cur.toList.take (i * z) ++ (((cur.toList.drop (i * z)).take z).take f ++ cs ++ ((cur.toList.drop (i * z)).take z).drop (f + sz)) ++ cur.toList.drop (i * z + z):=by
  have a1:cur.toList.take (i * z + f) = cur.toList.take (i * z) ++ ((cur.toList.drop (i * z)).take z).take f:=by
   rw [List.take_add,List.take_take,Nat.min_eq_left (by omega)]
  have a2:cur.toList.drop (i * z + f + sz) = ((cur.toList.drop (i * z)).take z).drop (f + sz) ++ cur.toList.drop (i * z + z):=by
   rw [List.drop_take,List.drop_drop,show i * z + z = (i * z + (f + sz)) + (z - (f + sz)) by omega,← List.drop_drop (i:=z - (f + sz)),List.take_append_drop,Nat.add_assoc]
  rw [a1,a2]
  simp only [List.append_assoc]
 have hrepS:=g4 W _ _ _ (fun b hb => hwo b (hseg b (by
  simp only [List.mem_append] at hb ⊢
  rcases hb with hb | hb
  ·exact .inl (.inl hb)
  ·exact .inr hb))) hnewlen hnewel hnew
 rw [← hcur,← hcur'] at hrepS
 have hall:∀ b ∈ A ++ (s1 ++ fv ++ s3) ++ B,b ∈ φ o ∨ b ∈ fv:=by
  intro b hb
  rw [hfp]
  simp only [List.mem_append] at hb ⊢
  rcases hb with (hb | (hb | hb) | hb) | hb
  ·exact .inl (.inl (.inl hb))
  ·exact .inl (.inl (.inr (hs1 b hb)))
  ·exact .inr hb
  ·exact .inl (.inl (.inr (hs3 b hb)))
  ·exact .inl (.inr hb)
 have hltv:=Rep.lt _ _ _ r1
 have key:=hr.turn (w':=W) ho (x':=.row z (l.set i (a5u el f v'))) rfl ⟨rfl,by simp⟩ hσ (ks:=ks) hok' (fx:=A ++ (s1 ++ fv ++ s3) ++ B) hWs hwo (fun ev => by
   refine ⟨hz0,?_⟩
   rw [hσ]
   have:upd φ o (A ++ (s1 ++ fv ++ s3) ++ B) o = A ++ (s1 ++ fv ++ s3) ++ B:=by simp [upd]
   simp only [this]
   refine ⟨hcm,_,e,hWg,?_,hrepS,?_⟩
   ·rw [hcur']
    simp only [List.size_toArray,List.length_append,List.length_take,List.length_drop,Array.length_toList,hl1,hp.1]
    omega
   ·intro b hb
    rcases hall b hb with hb | hb
    ·refine ⟨(h5 b hb).1,fun hl => (h5 b hb).2 (ev.live b ?_ hl)⟩
     have:=a0n.lt _ _ _ h4 b hb
     exact this
    ·refine ⟨tk.ok b hb,fun hl => ?_⟩
     obtain ⟨o',y,c',j1,j2,j3⟩:=hl
     have hlt:o' < (kill h ks).length:=by
      have:=(List.getElem?_eq_some_iff.1 j1).1
      simpa using this
     rw [List.getElem?_set] at j1
     by_cases he:o = o'
     ·subst he
      rw [hσ] at j3
      cases j3
      exact hfvne _ hb rfl
     ·rw [if_neg he] at j1
      obtain ⟨m1,m2⟩:=a7g j1 j2
      obtain ⟨k,k1,k2⟩:=tk.live b hb ⟨o',y,c',m1,j2,j3⟩
      rcases k2 with ⟨y',c'',y1,y2,y3⟩ | ⟨y1,y',y2,y3⟩
      ·have:=hr.inj o' k y y' b c' c'' m1 j2 y1 y2 j3 y3
       subst this
       exact m2 k1
      ·exact (hr.phix y2 y3 y1).2 ⟨o',y,c',m1,j2,j3⟩) (by
   intro hdm _
   obtain ⟨d1,d2,d3⟩:=hr.deep hdm o z l ho
   refine ⟨?_,?_,?_⟩
   ·have hn1:(A ++ (s1 ++ s3) ++ B).Nodup:=by
     rw [hfp] at d1
     exact d1.sublist (List.Sublist.append (List.Sublist.append (List.Sublist.refl _) hsub) (List.Sublist.refl _))
    have hn2:=tk.nodup hdm (hnd hdm)
    have hdis:∀ b ∈ fv,b ∉ A ++ (s1 ++ s3) ++ B:=by
     intro b hb hb'
     obtain ⟨k,k1,k2⟩:=tk.own hdm b hb
     have hbo:b ∈ φ o:=by
      rw [hfp]
      simp only [List.mem_append] at hb' ⊢
      rcases hb' with (hb' | hb' | hb') | hb'
      ·exact .inl (.inl hb')
      ·exact .inl (.inr (hs1 b hb'))
      ·exact .inl (.inr (hs3 b hb'))
      ·exact .inr hb'
     have:=a7x.unique hr hdm k2 (.inr ⟨hbo,_,ho,rfl⟩)
     subst this
     exact hok' k1
    exact c9o hn2 hn1 hdis
   ·intro b hb
    rcases hall b hb with hb | hb
    ·exact d2 b hb
    ·obtain ⟨k,_,hk⟩:=tk.own hdm b hb
     exact hk.base hr hdm
   ·intro o' y' ho' hy' hk' hne b hb hbo
    rcases hall b hb with hb | hb
    ·exact d3 o' y' ho' hy' hne b hb hbo
    ·obtain ⟨k,k1,k2⟩:=tk.own hdm b hb
     have:=a7x.unique hr hdm k2 (.inr ⟨hbo,y',ho',hy'⟩)
     subst this
     exact hk' k1)
 exact ⟨_,_,hrun,key.1,key.2,⟨hWb.1,hWb.2.1,hWb.2.2,by omega,fun k hk => hwo k (by have:=hbg.1; omega)⟩⟩
end loud
section loud
variable {P:Program} {C:Ctx} {σ:Sg} {φ:Nat → List Nat} {h:List y9} {w w':World} {t:Nat → AV} {ρ:Operand → Value}
theorem a9k (z:Array Value) (n:Nat):Builtin.zeroCells z n = madeCells z (n * z.size):=rfl
theorem a0n.cut {m:Bool} {w:World} {sz:Nat} {as:List AV} {cs:List Value} {fp:List Nat} (hr:a0n m w sz as cs fp):a0n m w sz as (cs.take (as.length * sz)) fp :=
 a0n.congr (by rw [List.take_take,Nat.min_self]) hr
theorem d2u (hr:a0b C σ φ h w) {ty e rt:TypeId} {i:TypeInfo} (ht:P.underlying ty = some (.slice e)) (hi:P.info? e = some i) {z:Value} (hz:i.zero = some z) {za:AV} (hza:a5t z = some za) (hzs:za.cells.length = i.size) {o lo n:Nat} {l:List AV} {v:Value} (ho:h[o]? = some (.row i.size l)) (hv:RV C σ h w (.own o lo n) v) :
  ∃ w' φ',(Builtin.clear_ #[ty] rt #[v]).run P w = .ok (.tuple #[]) w' ∧ a0b C σ φ' (h.set o (.row i.size (l.take lo ++ List.replicate n za ++ l.drop (lo + n)))) w' ∧ Ev σ h w σ (h.set o (.row i.size (l.take lo ++ List.replicate n za ++ l.drop (lo + n)))) w' ∧ Below C.base w w':=by
 simp only [RV,ho] at hv
 obtain ⟨a,cap,rfl,hln,hnc,hcm,hm⟩:=hv
 have hzv:(zeroValue e).run P w = .ok z w:=by simp [zeroValue,typeInfo,hi,hz]
 by_cases hn:n = 0
 ·subst hn
  have hlst:l.take lo ++ List.replicate 0 za ++ l.drop (lo + 0) = l:=by simp
  have hset:h.set o (.row i.size l) = h:=by
   apply List.ext_getElem?
   intro j
   rw [List.getElem?_set]
   by_cases hj:o = j
   ·subst hj
    have:=(List.getElem?_eq_some_iff.1 ho).1
    rw [if_pos rfl,if_pos this,ho]
   ·rw [if_neg hj]
  rw [hlst,hset]
  refine ⟨w,φ,?_,hr,Ev.refl _ _ _,Below.refl _ _⟩
  cases a <;> simp [Builtin.clear_,run_underlying ht] <;> rfl
 ·cases hσ:σ o with
  | none => rw [hσ] at hm; omega
  | some p =>
   obtain ⟨g,c⟩:=p
   rw [hσ] at hm
   have ha:=hm.1.resolve_left hn
   subst ha
   obtain ⟨hz0,hob⟩:=hr.obj o _ ho
   rw [hσ] at hob
   obtain ⟨hcm2,cur,e',h2,h3,h4,h5⟩:=hob
   have hf:=a5t.flat hza
   have hzc:z.cells.size = i.size:=by
    have hrv:=(a5t.rv (C:=C) (σ:=σ) (h:=h) (w:=w) hza).cells (by cases za <;> simp_all [R.flat,a7h])
    have:=hrv.length
    rw [hzs] at this
    simpa using this
   have hlen4:l.length * i.size ≤ cur.size:=by simpa using h4.length
   have hfit:lo * i.size + n * i.size ≤ cur.size:=by
    rw [← Nat.add_mul]
    exact Nat.le_trans (Nat.mul_le_mul_right _ hln) hlen4
   obtain ⟨zs,hzs'⟩:∃ zs,zs = (Builtin.zeroCells z.cells n).toList:=⟨_,rfl⟩
   have hzl:zs.length = n * i.size:=by rw [hzs',a9k]; simp [size_madeCells,hzc]
   have hrep0:a0n C.dm w i.size (List.replicate n za) zs []:=by
    have hl:z.cells.toList.length = i.size:=by simpa using hzc
    rw [hzs',a9k,← hl]
    refine b1c hf.2.1 (hf.2.2 _ _) _ _ (fun j hj => ?_)
    rw [hl,← hzc]
    refine c5y _ (by omega) _ _ ?_
    exact Nat.mul_le_mul_right _ (by omega)
   have h1:∀ u ∈ zs,u.oneCell' = true:=by
    intro u hu
    have:=a0n.oneCell hrep0 u
    rw [List.length_replicate,← hzl,List.take_length] at this
    exact this hu
   have hst:=run_storeCells_at P g (lo * i.size) e' zs 0 cur w h2 (by rw [hzl]; simpa using hfit) h1
   simp only [Nat.add_zero,hzl] at hst
   obtain ⟨cur',hcur'⟩:∃ c,c = cur.toList.take (lo * i.size) ++ zs ++ cur.toList.drop (lo * i.size + n * i.size):=⟨_,rfl⟩
   rw [← hcur'] at hst
   obtain ⟨W,hW⟩:∃ W,W = w.setRow g cur'.toArray:=⟨_,rfl⟩
   rw [← hW] at hst
   have hrun:(Builtin.clear_ #[ty] rt #[.slice (some ⟨g,lo * i.size,none⟩) n cap]).run P w = .ok (.tuple #[]) W:=by
    cases n with
    | zero => exact absurd rfl hn
    | succ k => simp [Builtin.clear_,run_underlying ht,hzv,← hzs',hst]
   have hwo:∀ b,b ≠ g → W.heap[b]? = w.heap[b]?:=fun b hb => by rw [hW]; exact setRow_other w g b _ hb
   have hWg:W.heap[g]? = some (.cells cur'.toArray e' (0,0)):=by rw [hW]; exact setRow_heap w g cur _ e' _ h2
   have hWs:W.heap.size = w.heap.size:=by rw [hW]; simp
   have hWb:W.os = w.os ∧ W.tape = w.tape ∧ W.output = w.output:=by rw [hW]; exact ⟨rfl,rfl,rfl⟩
   clear hW
   have hbg:C.mine g:=hr.base o _ g c ho rfl hσ
   have hglive:liveAt h σ g:=⟨o,_,c,ho,rfl,hσ⟩
   have hgφ:∀ b ∈ φ o,b ≠ g:=fun b hb he => (h5 b hb).2 (he ▸ hglive)
   obtain ⟨f0,g0,e0,q1,q2⟩:=h4.split lo
   obtain ⟨f1,g1,e1,q3,q4⟩:=q2.split n
   rw [List.drop_drop,List.drop_drop,← Nat.add_mul] at q4
   have hsub:∀ b ∈ f0 ++ g1,b ∈ φ o:=by
    intro b hb
    rw [e0,e1]
    simp only [List.mem_append] at hb ⊢
    rcases hb with hb | hb
    ·exact .inl hb
    ·exact .inr (.inr hb)
   have hrepN:a0n C.dm W i.size (l.take lo ++ List.replicate n za ++ l.drop (lo + n)) cur' (f0 ++ [] ++ g1):=by
    have lt:(l.take lo).length = lo:=by rw [List.length_take]; omega
    have r1:a0n C.dm W i.size (l.take lo) (cur.toList.take (lo * i.size)) f0:=by
     have:=q1.cut
     rw [lt] at this
     exact a0n.world _ _ _ (fun b hb => hwo b (hgφ b (hsub b (by simp [hb])))) this
    have r2:a0n C.dm W i.size (List.replicate n za) zs []:=a0n.world _ _ _ (by simp) hrep0
    have r3:a0n C.dm W i.size (l.drop (lo + n)) (cur.toList.drop (lo * i.size + n * i.size)) g1:=by
     rw [← Nat.add_mul]
     exact a0n.world _ _ _ (fun b hb => hwo b (hgφ b (hsub b (by simp [hb])))) q4
    rw [hcur']
    have l1:(cur.toList.take (lo * i.size)).length = (l.take lo).length * i.size:=by
     rw [lt,List.length_take,Array.length_toList]; omega
    refine a0n.append (a0n.append r1 l1 r2) ?_ r3
    rw [List.length_append,l1,hzl,List.length_append,List.length_replicate,Nat.add_mul]
   have hsz':cur'.toArray.size = cur.size:=by
    rw [hcur']
    simp only [List.size_toArray,List.length_append,List.length_take,List.length_drop,Array.length_toList,hzl]
    omega
   have hlenN:(l.take lo ++ List.replicate n za ++ l.drop (lo + n)).length = l.length:=by
    simp only [List.length_append,List.length_take,List.length_drop,List.length_replicate]; omega
   have key:=hr.turn (w':=W) ho (x':=.row i.size (l.take lo ++ List.replicate n za ++ l.drop (lo + n))) rfl ⟨rfl,hlenN.symm⟩ hσ (ks:=[]) (by simp) (fx:=f0 ++ [] ++ g1) hWs hwo (fun ev => by
    refine ⟨hz0,?_⟩
    rw [hσ]
    have:upd φ o (f0 ++ [] ++ g1) o = f0 ++ [] ++ g1:=by simp [upd]
    simp only [this]
    refine ⟨hcm2,cur'.toArray,e',hWg,by rw [hsz']; exact h3,hrepN,fun b hb => ?_⟩
    have hb':b ∈ φ o:=hsub b (by simpa using hb)
    exact ⟨(h5 b hb').1,fun hl => (h5 b hb').2 (ev.live b (a0n.lt _ _ _ h4 b hb') hl)⟩) (by
    intro hdm _
    obtain ⟨d1,d2,d3⟩:=hr.deep hdm o _ l ho
    refine ⟨?_,fun b hb => d2 b (hsub b (by simpa using hb)),fun o' y ho' hy _ hne b hb => d3 o' y ho' hy hne b (hsub b (by simpa using hb))⟩
    rw [e0,e1] at d1
    have hs:List.Sublist (f0 ++ [] ++ g1) (f0 ++ (f1 ++ g1)):=by
     rw [List.append_nil]
     exact List.Sublist.append (List.Sublist.refl _) (List.sublist_append_right _ _)
    exact hs.nodup d1)
   simp only [kill] at key
   exact ⟨W,_,hrun,key.1,key.2,⟨hWb.1,hWb.2.1,hWb.2.2,by omega,fun k hk => hwo k (by have:=hbg.1; omega)⟩⟩
end loud
end Go.R
