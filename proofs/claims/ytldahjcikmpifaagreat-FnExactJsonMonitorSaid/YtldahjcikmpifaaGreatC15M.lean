import Derived.Test.YtldahjcikmpifaaGreatC21r
set_option linter.all false
namespace Go.R
open Go Go.RowKit
theorem a0o.setAt {m:Bool} {w:World}:∀ {as:List AV} {cs:List Value} {fp:List Nat} {i:Nat} {a:AV},a0o m w as cs fp → as[i]? = some a →
  ∃ A f B c,fp = A ++ f ++ B ∧ cs[i]? = some c ∧ a.isCell = true ∧ Rep m w a [c] f ∧
   ∀ w' a' f',(∀ b ∈ A ++ B,w'.heap[b]? = w.heap[b]?) → a'.isCell = true → Rep m w' a' [c] f' → a0o m w' (as.set i a') cs (A ++ f' ++ B)
 | [],_,_,_,_,_,h => by simp at h
 | x :: as,cs,fp,0,a,h,hi => by
  simp only [a0o] at h
  obtain ⟨c,cs',f1,f2,rfl,hc,h1,h2,rfl⟩:=h
  simp at hi
  subst hi
  refine ⟨[],f1,f2,c,by simp,rfl,hc,h1,?_⟩
  intro w' a' f' hw hc' hr
  simp only [List.set_cons_zero,a0o]
  exact ⟨c,cs',f',f2,rfl,hc',hr,a0o.world _ _ _ (fun b hb => hw b (by simpa using hb)) h2,rfl⟩
 | x :: as,cs,fp,i + 1,a,h,hi => by
  simp only [a0o] at h
  obtain ⟨c,cs',f1,f2,rfl,hc,h1,h2,rfl⟩:=h
  obtain ⟨A,f,B,c',rfl,g1,g2,g3,g4⟩:=a0o.setAt h2 (by simpa using hi)
  refine ⟨f1 ++ A,f,B,c',by simp,by simpa using g1,g2,g3,?_⟩
  intro w' a' f' hw hc' hr
  simp only [List.set_cons_succ,a0o]
  refine ⟨c,cs',f1,A ++ f' ++ B,rfl,hc,Rep.world _ _ _ (fun b hb => hw b (by simp [hb])) h1,?_,by simp⟩
  exact g4 w' a' f' (fun b hb => hw b (by simp only [List.mem_append] at hb ⊢; rcases hb with hb | hb; exact .inl (.inr hb); exact .inr hb)) hc' hr
def b3i (el:AV) (f:Nat) (a:AV):AV:=match el with
 | .agg cs => .agg (cs.set f a)
 | _ => a
theorem Rep.elAt {m:Bool} {w:World} {el a:AV} {cs:List Value} {fp:List Nat} {f:Nat} (he:el.isElem = true) (hr:Rep m w el cs fp) (hf:el.cells[f]? = some a) :
  ∃ A fc B c,fp = A ++ fc ++ B ∧ a.isCell = true ∧ Rep m w a [c] fc ∧
   ∀ w' a' f',(∀ b ∈ A ++ B,w'.heap[b]? = w.heap[b]?) → a'.isCell = true → Rep m w' a' [c] f' → Rep m w' (b3i el f a') cs (A ++ f' ++ B):=by
 by_cases hc:el.isCell = true
 ·obtain ⟨c,rfl,_⟩:=hr.cell hc
  have hcells:el.cells = [el]:=by cases el <;> simp_all [AV.cells,AV.isCell]
  rw [hcells] at hf
  have h0:f = 0:=by
   cases f with
   | zero => rfl
   | succ f => simp at hf
  subst h0
  simp at hf
  subst hf
  refine ⟨[],fp,[],c,by simp,hc,hr,?_⟩
  intro w' a' f' hw hc' hr'
  have:b3i el 0 a' = a':=by cases el <;> first | rfl | simp [AV.isCell] at hc
  rw [this]
  simpa using hr'
 ·cases el with
  | agg as =>
   simp only [Rep] at hr
   obtain ⟨A,fc,B,c,h1,_,h2,h3,h4⟩:=a0o.setAt hr hf
   refine ⟨A,fc,B,c,h1,h2,h3,?_⟩
   intro w' a' f' hw hc' hr'
   simp only [b3i,Rep]
   exact h4 w' a' f' hw hc' hr'
  | tup as => simp [AV.isElem] at he
  | _ => simp [AV.isCell] at hc
theorem a0n.elAt {m:Bool} {w:World} {z i f:Nat} {l:List AV} {cs:List Value} {fp:List Nat} {el a:AV} (hr:a0n m w z l cs fp) (hi:l[i]? = some el) (hf:el.cells[f]? = some a) :
  ∃ A fc B c,fp = A ++ fc ++ B ∧ a.isCell = true ∧ Rep m w a [c] fc ∧
   ∀ w' a' f',(∀ b ∈ A ++ B,w'.heap[b]? = w.heap[b]?) → a'.isCell = true → Rep m w' a' [c] f' → a0n m w' z (l.set i (b3i el f a')) cs (A ++ f' ++ B):=by
 obtain ⟨A,fe,B,rfl,g1,g2,g3,g4⟩:=hr.set hi
 obtain ⟨A',fc,B',c,rfl,k1,k2,k3⟩:=g1.elAt g3 hf
 refine ⟨A ++ A',fc,B' ++ B,c,by simp,k1,k2,?_⟩
 intro w' a' f' hw hc' hr'
 have h1:=k3 w' a' f' (fun b hb => hw b (by simp only [List.mem_append] at hb ⊢; rcases hb with hb | hb; exact .inl (.inr hb); exact .inr (.inl hb))) hc' hr'
 have he:(b3i el f a').isElem = true:=by
  cases el with
  | agg _ => rfl
  | _ => cases a' <;> first | rfl | simp [AV.isCell] at hc'
 have h2:=g4 w' _ _ _ (fun b hb => hw b (by simp only [List.mem_append] at hb ⊢; rcases hb with hb | hb; exact .inl (.inl hb); exact .inr (.inr hb))) g2 he h1
 have e:cs.take (i * z) ++ (cs.drop (i * z)).take z ++ cs.drop (i * z + z) = cs:=by
  rw [List.append_assoc,← List.drop_drop,List.take_append_drop,List.take_append_drop]
 rw [e] at h2
 simpa [List.append_assoc] using h2
section
variable {P:Program} {C:Ctx} {σ:Sg} {φ:Nat → List Nat} {h:List y9} {w:World}
theorem d1c (hr:a0b C σ φ h w) {o i f z z':Nat} {l l':List AV} {el:AV} (ho:h[o]? = some (.row z l)) (hel:l[i]? = some el) (hf:el.cells[f]? = some (.lst z' l')) :
  ∃ v φ',a0b C σ φ' (h.set o (.row z (l.set i (b3i el f (.hdr v z' l'))))) w ∧ Ev σ h w σ (h.set o (.row z (l.set i (b3i el f (.hdr v z' l'))))) w:=by
 obtain ⟨hz,hob⟩:=hr.obj o _ ho
 cases hs:σ o with
 | none =>
  rw [hs] at hob
  rw [hob.1] at hel
  simp at hel
 | some p =>
  obtain ⟨g,c⟩:=p
  rw [hs] at hob
  obtain ⟨hcm,cur,e,h2,h3,h4,h5⟩:=hob
  obtain ⟨A,fc,B,v,hfp,k1,k2,k3⟩:=h4.elAt hel hf
  have hnew:=k3 w (.hdr v z' l') fc (fun _ _ => rfl) rfl (Rep.hdr.2 ⟨rfl,k2⟩)
  rw [← hfp] at hnew
  have key:=hr.turn (w':=w) ho (x':=.row z (l.set i (b3i el f (.hdr v z' l')))) rfl ⟨rfl,by simp⟩ hs (ks:=[]) (by simp) (fx:=φ o) rfl (fun _ _ => rfl) (fun ev => by
   refine ⟨hz,?_⟩
   rw [hs]
   have:upd φ o (φ o) o = φ o:=by simp [upd]
   simp only [this]
   exact ⟨hcm,cur,e,h2,h3,hnew,fun b hb => ⟨(h5 b hb).1,fun hl => (h5 b hb).2 (ev.live b (a0n.lt _ _ _ h4 b hb) hl)⟩⟩) (by
   intro hdm _
   obtain ⟨d1,d2,d3⟩:=hr.deep hdm o z l ho
   exact ⟨d1,d2,fun o' y ho' hy _ hne b hb => d3 o' y ho' hy hne b hb⟩)
  simp only [kill] at key
  exact ⟨v,_,key.1,key.2⟩
def cellC (C:Ctx) (w:World) (fc:List Nat):Ctx:={ base:=C.base,ok:=fun b => C.base ≤ b ∧ ¬ (C.fr b ∨ (b < w.heap.size ∧ b ∉ fc)),dm:=true,fr:=fun b => C.fr b ∨ (b < w.heap.size ∧ b ∉ fc),mm:=true }
theorem b2h {x y:y9} {k:Nat} (h:[x][k]? = some y):k = 0 ∧ y = x:=by
 cases k with
 | zero => simp at h; exact ⟨rfl,h.symm⟩
 | succ k => simp at h
theorem d8h {fc:List Nat} {v:Value} {z':Nat} {l':List AV} (hz:0 < z') (hmine:∀ b ∈ fc,C.mine b) (hn:fc.Nodup) (hr:Rep true w (.lst z' l') [v] fc) :
  ∃ σ1 φ1,a0b (cellC C w fc) σ1 φ1 [.row z' l'] w ∧ RV (cellC C w fc) σ1 [.row z' l'] w (.own 0 0 l'.length) v ∧ (∀ b,liveAt [.row z' l'] σ1 b → b ∈ fc) ∧
   ∀ w' σ2 φ2 l'',a0b (cellC C w fc) σ2 φ2 [.row z' l''] w' → σ2 0 = σ1 0 → l''.length = l'.length → ∃ fc',Rep true w' (.lst z' l'') [v] fc' ∧ fc'.Nodup ∧ ∀ b ∈ fc',(cellC C w fc).mine b:=by
 have hmine':∀ b ∈ fc,(cellC C w fc).mine b:=by
  intro b hb
  refine ⟨(hmine b hb).1,?_⟩
  rintro (hf | ⟨_,hf⟩)
  ·exact (hmine b hb).2 hf
  ·exact hf hb
 simp only [Rep,List.cons.injEq,and_true] at hr
 rcases hr with ⟨rfl,rfl,a,cap,rfl,hcap,hm⟩ | ⟨b,off,cap,cur,e,fz,fps,rfl,h2,h3,h4,h5,rfl,h7,h8⟩
 ·obtain ⟨rfl,rfl⟩:=hm trivial
  refine ⟨fun _ => none,fun _ => [],⟨?_,?_,?_,?_⟩,?_,?_,?_⟩
  ·intro o x ho
   obtain ⟨rfl,rfl⟩:=b2h ho
   exact ⟨hz,rfl,rfl⟩
  ·intro _ _ _ _ _ _ _ _ _ _ _ hs; cases hs
  ·intro _ _ _ _ _ _ hs; cases hs
  ·intro _ o x ho _
   simp
  ·simp only [RV,List.getElem?_cons_zero]
   exact ⟨none,0,rfl,by simp,by simp,by simp [maxLen],rfl,rfl⟩
  ·rintro b ⟨o,x,c,_,_,hs⟩; cases hs
  ·intro w' σ2 φ2 l'' hr' _ hl
   have:l'' = []:=List.eq_nil_of_length_eq_zero (by simpa using hl)
   subst this
   refine ⟨[],?_,by simp,by simp⟩
   simp only [Rep]
   exact .inl ⟨trivial,trivial,none,0,rfl,by simp [maxLen],by simp⟩
 ·obtain ⟨rfl,rfl,hsz⟩:=h5 trivial
  rw [List.nodup_cons] at hn
  have hbm:=hmine' b (by simp)
  refine ⟨fun k => if k = 0 then some (b,cap) else none,fun k => if k = 0 then fps else [],⟨?_,?_,?_,?_⟩,?_,?_,?_⟩
  ·intro o x ho
   obtain ⟨rfl,rfl⟩:=b2h ho
   refine ⟨hz,?_⟩
   simp only [if_pos]
   refine ⟨h3,cur,e,h4,hsz,by rw [List.drop_zero] at h8; exact h8,?_⟩
   intro x hx
   have hxm:=hmine' x (by simp [hx])
   refine ⟨hxm,?_⟩
   rintro ⟨o',y,c',g1,g2,g3⟩
   obtain ⟨rfl,rfl⟩:=b2h g1
   simp only [if_pos,Option.some.injEq,Prod.mk.injEq] at g3
   rw [g3.1] at hn
   exact hn.1 hx
  ·intro o o' x x' b1 c c' h1 _ h2' _ _ _
   rw [(b2h h1).1,(b2h h2').1]
  ·intro o x b1 c h1 _ hs
   obtain ⟨rfl,rfl⟩:=b2h h1
   simp only [if_pos,Option.some.injEq,Prod.mk.injEq] at hs
   rw [← hs.1]
   exact hbm
  ·intro _ o x ho _
   obtain ⟨rfl,_⟩:=b2h ho
   simp only [if_pos]
   refine ⟨hn.2,fun x hx => hmine' x (by simp [hx]),?_⟩
   intro o' x' ho' _ hne
   exact absurd (b2h ho').1 hne
  ·simp only [RV,List.getElem?_cons_zero]
   exact ⟨some ⟨b,0,none⟩,cap,rfl,by simp,h2,h3,by simp⟩
  ·rintro b1 ⟨o,x,c,g1,_,hs⟩
   obtain ⟨rfl,rfl⟩:=b2h g1
   simp only [if_pos,Option.some.injEq,Prod.mk.injEq] at hs
   rw [← hs.1]
   simp
  ·intro w' σ2 φ2 l'' hr' hs hl
   obtain ⟨_,hob⟩:=hr'.obj 0 _ rfl
   simp only [if_pos] at hs
   rw [hs] at hob
   obtain ⟨q1,cur',e',q2,q3,q4,q5⟩:=hob
   obtain ⟨d1,d2,_⟩:=hr'.deep rfl 0 _ _ rfl
   refine ⟨b :: φ2 0,?_,?_,?_⟩
   ·simp only [Rep]
    exact .inr ⟨b,0,cap,cur',e',(0,0),φ2 0,by rw [hl],by rw [hl]; exact h2,h3,q2,fun _ => ⟨rfl,rfl,q3⟩,rfl,h7,by rw [List.drop_zero]; exact q4⟩
   ·rw [List.nodup_cons]
    exact ⟨fun hb => (q5 b hb).2 ⟨0,_,cap,rfl,rfl,hs⟩,d1⟩
   ·intro x hx
    rcases List.mem_cons.1 hx with rfl | hx
    ·exact hbm
    ·exact d2 x hx
theorem d5i (hdm:C.dm = true) (hmm:C.mm = true) (hr:a0b C σ φ h w) (hok:∀ b,C.mine b → C.ok b) (hb:∀ b,w.heap.size ≤ b → C.mine b) {F o i f z z':Nat} {l l' l'':List AV} {el:AV} {v:Value} {n n':Int} {vs:List Value}
  (hv:RVs C σ h w [.hdr v z' l',.int .i64 n] vs) (ho:h[o]? = some (.row z l)) (hel:l[i]? = some el) (hf:el.cells[f]? = some (.hdr v z' l')) (hz:0 < z')
  (hc:a0z P ⟨true,true,false⟩ F [.own 0 0 l'.length,.int .i64 n] [.row z' l'] (.int .i64 n') [.row z' l'']) :
  Calls P F vs.toArray w fun e w' => match e with
   | .returned u => u = .int .i64 n' ∧ ∃ φ',a0b C σ φ' (h.set o (.row z (l.set i (b3i el f (.lst z' l''))))) w' ∧ EvX C σ h w σ (h.set o (.row z (l.set i (b3i el f (.lst z' l''))))) w' ∧ Below C.base w w'
   | _ => False:=by
 simp only [RVs,RV] at hv
 obtain ⟨_,_,rfl,rfl,_,_,rfl,rfl,rfl⟩:=hv
 obtain ⟨hz0,hob⟩:=hr.obj o _ ho
 cases hs:σ o with
 | none =>
  rw [hs] at hob
  rw [hob.1] at hel
  simp at hel
 | some p =>
  obtain ⟨g,c⟩:=p
  rw [hs] at hob
  obtain ⟨hcm,cur,e,h2,h3,h4,h5⟩:=hob
  obtain ⟨A,fc,B,cc,hfp,k1,k2,k3⟩:=h4.elAt hel hf
  rw [hdm] at k2 k3
  obtain ⟨k4,k5⟩:=Rep.hdr.1 k2
  simp only [List.cons.injEq,and_true] at k4
  subst k4
  obtain ⟨d1,d2,d3⟩:=hr.deep hdm o z l ho
  have hfcφ:∀ b ∈ fc,b ∈ φ o:=fun b hb => by rw [hfp]; simp [hb]
  have hABφ:∀ b ∈ A ++ B,b ∈ φ o:=fun b hb => by
   rw [hfp]; simp only [List.mem_append] at hb ⊢; rcases hb with hb | hb
   ·exact .inl (.inl hb)
   ·exact .inr hb
  have hnd:=d1
  rw [hfp] at hnd
  have hnd2:=List.nodup_append.1 hnd
  have hnd3:=List.nodup_append.1 hnd2.1
  have hAB:∀ b ∈ A ++ B,b ∉ fc:=by
   intro b hb hbf
   rcases List.mem_append.1 hb with hb | hb
   ·exact hnd3.2.2 b hb b hbf rfl
   ·exact hnd2.2.2 b (by simp [hbf]) b hb rfl
  have hplt:∀ b ∈ φ o,b < w.heap.size:=fun b hb => a0n.lt _ _ _ h4 b hb
  obtain ⟨σ1,φ1,m1,m2,m3,m4⟩:=d8h (C:=C) hz (fun b hb => d2 b (hfcφ b hb)) hnd3.2.1 k5
  have hrvs:RVs (cellC C w fc) σ1 [.row z' l'] w [.own 0 0 l'.length,.int .i64 n] [cc,.int .i64 n]:=by
   simp only [RVs]
   exact ⟨_,_,rfl,m2,_,_,rfl,by simp only [RV],rfl⟩
  refine (hc (cellC C w fc) σ1 φ1 w _ rfl (fun _ => rfl) (fun b hm => hm) ?_ m1 hrvs).mono ?_
  ·intro b hge
   have hm:=hb b hge
   refine ⟨hm.1,?_⟩
   rintro (hf' | ⟨hlt,_⟩)
   ·exact hm.2 hf'
   ·omega
  ·intro ex w' he
   cases ex with
   | returned u =>
    obtain ⟨σ2,φ2,q1,q2,q3,q4⟩:=he
    simp only [RV] at q3
    refine ⟨q3,?_⟩
    have hlen:σ2 0 = σ1 0 ∧ l''.length = l'.length:=by
     rcases q2.obj 0 _ rfl rfl with hd | ⟨e1,x',hx',hsh⟩
     ·cases hd
     ·obtain ⟨_,rfl⟩:=b2h hx'
      exact ⟨e1,hsh.2.symm⟩
    obtain ⟨fc',r1,r2,r3⟩:=m4 w' σ2 φ2 l'' q1 hlen.1 hlen.2
    have hsame:∀ b,b < w.heap.size → b ∉ fc → w'.heap[b]? = w.heap[b]?:=fun b hlt hnf =>
     q2.blk b hlt (fun hl => hnf (m3 b hl)) fun _ hm => hm.2 (.inr ⟨hlt,hnf⟩)
    have hmC:∀ b,(cellC C w fc).mine b → C.mine b:=fun b hm => ⟨hm.1,fun hf' => hm.2 (.inl hf')⟩
    have hnew:∀ b ∈ fc',b ∈ fc ∨ w.heap.size ≤ b:=by
     intro b hb'
     by_cases hlt:b < w.heap.size
     ·by_cases hbf:b ∈ fc
      ·exact .inl hbf
      ·exact absurd (.inr ⟨hlt,hbf⟩) (r3 b hb').2
     ·exact .inr (by omega)
    have hrep:=k3 w' (.lst z' l'') fc' (fun b hb' => hsame b (hplt b (hABφ b hb')) (hAB b hb')) rfl r1
    obtain ⟨x',hx'⟩:∃ x',x' = y9.row z (l.set i (b3i el f (.lst z' l''))):=⟨_,rfl⟩
    rw [← hx']
    have hlt:o < h.length:=(List.getElem?_eq_some_iff.1 ho).1
    have hget:∀ o',(h.set o x')[o']? = if o' = o then some x' else h[o']?:=by
     intro o'
     rw [List.getElem?_set]
     by_cases he:o = o'
     ·subst he; simp [hlt]
     ·simp [he,Ne.symm he]
    have hxl:x'.isLive = true:=by rw [hx']; rfl
    have live':∀ (o':Nat) (y:y9),(h.set o x')[o']? = some y → y.isLive = true → ∃ y0:y9,h[o']? = some y0 ∧ y0.isLive = true:=by
     intro o' y hy hly
     rw [hget] at hy
     split at hy
     ·rename_i he; subst he; exact ⟨_,ho,rfl⟩
     ·exact ⟨y,hy,hly⟩
    have hlive:∀ b,liveAt (h.set o x') σ b → liveAt h σ b:=by
     rintro b ⟨o',y,c',g1,g2,g3⟩
     obtain ⟨y0,p1,p2⟩:=live' o' y g1 g2
     exact ⟨o',y0,c',p1,p2,g3⟩
    have hgnf:∀ b,liveAt h σ b → b ∉ fc:=fun b hl hbf => (h5 b (hfcφ b hbf)).2 hl
    have ev:EvX C σ h w σ (h.set o x') w':=by
     refine ⟨?_,?_,?_,?_,q4.size⟩
     ·intro o' y hy hly
      rw [hget]
      by_cases he:o' = o
      ·subst he
       rw [ho] at hy
       cases hy
       refine .inr ⟨rfl,x',by simp,?_⟩
       rw [hx']
       exact ⟨rfl,by simp⟩
      ·rw [if_neg he]
       exact .inr ⟨rfl,y,hy,sameShape.refl hly⟩
     ·intro o' hd
      rw [hget,if_neg (fun he => by subst he; rw [ho] at hd; cases hd)]
      exact hd
     ·exact fun b _ hl => .inl (hlive b hl)
     ·intro b hlt' _ hm
      exact hsame b hlt' fun hbf => hm hmm (d2 b (hfcφ b hbf))
    refine ⟨upd φ o (A ++ fc' ++ B),?_,ev,?_⟩
    ·have hall:∀ b ∈ A ++ fc' ++ B,(b ∈ φ o ∧ (b ∈ A ++ B ∨ b ∈ fc)) ∨ w.heap.size ≤ b:=by
      intro b hb'
      rw [List.append_assoc,List.mem_append,List.mem_append] at hb'
      rcases hb' with hb' | hb' | hb'
      ·exact .inl ⟨hABφ b (by simp [hb']),.inl (by simp [hb'])⟩
      ·rcases hnew b hb' with h' | h'
       ·exact .inl ⟨hfcφ b h',.inr h'⟩
       ·exact .inr h'
      ·exact .inl ⟨hABφ b (by simp [hb']),.inl (by simp [hb'])⟩
     have hallm:∀ b ∈ A ++ fc' ++ B,C.mine b:=by
      intro b hb'
      rw [List.append_assoc,List.mem_append,List.mem_append] at hb'
      rcases hb' with hb' | hb' | hb'
      ·exact d2 b (hABφ b (by simp [hb']))
      ·exact hmC b (r3 b hb')
      ·exact d2 b (hABφ b (by simp [hb']))
     refine ⟨?_,?_,?_,?_⟩
     ·intro o' y hy
      rw [hget] at hy
      split at hy
      ·rename_i he
       subst he
       cases hy
       rw [hx']
       refine ⟨hz0,?_⟩
       rw [hs]
       have:upd φ o' (A ++ fc' ++ B) o' = A ++ fc' ++ B:=by simp [upd]
       simp only [this]
       refine ⟨hcm,cur,e,?_,h3,by rw [hdm]; exact hrep,?_⟩
       ·rw [hsame g (lt_of_heap h2) (hgnf g ⟨o',_,c,ho,rfl,hs⟩)]; exact h2
       ·intro b hb'
        refine ⟨hok b (hallm b hb'),fun hl => ?_⟩
        rw [← hx'] at hl
        have hl:=hlive b hl
        rcases hall b hb' with ⟨h',_⟩ | h'
        ·exact (h5 b h').2 hl
        ·have:=hr.liveLt hl; omega
      ·rename_i hne
       have hold:=hr.obj o' y hy
       have same:∀ g' c',σ o' = some (g',c') → y.isLive = true → w'.heap[g']? = w.heap[g']?:=fun g' c' hs' hly =>
        hsame g' (hr.lt hy hly hs') (hgnf g' ⟨o',y,c',hy,hly,hs'⟩)
       cases y with
       | dead => trivial
       | box sz x =>
        obtain ⟨g',cur',e',j1,j2,j3,j4⟩:=hold
        exact ⟨g',cur',e',j1,by rw [same g' 1 j1 rfl]; exact j2,j3,ev.rvs _ _ j4⟩
       | map m3 =>
        obtain ⟨g',cur',e',j1,j2,j3,j4⟩:=hold
        exact ⟨g',cur',e',j1,by rw [same g' 1 j1 rfl]; exact j2,j3,ev.rvs _ _ j4⟩
       | row sz l3 =>
        obtain ⟨j0,hold⟩:=hold
        refine ⟨j0,?_⟩
        have hφ:upd φ o (A ++ fc' ++ B) o' = φ o':=by simp [upd,hne]
        rw [hφ]
        cases hs':σ o' with
        | none => rw [hs'] at hold; exact hold
        | some p' =>
         obtain ⟨g',c'⟩:=p'
         rw [hs'] at hold
         obtain ⟨j1,cur',e',j2,j3,j4,j5⟩:=hold
         refine ⟨j1,cur',e',by rw [same g' c' hs' rfl]; exact j2,j3,?_,fun b hb' => ⟨(j5 b hb').1,fun hl => (j5 b hb').2 (hlive b hl)⟩⟩
         exact a0n.world _ _ _ (fun b hb' => hsame b (a0n.lt _ _ _ j4 b hb') fun hbf => d3 o' _ hy rfl hne b (hfcφ b hbf) hb') j4
       | rowx sz l3 i3 el3 =>
        have hφ:upd φ o (A ++ fc' ++ B) o' = φ o':=by simp [upd,hne]
        obtain ⟨hz',hmm',hi',g',c',cur',e',p1,p2,j1,j2,j3,j4,j5,j6,j7,j7',j8,j9⟩:=hold
        have hwb:∀ b ∈ φ o',w'.heap[b]? = w.heap[b]?:=fun b hb' => hsame b (hr.phiLtx hy rfl hb') fun hbf => d3 o' _ hy rfl hne b (hfcφ b hbf) hb'
        exact ⟨hz',hmm',hi',g',c',cur',e',p1,p2,j1,j2,by rw [same g' c' j1 rfl]; exact j3,j4,a0n.world _ _ _ (fun b hb' => hwb b (by rw [j8]; simp [hb'])) j5,ev.rvs _ _ j6,
         a0n.world _ _ _ (fun b hb' => hwb b (by rw [j8]; simp [hb'])) j7,j7',by rw [hφ]; exact j8,fun b hb' => by rw [hφ] at hb'; exact ⟨(j9 b hb').1,fun hl => (j9 b hb').2 (hlive b hl)⟩⟩
     ·intro o1 o2 y1 y2 b c1 c2 g1 l1 g2 l2 s1 s2
      obtain ⟨z1,p1,p2⟩:=live' o1 y1 g1 l1
      obtain ⟨z2,p3,p4⟩:=live' o2 y2 g2 l2
      exact hr.inj o1 o2 z1 z2 b c1 c2 p1 p2 p3 p4 s1 s2
     ·intro o1 y1 b c1 g1 l1 s1
      obtain ⟨z1,p1,p2⟩:=live' o1 y1 g1 l1
      exact hr.base o1 z1 b c1 p1 p2 s1
     ·intro _ o1 y1 g1 r1
      rw [hget] at g1
      split at g1
      ·rename_i he
       subst he
       have:upd φ o1 (A ++ fc' ++ B) o1 = A ++ fc' ++ B:=by simp [upd]
       rw [this]
       refine ⟨?_,hallm,?_⟩
       ·have hfA:∀ b ∈ fc',b ∉ A ++ B:=by
         intro b hb' hb2
         rcases hnew b hb' with h' | h'
         ·exact hAB b hb2 h'
         ·have:=hplt b (hABφ b hb2); omega
        rw [List.nodup_append,List.nodup_append]
        refine ⟨⟨hnd3.1,r2,?_⟩,hnd2.2.1,?_⟩
        ·intro a ha b hb' hab
         subst hab
         exact hfA a hb' (by simp [ha])
        ·intro a ha b hb' hab
         subst hab
         rcases List.mem_append.1 ha with ha | ha
         ·exact hnd2.2.2 a (by simp [ha]) a hb' rfl
         ·exact hfA a ha (by simp [hb'])
       ·intro o2 y2 g2 r2' hne b hb'
        rw [hget,if_neg hne] at g2
        have:upd φ o1 (A ++ fc' ++ B) o2 = φ o2:=by simp [upd,hne]
        rw [this]
        intro hb2
        rcases hall b hb' with ⟨h',_⟩ | h'
        ·exact d3 o2 y2 g2 r2' hne b h' hb2
        ·have:=hr.phiLtx g2 r2' hb2; omega
      ·rename_i hne
       obtain ⟨e1,e2,e3⟩:=hr.deepx hdm o1 y1 g1 r1
       have:upd φ o (A ++ fc' ++ B) o1 = φ o1:=by simp [upd,hne]
       rw [this]
       refine ⟨e1,e2,?_⟩
       intro o2 y2 g2 r2' hne2 b hb'
       rw [hget] at g2
       split at g2
       ·rename_i he
        subst he
        have:upd φ o2 (A ++ fc' ++ B) o2 = A ++ fc' ++ B:=by simp [upd]
        rw [this]
        intro hb2
        rcases hall b hb2 with ⟨h',_⟩ | h'
        ·exact e3 o2 _ ho rfl hne2 b hb' h'
        ·have:=hr.phiLtx g1 r1 hb'; omega
       ·rename_i hne3
        have:upd φ o (A ++ fc' ++ B) o2 = φ o2:=by simp [upd,hne3]
        rw [this]
        exact e3 o2 y2 g2 r2' hne2 b hb'
    ·exact q4
   | panicked _ => exact he
   | outgrown => exact he
end
end Go.R
