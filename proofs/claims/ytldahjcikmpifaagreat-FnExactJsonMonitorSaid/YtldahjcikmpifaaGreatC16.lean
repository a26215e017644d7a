import Derived.Test.YtldahjcikmpifaaGreatC15M
set_option linter.all false
namespace Go.R
open Go Go.RowKit
section calls
variable {P:Program} {C:Ctx} {σ:Sg} {φ:Nat → List Nat} {h:List y9} {w w':World} {t:Nat → AV} {ρ:Operand → Value}
theorem Below.grows {w w':World} (hb:Below w.heap.size w w'):b2p w w':=⟨hb.size,fun b h => hb.block b h⟩
theorem Below.lower {B B':Nat} {w w':World} (hb:Below B w w') (h:B' ≤ B):Below B' w w':=⟨hb.os,hb.tape,hb.output,hb.size,fun k hk => hb.block k (by omega)⟩
theorem d5j (hr:a0b C σ φ h w) (hok:∀ b,C.mine b → C.ok b) (hb:∀ b,w.heap.size ≤ b → C.mine b) (hbel:Below w.heap.size w w') {r:AV} {cs:List Value} {fp:List Nat} (hrep:Rep true w' r cs fp) (hn:fp.Nodup) (hge:∀ b ∈ fp,w.heap.size ≤ b) :
  ∃ σ' φ',a0b C σ' φ' (h ++ (a2r h.length r).2) w' ∧ Ev σ h w σ' (h ++ (a2r h.length r).2) w' ∧ RV C σ' (h ++ (a2r h.length r).2) w' (a2r h.length r).1 (mkV r cs):=by
 obtain ⟨s,p,hf,hrv⟩:=c6b (C:=C) (B:=0) h.length r cs fp hrep
 obtain ⟨xs,hxs⟩:∃ xs,xs = (a2r h.length r).2:=⟨_,rfl⟩
 rw [← hxs] at hf hrv ⊢
 have hσ0:∀ o,o < h.length → (fun o => if o < h.length then σ o else (s[o - h.length]?).getD none) o = σ o:=fun o ho => by simp [ho]
 have hσ1:∀ j,(fun o => if o < h.length then σ o else (s[o - h.length]?).getD none) (h.length + j) = (s[j]?).getD none:=fun j => by simp only; rw [if_neg (by omega)]; simp
 have hφ0:∀ o,o < h.length → (fun o => if o < h.length then φ o else (p[o - h.length]?).getD []) o = φ o:=fun o ho => by simp [ho]
 have hφ1:∀ j,(fun o => if o < h.length then φ o else (p[o - h.length]?).getD []) (h.length + j) = (p[j]?).getD []:=fun j => by simp only; rw [if_neg (by omega)]; simp
 obtain ⟨σ',hσ'⟩:∃ σ':Sg,σ' = fun o => if o < h.length then σ o else (s[o - h.length]?).getD none:=⟨_,rfl⟩
 obtain ⟨φ',hφ'⟩:∃ φ':Nat → List Nat,φ' = fun o => if o < h.length then φ o else (p[o - h.length]?).getD []:=⟨_,rfl⟩
 rw [← hσ'] at hσ0 hσ1
 rw [← hφ'] at hφ0 hφ1
 have hsome:∀ j g c,σ' (h.length + j) = some (g,c) → s[j]? = some (some (g,c)):=by
  intro j g c hs
  rw [hσ1] at hs
  cases he:s[j]? with
  | none => rw [he] at hs; cases hs
  | some o => rw [he] at hs; simp only [Option.getD_some] at hs; rw [hs]
 have key:=a0b.puts (σ':=σ') (φ':=φ') (w':=w') (ks:=[]) (xs:=xs) hr (fun o ho => ⟨hσ0 o ho,hφ0 o ho⟩) hbel.size
  (by
   intro j x hj g c hs
   have:=hge g (hf.sub j g c (hsome j g c hs))
   exact ⟨hb g this,.inl this⟩)
  (fun b hb' _ => hbel.block b hb')
  (by
   intro ev j x hj
   obtain ⟨z,l,rfl,hz,q,hq,hsub,hm⟩:=hf.row j x hj
   refine ⟨hz,?_⟩
   rw [hσ1,hφ1,hq]
   have hjs:j < s.length:=by rw [hf.ls]; exact (List.getElem?_eq_some_iff.1 hj).1
   cases he:s[j]? with
   | none => rw [he] at hm; exact hm.elim
   | some o =>
    rw [he] at hm
    cases o with
    | none => exact hm
    | some gc =>
     obtain ⟨g,c⟩:=gc
     obtain ⟨h1,h2,cur,e,h3,h4,h5⟩:=hm
     refine ⟨h2,cur,e,h3,h4,?_,?_⟩
     ·cases hdm:C.dm with
      | true => exact h5
      | false => exact a0n.weak _ _ _ h5
     ·intro b hbq
      have hbf:=hsub.subset hbq
      have hbge:=hge b hbf
      refine ⟨hok b (hb b hbge),?_⟩
      rintro ⟨o',x',c',e1,e2,e3⟩
      rcases a7i e1 e2 with ⟨hl,g1,_⟩ | ⟨hge',g1⟩
      ·rw [hσ0 o' hl] at e3
       have:=hr.lt g1 e2 e3
       omega
      ·have:o' = h.length + (o' - h.length):=by omega
       rw [this] at e3
       exact hf.out hn (o' - h.length) j b c' q (hsome _ _ _ e3) hq hbq)
  (by
   intro j j' g c c' hj hj' h1 h2
   exact hf.inj hn j j' g c g c' (hsome _ _ _ h1) (hsome _ _ _ h2) rfl)
  (by
   intro hdm j y hj _
   obtain ⟨z,l',hx,hz,q,hq,hsub,hm⟩:=hf.row j _ hj
   rw [hφ1,hq]
   refine ⟨hn.sublist hsub,fun b hb' => hb b (hge b (hsub.subset hb')),?_,?_⟩
   ·intro j' y' hj' _ hne b hb'
    obtain ⟨_,_,_,_,q',hq',_,_⟩:=hf.row j' _ hj'
    rw [hφ1,hq']
    exact hf.dis hn j j' q q' hq hq' (Ne.symm hne) b hb'
   ·intro o y' ho hy' _ b hb' hbo
    have h1:=hge b (hsub.subset hb')
    have:=hr.phiLtx ho hy' hbo
    omega)
 simp only [kill] at key
 refine ⟨σ',φ',key.1,key.2,hrv σ' _ hn ?_ ?_⟩
 ·intro j x hj
  rw [hσ1,hj]; rfl
 ·intro j x hj
  rw [List.getElem?_append_right (by omega)]
  simpa using hj
mutual
theorem RV.ctx {C':Ctx} (hok:∀ b,C.imm b → C'.imm b):∀ (a:AV) (v:Value),RV C σ h w a v → RV C' σ h w a v
 | .undef,_,_ => by simp only [RV]
 | .skip,_,hr => by simpa only [RV] using hr
 | .hdr _ _ _,_,hr => by simpa only [RV] using hr
 | .int _ _,_,hr => by simpa only [RV] using hr
 | .bool _,_,hr => by simpa only [RV] using hr
 | .str _,_,hr => by simpa only [RV] using hr
 | .nil,_,hr => by simpa only [RV] using hr
 | .lst z l,v,hr => by
  simp only [RV] at hr ⊢
  obtain ⟨fp,h1,h2⟩:=hr
  exact ⟨fp,h1,fun b hb => ⟨hok b (h2 b hb).1,(h2 b hb).2⟩⟩
 | .iptr l f,v,hr => by
  simp only [RV] at hr ⊢
  obtain ⟨fp,h1,h2⟩:=hr
  exact ⟨fp,h1,fun b hb => ⟨hok b (h2 b hb).1,(h2 b hb).2⟩⟩
 | .own o lo n,v,hr => by simpa only [RV] using hr
 | .ptr o i f,v,hr => by simpa only [RV] using hr
 | .agg as,v,hr => by
  simp only [RV] at hr ⊢
  obtain ⟨vs,e,h1⟩:=hr
  exact ⟨vs,e,RVs.ctx hok as _ h1⟩
 | .tup as,v,hr => by
  simp only [RV] at hr ⊢
  obtain ⟨vs,e,h1⟩:=hr
  exact ⟨vs,e,RVs.ctx hok as _ h1⟩
 | .fn f caps,v,hr => by
  simp only [RV] at hr ⊢
  obtain ⟨vs,e,h1⟩:=hr
  exact ⟨vs,e,RVs.ctx hok caps _ h1⟩
theorem RVs.ctx {C':Ctx} (hok:∀ b,C.imm b → C'.imm b):∀ (as:List AV) (vs:List Value),RVs C σ h w as vs → RVs C' σ h w as vs
 | [],_,hr => by simpa only [RVs] using hr
 | a :: as,vs,hr => by
  simp only [RVs] at hr ⊢
  obtain ⟨v,vs',e,h1,h2⟩:=hr
  exact ⟨v,vs',e,RV.ctx hok a v h1,RVs.ctx hok as vs' h2⟩
end
theorem a0b.weak (hm:C.mm = false) (hr:a0b C σ φ h w):a0b { C with dm:=false } σ φ h w where
 obj o x ho:=by
  have:=hr.obj o x ho
  cases x with
  | dead => trivial
  | box sz v =>
   obtain ⟨g,cur,e,h1,h2,h3,h4⟩:=this
   exact ⟨g,cur,e,h1,h2,h3,RVs.ctx (C:=C) (C':={ C with dm:=false }) (fun _ h => h) _ _ h4⟩
  | map m =>
   obtain ⟨g,cur,e,h1,h2,h3,h4⟩:=this
   exact ⟨g,cur,e,h1,h2,h3,RVs.ctx (C:=C) (C':={ C with dm:=false }) (fun _ h => h) _ _ h4⟩
  | row sz l =>
   obtain ⟨h0,this⟩:=this
   refine ⟨h0,?_⟩
   cases hs:σ o with
   | none => rw [hs] at this; exact this
   | some p =>
    rw [hs] at this
    obtain ⟨h1,cur,e,h2,h3,h4,h5⟩:=this
    exact ⟨h1,cur,e,h2,h3,a0n.weak _ _ _ h4,h5⟩
  | rowx sz l i el =>
   obtain ⟨hz,hmm,_⟩:=this
   rw [hm] at hmm
   cases hmm.1
 inj:=hr.inj
 base:=hr.base
 deepx:=by simp
theorem a1n.repVs (hr:a0b C σ φ h w) (hok:∀ b,C.mine b → C.ok b):∀ (as as':List AV) (ks:List Nat) (vs:List Value),a1n C.dm h as = some (as',ks) → RVs C σ h w as vs →
  ∃ fp,a1q C.dm w as' vs fp ∧ Taken C σ φ h ks fp
 | [],as',ks,vs,hc,hv => by
  simp only [a1n] at hc; cases hc; simp only [RVs] at hv
  exact ⟨[],by simp [a1q,hv],Taken.nil⟩
 | a :: as,as',ks,vs,hc,hv => by
  simp only [a1n] at hc
  cases h1:a2w C.dm h a with
  | none => simp [h1] at hc
  | some p =>
   obtain ⟨b,k1⟩:=p
   cases h2:a1n C.dm h as with
   | none => simp [h1,h2] at hc
   | some q =>
    obtain ⟨bs,k2⟩:=q
    simp only [h1,h2,Option.some.injEq,Prod.mk.injEq] at hc
    obtain ⟨rfl,rfl⟩:=hc
    simp only [RVs] at hv
    obtain ⟨v,vs',rfl,g1,g2⟩:=hv
    obtain ⟨f1,⟨cs,rfl,r1⟩,t1⟩:=a2w.rep hr hok a b k1 v h1 g1
    obtain ⟨f2,r2,t2⟩:=a1n.repVs hr hok as bs k2 vs' h2 g2
    refine ⟨f1 ++ f2,?_,t1.append hr t2⟩
    simp only [a1q]
    exact ⟨cs,vs',f1,f2,rfl,r1,r2,rfl⟩
theorem b3o (hm:C.mm = false) (hr:a0b C σ φ h w) (hok:∀ b,C.mine b → C.ok b) {as as':List AV} {ks:List Nat} {vs:List Value} (hc:a1n false h as = some (as',ks)) (hv:RVs C σ h w as vs) :
  ∃ fp,a1q false w as' vs fp ∧ (∀ b ∈ fp,C.ok b) ∧ ∀ b ∈ fp,liveAt h σ b → ∃ k ∈ ks,a7x σ φ h k b:=by
 obtain ⟨fp,h1,h3⟩:=a1n.repVs (C:={ C with dm:=false }) (hr.weak hm) hok as as' ks vs hc (RVs.ctx (C:=C) (C':={ C with dm:=false }) (fun _ h => h) _ _ hv)
 exact ⟨fp,h1,h3.ok,h3.live⟩
theorem b4x.rep (hr:a0b C σ φ h w) (hok:∀ b,C.mine b → C.ok b) {cl:AV → Option AV} (hcl:∀ a a' v,cl a = some a' → RV C σ h w a v → ∃ fp,b2o false w a' v fp ∧ ∀ b ∈ fp,C.ok b) (hcell:∀ a a',cl a = some a' → a'.isCell = a.isCell ∧ (∀ as,a = .agg as → ∃ bs,a' = .agg bs)) :
  ∀ o i f a v,b4x h cl o i f = some a → RV C σ h w (.ptr o i f) v → ∃ fp,b2o false w a v fp ∧ ∀ b ∈ fp,C.ok b:=by
 intro o i f a v hc hv
 unfold b4x at hc
 simp only [RV] at hv
 split at hc
 ·rename_i sz x ho
  rw [ho] at hv
  obtain ⟨hi,g,c,hs,rfl⟩:=hv
  obtain ⟨g',cur,e,h1,h2,h3,h4⟩:=hr.obj o _ ho
  rw [h1] at hs
  cases hs
  split at hc
  ·rename_i hel
   rw [Option.map_eq_some_iff] at hc
   obtain ⟨x',hx',rfl⟩:=hc
   have hg:C.ok g:=hok _ (hr.base o _ _ 1 ho rfl h1)
   have fin:∀ fp,Rep false w x' cur.toList fp → (∀ b ∈ fp,C.ok b) → ∃ fp,b2o false w (.iptr x' f) (.pointer (some ⟨g,f,none⟩)) fp ∧ ∀ b ∈ fp,C.ok b:=by
    intro fp q1 q2
    refine ⟨g :: fp,⟨[.pointer (some ⟨g,f,none⟩)],rfl,?_⟩,?_⟩
    ·simp only [Rep]
     refine ⟨g,0,cur.size,cur,e,(0,0),fp,by simp,h2,rfl,?_,?_⟩
     ·simp
     ·simpa [List.take_of_length_le] using q1
    ·intro b hb
     rcases List.mem_cons.1 hb with rfl | hb
     ·exact hg
     ·exact q2 b hb
   by_cases hagg:∃ as,x = .agg as
   ·obtain ⟨as,rfl⟩:=hagg
    obtain ⟨bs,rfl⟩:=(hcell _ _ hx').2 as rfl
    obtain ⟨fp,⟨cs,q0,q1⟩,q2⟩:=hcl _ _ (.agg cur) hx' (by simp only [RV]; exact ⟨cur,rfl,h4⟩)
    simp only [mkV,Value.agg.injEq] at q0
    subst q0
    exact fin fp (by simpa using q1) q2
   ·have hcells:x.cells = [x]:=by cases x <;> first | rfl | exact absurd ⟨_,rfl⟩ hagg
    have hcl1:x.isCell = true:=by cases x <;> first | rfl | exact absurd ⟨_,rfl⟩ hagg | (simp [AV.isElem] at hel)
    rw [hcells] at h4
    simp only [RVs] at h4
    obtain ⟨v0,vs',e0,k1,rfl⟩:=h4
    obtain ⟨fp,⟨cs,q0,q1⟩,q2⟩:=hcl _ _ v0 hx' k1
    obtain ⟨c0,rfl,e1⟩:=q1.cell (by rw [(hcell _ _ hx').1]; exact hcl1)
    rw [e1] at q0
    subst q0
    refine fin fp ?_ q2
    rw [e0]; exact q1
  ·cases hc
 ·rename_i sz l ho
  rw [ho] at hv
  obtain ⟨hi,g,c,hs,rfl⟩:=hv
  obtain ⟨hsz,hob⟩:=hr.obj o _ ho
  rw [hs] at hob
  obtain ⟨h1,cur,e,h2,h3,h4,h5⟩:=hob
  rw [Option.map_eq_some_iff] at hc
  obtain ⟨x,hx,rfl⟩:=hc
  obtain ⟨f1,q1,q2,q3⟩:=h4.get hx
  have q1:=Rep.weak' C.dm q1
  refine ⟨g :: f1,⟨[.pointer (some ⟨g,i * sz + f,none⟩)],rfl,?_⟩,?_⟩
  ·simp only [Rep]
   exact ⟨g,i * sz,sz,cur,e,(0,0),f1,rfl,h2,rfl,q3,q1⟩
  ·intro b hb
   rcases List.mem_cons.1 hb with rfl | hb
   ·exact hok _ (hr.base o _ _ c ho rfl hs)
   ·exact (h5 b (q2 b hb)).1
 ·cases hc
theorem c4b {p:Nat → Nat → Nat → Option AV} (hp:∀ o i f a,p o i f = some a → ∃ e g,a = .iptr e g):∀ a a',a4b h p a = some a' → a'.isCell = a.isCell ∧ (∀ as,a = .agg as → ∃ bs,a' = .agg bs):=by
 intro a a' hc
 cases a with
 | own o lo n =>
  simp only [a4b] at hc
  split at hc
  ·cases hc; exact ⟨rfl,by intro _ h; cases h⟩
  ·cases hc
 | ptr o i f => obtain ⟨e,g,rfl⟩:=hp o i f a' hc; exact ⟨rfl,by intro _ h; cases h⟩
 | agg as => simp only [a4b,Option.map_eq_some_iff] at hc; obtain ⟨bs,_,rfl⟩:=hc; exact ⟨rfl,fun _ _ => ⟨bs,rfl⟩⟩
 | tup as => simp only [a4b,Option.map_eq_some_iff] at hc; obtain ⟨bs,_,rfl⟩:=hc; exact ⟨rfl,by intro _ h; cases h⟩
 | fn f as => simp only [a4b,Option.map_eq_some_iff] at hc; obtain ⟨bs,_,rfl⟩:=hc; exact ⟨rfl,by intro _ h; cases h⟩
 | undef => cases hc
 | skip => cases hc
 | hdr _ _ _ => cases hc
 | _ => simp only [a4b] at hc; cases hc; exact ⟨rfl,by intro _ h; cases h⟩
theorem d2y {cl:AV → Option AV}:∀ o i f a,b4x h cl o i f = some a → ∃ e g,a = .iptr e g:=by
 intro o i f a hc
 unfold b4x at hc
 split at hc
 ·split at hc
  ·rw [Option.map_eq_some_iff] at hc; obtain ⟨x,_,rfl⟩:=hc; exact ⟨_,_,rfl⟩
  ·cases hc
 ·rw [Option.map_eq_some_iff] at hc; obtain ⟨x,_,rfl⟩:=hc; exact ⟨_,_,rfl⟩
 ·cases hc
theorem closes.rep (hr:a0b C σ φ h w) (hok:∀ b,C.mine b → C.ok b):∀ (as as':List AV) (vs:List Value),closes h as = some as' → RVs C σ h w as vs → ∃ fp,a1q false w as' vs fp ∧ ∀ b ∈ fp,C.ok b:=by
 have h0:∀ a a' v,d9o h a = some a' → RV C σ h w a v → ∃ fp,b2o false w a' v fp ∧ ∀ b ∈ fp,C.ok b:=fun a a' v => a4b.rep hr hok (by intro o i f a v hn; cases hn) a a' v
 have h1:∀ a a' v,d5b h a = some a' → RV C σ h w a v → ∃ fp,b2o false w a' v fp ∧ ∀ b ∈ fp,C.ok b:=fun a a' v =>
  a4b.rep hr hok (b4x.rep hr hok h0 (c4b (by intro o i f a hn; cases hn))) a a' v
 exact fun as as' vs => a4j.rep hr hok (b4x.rep hr hok h1 (c4b d2y)) as as' vs
def b9w (h:List y9):List Bool → List AV → Option (List AV × List Nat)
 | _,[] => some ([],[])
 | [],a :: as => some (a :: as,[])
 | true :: fl,a :: as => match a2w false h a,b9w h fl as with
  | some (b,k1),some (bs,k2) => some (b :: bs,k1 ++ k2)
  | _,_ => none
 | false :: fl,a :: as => match b9w h fl as with
  | some (bs,k2) => some (a :: bs,k2)
  | none => none
theorem d2z (h:List y9) (as:List AV):b9w h [] as = some (as,[]):=by cases as <;> rfl
theorem c6h (hr:a0b C σ φ h w) (ks:List Nat):a0b C σ φ (kill h ks) w ∧ Ev σ h w σ (kill h ks) w:=by
 have key:=a0b.puts (σ':=σ) (φ':=φ) (w':=w) (ks:=ks) (xs:=[]) hr (fun o ho => ⟨rfl,rfl⟩) (Nat.le_refl _) (by simp) (fun b hb' _ => rfl) (by simp) (by simp) (by simp)
 simpa using key
theorem d5k (hmf:C.mm = false) (hr:a0b C σ φ h w) (hok:∀ b,C.mine b → C.ok b) {a a':AV} {ks ks':List Nat} {v:Value} (hc:a2w false h a = some (a',ks)) (hv:RV C σ h w a v) (hk:∀ k ∈ ks,k ∈ ks'):RV C σ (kill h ks') w a' v:=by
 have hab:a1n false h [a] = some ([a'],ks):=by simp only [a1n,hc,List.append_nil]
 obtain ⟨fp,r1,r2,r3⟩:=b3o hmf hr hok hab (vs:=[v]) (by simp only [RVs]; exact ⟨v,[],rfl,hv,rfl⟩)
 simp only [a1q] at r1
 obtain ⟨cs,vs',f1,f2,e,k1,⟨e1,e2⟩,e3⟩:=r1
 subst e1 e2
 simp only [List.append_nil] at e3
 subst e3
 cases e
 refine Rep.rv _ _ _ k1 fun b hb => ⟨⟨r2 b hb,fun hm => by rw [hmf] at hm; cases hm⟩,?_⟩
 rintro ⟨o',x',c',e1,e2,e3⟩
 obtain ⟨m1,m2⟩:=a7g e1 e2
 obtain ⟨k,q1,q2⟩:=r3 b hb ⟨o',x',c',m1,e2,e3⟩
 rcases q2 with ⟨x,c,y1,y2,y3⟩ | ⟨y1,x',y2,y3⟩
 ·have:=hr.inj _ _ _ _ _ _ _ m1 e2 y1 y2 e3 y3
  subst this
  exact m2 (hk _ q1)
 ·exact (hr.phix y2 y3 y1).2 ⟨o',_,c',m1,e2,e3⟩
theorem c6i (hmf:C.mm = false) (hr:a0b C σ φ h w) (hok:∀ b,C.mine b → C.ok b) {ks':List Nat}:∀ (fl:List Bool) (as bs:List AV) (ks:List Nat) (vs:List Value),b9w h fl as = some (bs,ks) → (∀ k ∈ ks,k ∈ ks') → RVs C σ h w as vs → RVs C σ (kill h ks') w bs vs
 | fl,[],bs,ks,vs,hc,hk,hv => by
  simp only [b9w] at hc; cases hc; simpa only [RVs] using hv
 | [],a :: as,bs,ks,vs,hc,hk,hv => by
  simp only [b9w] at hc; cases hc
  exact (c6h hr ks').2.rvs _ _ hv
 | true :: fl,a :: as,bs,ks,vs,hc,hk,hv => by
  simp only [b9w] at hc
  split at hc
  ·rename_i b k1 bs' k2 e1 e2
   cases hc
   simp only [RVs] at hv ⊢
   obtain ⟨v,vs',rfl,g1,g2⟩:=hv
   exact ⟨v,vs',rfl,d5k hmf hr hok e1 g1 (fun k hk' => hk k (by simp [hk'])),c6i hmf hr hok fl as _ _ _ e2 (fun k hk' => hk k (by simp [hk'])) g2⟩
  ·cases hc
 | false :: fl,a :: as,bs,ks,vs,hc,hk,hv => by
  simp only [b9w] at hc
  split at hc
  ·rename_i bs' k2 e2
   cases hc
   simp only [RVs] at hv ⊢
   obtain ⟨v,vs',rfl,g1,g2⟩:=hv
   exact ⟨v,vs',rfl,(c6h hr ks').2.rv _ _ g1,c6i hmf hr hok fl as _ _ _ e2 hk g2⟩
  ·cases hc
def a2h (P:Program) (dm:Md) (f:Nat) (as:List AV) (h:List y9) (k:AV → List y9 → Prop):Prop :=
 (∃ bs bs' r,closes h as = some bs ∧ LeL bs bs' ∧ a0a P f .flat bs' r ∧ k r h) ∨
 (∃ bs bs' r,closes h as = some bs ∧ LeL bs bs' ∧ a0a P f .fresh bs' r ∧ k (a2r h.length r).1 (h ++ (a2r h.length r).2)) ∨
 (dm.m = false ∧ ∃ bs bs' ks r,a1n false h as = some (bs,ks) ∧ LeL bs bs' ∧ a0a P f .weak bs' r ∧ k r (kill h ks)) ∨
 (∃ fl cs ks js args hi r hout,(dm.m = true → fl = []) ∧ b9w h fl as = some (cs,ks) ∧ js.Nodup ∧ (∀ j ∈ js,j < h.length) ∧ LeL (a7m (a8n js) cs) args ∧ LeH (b3e (kill h ks) js) hi ∧ a0z P dm.nz f args hi r hout ∧ (b8j hi hout → k (ren (a7y h.length js) r) (b2r (kill h ks) js hout))) ∨
 (dm.m = false ∧ ∃ bs bs' r,closes h as = some bs ∧ LeL bs bs' ∧ a0a P f .fresh bs' r ∧ k r h) ∨
 (dm.m = true ∧ dm.d = true ∧ ∃ o i j z z' l l' l'' el v n n',as = [.hdr v z' l',.int .i64 n] ∧ h[o]? = some (.row z l) ∧ l[i]? = some el ∧ el.cells[j]? = some (.hdr v z' l') ∧ 0 < z' ∧
  a0z P ⟨true,true,false⟩ f [.own 0 0 l'.length,.int .i64 n] [.row z' l'] (.int .i64 n') [.row z' l''] ∧ k (.int .i64 n') (h.set o (.row z (l.set i (b3i el j (.lst z' l''))))))
theorem a2h.flat {dm:Md} {f:Nat} {as bs bs':List AV} {r:AV} {k:AV → List y9 → Prop} (hc:a0a P f .flat bs' r) (hb:closes h as = some bs) (hl:LeL bs bs') (hk:k r h):a2h P dm f as h k :=
 .inl ⟨bs,bs',r,hb,hl,hc,hk⟩
theorem a2h.fresh {dm:Md} {f:Nat} {as bs bs':List AV} {r:AV} {k:AV → List y9 → Prop} (hc:a0a P f .fresh bs' r) (hb:closes h as = some bs) (hl:LeL bs bs') (hk:k (a2r h.length r).1 (h ++ (a2r h.length r).2)):a2h P dm f as h k :=
 .inr (.inl ⟨bs,bs',r,hb,hl,hc,hk⟩)
theorem a2h.weak {dm:Md} (hm:dm.m = false) {f:Nat} {as bs bs':List AV} {ks:List Nat} {r:AV} {k:AV → List y9 → Prop} (hc:a0a P f .weak bs' r) (hb:a1n false h as = some (bs,ks)) (hl:LeL bs bs') (hk:k r (kill h ks)):a2h P dm f as h k :=
 .inr (.inr (.inl ⟨hm,bs,bs',ks,r,hb,hl,hc,hk⟩))
theorem a2h.heap {dm:Md} {f:Nat} {as args:List AV} {hi hout:List y9} {r:AV} {k:AV → List y9 → Prop} (js:List Nat) (hc:a0z P dm.nz f args hi r hout) (hn:js.Nodup) (hin:∀ j ∈ js,j < h.length) (hl:LeL (a7m (a8n js) as) args) (hh:LeH (b3e h js) hi)
  (hk:k (ren (a7y h.length js) r) (b2r h js hout)):a2h P dm f as h k :=
 .inr (.inr (.inr (.inl ⟨[],as,[],js,args,hi,r,hout,fun _ => rfl,d2z _ _,hn,hin,hl,hh,hc,fun _ => hk⟩)))
theorem a2h.heapf {dm:Md} {f:Nat} {as cs args:List AV} {hi hout:List y9} {r:AV} {k:AV → List y9 → Prop} (fl:List Bool) (ks js:List Nat) (hm:dm.m = true → fl = []) (hf:b9w h fl as = some (cs,ks)) (hc:a0z P dm.nz f args hi r hout) (hn:js.Nodup) (hin:∀ j ∈ js,j < h.length) (hl:LeL (a7m (a8n js) cs) args) (hh:LeH (b3e (kill h ks) js) hi)
  (hk:k (ren (a7y h.length js) r) (b2r (kill h ks) js hout)):a2h P dm f as h k :=
 .inr (.inr (.inr (.inl ⟨fl,cs,ks,js,args,hi,r,hout,hm,hf,hn,hin,hl,hh,hc,fun _ => hk⟩)))
theorem a2h.heapfs {dm:Md} {f:Nat} {as cs args:List AV} {hi hout:List y9} {r:AV} {k:AV → List y9 → Prop} (fl:List Bool) (ks js:List Nat) (hm:dm.m = true → fl = []) (hf:b9w h fl as = some (cs,ks)) (hc:a0z P dm.nz f args hi r hout) (hn:js.Nodup) (hin:∀ j ∈ js,j < h.length) (hl:LeL (a7m (a8n js) cs) args) (hh:LeH (b3e (kill h ks) js) hi)
  (hk:b8j hi hout → k (ren (a7y h.length js) r) (b2r (kill h ks) js hout)):a2h P dm f as h k :=
 .inr (.inr (.inr (.inl ⟨fl,cs,ks,js,args,hi,r,hout,hm,hf,hn,hin,hl,hh,hc,hk⟩)))
theorem a2h.freshc {dm:Md} (hm:dm.m = false) {f:Nat} {as bs bs':List AV} {r:AV} {k:AV → List y9 → Prop} (hc:a0a P f .fresh bs' r) (hb:closes h as = some bs) (hl:LeL bs bs') (hk:k r h):a2h P dm f as h k :=
 .inr (.inr (.inr (.inr (.inl ⟨hm,bs,bs',r,hb,hl,hc,hk⟩))))
theorem a2h.sound (hmd:C.mm = true → C.dm = true) (hr:a0b C σ φ h w) (hok:∀ b,C.mine b → C.ok b) (hb:∀ b,w.heap.size ≤ b → C.mine b) {f:Nat} {as:List AV} {vs:List Value} (hv:RVs C σ h w as vs) {k:AV → List y9 → Prop} (hs:a2h P C.md f as h k) :
  Calls P f vs.toArray w fun e w' => match e with
   | .returned v => ∃ r h' σ' φ',a0b C σ' φ' h' w' ∧ EvX C σ h w σ' h' w' ∧ RV C σ' h' w' r v ∧ Below C.base w w' ∧ k r h'
   | _ => False:=by
 rcases hs with ⟨bs,bs',r,h1,hl,h2,h3⟩ | ⟨bs,bs',r,h1,hl,h2,h3⟩ | ⟨hmf,bs,bs',ks,r,h1,hl,h2,h3⟩ | ⟨fl,cs,ks,js,args,hi,r,hout,hfm,hf,hn,hin,hl,hh,hc,h3⟩ | ⟨hmf,bs,bs',r,h1,hl,h2,h3⟩ | ⟨hmm,hdd,o,i,j,z,z',l,l',l'',el,v,n,n',rfl,ho,hel,hf,hz,hc,h3⟩
 ·obtain ⟨fp,g1,g2⟩:=closes.rep hr hok as bs vs h1 hv
  have g1:=LeL.repv hl _ _ g1
  refine (h2 w vs fp g1).mono ?_
  intro e w' he
  cases e with
  | returned v =>
   obtain ⟨k1,⟨cs,rfl,k2⟩⟩:=he
   have gr:=Below.grows k1
   exact ⟨r,h,σ,φ,gr.heap hr,gr.ev.x,Rep.rv r cs [] k2 (by simp),Below.lower k1 (hb _ (Nat.le_refl _)).1,h3⟩
  | panicked _ => exact he
  | outgrown => exact he
 ·obtain ⟨fp,g1,g2⟩:=closes.rep hr hok as bs vs h1 hv
  have g1:=LeL.repv hl _ _ g1
  refine (h2 w vs fp g1).mono ?_
  intro e w' he
  cases e with
  | returned v =>
   obtain ⟨k1,fp',⟨cs,rfl,k2⟩,k3,k4⟩:=he
   obtain ⟨σ',φ',m1,m2,m3⟩:=d5j hr hok hb k1 k2 k3 k4
   exact ⟨_,_,σ',φ',m1,m2.x,m3,Below.lower k1 (hb _ (Nat.le_refl _)).1,h3⟩
  | panicked _ => exact he
  | outgrown => exact he
 ·obtain ⟨fp,g1,g2,g3⟩:=b3o hmf hr hok h1 hv
  have g1:=LeL.repv hl _ _ g1
  have hlt:=a1q.lt _ _ _ g1
  refine (h2 w vs fp g1).mono ?_
  intro e w' he
  cases e with
  | returned v =>
   obtain ⟨k1,fp',⟨cs,rfl,k2⟩,k3⟩:=he
   have key:=a0b.puts (σ':=σ) (φ':=φ) (w':=w') (ks:=ks) (xs:=[]) hr (fun o ho => ⟨rfl,rfl⟩) k1.size (by simp) (fun b hb' _ => k1.block b hb') (by simp) (by simp) (by simp)
   simp only [List.append_nil] at key
   refine ⟨r,_,σ,φ,key.1,key.2.x,Rep.rv r cs fp' k2 ?_,Below.lower k1 (hb _ (Nat.le_refl _)).1,h3⟩
   intro b hb'
   rcases k3 b hb' with hin | hge
   ·refine ⟨⟨g2 b hin,fun hm => by rw [show C.mm = false from hmf] at hm; cases hm⟩,?_⟩
    rintro ⟨o,x,c,e1,e2,e3⟩
    obtain ⟨m1,m2⟩:=a7g e1 e2
    obtain ⟨kk,q1,q2⟩:=g3 b hin ⟨o,x,c,m1,e2,e3⟩
    rcases q2 with ⟨y,c',y1,y2,y3⟩ | ⟨y1,y,y2,y3⟩
    ·have:=hr.inj o kk x y b c c' m1 e2 y1 y2 e3 y3
     subst this
     exact m2 q1
    ·exact (hr.phix y2 y3 y1).2 ⟨o,x,c,m1,e2,e3⟩
   ·refine ⟨⟨hok b (hb b hge),fun hm => by rw [show C.mm = false from hmf] at hm; cases hm⟩,fun hl => ?_⟩
    have:=hr.liveLt (b7e hl)
    omega
  | panicked _ => exact he
  | outgrown => exact he
 ·have hv':RVs C σ (kill h ks) w cs vs:=by
   cases hm:C.mm with
   | false => exact c6i hm (ks':=ks) hr hok fl as cs ks vs hf (fun _ h => h) hv
   | true =>
    have:=hfm hm
    subst this
    rw [d2z] at hf
    cases hf
    simpa only [kill] using hv
  obtain ⟨hr',ev'⟩:=c6h hr ks
  refine (a0z.sound hmd hr' hok hb hv' hn (fun j hj => by rw [a5q]; exact hin j hj) hl hh hc).mono ?_
  intro e w' he
  cases e with
  | returned v =>
   obtain ⟨σ',φ',m1,m2,m3,m4,m5⟩:=he
   rw [a5q] at m3
   have h3:=h3 m5
   exact ⟨_,_,σ',φ',m1,ev'.x.trans m2,m3,m4,h3⟩
  | panicked _ => exact he
  | outgrown => exact he
 ·obtain ⟨fp,g1,g2⟩:=closes.rep hr hok as bs vs h1 hv
  have g1:=LeL.repv hl _ _ g1
  refine (h2 w vs fp g1).mono ?_
  intro e w' he
  cases e with
  | returned v =>
   obtain ⟨k1,fp',⟨cs,rfl,k2⟩,k3,k4⟩:=he
   have gr:=Below.grows k1
   refine ⟨r,h,σ,φ,gr.heap hr,gr.ev.x,Rep.rv r cs fp' (Rep.weak _ _ _ k2) (fun b hb' => ⟨⟨hok b (hb b (k4 b hb')),fun hm => by rw [show C.mm = false from hmf] at hm; cases hm⟩,fun hl => ?_⟩),Below.lower k1 (hb _ (Nat.le_refl _)).1,h3⟩
   have h5:=hr.liveLt hl
   have h6:=k4 b hb'
   omega
  | panicked _ => exact he
  | outgrown => exact he
 ·refine (d5i hdd hmm hr hok hb hv ho hel hf hz hc).mono ?_
  intro e w' he
  cases e with
  | returned u =>
   obtain ⟨rfl,φ',m1,m2,m3⟩:=he
   exact ⟨_,_,σ,φ',m1,m2,by simp only [RV],m3,h3⟩
  | panicked _ => exact he
  | outgrown => exact he
theorem a0b.refrz {F:Nat → Prop} (hr:a0b C σ φ h w) (hF:FrX C w F) (hbase:∀ o x b c,h[o]? = some x → x.isLive = true → σ o = some (b,c) → ¬ F b) (hdeep:∀ o x b,h[o]? = some x → x.rw = true → b ∈ φ o → ¬ F b):a0b (C.frz F) σ φ h w where
 obj o x ho:=by
  have:=hr.obj o x ho
  cases x with
  | dead => trivial
  | box sz v =>
   obtain ⟨g,cur,e,h1,h2,h3,h4⟩:=this
   exact ⟨g,cur,e,h1,h2,h3,RVs.ctx (C:=C) (C':=C.frz F) (fun _ hb => hF.imm hb) _ _ h4⟩
  | map m =>
   obtain ⟨g,cur,e,h1,h2,h3,h4⟩:=this
   exact ⟨g,cur,e,h1,h2,h3,RVs.ctx (C:=C) (C':=C.frz F) (fun _ hb => hF.imm hb) _ _ h4⟩
  | row sz l => exact this
  | rowx sz l i el =>
   obtain ⟨k0,k1,k2,g,c,cur,e,f1,f2,q1,q2,q3,q4,q5,q6,q7⟩:=this
   exact ⟨k0,k1,k2,g,c,cur,e,f1,f2,q1,q2,q3,q4,q5,RVs.ctx (C:=C) (C':=C.frz F) (fun _ hb => hF.imm hb) _ _ q6,q7⟩
 inj:=hr.inj
 base o x b c h1 h2 h3:=⟨(hr.base o x b c h1 h2 h3).1,hbase o x b c h1 h2 h3⟩
 deepx hdm o x ho hx:=by
  obtain ⟨d1,d2,d3⟩:=hr.deepx hdm o x ho hx
  exact ⟨d1,fun b hb => ⟨(d2 b hb).1,hdeep o x b ho hx hb⟩,d3⟩
theorem a7x.ltw (hr:a0b C σ φ h w) {k b:Nat} (hk:a7x σ φ h k b):b < w.heap.size:=by
 rcases hk with ⟨x,c,g1,g2,g3⟩ | ⟨g1,x,g2,g3⟩
 ·exact hr.lt g1 g2 g3
 ·exact hr.phiLtx g2 g3 g1
def a2p (P:Program) (dm:Md) (f:Nat) (as:List AV) (h:List y9) (k:AV → List y9 → Prop):Prop :=
 a2h P dm f as h k ∨ (dm.z = true ∧ dm.d = true ∧ ∃ bs bs' ks r,a1n true h as = some (bs,ks) ∧ LeL bs bs' ∧ a0a P f .weak bs' r ∧ k r (kill h ks))
theorem a2p.flat {dm:Md} {f:Nat} {as bs bs':List AV} {r:AV} {k:AV → List y9 → Prop} (hc:a0a P f .flat bs' r) (hb:closes h as = some bs) (hl:LeL bs bs') (hk:k r h):a2p P dm f as h k:=.inl (a2h.flat hc hb hl hk)
theorem a2p.fresh {dm:Md} {f:Nat} {as bs bs':List AV} {r:AV} {k:AV → List y9 → Prop} (hc:a0a P f .fresh bs' r) (hb:closes h as = some bs) (hl:LeL bs bs') (hk:k (a2r h.length r).1 (h ++ (a2r h.length r).2)):a2p P dm f as h k:=.inl (a2h.fresh hc hb hl hk)
theorem a2p.weak {dm:Md} (hm:dm.m = false) {f:Nat} {as bs bs':List AV} {ks:List Nat} {r:AV} {k:AV → List y9 → Prop} (hc:a0a P f .weak bs' r) (hb:a1n false h as = some (bs,ks)) (hl:LeL bs bs') (hk:k r (kill h ks)):a2p P dm f as h k:=.inl (a2h.weak hm hc hb hl hk)
theorem a2p.heapf {dm:Md} {f:Nat} {as cs args:List AV} {hi hout:List y9} {r:AV} {k:AV → List y9 → Prop} (fl:List Bool) (ks js:List Nat) (hm:dm.m = true → fl = []) (hf:b9w h fl as = some (cs,ks)) (hc:a0z P dm.nz f args hi r hout) (hn:js.Nodup) (hin:∀ j ∈ js,j < h.length) (hl:LeL (a7m (a8n js) cs) args) (hh:LeH (b3e (kill h ks) js) hi)
  (hk:k (ren (a7y h.length js) r) (b2r (kill h ks) js hout)):a2p P dm f as h k:=.inl (a2h.heapf fl ks js hm hf hc hn hin hl hh hk)
theorem a2p.heapfs {dm:Md} {f:Nat} {as cs args:List AV} {hi hout:List y9} {r:AV} {k:AV → List y9 → Prop} (fl:List Bool) (ks js:List Nat) (hm:dm.m = true → fl = []) (hf:b9w h fl as = some (cs,ks)) (hc:a0z P dm.nz f args hi r hout) (hn:js.Nodup) (hin:∀ j ∈ js,j < h.length) (hl:LeL (a7m (a8n js) cs) args) (hh:LeH (b3e (kill h ks) js) hi)
  (hk:b8j hi hout → k (ren (a7y h.length js) r) (b2r (kill h ks) js hout)):a2p P dm f as h k:=.inl (a2h.heapfs fl ks js hm hf hc hn hin hl hh hk)
theorem a2p.freshc {dm:Md} (hm:dm.m = false) {f:Nat} {as bs bs':List AV} {r:AV} {k:AV → List y9 → Prop} (hc:a0a P f .fresh bs' r) (hb:closes h as = some bs) (hl:LeL bs bs') (hk:k r h):a2p P dm f as h k:=.inl (a2h.freshc hm hc hb hl hk)
theorem a2p.sound (hmd:C.mm = true → C.dm = true) (hr:a0b C σ φ h w) (hok:∀ b,C.mine b → C.ok b) (hb:∀ b,w.heap.size ≤ b → C.mine b) {f:Nat} {as:List AV} {vs:List Value} (hv:RVs C σ h w as vs) {k:AV → List y9 → Prop} (hs:a2p P C.md f as h k) :
  Calls P f vs.toArray w fun e w' => match e with
   | .returned v => ∃ F r h' σ' φ',FrX C w' F ∧ a0b (C.frz F) σ' φ' h' w' ∧ EvX C σ h w σ' h' w' ∧ RV (C.frz F) σ' h' w' r v ∧ Below C.base w w' ∧ k r h'
   | _ => False:=by
 rcases hs with hs | ⟨hz,hdd,bs,bs',ks,r,h1,hl,h2,h3⟩
 ·refine (a2h.sound hmd hr hok hb hv hs).mono ?_
  intro e w' he
  cases e with
  | returned v =>
   obtain ⟨r,h',σ',φ',g1,g2,g3,g4,g5⟩:=he
   exact ⟨C.fr,r,h',σ',φ',FrX.refl C w',g1,g2,g3,g4,g5⟩
  | panicked _ => exact he
  | outgrown => exact he
 ·have hdd:C.dm = true:=hdd
  have hz:C.fz = true:=hz
  obtain ⟨fp,g1,g3⟩:=a1n.repVs hr hok as bs ks vs (by rw [hdd]; exact h1) hv
  have g1:=LeL.repv hl _ _ (a1q.weak _ _ _ g1)
  have hlt:=a1q.lt _ _ _ g1
  refine (h2 w vs fp g1).mono ?_
  intro e w' he
  cases e with
  | returned v =>
   obtain ⟨k1,fp',⟨cs,rfl,k2⟩,k3⟩:=he
   have key:=a0b.puts (σ':=σ) (φ':=φ) (w':=w') (ks:=ks) (xs:=[]) hr (fun o ho => ⟨rfl,rfl⟩) k1.size (by simp) (fun b hb' _ => k1.block b hb') (by simp) (by simp) (by simp)
   simp only [List.append_nil] at key
   obtain ⟨F,hF⟩:∃ F:Nat → Prop,F = fun b => C.fr b ∨ (w.heap.size ≤ b ∧ b < w'.heap.size) ∨ ∃ q ∈ ks,a7x σ φ h q b:=⟨_,rfl⟩
   have hX:FrX C w' F:=by
    refine ⟨fun b hb' => by rw [hF]; exact .inl hb',fun b hb' h4 => ?_,fun hn => by rw [hz] at hn; cases hn⟩
    rw [hF] at h4
    rcases h4 with h4 | h4 | ⟨q,_,h4⟩
    ·exact h4
    ·omega
    ·have h5:=a7x.ltw hr h4
     have h6:=k1.size
     omega
   have hnF:∀ o b,o ∉ ks → a7x σ φ h o b → C.mine b → ¬ F b:=by
    intro o b ho hob hm h4
    have h5:=a7x.ltw hr hob
    rw [hF] at h4
    rcases h4 with h4 | h4 | ⟨q,hq,h4⟩
    ·exact hm.2 h4
    ·omega
    ·have:=a7x.unique hr hdd hob h4
     subst this
     exact ho hq
   have hr2:=key.1.refrz hX (fun o x b c e1 e2 e3 => by
     obtain ⟨m1,m2⟩:=a7g e1 e2
     exact hnF o b m2 (.inl ⟨x,c,m1,e2,e3⟩) (hr.base o x b c m1 e2 e3))
    (fun o x b e1 e2 e3 => by
     obtain ⟨m1,m2⟩:=a7g e1 (y9.rw_live e2)
     exact hnF o b m2 (.inr ⟨e3,x,m1,e2⟩) ((hr.deepx hdd o x m1 e2).2.1 b e3))
   refine ⟨F,r,_,σ,φ,hX,hr2,key.2.x,Rep.rv r cs fp' k2 ?_,Below.lower k1 (hb _ (Nat.le_refl _)).1,h3⟩
   intro b hb'
   rcases k3 b hb' with hin | hge
   ·obtain ⟨q,q1,q2⟩:=g3.own hdd b hin
    refine ⟨⟨g3.ok b hin,fun _ hm => hm.2 (by show F b; rw [hF]; exact .inr (.inr ⟨q,q1,q2⟩))⟩,?_⟩
    rintro ⟨o,x,c,e1,e2,e3⟩
    obtain ⟨m1,m2⟩:=a7g e1 e2
    have:=a7x.unique hr hdd q2 (.inl ⟨x,c,m1,e2,e3⟩)
    subst this
    exact m2 q1
   ·refine ⟨⟨hok b (hb b hge),fun _ hm => hm.2 (by show F b; rw [hF]; exact .inr (.inl ⟨hge,Rep.lt _ _ _ k2 b hb'⟩))⟩,fun hl => ?_⟩
    have:=hr.liveLt (b7e hl)
    omega
  | panicked _ => exact he
  | outgrown => exact he
end calls
end Go.R
