import Derived.Test.YtldahjcikmpifaaGreatC8
set_option linter.all false
namespace Go.R
open Go
def a7x (σ:Sg) (φ:Nat → List Nat) (h:List y9) (k b:Nat):Prop :=
 (∃ x c,h[k]? = some x ∧ x.isLive = true ∧ σ k = some (b,c)) ∨ (b ∈ φ k ∧ ∃ x,h[k]? = some x ∧ x.rw = true)
section a2w
variable {C:Ctx} {σ:Sg} {φ:Nat → List Nat} {h:List y9} {w:World}
theorem a0b.phix (hr:a0b C σ φ h w) {o:Nat} {x:y9} (ho:h[o]? = some x) (hx:x.rw = true) {b:Nat} (hb:b ∈ φ o):C.ok b ∧ ¬ liveAt h σ b:=by
 cases x with
 | dead => cases hx
 | box _ _ => cases hx
 | map _ => cases hx
 | rowx sz l i el =>
  obtain ⟨_,_,_,_,_,_,_,_,_,_,_,_,_,_,_,_,_,_,k9⟩:=hr.obj o _ ho
  exact k9 b hb
 | row sz l =>
  obtain ⟨h0,hob⟩:=hr.obj o _ ho
  cases hs:σ o with
  | none => rw [hs] at hob; rw [hob.2] at hb; simp at hb
  | some p =>
   rw [hs] at hob
   obtain ⟨_,cur,e,_,_,_,h5⟩:=hob
   exact h5 b hb
theorem a0b.phi (hr:a0b C σ φ h w) {o sz:Nat} {l:List AV} (ho:h[o]? = some (.row sz l)) {b:Nat} (hb:b ∈ φ o):C.ok b ∧ ¬ liveAt h σ b:=by
 obtain ⟨h0,hob⟩:=hr.obj o _ ho
 cases hs:σ o with
 | none => rw [hs] at hob; rw [hob.2] at hb; simp at hb
 | some p =>
  rw [hs] at hob
  obtain ⟨_,cur,e,_,_,_,h5⟩:=hob
  exact h5 b hb
theorem a7x.unique (hr:a0b C σ φ h w) (hdm:C.dm = true) {k k' b:Nat} (h1:a7x σ φ h k b) (h2:a7x σ φ h k' b):k = k':=by
 rcases h1 with ⟨x,c,g1,g2,g3⟩ | ⟨g1,x,g2,g3⟩ <;> rcases h2 with ⟨x',c',e1,e2,e3⟩ | ⟨e1,x',e2,e3⟩
 ·exact hr.inj k k' x x' b c c' g1 g2 e1 e2 g3 e3
 ·exact absurd ⟨k,x,c,g1,g2,g3⟩ (hr.phix e2 e3 e1).2
 ·exact absurd ⟨k',x',c',e1,e2,e3⟩ (hr.phix g2 g3 g1).2
 ·by_cases hkk:k = k'
  ·exact hkk
  ·exact absurd e1 ((hr.deepx hdm k x g2 g3).2.2 k' x' e2 e3 (fun e => hkk e.symm) b g1)
theorem a7x.base (hr:a0b C σ φ h w) (hdm:C.dm = true) {k b:Nat} (h1:a7x σ φ h k b):C.mine b:=by
 rcases h1 with ⟨x,c,g1,g2,g3⟩ | ⟨g1,x,g2,g3⟩
 ·exact hr.base k x b c g1 g2 g3
 ·exact (hr.deepx hdm k x g2 g3).2.1 b g1
structure Taken (C:Ctx) (σ:Sg) (φ:Nat → List Nat) (h:List y9) (ks:List Nat) (fp:List Nat):Prop where
 ok:∀ b ∈ fp,C.ok b
 live:∀ b ∈ fp,liveAt h σ b → ∃ k ∈ ks,a7x σ φ h k b
 own:C.dm = true → ∀ b ∈ fp,∃ k ∈ ks,a7x σ φ h k b
 nodup:C.dm = true → ks.Nodup → fp.Nodup
theorem Taken.nil:Taken C σ φ h [] []:=⟨by simp,by simp,by simp,by simp⟩
theorem Taken.append (hr:a0b C σ φ h w) {k1 k2 f1 f2:List Nat} (a:Taken C σ φ h k1 f1) (b:Taken C σ φ h k2 f2):Taken C σ φ h (k1 ++ k2) (f1 ++ f2) where
 ok x hx:=(List.mem_append.1 hx).elim (a.ok x) (b.ok x)
 live x hx hl:=by
  rcases List.mem_append.1 hx with hx | hx
  ·obtain ⟨k,h1,h2⟩:=a.live x hx hl; exact ⟨k,by simp [h1],h2⟩
  ·obtain ⟨k,h1,h2⟩:=b.live x hx hl; exact ⟨k,by simp [h1],h2⟩
 own hdm x hx:=by
  rcases List.mem_append.1 hx with hx | hx
  ·obtain ⟨k,h1,h2⟩:=a.own hdm x hx; exact ⟨k,by simp [h1],h2⟩
  ·obtain ⟨k,h1,h2⟩:=b.own hdm x hx; exact ⟨k,by simp [h1],h2⟩
 nodup hdm hn:=by
  rw [List.nodup_append] at hn ⊢
  refine ⟨a.nodup hdm hn.1,b.nodup hdm hn.2.1,?_⟩
  intro x hx y hy hxy
  subst hxy
  obtain ⟨k,g1,g2⟩:=a.own hdm x hx
  obtain ⟨k',e1,e2⟩:=b.own hdm x hy
  exact hn.2.2 k g1 k' e1 (a7x.unique hr hdm g2 e2)
theorem Taken.sub {ks f g:List Nat} (a:Taken C σ φ h ks f) (hs:List.Sublist g f):Taken C σ φ h ks g :=
 ⟨fun b hb => a.ok b (hs.subset hb),fun b hb => a.live b (hs.subset hb),fun hdm b hb => a.own hdm b (hs.subset hb),fun hdm hn => (a.nodup hdm hn).sublist hs⟩
theorem c9m (hr:a0b C σ φ h w) (hok:∀ b,C.mine b → C.ok b) {o lo n z:Nat} {l:List AV} {v:Value} (ho:h[o]? = some (.row z l)) (hv:b6x σ o lo n z l.length v) (hlo:C.dm = true → lo = 0) :
  ∃ fp,b2o C.dm w (.lst z ((l.drop lo).take n)) v fp ∧ Taken C σ φ h [o] fp:=by
 obtain ⟨a,cap,rfl,hl,hn,hm,hσ⟩:=hv
 have hlen:((l.drop lo).take n).length = n:=by rw [List.length_take,List.length_drop]; omega
 obtain ⟨hsz,hob⟩:=hr.obj o _ ho
 cases hs:σ o with
 | none =>
  rw [hs] at hσ hob
  obtain ⟨rfl,rfl⟩:=hσ
  have hn0:n = 0:=by omega
  subst hn0
  refine ⟨[],⟨[.slice none 0 0],rfl,?_⟩,⟨by simp,by simp,by simp,by simp⟩⟩
  simp only [Rep]
  exact .inl ⟨by simp,by simp,none,0,by simp,hm,by simp⟩
 | some p =>
  obtain ⟨g,c⟩:=p
  rw [hs] at hσ hob
  obtain ⟨hc,cur,e,h2,h3,h4,h5⟩:=hob
  have hown:a7x σ φ h o g:=.inl ⟨_,c,ho,rfl,hs⟩
  obtain ⟨f1,f2,hf,h6⟩:=h4.drop lo
  obtain ⟨f3,f4,hf',h7⟩:=h6.take n
  have hsub:List.Sublist f3 (φ o):=by rw [hf,hf']; exact (List.sublist_append_left f3 f4).trans (List.sublist_append_right f1 _)
  have taken:Taken C σ φ h [o] (g :: f3):=by
   refine ⟨?_,?_,?_,?_⟩
   ·intro b hb
    rcases List.mem_cons.1 hb with rfl | hb
    ·exact hok _ (hr.base o _ _ c ho rfl hs)
    ·exact (h5 b (hsub.subset hb)).1
   ·intro b hb hlv
    rcases List.mem_cons.1 hb with rfl | hb
    ·exact ⟨o,by simp,hown⟩
    ·exact absurd hlv (h5 b (hsub.subset hb)).2
   ·intro hdm b hb
    rcases List.mem_cons.1 hb with rfl | hb
    ·exact ⟨o,by simp,hown⟩
    ·exact ⟨o,by simp,.inr ⟨hsub.subset hb,_,ho,rfl⟩⟩
   ·intro hdm _
    rw [List.nodup_cons]
    refine ⟨fun hg => ?_,(hr.deep hdm o z l ho).1.sublist hsub⟩
    exact (h5 g (hsub.subset hg)).2 ⟨o,_,c,ho,rfl,hs⟩
  cases hdm:C.dm with
  | true =>
   have hl0:=hlo hdm
   subst hl0
   obtain ⟨rfl,rfl⟩:=hσ.2 rfl
   refine ⟨g :: f3,⟨[.slice (some ⟨g,0,none⟩) n cap],rfl,?_⟩,taken⟩
   simp only [Rep]
   rw [hdm] at h7
   exact .inr ⟨g,0,cap,cur,e,(0,0),f3,by rw [hlen],by rw [hlen]; exact hn,hm,h2,fun _ => ⟨rfl,rfl,h3⟩,rfl,hsz,by simpa using h7⟩
  | false =>
   by_cases hn0:n = 0
   ·subst hn0
    refine ⟨[],⟨[.slice a 0 cap],rfl,?_⟩,taken.sub (List.nil_sublist _)⟩
    simp only [Rep]
    exact .inl ⟨by simp,by simp,a,cap,by simp,hm,by simp⟩
   ·have ha:=hσ.1.resolve_left hn0
    subst ha
    refine ⟨g :: f3,⟨[.slice (some ⟨g,lo * z,none⟩) n cap],rfl,?_⟩,taken⟩
    simp only [Rep]
    exact .inr ⟨g,lo * z,cap,cur,e,(0,0),f3,by rw [hlen],by rw [hlen]; exact hn,hm,h2,by simp,rfl,hsz,a0n.weak _ _ _ h7⟩
mutual
theorem a2w.rep (hr:a0b C σ φ h w) (hok:∀ b,C.mine b → C.ok b):∀ (a a':AV) (ks:List Nat) (v:Value),a2w C.dm h a = some (a',ks) → RV C σ h w a v →
  ∃ fp,b2o C.dm w a' v fp ∧ Taken C σ φ h ks fp
 | .int k n,a',ks,v,hc,hv => by
  simp only [a2w] at hc; cases hc; simp only [RV] at hv
  exact ⟨[],⟨[v],by simp [mkV],by simp [Rep,hv]⟩,Taken.nil⟩
 | .bool n,a',ks,v,hc,hv => by
  simp only [a2w] at hc; cases hc; simp only [RV] at hv
  exact ⟨[],⟨[v],by simp [mkV],by simp [Rep,hv]⟩,Taken.nil⟩
 | .str s,a',ks,v,hc,hv => by
  simp only [a2w] at hc; cases hc; simp only [RV] at hv
  exact ⟨[],⟨[v],by simp [mkV],by simp [Rep,hv]⟩,Taken.nil⟩
 | .nil,a',ks,v,hc,hv => by
  simp only [a2w] at hc; cases hc; simp only [RV] at hv
  exact ⟨[],⟨[v],by simp [mkV],by simp [Rep,hv]⟩,Taken.nil⟩
 | .lst z l,a',ks,v,hc,hv => by
  simp only [a2w] at hc
  cases hdm:C.dm with
  | true => simp [hdm] at hc
  | false =>
   simp only [hdm] at hc
   cases hc
   simp only [RV] at hv
   obtain ⟨fp,h1,h2⟩:=hv
   exact ⟨fp,h1,⟨fun b hb => (h2 b hb).1.1,fun b hb hl => absurd hl (h2 b hb).2,by simp [hdm],by simp [hdm]⟩⟩
 | .own o lo n,a',ks,v,hc,hv => by
  simp only [a2w] at hc
  simp only [RV] at hv
  cases ho:h[o]? with
  | none => simp [ho] at hc
  | some x =>
   cases x with
   | dead => simp [ho] at hc
   | box sz y => simp [ho] at hc
   | map _ => simp [ho] at hc
   | rowx _ _ _ _ => simp [ho] at hc
   | row z l =>
    simp only [ho] at hc hv
    cases hdm:C.dm with
    | true =>
     cases lo with
     | zero =>
      simp only [hdm] at hc
      cases hc
      have:=c9m hr hok ho hv (fun _ => rfl)
      rw [hdm] at this
      simpa using this
     | succ lo => simp [hdm] at hc
    | false =>
     simp only [hdm] at hc
     cases hc
     have:=c9m hr hok ho hv (by simp [hdm])
     rw [hdm] at this
     exact this
 | .agg as,a',ks,v,hc,hv => by
  simp only [a2w] at hc
  cases h1:a1n C.dm h as with
  | none => simp [h1] at hc
  | some p =>
   obtain ⟨bs,k⟩:=p
   simp only [h1] at hc
   split at hc
   ·rename_i hall
    simp only [Option.some.injEq,Prod.mk.injEq] at hc
    obtain ⟨rfl,rfl⟩:=hc
    simp only [RV] at hv
    obtain ⟨vs,rfl,hv⟩:=hv
    obtain ⟨fp,g1,g2⟩:=a1n.rep hr hok as bs k _ h1 hv
    exact ⟨fp,⟨vs.toList,by simp [mkV],by simp only [Rep]; exact g1 hall⟩,g2⟩
   ·cases hc
 | .tup _,_,_,_,hc,_ => by simp [a2w] at hc
 | .fn _ _,_,_,_,hc,_ => by simp [a2w] at hc
 | .iptr _ _,_,_,_,hc,_ => by simp [a2w] at hc
 | .ptr _ _ _,_,_,_,hc,_ => by simp [a2w] at hc
 | .undef,_,_,_,hc,_ => by simp [a2w] at hc
 | .skip,_,_,_,hc,_ => by simp [a2w] at hc
 | .hdr _ _ _,_,_,_,hc,_ => by simp [a2w] at hc
theorem a1n.rep (hr:a0b C σ φ h w) (hok:∀ b,C.mine b → C.ok b):∀ (as as':List AV) (ks:List Nat) (vs:List Value),a1n C.dm h as = some (as',ks) → RVs C σ h w as vs →
  ∃ fp,(as'.all AV.isCell = true → a0o C.dm w as' vs fp) ∧ Taken C σ φ h ks fp
 | [],as',ks,vs,hc,hv => by
  simp only [a1n] at hc; cases hc; simp only [RVs] at hv
  exact ⟨[],by simp [a0o,hv],Taken.nil⟩
 | a :: as,as',ks,vs,hc,hv => by
  simp only [a1n] at hc
  cases h1:a2w C.dm h a with
  | none => simp [h1] at hc
  | some p =>
   obtain ⟨b,k1⟩:=p
   cases h2:a1n C.dm h as with
   | none => simp [h1,h2] at hc
   | some q =>
    obtain ⟨bs,k2⟩:=q
    simp only [h1,h2,Option.some.injEq,Prod.mk.injEq] at hc
    obtain ⟨rfl,rfl⟩:=hc
    simp only [RVs] at hv
    obtain ⟨v,vs',rfl,g1,g2⟩:=hv
    obtain ⟨f1,⟨cs,rfl,r1⟩,t1⟩:=a2w.rep hr hok a b k1 v h1 g1
    obtain ⟨f2,r2,t2⟩:=a1n.rep hr hok as bs k2 vs' h2 g2
    refine ⟨f1 ++ f2,?_,t1.append hr t2⟩
    intro hall
    simp only [List.all_cons,Bool.and_eq_true] at hall
    obtain ⟨c,rfl,e⟩:=r1.cell hall.1
    simp only [a0o]
    exact ⟨c,vs',f1,f2,by rw [e],hall.1,r1,r2 hall.2,rfl⟩
end
theorem Rep.cellV {m:Bool} {a:AV} {c:Value} {fp:List Nat} (hc:a.isCell = true) (hr:Rep m w a [c] fp):c.cells.toList = [c]:=by
 cases a with
 | int k n => simp only [Rep] at hr; cases hr.1; rfl
 | bool n => simp only [Rep] at hr; cases hr.1; rfl
 | str n => simp only [Rep] at hr; cases hr.1; rfl
 | nil => simp only [Rep] at hr; cases hr.1; rfl
 | lst z l =>
  simp only [Rep] at hr
  rcases hr with ⟨_,_,x,cap,h3,_⟩ | ⟨b,off,cap,cur,e,fz,fps,h1,_⟩
  ·cases h3; rfl
  ·cases h1; rfl
 | fn f caps => simp only [Rep] at hr; obtain ⟨vs,h1,_⟩:=hr; cases h1; rfl
 | iptr e f => simp only [Rep] at hr; obtain ⟨b,off,sz,cur,el,fz,fps,h1,_⟩:=hr; cases h1; rfl
 | agg _ => simp [AV.isCell] at hc
 | tup _ => simp [AV.isCell] at hc
 | undef => simp only [Rep] at hr
 | skip => simp only [Rep] at hr
 | hdr v z l =>
  simp only [Rep] at hr
  obtain ⟨_,hr⟩:=hr
  rcases hr with ⟨_,_,x,cap,h3,_⟩ | ⟨b,off,cap,cur,e,fz,fps,h1,_⟩
  ·cases h3; rfl
  ·cases h1; rfl
 | own _ _ _ => simp only [Rep] at hr
 | ptr _ _ _ => simp only [Rep] at hr
theorem b5x {dm:Bool} {a b:AV} {ks:List Nat} (hc:a2w dm h a = some (b,ks)):∀ as,b ≠ .tup as:=by
 intro as he
 subst he
 cases a with
 | lst z l => cases dm <;> simp [a2w] at hc
 | own o lo n =>
  simp only [a2w] at hc
  split at hc
  ·split at hc <;> cases hc
  ·cases hc
 | agg as' =>
  simp only [a2w] at hc
  split at hc
  ·split at hc <;> cases hc
  ·cases hc
 | _ => simp [a2w] at hc
theorem a1n.repS (hr:a0b C σ φ h w) (hok:∀ b,C.mine b → C.ok b) {sz:Nat}:∀ (as as':List AV) (ks:List Nat) (vs:List Value),a1n C.dm h as = some (as',ks) → RVs C σ h w as vs → (∀ a ∈ as',a.cells.length = sz) →
  ∃ fp,a0n C.dm w sz as' (vs.flatMap fun v => v.cells.toList) fp ∧ (vs.flatMap fun v => v.cells.toList).length = as'.length * sz ∧ (∀ v ∈ vs,v.cells.size = sz) ∧ Taken C σ φ h ks fp
 | [],as',ks,vs,hc,hv,_ => by
  simp only [a1n] at hc; cases hc; simp only [RVs] at hv
  subst hv
  exact ⟨[],by simp [a0n],by simp,by simp,Taken.nil⟩
 | a :: as,as',ks,vs,hc,hv,hl => by
  simp only [a1n] at hc
  cases h1:a2w C.dm h a with
  | none => simp [h1] at hc
  | some p =>
   obtain ⟨b,k1⟩:=p
   cases h2:a1n C.dm h as with
   | none => simp [h1,h2] at hc
   | some q =>
    obtain ⟨bs,k2⟩:=q
    simp only [h1,h2,Option.some.injEq,Prod.mk.injEq] at hc
    obtain ⟨rfl,rfl⟩:=hc
    simp only [RVs] at hv
    obtain ⟨v,vs',rfl,g1,g2⟩:=hv
    obtain ⟨f1,⟨cs,rfl,r1⟩,t1⟩:=a2w.rep hr hok a b k1 v h1 g1
    obtain ⟨f2,r2,l2,s2,t2⟩:=a1n.repS hr hok as bs k2 vs' h2 g2 (fun a ha => hl a (by simp [ha]))
    have hb:=hl b (by simp)
    have hcs:(mkV b cs).cells.toList = cs ∧ cs.length = sz:=by
     cases b with
     | agg as' =>
      simp only [Rep] at r1
      have:=r1.length
      simp only [AV.cells] at hb
      exact ⟨by simp [mkV,Value.cells],by omega⟩
     | tup as' => exact absurd rfl (b5x h1 as')
     | _ =>
      obtain ⟨c,rfl,e⟩:=r1.cell rfl
      simp only [AV.cells,List.length_cons,List.length_nil] at hb
      rw [e]
      exact ⟨Rep.cellV rfl r1,by simpa using hb⟩
    have hel:b.isElem = true:=by cases b <;> first | rfl | exact absurd rfl (b5x h1 _)
    refine ⟨f1 ++ f2,?_,?_,?_,t1.append hr t2⟩
    ·simp only [List.flatMap_cons,hcs.1,a0n]
     refine ⟨f1,f2,⟨by rw [List.take_append_of_le_length (by omega),List.take_of_length_le (by omega)]; exact hcs.2,hel⟩,?_,?_,rfl⟩
     ·rw [List.take_append_of_le_length (by omega),List.take_of_length_le (by omega)]; exact r1
     ·rw [List.drop_append_of_le_length (by omega),List.drop_of_length_le (by omega)]; simpa using r2
    ·simp only [List.flatMap_cons,List.length_append,hcs.1,hcs.2,l2,List.length_cons,Nat.add_mul]; omega
    ·intro u hu
     rcases List.mem_cons.1 hu with rfl | hu
     ·rw [← Array.length_toList,hcs.1]; exact hcs.2
     ·exact s2 u hu
end a2w
end Go.R
