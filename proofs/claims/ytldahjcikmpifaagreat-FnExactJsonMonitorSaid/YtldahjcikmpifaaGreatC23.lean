import Derived.Test.YtldahjcikmpifaaGreatC22
set_option linter.all false
namespace Go.R
open Go Go.RowKit
def d1k (P:Program):List ResultVar → Option (List AOp)
 | [] => some []
 | .tmp s :: r => match d1k P r with
  | some l => some (.mov (.t s) :: l)
  | none => none
 | .cell s ty :: r => match d1k P r,isz P ty,iag P ty with
  | some l,some (n + 1),some ag => some (.load (n + 1) ag (.t s) :: l)
  | _,_,_ => none
def a1b (P:Program) (fn:Func):Option (a0q × List AOp × Nat):=match fn.body,d1k P fn.results.toList with
 | some c,some s => match a7t P fn.ntmps c with
  | some a => some (a,s,fn.ntmps)
  | none => none
 | _,_ => none
def pack:List AV → AV
 | [x] => x
 | xs => .tup xs
def cmD:CM → Bool
 | .fresh => true
 | _ => false
def rflat:AV → Bool
 | .agg as => b6q as && as.all AV.isCell
 | .tup _ => false
 | a => R.flat a && a.isCell
def rflats:List AV → Bool
 | [] => true
 | a :: as => rflat a && rflats as
def Ret (cm:CM) (h:List y9) (vs:List AV) (r:AV):Prop:=match cm with
 | .flat => rflats vs = true ∧ r = pack vs
 | .weak => match a1n false h vs with
  | some (bs,_) => r = pack bs
  | none => False
 | .fresh => match a1n true h vs with
  | some (bs,ks) => ks.Nodup ∧ r = pack bs
  | none => False
def c4y (args:List AV) (n:Nat):AV:=args.getD n .undef
def b7j (m:Bool) (t:Nat → AV) (h:List y9):List AOp → Prop
 | [] => True
 | o :: os => aqQ m o (AX.ev t) h ∧ b7j m t h os
def b6s (t:Nat → AV) (h:List y9):List AOp → List AV
 | [] => []
 | o :: os => aqV o (AX.ev t) h :: b6s t h os
theorem b8m {m:Bool} {t:Nat → AV} {h:List y9}:∀ {os:List AOp},b7j m t h os → ∀ o ∈ os,aqQ m o (AX.ev t) h
 | [],_,o,ho => by simp at ho
 | x :: os,hp,o,ho => by
  simp only [b7j] at hp
  rcases List.mem_cons.1 ho with rfl | ho
  ·exact hp.1
  ·exact b8m hp.2 o ho
theorem b8n {t:Nat → AV} {h:List y9}:∀ {os:List AOp},b6s t h os = os.map fun o => aqV o (AX.ev t) h
 | [] => rfl
 | o :: os => by simp only [b6s,List.map_cons,b8n]
def e4s (m:Bool) (cm:CM) (os:List AOp) (t:Nat → AV) (h:List y9) (r:AV):Prop:=b7j m t h os ∧ ∃ r',Ret cm h (b6s t h os) r' ∧ Le r' r
def e0i (m:Bool) (cm:CM) (os:List AOp) (r:AV):c1h → (Nat → AV) → List y9 → Prop
 | .exit _,_,_ => False
 | .norm,t,h => e4s m cm os t h r
 | .ret,t,h => e4s m cm os t h r
section
variable {P:Program} {C:Ctx} {σ:Sg} {φ:Nat → List Nat} {h:List y9} {w:World}
theorem c8m (hr:a0b C σ φ h w) {t:Nat → AV} {ρ:Operand → Value} (he:a7b C σ h w t ρ) {s n:Nat} {ty:TypeId} {ag:Bool} (h1:isz P ty = some (n + 1)) (h2:iag P ty = some ag) (hp:aqP (.load (n + 1) ag (.t s)) (AX.ev t) h) (hmm:mmP C.mm (.load (n + 1) ag (.t s)) (AX.ev t) h) :
  ∃ v,(asAddr (ρ (.tmp s)) >>= fun a => loadVar ty a).run P w = .ok v w ∧ RV C σ h w (aqV (.load (n + 1) ag (.t s)) (AX.ev t) h) v:=by
 obtain ⟨v, q1, q2, _⟩ := d0v (P := P) hr { dst := none, op := .load ty (.tmp s), type := 0, pos := "", after := #[], guard := none } (ao := .load (n + 1) ag (.t s)) (by simp only [oc, h1, h2, cx]) rfl he hp hmm
 refine ⟨v,?_,q2⟩
 have hv:=he (.tmp s) _ rfl
 simp only [AX.ev] at hv
 have hshape:∃ a,ρ (.tmp s) = .pointer (some a):=by
  simp only [aqP,AX.ev] at hp
  cases ht:t s with
  | iptr el f =>
   rw [ht] at hv
   simp only [RV] at hv
   obtain ⟨fp,⟨cs,e,hr'⟩,_⟩:=hv
   obtain ⟨c,rfl,e2⟩:=hr'.cell rfl
   simp only [Rep] at hr'
   obtain ⟨b,off,sz,cur,el',fz,fps,h3,_⟩:=hr'
   cases h3
   exact ⟨_,e.trans e2⟩
  | ptr o i f =>
   rw [ht] at hv hp
   simp only [RV] at hv
   cases ho:h[o]? with
   | none => rw [ho] at hv; exact hv.elim
   | some x =>
    rw [ho] at hv
    cases x with
    | dead => simp only [ho] at hp
    | map _ => simp only [ho] at hp
    | box _ _ => obtain ⟨_,g,c,_,e⟩:=hv; exact ⟨_,e⟩
    | row _ _ => obtain ⟨_,g,c,_,e⟩:=hv; exact ⟨_,e⟩
    | rowx _ _ _ _ => obtain ⟨_,g,c,_,e⟩:=hv; exact ⟨_,e⟩
  | _ => simp only [ht] at hp
 obtain ⟨a,ha⟩:=hshape
 simp only [execOp,ha,Instr.loadAt,Instr.sureAddr,Sem.run_bind,Sem.run_pure,Result.andThen_ok] at q1
 rw [ha]
 simp only [asAddr,Sem.run_bind,Sem.run_pure,Result.andThen_ok]
 cases hrun:(loadVar ty a).run P w with
 | ok u w' =>
  rw [hrun] at q1
  simp only [Result.andThen_ok,Result.ok.injEq,Next.value.injEq] at q1
  rw [q1.1,q1.2]
 | halt x w' => rw [hrun] at q1; cases q1
theorem b7k (hr:a0b C σ φ h w) {t:Nat → AV} {a:Act} (ht:∀ n,RV C σ h w (t n) (a.tmps.getD n Go.undef)) {fn:Func} {os:List AOp} (hs:d1k P fn.results.toList = some os) (hp:∀ o ∈ os,aqQ C.mm o (AX.ev t) h) :
  ∃ vs,RVs C σ h w (os.map fun o => aqV o (AX.ev t) h) vs ∧ (results fn a.tmps).run P w = .ok (if hh:vs.length = 1 then vs[0]'(by omega) else .tuple vs.toArray) w:=by
 have he:=a7b.of_act ht
 have key:∀ (g:ResultVar → Sem Value),(∀ t,g (.tmp t) = pure (a.tmps.getD t undef)) → (∀ s ty,g (.cell s ty) = (asAddr (a.eval (.tmp s)) >>= fun a => loadVar ty a)) → ∀ (l:List ResultVar) (os:List AOp),d1k P l = some os → (∀ o ∈ os,aqQ C.mm o (AX.ev t) h) →
   ∃ vs,(l.mapM g).run P w = .ok vs w ∧ RVs C σ h w (os.map fun o => aqV o (AX.ev t) h) vs:=by
  intro g hg hg2 l
  induction l with
  | nil => intro os hs _; simp only [d1k] at hs; cases hs; exact ⟨[],by simp [List.mapM_nil],by simp [RVs]⟩
  | cons x l ih =>
   intro os hs hp
   cases x with
   | cell s ty =>
    simp only [d1k] at hs
    split at hs
    ·rename_i l' n ag h1 h2 h3
     cases hs
     obtain ⟨vs,g1,g2⟩:=ih l' h1 (fun o ho => hp o (List.mem_cons_of_mem _ ho))
     obtain ⟨v,k1,k2⟩:=c8m (P:=P) hr he h2 h3 (hp _ (List.mem_cons_self ..)).p (hp _ (List.mem_cons_self ..)).m
     refine ⟨v :: vs,?_,by simp only [List.map_cons,RVs]; exact ⟨_,_,rfl,k2,g2⟩⟩
     rw [List.mapM_cons,hg2]
     simp only [Sem.run_bind] at k1 ⊢
     rw [k1]
     simp only [Sem.run_bind,Sem.run_pure,Result.andThen_ok,g1]
    ·cases hs
   | tmp s =>
    simp only [d1k] at hs
    cases h1:d1k P l with
    | none => simp [h1] at hs
    | some l' =>
     simp only [h1,Option.some.injEq] at hs
     subst hs
     obtain ⟨vs,g1,g2⟩:=ih l' h1 (fun o ho => hp o (List.mem_cons_of_mem _ ho))
     refine ⟨a.tmps.getD s undef :: vs,?_,by simp only [List.map_cons,RVs]; exact ⟨_,_,rfl,ht s,g2⟩⟩
     rw [List.mapM_cons,hg]
     simp only [Sem.run_bind,Sem.run_pure,Result.andThen_ok,g1]
 unfold results
 obtain ⟨vs,k1,k2⟩:=key (fun
  | .tmp t => pure (a.tmps.getD t undef)
  | .cell b t => do loadVar t (← asAddr (a.tmps.getD b undef))) (fun _ => rfl) (fun _ _ => rfl) _ _ hs hp
 refine ⟨vs,k2,?_⟩
 rw [← Array.toArray_toList (xs:=fn.results),List.mapM_toArray]
 simp only [map_eq_pure_bind,bind_assoc,pure_bind]
 rw [Sem.run_bind]
 have k1':=k1
 simp only [Sem.run_pure] at k1' ⊢
 erw [k1]
 simp only [Result.andThen_ok,Sem.run_pure,List.size_toArray]
 rfl
theorem RV.flatCell {m:Bool} {a:AV} {v:Value} (hf:R.flat a = true) (hc:a.isCell = true) (hr:RV C σ h w a v):Rep m w a [v] []:=by
 cases a with
 | int k n => simp only [RV] at hr; subst hr; simp [Rep]
 | bool n => simp only [RV] at hr; subst hr; simp [Rep]
 | str n => simp only [RV] at hr; obtain ⟨rfl,h2⟩:=hr; simp [Rep,h2]
 | nil => simp only [RV] at hr; subst hr; simp [Rep]
 | agg _ => simp [AV.isCell] at hc
 | _ => simp [R.flat] at hf
theorem RVs.flatCells {m:Bool}:∀ (as:List AV) (vs:List Value),b6q as = true → as.all AV.isCell = true → RVs C σ h w as vs → a0o m w as vs []
 | [],vs,_,_,hr => by simp only [RVs] at hr; subst hr; simp [a0o]
 | a :: as,vs,hf,hc,hr => by
  simp only [b6q,Bool.and_eq_true] at hf
  simp only [List.all_cons,Bool.and_eq_true] at hc
  simp only [RVs] at hr
  obtain ⟨v,vs',rfl,h1,h2⟩:=hr
  simp only [a0o]
  exact ⟨v,vs',[],[],rfl,hc.1,RV.flatCell hf.1 hc.1 h1,RVs.flatCells as vs' hf.2 hc.2 h2,rfl⟩
theorem RV.rflat {m:Bool} {a:AV} {v:Value} (hf:R.rflat a = true) (hr:RV C σ h w a v):∃ cs,v = mkV a cs ∧ Rep m w a cs []:=by
 by_cases hc:a.isCell = true
 ·have hf':R.flat a = true:=by
   cases a <;> first | (simp [AV.isCell] at hc; done) | (simp only [R.rflat,Bool.and_eq_true] at hf; exact hf.1)
  have:=RV.flatCell (m:=m) hf' hc hr
  obtain ⟨c,e1,e2⟩:=this.cell hc
  cases e1
  exact ⟨[v],e2.symm,this⟩
 ·cases a with
  | agg as =>
   simp only [R.rflat,Bool.and_eq_true] at hf
   simp only [RV] at hr
   obtain ⟨vs,rfl,hr⟩:=hr
   exact ⟨vs.toList,by simp [mkV],by simp only [Rep]; exact RVs.flatCells as _ hf.1 hf.2 hr⟩
  | tup _ => simp [R.rflat] at hf
  | _ => simp [AV.isCell] at hc
theorem RVs.rflats {m:Bool}:∀ (as:List AV) (vs:List Value),R.rflats as = true → RVs C σ h w as vs → a1q m w as vs []
 | [],vs,_,hr => by simp only [RVs] at hr; subst hr; simp [a1q]
 | a :: as,vs,hf,hr => by
  simp only [R.rflats,Bool.and_eq_true] at hf
  simp only [RVs] at hr
  obtain ⟨v,vs',rfl,h1,h2⟩:=hr
  obtain ⟨cs,e,g1⟩:=RV.rflat (m:=m) hf.1 h1
  simp only [a1q]
  exact ⟨cs,vs',[],[],by rw [e],g1,RVs.rflats as vs' hf.2 h2,rfl⟩
theorem a1q.pack {m:Bool} {as:List AV} {vs:List Value} {fp:List Nat} (hr:a1q m w as vs fp):b2o m w (R.pack as) (if hh:vs.length = 1 then vs[0]'(by omega) else .tuple vs.toArray) fp:=by
 have hl:=hr.length
 cases as with
 | nil =>
  have:vs = []:=List.eq_nil_of_length_eq_zero hl
  subst this
  exact ⟨[],by simp [R.pack,mkV],by simpa only [R.pack,Rep] using hr⟩
 | cons a as =>
  cases as with
  | nil =>
   simp only [a1q] at hr
   obtain ⟨cs,vs',f1,f2,rfl,h1,⟨rfl,rfl⟩,rfl⟩:=hr
   exact ⟨cs,by simp [R.pack],by simpa [R.pack] using h1⟩
  | cons b as =>
   have hne:¬ vs.length = 1:=by rw [hl]; simp
   rw [dif_neg hne]
   exact ⟨vs,by simp [R.pack,mkV],by simpa only [R.pack,Rep] using hr⟩
theorem a0a.of_awp' {md:Md} {f:Nat} {cm:CM} {args:List AV} {r:AV} {fn:Func} {ac:a0q} {slots:List AOp} {N:Nat} (hmd:md.m = true → md.d = true) (hcm:cm = .fresh → md.d = true) (hcw:cm = .weak → md.d = false) (hm:P.follows .mixedOrders = true) (hf:P.funcs[f]? = some fn) (hc:a1b P fn = some (ac.erase,slots,N)) (hl:args.length ≤ N)
  (hk:awp P md 0 ac (c4y args) [] (e0i md.m cm slots r)):a0a P f cm args r:=by
 intro w vals fps hargs
 unfold a1b at hc
 split at hc
 ·rename_i c s hb hs
  split at hc
  ·rename_i ac' hac
   simp only [Option.some.injEq,Prod.mk.injEq] at hc
   obtain ⟨rfl,rfl,rfl⟩:=hc
   let C:Ctx:={ base:=w.heap.size,ok:=fun b => b ∈ fps ∨ w.heap.size ≤ b,dm:=md.d,fr:=fun _ => False,mm:=md.m,fz:=md.z }
   have hok:∀ b,C.mine b → C.ok b:=fun b hb => .inr hb.1
   have hbb:∀ b,w.heap.size ≤ b → C.mine b:=fun b hb => ⟨hb,fun h => h⟩
   have hr0:a0b C (fun _ => none) (fun _ => []) [] w:=⟨by simp,by simp,by simp,by simp⟩
   have hnl:∀ b,¬ liveAt ([]:List y9) (fun _ => none) b:=by rintro b ⟨o,x,c,h1,_⟩; simp at h1
   have hrv:RVs C (fun _ => none) [] w args vals:=a1q.rvs args vals fps hargs (fun b hb => ⟨⟨.inl hb,fun _ hm => by have h1:=hargs.lt _ _ _ b hb; have h2:=hm.1; have h3:w.heap.size ≤ b:=h2; omega⟩,hnl b⟩)
   have hvl:=hargs.length
   have hst:St C w (fun _ => none) [] fn.ntmps (c4y args) [] { tmps:=vals.toArray ++ Array.replicate (fn.ntmps - vals.toArray.size) undef,defers:=[] } w:=by
    refine ⟨⟨C.fr,_,_,FrX.refl _ _,hr0,EvX.refl _ _ _,fun n => ?_⟩,by simp; omega,rfl,Below.refl _ _⟩
    unfold c4y
    by_cases hn:n < args.length
    ·have:=(hrv.get hn).1
     have e:(vals.toArray ++ Array.replicate (fn.ntmps - vals.toArray.size) undef).getD n undef = vals.getD n undef:=by
      have:n < vals.length:=by omega
      simp [this,Array.getElem?_append]
     rw [e]
     exact this
    ·have:args.getD n .undef = .undef:=by simp [List.getElem?_eq_none (Nat.le_of_not_lt hn)]
     rw [this]
     simp only [RV]
   refine calls_of_wp hf hb ?_
   refine a2i (C:=C) (w0:=w) (σ0:=fun _ => none) (h0:=[]) hmd hm hok hbb (n0:=0) (by simp) ac c hac _ _ _ _ _ _ hst hk ?_
   intro e t h a w' hst' hret
   have fin:e4s md.m cm s t h r → a.defers = [] ∧ ∃ v,(results fn a.tmps).run P w' = .ok v w' ∧ Below w.heap.size w w' ∧ e4m cm w w' fps r v:=by
    rintro ⟨hread,r',hret,hle⟩
    have hread:=b8m hread
    rw [b8n] at hret
    obtain ⟨F,σ,φ,g0,g1,g2,g3⟩:=hst'.rel
    obtain ⟨vs,hvs,hrun⟩:=b7k (P:=P) g1 g3 hs hread
    refine ⟨hst'.defers,_,hrun,hst'.below,?_⟩
    have hleV:∀ {m:Bool} {v:Value} {fp:List Nat},b2o m w' r' v fp → b2o m w' r v fp:=by
     rintro m v fp ⟨cs,e,hrep⟩
     exact ⟨cs,by rw [hle.mkV]; exact e,Le.rep hle _ _ hrep⟩
    cases cm with
    | flat =>
     obtain ⟨r1,rfl⟩:=hret
     exact hleV (RVs.rflats _ _ r1 hvs).pack
    | weak =>
     simp only [Ret] at hret
     split at hret
     ·rename_i bs ks hab
      subst hret
      obtain ⟨fp,r1,r2,_⟩:=b3o (C:=C.frz F) (show C.mm = false by have h1:=hcw rfl; cases h2:md.m with | false => exact h2 | true => have:=hmd h2; rw [h1] at this; cases this) g1 (g0.hok hok) hab hvs
      exact ⟨fp,hleV r1.pack,r2⟩
     ·exact hret.elim
    | fresh =>
     simp only [Ret] at hret
     split at hret
     ·rename_i bs ks hab
      obtain ⟨hnd,rfl⟩:=hret
      obtain ⟨fp,r1,r2⟩:=a1n.repVs g1 (g0.hok hok) _ bs ks _ (by rw [show (C.frz F).dm = true from hcm rfl]; exact hab) hvs
      rw [show (C.frz F).dm = true from hcm rfl] at r1
      refine ⟨fp,hleV r1.pack,r2.nodup (hcm rfl) hnd,fun b hb => ?_⟩
      obtain ⟨k,_,hk⟩:=r2.own (hcm rfl) b hb
      exact (hk.base g1 (hcm rfl)).1
     ·exact hret.elim
   cases e with
   | norm =>
    obtain ⟨h1,v,h2,h3⟩:=fin hret
    exact .norm ⟨h1,v,h2,h3⟩
   | ret =>
    obtain ⟨h1,v,h2,h3⟩:=fin hret
    exact .ret ⟨h1,v,h2,h3⟩
   | exit i => exact hret.elim
  ·cases hc
 ·cases hc
theorem a0a.of_awp {f:Nat} {cm:CM} {args:List AV} {r:AV} {fn:Func} {ac:a0q} {slots:List AOp} {N:Nat} (hm:P.follows .mixedOrders = true) (hf:P.funcs[f]? = some fn) (hc:a1b P fn = some (ac.erase,slots,N)) (hl:args.length ≤ N)
  (hk:awp P (cmD cm:Bool) 0 ac (c4y args) [] (e0i false cm slots r)):a0a P f cm args r:=by
 cases cm
 ·exact a0a.of_awp' (md:=(false:Bool)) (by intro h; cases h) (by intro h; cases h) (by intro h; cases h) hm hf hc hl hk
 ·exact a0a.of_awp' (md:=(true:Bool)) (by intro h; cases h) (by intro _; rfl) (by intro h; cases h) hm hf hc hl hk
 ·exact a0a.of_awp' (md:=(false:Bool)) (by intro h; cases h) (by intro h; cases h) (by intro _; rfl) hm hf hc hl hk
theorem RVs.pack {as:List AV} {vs:List Value} (hr:RVs C σ h w as vs):RV C σ h w (R.pack as) (if hh:vs.length = 1 then vs[0]'(by omega) else .tuple vs.toArray):=by
 have hl:=hr.length
 cases as with
 | nil =>
  have:vs = []:=List.eq_nil_of_length_eq_zero (by rw [hl]; rfl)
  subst this
  simp only [R.pack,RV]
  exact ⟨#[],by simp,by simp [RVs]⟩
 | cons a as =>
  cases as with
  | nil =>
   simp only [RVs] at hr
   obtain ⟨v,vs',rfl,h1,rfl⟩:=hr
   simpa [R.pack] using h1
  | cons b as =>
   have hne:¬ vs.length = 1:=by rw [hl]; simp
   rw [dif_neg hne]
   simp only [R.pack,RV]
   exact ⟨vs.toArray,rfl,by simpa using hr⟩
def e0j (m:Bool) (n0:Nat) (os:List AOp) (t:Nat → AV) (h:List y9) (r:AV) (hout:List y9):Prop :=
 ∃ gs js t' h',ghs m t h gs = some (t',h') ∧ b7j m t' h' os ∧ b9z n0 h'.length js = true ∧ LeH (b3e h' js) hout ∧ Le (ren (a8n js) (R.pack (b6s t' h' os))) r
def e4h (m:Bool) (n0:Nat) (os:List AOp) (r:AV) (hout:List y9):c1h → (Nat → AV) → List y9 → Prop
 | .exit _,_,_ => False
 | .norm,t,h => e0j m n0 os t h r hout
 | .ret,t,h => e0j m n0 os t h r hout
theorem a0z.of_awp {dm:Md} {f:Nat} {args:List AV} {hin hout:List y9} {r:AV} {fn:Func} {ac:a0q} {slots:List AOp} {N:Nat} (hm:P.follows .mixedOrders = true) (hf:P.funcs[f]? = some fn) (hc:a1b P fn = some (ac.erase,slots,N)) (hl:args.length ≤ N)
  (hk:awp P dm hin.length ac (c4y args) hin (e4h dm.m hin.length slots r hout)) (hz:dm.z = false:=by rfl):a0z P dm f args hin r hout:=by
 intro C σ φ w vals hdm hmd hok hbb hr0 hrv
 subst hdm
 unfold a1b at hc
 split at hc
 ·rename_i c s hb hs
  split at hc
  ·rename_i ac' hac
   simp only [Option.some.injEq,Prod.mk.injEq] at hc
   obtain ⟨rfl,rfl,rfl⟩:=hc
   have hvl:=hrv.length
   have hst:St C w σ hin fn.ntmps (c4y args) hin { tmps:=vals.toArray ++ Array.replicate (fn.ntmps - vals.toArray.size) undef,defers:=[] } w:=by
    refine ⟨⟨C.fr,_,_,FrX.refl _ _,hr0,EvX.refl _ _ _,fun n => ?_⟩,by simp; omega,rfl,Below.refl _ _⟩
    unfold c4y
    by_cases hn:n < args.length
    ·have:=(hrv.get hn).1
     have e:(vals.toArray ++ Array.replicate (fn.ntmps - vals.toArray.size) undef).getD n undef = vals.getD n undef:=by
      have:n < vals.length:=by omega
      simp [this,Array.getElem?_append]
     rw [e]
     exact this
    ·have:args.getD n .undef = .undef:=by simp [List.getElem?_eq_none (Nat.le_of_not_lt hn)]
     rw [this]
     simp only [RV]
   refine calls_of_wp hf hb ?_
   refine a2i (C:=C) (w0:=w) (σ0:=σ) (h0:=hin) hmd hm hok hbb (n0:=hin.length) (Nat.le_refl _) ac c hac _ _ _ _ _ _ hst hk ?_
   intro e t h a w' hst' hret
   have fin:e0j C.mm hin.length s t h r hout → a.defers = [] ∧ ∃ v,(results fn a.tmps).run P w' = .ok v w' ∧ ∃ σ' φ',a0b C σ' φ' hout w' ∧ EvX C σ hin w σ' hout w' ∧ RV C σ' hout w' r v ∧ Below C.base w w':=by
    rintro ⟨gs,js,t',h',hg,hread,hjs,hlh,hle⟩
    obtain ⟨j1,j2,j3,j4⟩:=b4e hjs
    have hst2:=d1i hok hst' hg
    have hread:=b8m hread
    rw [b8n] at hle
    obtain ⟨F,σ1,φ1,g0,g1,g2,g3⟩:=hst2.rel
    rw [g0.none hz] at g1 g3
    obtain ⟨vs,hvs,hrun⟩:=b7k (P:=P) g1 g3 hs hread
    refine ⟨hst'.defers,_,hrun,_,_,hlh.heap (d0a j3 j4 g1),(d6v j3 j4 j1 j2 (Nat.le_refl _) g2).trans hlh.ev.x,?_,hst'.below⟩
    exact hlh.ev.rv _ _ (Le.rv hle _ (c6f (b3n j3 j4) (b6c j3 j4) _ _ hvs.pack))
   cases e with
   | norm =>
    obtain ⟨h1,v,h2,h3⟩:=fin hret
    exact .norm ⟨h1,v,h2,h3⟩
   | ret =>
    obtain ⟨h1,v,h2,h3⟩:=fin hret
    exact .ret ⟨h1,v,h2,h3⟩
   | exit i => exact hret.elim
  ·cases hc
 ·cases hc
end
end Go.R
