import Derived.Test.YtldahjcikmpifaaGreatH1
set_option linter.all false
namespace Go.R
open Go Go.RowKit
def e4y (h:List y9):AV → Option (AV × List Nat)
 | .own o 0 n => match h[o]? with
  | some (.row z l) => some (.lst z (l.take n),[o])
  | _ => none
 | a => if R.rflat a = true then some (a,[]) else none
def d0g (h:List y9):List AV → Option (List AV × List Nat)
 | [] => some ([],[])
 | a :: as => match e4y h a,d0g h as with
  | some (b,k),some (bs,ks) => some (b :: bs,k ++ ks)
  | _,_ => none
def c3g (h:List y9):List Nat → Prop
 | [] => True
 | o :: os => (∃ z l,h[o]? = some (.row z l) ∧ ∀ a ∈ l,R.flat a = true) ∧ c3g h os
theorem c3g.mem {h:List y9}:∀ {ks:List Nat},c3g h ks → ∀ o ∈ ks,∃ z l,h[o]? = some (.row z l) ∧ ∀ a ∈ l,R.flat a = true
 | _ :: _,hf,o,ho => by
  rcases List.mem_cons.1 ho with rfl | ho
  ·exact hf.1
  ·exact c3g.mem hf.2 o ho
section
variable {P:Program} {C:Ctx} {σ:Sg} {φ:Nat → List Nat} {h:List y9} {w w':World}
theorem e0r (hr:a0b C σ φ h w) {a b:AV} {ks:List Nat} {v:Value} (ha:e4y h a = some (b,ks)) (hk:∀ o ∈ ks,∃ z l,h[o]? = some (.row z l) ∧ ∀ a ∈ l,R.flat a = true) (hv:RV C σ h w a v) :
  ∃ cs fp,v = mkV b cs ∧ Rep true w b cs fp ∧ fp.Nodup ∧ ∀ g ∈ fp,∃ o ∈ ks,∃ x c,h[o]? = some x ∧ x.isLive = true ∧ σ o = some (g,c):=by
 unfold e4y at ha
 split at ha
 ·rename_i o n
  split at ha
  ·rename_i z l ho
   cases ha
   obtain ⟨z',l',ho',hfl⟩:=hk o (by simp)
   rw [ho] at ho'
   cases ho'
   have hft:∀ a ∈ l.take n,R.flat a = true:=fun a ha => hfl a (List.mem_of_mem_take ha)
   simp only [RV,ho] at hv
   obtain ⟨a,cap,rfl,g1,g2,g3,g4⟩:=hv
   obtain ⟨h0,hob⟩:=hr.obj o _ ho
   have hl:(l.take n).length = n:=by rw [List.length_take]; omega
   cases hs:σ o with
   | none =>
    rw [hs] at hob g4
    obtain ⟨rfl,rfl⟩:=g4
    obtain ⟨rfl,hp⟩:=hob
    have hn:n = 0:=by omega
    subst hn
    refine ⟨[.slice none 0 0],[],rfl,?_,List.nodup_nil,by simp⟩
    simp only [Rep]
    exact .inl ⟨by simp,by simp,none,0,rfl,Nat.zero_le _,fun _ => ⟨rfl,rfl⟩⟩
   | some p =>
    obtain ⟨g,c⟩:=p
    rw [hs] at hob g4
    obtain ⟨rfl,rfl⟩:=g4.2 rfl
    obtain ⟨h1,cur,e,h2,h3,h4,h5⟩:=hob
    have hp:=a0n.flat _ _ _ hfl h4
    rw [hp] at h4
    obtain ⟨f,f',hff,h6⟩:=a0n.take n h4
    have hf0:f = []:=(List.append_eq_nil_iff.1 hff.symm).1
    subst hf0
    refine ⟨[.slice (some ⟨g,0,none⟩) (l.take n).length cap],[g],by rw [hl]; rfl,?_,by simp,?_⟩
    ·simp only [Rep]
     exact .inr ⟨g,0,cap,cur,e,(0,0),[],rfl,by rw [hl]; exact g2,g3,h2,fun _ => ⟨rfl,rfl,h3⟩,rfl,h0,by simpa using a0n.flatOwn (m':=true) _ _ _ hft h6⟩
    ·intro g' hg'
     simp only [List.mem_singleton] at hg'
     subst hg'
     exact ⟨o,by simp,_,cap,ho,rfl,hs⟩
  ·cases ha
 ·split at ha
  ·rename_i hf
   cases ha
   obtain ⟨cs,e,hrep⟩:=RV.rflat (m:=true) hf hv
   exact ⟨cs,[],e,hrep,List.nodup_nil,by simp⟩
  ·cases ha
theorem d0h (hr:a0b C σ φ h w):∀ {as bs:List AV} {ks:List Nat} {vs:List Value},d0g h as = some (bs,ks) → ks.Nodup → (∀ o ∈ ks,∃ z l,h[o]? = some (.row z l) ∧ ∀ a ∈ l,R.flat a = true) → RVs C σ h w as vs →
  ∃ fp,a1q true w bs vs fp ∧ fp.Nodup ∧ ∀ g ∈ fp,∃ o ∈ ks,∃ x c,h[o]? = some x ∧ x.isLive = true ∧ σ o = some (g,c)
 | [],bs,ks,vs,ha,_,_,hv => by
  simp only [d0g] at ha
  cases ha
  simp only [RVs] at hv
  subst hv
  exact ⟨[],by simp [a1q],List.nodup_nil,by simp⟩
 | a :: as,bs,ks,vs,ha,hn,hk,hv => by
  simp only [d0g] at ha
  split at ha
  ·rename_i b k bs' ks' h1 h2
   cases ha
   simp only [RVs] at hv
   obtain ⟨v,vs',rfl,g1,g2⟩:=hv
   rw [List.nodup_append] at hn
   obtain ⟨n1,n2,n3⟩:=hn
   obtain ⟨cs,f1,e1,r1,d1,m1⟩:=e0r hr h1 (fun o ho => hk o (by simp [ho])) g1
   obtain ⟨f2,r2,d2,m2⟩:=d0h hr h2 n2 (fun o ho => hk o (by simp [ho])) g2
   refine ⟨f1 ++ f2,?_,?_,?_⟩
   ·simp only [a1q]
    exact ⟨cs,vs',f1,f2,by rw [e1],r1,r2,rfl⟩
   ·rw [List.nodup_append]
    refine ⟨d1,d2,?_⟩
    intro x hx y hy hxy
    subst hxy
    obtain ⟨o,ho,q,c,k1,k2,k3⟩:=m1 x hx
    obtain ⟨o',ho',q',c',k1',k2',k3'⟩:=m2 x hy
    exact n3 o ho o' ho' (hr.inj o o' q q' x c c' k1 k2 k1' k2' k3 k3')
   ·intro g hg
    rcases List.mem_append.1 hg with hg | hg
    ·obtain ⟨o,ho,r⟩:=m1 g hg
     exact ⟨o,by simp [ho],r⟩
    ·obtain ⟨o,ho,r⟩:=m2 g hg
     exact ⟨o,by simp [ho],r⟩
  ·cases ha
end
def e0s (os:List AOp) (t:Nat → AV) (h:List y9) (r:AV):Prop:=b7j false t h os ∧ ∃ bs ks,d0g h (b6s t h os) = some (bs,ks) ∧ ks.Nodup ∧ c3g h ks ∧ Le (R.pack bs) r
def e4j (os:List AOp) (r:AV):c1h → (Nat → AV) → List y9 → Prop
 | .exit _,_,_ => False
 | .norm,t,h => e0s os t h r
 | .ret,t,h => e0s os t h r
theorem a0a.of_awpF {P:Program} {f:Nat} {args:List AV} {r:AV} {fn:Func} {ac:a0q} {slots:List AOp} {N:Nat} (hm:P.follows .mixedOrders = true) (hf:P.funcs[f]? = some fn) (hc:a1b P fn = some (ac.erase,slots,N)) (hl:args.length ≤ N)
  (hk:awp P (false:Bool) 0 ac (c4y args) [] (e4j slots r)):a0a P f .fresh args r:=by
 intro w vals fps hargs
 unfold a1b at hc
 split at hc
 ·rename_i c s hb hs
  split at hc
  ·rename_i ac' hac
   simp only [Option.some.injEq,Prod.mk.injEq] at hc
   obtain ⟨rfl,rfl,rfl⟩:=hc
   let C:Ctx:={ base:=w.heap.size,ok:=fun b => b ∈ fps ∨ w.heap.size ≤ b,dm:=false,fr:=fun _ => False,mm:=false }
   have hok:∀ b,C.mine b → C.ok b:=fun b hb => .inr hb.1
   have hbb:∀ b,w.heap.size ≤ b → C.mine b:=fun b hb => ⟨hb,fun h => h⟩
   have hr0:a0b C (fun _ => none) (fun _ => []) [] w:=⟨by simp,by simp,by simp,by simp⟩
   have hnl:∀ b,¬ liveAt ([]:List y9) (fun _ => none) b:=by rintro b ⟨o,x,c,h1,_⟩; simp at h1
   have hrv:RVs C (fun _ => none) [] w args vals:=a1q.rvs args vals fps hargs (fun b hb => ⟨⟨.inl hb,fun _ hm => by have h1:=hargs.lt _ _ _ b hb; have h2:=hm.1; have h3:w.heap.size ≤ b:=h2; omega⟩,hnl b⟩)
   have hvl:=hargs.length
   have hst:St C w (fun _ => none) [] fn.ntmps (c4y args) [] { tmps:=vals.toArray ++ Array.replicate (fn.ntmps - vals.toArray.size) undef,defers:=[] } w:=by
    refine ⟨⟨C.fr,_,_,FrX.refl _ _,hr0,EvX.refl _ _ _,fun n => ?_⟩,by simp; omega,rfl,Below.refl _ _⟩
    unfold c4y
    by_cases hn:n < args.length
    ·have:=(hrv.get hn).1
     have e:(vals.toArray ++ Array.replicate (fn.ntmps - vals.toArray.size) undef).getD n undef = vals.getD n undef:=by
      have:n < vals.length:=by omega
      simp [this,Array.getElem?_append]
     rw [e]
     exact this
    ·have:args.getD n .undef = .undef:=by simp [List.getElem?_eq_none (Nat.le_of_not_lt hn)]
     rw [this]
     simp only [RV]
   refine calls_of_wp hf hb ?_
   refine a2i (C:=C) (w0:=w) (σ0:=fun _ => none) (h0:=[]) (fun h => by cases h) hm hok hbb (n0:=0) (by simp) ac c hac _ _ _ _ _ _ hst hk ?_
   intro e t h a w' hst' hret
   have fin:e0s s t h r → a.defers = [] ∧ ∃ v,(results fn a.tmps).run P w' = .ok v w' ∧ Below w.heap.size w w' ∧ e4m .fresh w w' fps r v:=by
    rintro ⟨hread,bs,ks,hab,hnd,hkk,hle⟩
    have hread:=b8m hread
    rw [b8n] at hab
    obtain ⟨F,σ,φ,g0,g1,g2,g3⟩:=hst'.rel
    rw [g0.none rfl] at g1 g3
    obtain ⟨vs,hvs,hrun⟩:=b7k (P:=P) g1 g3 hs hread
    refine ⟨hst'.defers,_,hrun,hst'.below,?_⟩
    obtain ⟨fp,r1,r2,r3⟩:=d0h g1 hab hnd hkk.mem hvs
    obtain ⟨cs,e1,hrep⟩:=r1.pack
    refine ⟨fp,⟨cs,by rw [hle.mkV]; exact e1,Le.rep hle _ _ hrep⟩,r2,fun b hb => ?_⟩
    obtain ⟨o,_,x,c,k1,k2,k3⟩:=r3 b hb
    exact (g1.base o x b c k1 k2 k3).1
   cases e with
   | norm =>
    obtain ⟨h1,v,h2,h3⟩:=fin hret
    exact .norm ⟨h1,v,h2,h3⟩
   | ret =>
    obtain ⟨h1,v,h2,h3⟩:=fin hret
    exact .ret ⟨h1,v,h2,h3⟩
   | exit i => exact hret.elim
  ·cases hc
 ·cases hc
theorem d3u {t:Nat → AV} {h:List y9} {os:List AOp} {r:AV} {bs:List AV} {ks:List Nat} (hp:b7j false t h os) (ha:d0g h (b6s t h os) = some (bs,ks)) (hn:ks.Nodup) (hk:c3g h ks) (hl:Le (R.pack bs) r):e4j os r .ret t h:=⟨hp,bs,ks,ha,hn,hk,hl⟩
end Go.R
