import Derived.Test.YtldahjcikmpifaaGreatC21s
import Derived.Scope
set_option linter.all false
namespace Go.R
open Go Go.RowKit
inductive a0q where
 | skip
 | reg (T:b0f)
 | seq (a b:a0q)
 | cond (c:AX) (a b:a0q)
 | block (id:Nat) (c:a0q)
 | loop (c:a0q)
 | exit (id:Nat)
 | ret
 | cut (c:a0q)
 | rev (c:a0q)
def a0q.erase:a0q → a0q
 | .skip => .skip
 | .reg T => .reg T
 | .seq a b => .seq a.erase b.erase
 | .cond c a b => .cond c a.erase b.erase
 | .block id c => .block id c.erase
 | .loop c => .loop c.erase
 | .exit id => .exit id
 | .ret => .ret
 | .cut c => c.erase
 | .rev c => c.erase
inductive c1h where
 | norm
 | exit (id:Nat)
 | ret
def ofL:List (Nat × AV) → Nat → AV
 | [],_ => .undef
 | (k,v) :: r,n => if n = k then v else ofL r n
abbrev AQ:=c1h → (Nat → AV) → List y9 → Prop
def kN (Q:AQ) (t:Nat → AV) (h:List y9):Prop:=Q .norm t h
def d3p (F:(Nat → AV) → List y9 → AQ → Prop) (Q:AQ):c1h → (Nat → AV) → List y9 → Prop
 | .norm,t,h => F t h Q
 | .exit i,t,h => Q (.exit i) t h
 | .ret,t,h => Q .ret t h
def d1j (id:Nat) (Q:AQ):c1h → (Nat → AV) → List y9 → Prop
 | .norm,t,h => Q .norm t h
 | .exit i,t,h => if i = id then Q .norm t h else Q (.exit i) t h
 | .ret,t,h => Q .ret t h
def d6w {X:Type} (m:Bool) (n0:Nat) (S:X → List (Nat × AV) × List y9) (μ:X → Nat) (x:X) (Q:AQ):c1h → (Nat → AV) → List y9 → Prop
 | .norm,t,h => ∃ y,μ y < μ x ∧ b6r m n0 t h (S y)
 | .exit i,t,h => Q (.exit i) t h
 | .ret,t,h => Q .ret t h
def e4r (c:AX) (b:Bool) (t:Nat → AV):Nat → AV:=match c with
 | .t n => upd t n (.bool b)
 | .c _ => t
def e0g (m:Bool) (n0:Nat) (F:(Nat → AV) → List y9 → AQ → Prop) (t:Nat → AV) (h:List y9) (Q:AQ):Prop :=
 ∃ (X:Type) (S:X → List (Nat × AV) × List y9) (μ:X → Nat) (x0:X),b6r m n0 t h (S x0) ∧ ∀ x,F (ofL (S x).1) (S x).2 (d6w m n0 S μ x Q)
def e2x (m:Bool) (n0:Nat) (F:(Nat → AV) → List y9 → AQ → Prop) (t:Nat → AV) (h:List y9) (Q:AQ):Prop :=
 ∃ s,b6r m n0 t h s ∧ F (ofL s.1) s.2 Q
def b0n (dm:Md) (t:Nat → AV) (h:List y9) (F:(Nat → AV) → List y9 → Prop):Prop :=
 (∃ (o i f z:Nat) (l:List AV) (el:AV) (z':Nat) (l':List AV),h[o]? = some (.row z l) ∧ l[i]? = some el ∧ el.cells[f]? = some (.lst z' l') ∧ ∀ v,F t (h.set o (.row z (l.set i (b3i el f (.hdr v z' l')))))) ∨
 ((dm.m = true ∧ dm.d = true) ∧ ∃ (o i z:Nat) (l:List AV) (el el2:AV) (xs:List y9),h[o]? = some (.row z l) ∧ l[i]? = some el ∧ a2z h.length el.cells = (el2.cells,xs) ∧ F t (h.set o (.rowx z l i el2) ++ xs)) ∨
 ∃ gs t' h' h'',ghs dm.m t h gs = some (t',h') ∧ LeH h' h'' ∧ F t' h''
def awp (P:Program) (dm:Md) (n0:Nat):a0q → (Nat → AV) → List y9 → AQ → Prop
 | .skip,t,h,Q => Q .norm t h
 | .reg T,t,h,Q => a5g P dm T t h (kN Q)
 | .seq a b,t,h,Q => awp P dm n0 a t h (d3p (awp P dm n0 b) Q)
 | .cond c a b,t,h,Q => match c.ev t with
  | .bool v => if v = true then awp P dm n0 a (e4r c true t) h Q else awp P dm n0 b (e4r c false t) h Q
  | _ => False
 | .block id c,t,h,Q => awp P dm n0 c t h (d1j id Q)
 | .loop c,t,h,Q => e0g dm.m n0 (awp P dm n0 c) t h Q
 | .exit i,t,h,Q => Q (.exit i) t h
 | .ret,t,h,Q => Q .ret t h
 | .cut c,t,h,Q => e2x dm.m n0 (awp P dm n0 c) t h Q
 | .rev c,t,h,Q => b0n dm t h fun t' h' => awp P dm n0 c t' h' Q
theorem d0b {c:AX} {b:Bool} {t:Nat → AV} (h:c.ev t = .bool b):e4r c b t = t:=by
 cases c with
 | t n => exact b2s h
 | c v => rfl
def a7t (P:Program) (N:Nat):Code → Option a0q
 | .skip => some .skip
 | .label _ => some .skip
 | .region _ ops draw => match ocs P ops N ops.toList with
  | none => none
  | some rs => match draw with
   | false => some (.reg (lin rs))
   | true => match chk ops rs with
    | true => some (.reg (mkT ops rs (ops.size + 1) []))
    | false => none
 | .seq a b => match a7t P N a,a7t P N b with
  | some a,some b => some (.seq a b)
  | _,_ => none
 | .cond c a b => match cx c,a7t P N a,a7t P N b with
  | some c,some a,some b => some (.cond c a b)
  | _,_,_ => none
 | .block id c => match a7t P N c with
  | some c => some (.block id c)
  | none => none
 | .loop c => match a7t P N c with
  | some c => some (.loop c)
  | none => none
 | .scope c => a7t P N c
 | .exit i => some (.exit i)
 | .ret => some .ret
 | _ => none
section
variable {P:Program} {C:Ctx} {w0:World} {σ0:Sg} {h0:List y9} {N n0:Nat}
theorem e0h {σ:Sg} {h:List y9} {w:World} {g:Nat → Value}:∀ (bs:List (Nat × AV)),(∀ p ∈ bs,RV C σ h w p.2 (g p.1)) → ∀ n,RV C σ h w (ofL bs n) (g n)
 | [],_,n => by simp only [ofL,RV]
 | (k,v) :: r,hb,n => by
  simp only [ofL]
  split
  ·rename_i he; subst he; exact hb (n,v) (List.mem_cons_self ..)
  ·exact e0h r (fun p hp => hb p (List.mem_cons_of_mem _ hp)) n
theorem b6r.st {t:Nat → AV} {h:List y9} {a:Act} {w:World} {s:List (Nat × AV) × List y9} (hok:∀ b,C.mine b → C.ok b) (hn:h0.length ≤ n0) (hs:St C w0 σ0 h0 N t h a w) (hf:b6r C.mm n0 t h s):St C w0 σ0 h0 N (ofL s.1) s.2 a w:=by
 obtain ⟨F,σ,φ,h0',h1,h2,h3⟩:=hf.rel hok hn hs
 exact ⟨⟨F,σ,φ,h0',h1,h2,e0h (g:=fun n => a.tmps.getD n Go.undef) s.1 h3⟩,hs.size,hs.defers,hs.below⟩
theorem b0n.st (hok:∀ b,C.mine b → C.ok b) {t:Nat → AV} {h:List y9} {a:Act} {w:World} {F:(Nat → AV) → List y9 → Prop} (hs:St C w0 σ0 h0 N t h a w) (hk:b0n C.md t h F):∃ t' h',St C w0 σ0 h0 N t' h' a w ∧ F t' h':=by
 rcases hk with ⟨o,i,f,z,l,el,z',l',h1,h2,h3,h4⟩ | ⟨⟨hmm,hdm⟩,o,i,z,l,el,el2,xs,h1,h2,h3,h4⟩ | ⟨gs,t',h',h'',h1,h2,h3⟩
 ·obtain ⟨F,σ,φ,g0,g1,g2,g3⟩:=hs.rel
  obtain ⟨v,φ',k1,k2⟩:=d1c g1 h1 h2 h3
  exact ⟨t,_,⟨⟨F,σ,φ',g0,k1,g2.trans k2.x,fun n => k2.rv _ _ (g3 n)⟩,hs.size,hs.defers,hs.below⟩,h4 v⟩
 ·obtain ⟨F,σ,φ,g0,g1,g2,g3⟩:=hs.rel
  obtain ⟨σ',φ',k1,k2⟩:=d8i (C:=C.frz F) hmm hdm g1 h1 h2 h3
  exact ⟨t,_,⟨⟨F,σ',φ',g0,k1,g2.trans (g0.ev k2),fun n => k2.rv _ _ (g3 n)⟩,hs.size,hs.defers,hs.below⟩,h4⟩
 ·have hs':=d1i hok hs h1
  obtain ⟨F,σ,φ,g0,g1,g2,g3⟩:=hs'.rel
  exact ⟨t',h'',⟨⟨F,σ,φ,g0,h2.heap g1,g2.trans h2.ev.x,fun n => h2.ev.rv _ _ (g3 n)⟩,hs'.size,hs'.defers,hs'.below⟩,h3⟩
theorem c0c {p:Nat → Prop} (h:∃ n,p n):∃ n,p n ∧ ∀ m,p m → n ≤ m:=by
 obtain ⟨n,hn⟩:=h
 induction n using Nat.strongRecOn with
 | _ n ih =>
  by_cases hm:∃ m,m < n ∧ p m
  ·obtain ⟨m,h1,h2⟩:=hm
   exact ih m h1 h2
  ·exact ⟨n,hn,fun m hm' => Nat.le_of_not_lt fun hlt => hm ⟨m,hlt,hm'⟩⟩
inductive c1i (Q:Exit → Act → World → Prop):c1h → Act → World → Prop
 | norm {a w}:Q .normal a w → c1i Q .norm a w
 | exit {i a w}:Q (.exit i) a w → c1i Q (.exit i) a w
 | ret {a w}:Q .ret a w → c1i Q .ret a w
theorem St.drew {t:Nat → AV} {h:List y9} {a:Act} {w:World} (hs:St C w0 σ0 h0 N t h a w):St C w0 σ0 h0 N t h a { w with drawn:=w.drawn + 1 }:=by
 obtain ⟨F,σ,φ,h0',h1,h2,h3⟩:=hs.rel
 have g:b2p w { w with drawn:=w.drawn + 1 }:=b2p.drew w
 exact ⟨⟨F,σ,φ,h0'.grow (Nat.le_refl _),g.heap h1,h2.trans g.ev.x,fun n => g.ev.rv _ _ (h3 n)⟩,hs.size,hs.defers,hs.below.trans ⟨rfl,rfl,rfl,Nat.le_refl _,fun _ _ => rfl⟩⟩
theorem a2i (hmd:C.mm = true → C.dm = true) (hm:P.follows .mixedOrders = true) (hok:∀ b,C.mine b → C.ok b) (hb:∀ b,w0.heap.size ≤ b → C.mine b) (hn:h0.length ≤ n0) (ac:a0q) (code:Code) (hc:a7t P N code = some ac.erase)
  (t:Nat → AV) (h:List y9) (a:Act) (w:World) (Q:c1h → (Nat → AV) → List y9 → Prop) (Q':Exit → Act → World → Prop)
   (hs:St C w0 σ0 h0 N t h a w) (hk:awp P C.md n0 ac t h Q) (hQ:∀ e t h a w,St C w0 σ0 h0 N t h a w → Q e t h → c1i Q' e a w):code.wp P Q' a w:=by
 cases code with
 | scope x =>
  simp only [a7t] at hc
  refine wp_scope_straight (a2i hmd hm hok hb hn ac x hc t h a w Q _ hs hk ?_)
  intro e t' h' a' w' hs' hk'
  cases hQ _ _ _ _ _ hs' hk' with
  | norm hq => exact .norm hq
  | exit hq => exact .exit hq
  | ret hq => exact .ret hq
 | skip =>
  cases ac with
  | cut c =>
   obtain ⟨s,h1,h2⟩:=hk
   exact a2i hmd hm hok hb hn c .skip hc _ _ a w Q Q' (h1.st hok hn hs) h2 hQ
  | rev c =>
   obtain ⟨t',h',h1,h2⟩:=b0n.st hok hs hk
   exact a2i hmd hm hok hb hn c .skip hc _ _ a w Q Q' h1 h2 hQ
  | skip =>
   cases hQ _ _ _ _ _ hs hk with
   | norm hq => exact wp_skip hq
  | _ => simp [a7t,a0q.erase] at hc
 | label l =>
  cases ac with
  | cut c =>
   obtain ⟨s,h1,h2⟩:=hk
   exact a2i hmd hm hok hb hn c (.label l) hc _ _ a w Q Q' (h1.st hok hn hs) h2 hQ
  | rev c =>
   obtain ⟨t',h',h1,h2⟩:=b0n.st hok hs hk
   exact a2i hmd hm hok hb hn c (.label l) hc _ _ a w Q Q' h1 h2 hQ
  | skip =>
   cases hQ _ _ _ _ _ hs hk with
   | norm hq => exact wp_label hq
  | _ => simp [a7t,a0q.erase] at hc
 | exit i =>
  cases ac with
  | cut c =>
   obtain ⟨s,h1,h2⟩:=hk
   exact a2i hmd hm hok hb hn c (.exit i) hc _ _ a w Q Q' (h1.st hok hn hs) h2 hQ
  | rev c =>
   obtain ⟨t',h',h1,h2⟩:=b0n.st hok hs hk
   exact a2i hmd hm hok hb hn c (.exit i) hc _ _ a w Q Q' h1 h2 hQ
  | exit j =>
   simp only [a7t,a0q.erase,Option.some.injEq,a0q.exit.injEq] at hc
   subst hc
   cases hQ _ _ _ _ _ hs hk with
   | exit hq => exact wp_exit hq
  | _ => simp [a7t,a0q.erase] at hc
 | ret =>
  cases ac with
  | cut c =>
   obtain ⟨s,h1,h2⟩:=hk
   exact a2i hmd hm hok hb hn c .ret hc _ _ a w Q Q' (h1.st hok hn hs) h2 hQ
  | rev c =>
   obtain ⟨t',h',h1,h2⟩:=b0n.st hok hs hk
   exact a2i hmd hm hok hb hn c .ret hc _ _ a w Q Q' h1 h2 hQ
  | ret =>
   cases hQ _ _ _ _ _ hs hk with
   | ret hq => exact wp_ret hq
  | _ => simp [a7t,a0q.erase] at hc
 | region id ops draw =>
  cases ac with
  | cut c =>
   obtain ⟨s,h1,h2⟩:=hk
   exact a2i hmd hm hok hb hn c (.region id ops draw) hc _ _ a w Q Q' (h1.st hok hn hs) h2 hQ
  | rev c =>
   obtain ⟨t',h',h1,h2⟩:=b0n.st hok hs hk
   exact a2i hmd hm hok hb hn c (.region id ops draw) hc _ _ a w Q Q' h1 h2 hQ
  | reg T =>
   simp only [a7t,a0q.erase] at hc
   simp only [awp] at hk
   cases hrs:ocs P ops N ops.toList with
   | none => rw [hrs] at hc; cases hc
   | some rs =>
    rw [hrs] at hc
    simp only at hc
    have hq:∀ t h a w,St C w0 σ0 h0 N t h a w → Q .norm t h → Q' .normal a w:=by
     intro t h a w hs hk
     cases hQ _ _ _ _ _ hs hk with
     | norm hq => exact hq
    cases draw with
    | false =>
     simp only at hc
     cases hc
     exact wp_region_list (c9w hmd hok hb (d1h hrs) hq _ rs t h a w hrs hs hk)
    | true =>
     simp only at hc
     split at hc
     ·rename_i hch
      cases hc
      refine wp_region_any hm ?_
      have hnl:∀ i,¬ LT (Array.replicate ops.size false) i:=by
       intro i hl
       unfold LT at hl
       rcases Nat.lt_or_ge i ops.size with h | h
       ·simp [h] at hl
       ·simp [h] at hl
      refine d5t hrs hch hmd hok hb hq ops.size _ (List.range ops.size) (ops.size + 1) [] t h a a _ (List.nodup_range) ?_ (by simp) ⟨by simp,fun i hl => absurd hl (hnl i),by simp,fun i hl => absurd hl (hnl i),trivial,hs.drew,hs.size,hs.defers,fun _ _ => rfl⟩ hk
      intro i
      rw [List.mem_range]
      exact ⟨fun hi => ⟨hi,hnl i⟩,fun hi => hi.1⟩
     ·cases hc
  | _ =>
   simp only [a7t,a0q.erase] at hc
   split at hc
   ·cases hc
   ·split at hc
    ·cases hc
    ·split at hc <;> cases hc
 | seq x y =>
  cases ac with
  | cut c =>
   obtain ⟨s,h1,h2⟩:=hk
   exact a2i hmd hm hok hb hn c (.seq x y) hc _ _ a w Q Q' (h1.st hok hn hs) h2 hQ
  | rev c =>
   obtain ⟨t',h',h1,h2⟩:=b0n.st hok hs hk
   exact a2i hmd hm hok hb hn c (.seq x y) hc _ _ a w Q Q' h1 h2 hQ
  | seq ax ay =>
   simp only [a7t,a0q.erase] at hc
   split at hc
   ·rename_i e1 e2
    simp only [Option.some.injEq,a0q.seq.injEq] at hc
    obtain ⟨rfl,rfl⟩:=hc
    simp only [awp] at hk
    refine wp_seq (a2i hmd hm hok hb hn ax x e1 t h a w _ _ hs hk ?_)
    intro e t' h' a' w' hs' hk'
    cases e with
    | norm => exact .norm (a2i hmd hm hok hb hn ay y e2 t' h' a' w' Q Q' hs' hk' hQ)
    | exit i =>
     cases hQ _ _ _ _ _ hs' hk' with
     | exit hq => exact .exit hq
    | ret =>
     cases hQ _ _ _ _ _ hs' hk' with
     | ret hq => exact .ret hq
   ·cases hc
  | _ =>
   simp only [a7t,a0q.erase] at hc
   split at hc <;> cases hc
 | cond c x y =>
  cases ac with
  | cut c' =>
   obtain ⟨s,h1,h2⟩:=hk
   exact a2i hmd hm hok hb hn c' (.cond c x y) hc _ _ a w Q Q' (h1.st hok hn hs) h2 hQ
  | rev c' =>
   obtain ⟨t',h',h1,h2⟩:=b0n.st hok hs hk
   exact a2i hmd hm hok hb hn c' (.cond c x y) hc _ _ a w Q Q' h1 h2 hQ
  | cond ca ax ay =>
   simp only [a7t,a0q.erase] at hc
   split at hc
   ·rename_i e0 e1 e2
    simp only [Option.some.injEq,a0q.cond.injEq] at hc
    obtain ⟨rfl,rfl,rfl⟩:=hc
    simp only [awp] at hk
    obtain ⟨F,σ,φ,g0,g1,g2,g3,g4⟩:=hs.env
    have hv:=g4 c _ e0
    split at hk
    ·rename_i v hv'
     rw [hv'] at hv
     simp only [RV] at hv
     refine wp_cond_split hv (fun hvt => ?_) (fun hvf => ?_)
     ·subst hvt
      rw [if_pos rfl,d0b hv'] at hk
      exact a2i hmd hm hok hb hn ax x e1 t h a w Q Q' hs hk hQ
     ·subst hvf
      rw [if_neg (by simp),d0b hv'] at hk
      exact a2i hmd hm hok hb hn ay y e2 t h a w Q Q' hs hk hQ
    ·exact hk.elim
   ·cases hc
  | _ =>
   simp only [a7t,a0q.erase] at hc
   split at hc <;> cases hc
 | block id x =>
  cases ac with
  | cut c =>
   obtain ⟨s,h1,h2⟩:=hk
   exact a2i hmd hm hok hb hn c (.block id x) hc _ _ a w Q Q' (h1.st hok hn hs) h2 hQ
  | rev c =>
   obtain ⟨t',h',h1,h2⟩:=b0n.st hok hs hk
   exact a2i hmd hm hok hb hn c (.block id x) hc _ _ a w Q Q' h1 h2 hQ
  | block id' ax =>
   simp only [a7t,a0q.erase] at hc
   split at hc
   ·rename_i e1
    simp only [Option.some.injEq,a0q.block.injEq] at hc
    obtain ⟨rfl,rfl⟩:=hc
    simp only [awp] at hk
    refine wp_block (a2i hmd hm hok hb hn ax x e1 t h a w _ _ hs hk ?_)
    intro e t' h' a' w' hs' hk'
    cases e with
    | norm =>
     cases hQ _ _ _ _ _ hs' hk' with
     | norm hq => exact .norm hq
    | exit i =>
     refine .exit ?_
     simp only [Exit.inBlock]
     by_cases he:i = id
     ·rw [if_pos he]
      simp only [d1j,if_pos he] at hk'
      cases hQ _ _ _ _ _ hs' hk' with
      | norm hq => exact hq
     ·rw [if_neg he]
      simp only [d1j,if_neg he] at hk'
      cases hQ _ _ _ _ _ hs' hk' with
      | exit hq => exact hq
    | ret =>
     cases hQ _ _ _ _ _ hs' hk' with
     | ret hq => exact .ret hq
   ·cases hc
  | _ =>
   simp only [a7t,a0q.erase] at hc
   split at hc <;> cases hc
 | loop x =>
  cases ac with
  | cut c =>
   obtain ⟨s,h1,h2⟩:=hk
   exact a2i hmd hm hok hb hn c (.loop x) hc _ _ a w Q Q' (h1.st hok hn hs) h2 hQ
  | rev c =>
   obtain ⟨t',h',h1,h2⟩:=b0n.st hok hs hk
   exact a2i hmd hm hok hb hn c (.loop x) hc _ _ a w Q Q' h1 h2 hQ
  | loop ax =>
   simp only [a7t,a0q.erase] at hc
   split at hc
   ·rename_i e1
    simp only [Option.some.injEq,a0q.loop.injEq] at hc
    subst hc
    simp only [awp] at hk
    obtain ⟨X,S,μ,x0,hf,hround⟩:=hk
    have hmin:∀ a w,(∃ x,St C w0 σ0 h0 N (ofL (S x).1) (S x).2 a w) → ∃ n,∃ x,μ x = n ∧ St C w0 σ0 h0 N (ofL (S x).1) (S x).2 a w:=fun a w ⟨x,hx⟩ => ⟨μ x,x,rfl,hx⟩
    classical
    let M:Act → World → Nat:=fun a w => if he:∃ n,∃ x,μ x = n ∧ St C w0 σ0 h0 N (ofL (S x).1) (S x).2 a w then Classical.choose (c0c he) else 0
    refine wp_loop (fun a w => ∃ x,St C w0 σ0 h0 N (ofL (S x).1) (S x).2 a w) M ⟨x0,hf.st hok hn hs⟩ ?_
    intro a1 w1 hI
    have he:=hmin a1 w1 hI
    obtain ⟨x1,hx1,hs1⟩:=(Classical.choose_spec (c0c he)).1
    have hM:M a1 w1 = μ x1:=by simp only [M]; rw [dif_pos he,hx1]
    refine a2i hmd hm hok hb hn ax x e1 _ _ a1 w1 _ _ hs1 (hround x1) ?_
    intro e t' h' a' w' hs' hk'
    cases e with
    | norm =>
     obtain ⟨y,hy,hfy⟩:=hk'
     have hs2:=hfy.st hok hn hs'
     refine .norm ⟨⟨y,hs2⟩,?_⟩
     have he2:∃ n,∃ x,μ x = n ∧ St C w0 σ0 h0 N (ofL (S x).1) (S x).2 a' w':=⟨μ y,y,rfl,hs2⟩
     have:M a' w' ≤ μ y:=by simp only [M]; rw [dif_pos he2]; exact (Classical.choose_spec (c0c he2)).2 _ ⟨y,rfl,hs2⟩
     omega
    | exit i =>
     cases hQ _ _ _ _ _ hs' hk' with
     | exit hq => exact .exit hq
    | ret =>
     cases hQ _ _ _ _ _ hs' hk' with
     | ret hq => exact .ret hq
   ·cases hc
  | _ =>
   simp only [a7t,a0q.erase] at hc
   split at hc <;> cases hc
 | rangeFunc a b c d => simp [a7t] at hc
 | goto _ => simp [a7t] at hc
 | refuse _ => simp [a7t] at hc
termination_by SizeOf.sizeOf ac + SizeOf.sizeOf code
end
end Go.R
