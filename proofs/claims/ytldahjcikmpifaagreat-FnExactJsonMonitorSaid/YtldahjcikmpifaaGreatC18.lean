import Derived.Test.YtldahjcikmpifaaGreatC17
set_option linter.all false
namespace Go.R
open Go Go.RowKit
structure a4q where
 dst:Option Nat
 guard:Option (Nat × Bool)
 op:AOp
def b4o (t:Nat → AV) (d:Option Nat) (v:AV):Nat → AV:=match d with
 | some d => upd t d v
 | none => t
def c1f (P:Program) (dm:Md) (o:a4q) (t:Nat → AV) (h:List y9) (k:AV → List y9 → Prop):Prop :=
 match o.guard with
 | none => a4s P dm o.op (AX.ev t) h k
 | some (s,b) => match t s with
  | .bool b' => (b' = b → a4s P dm o.op (AX.ev t) h k) ∧ (b' = (!b) → k .skip h)
  | .skip => k .skip h
  | _ => False
theorem b2s {t:Nat → AV} {s:Nat} {v:AV} (h:t s = v):upd t s v = t:=by
 funext m
 unfold upd
 split
 ·rename_i e; rw [e,h]
 ·rfl
def b7h (P:Program) (dm:Md) (o:a4q) (t:Nat → AV) (h:List y9) (k:(Nat → AV) → AV → List y9 → Prop):Prop :=
 match o.guard with
 | none => a4s P dm o.op (AX.ev t) h (k t)
 | some (s,b) => match t s with
  | .bool b' => if b' = b then a4s P dm o.op (AX.ev (upd t s (.bool b))) h (k (upd t s (.bool b))) else k (upd t s (.bool !b)) .skip h
  | .skip => k t .skip h
  | _ => False
theorem b7h.old {P:Program} {dm:Md} {o:a4q} {t:Nat → AV} {h:List y9} {k:(Nat → AV) → AV → List y9 → Prop} (ha:b7h P dm o t h k):c1f P dm o t h (k t):=by
 unfold b7h at ha
 unfold c1f
 cases hg:o.guard with
 | none => simpa only [hg] using ha
 | some sb =>
  obtain ⟨s,b⟩:=sb
  simp only [hg] at ha ⊢
  cases ht:t s with
  | bool b' =>
   simp only [ht] at ha ⊢
   by_cases he:b' = b
   ·subst he
    rw [if_pos rfl,b2s ht] at ha
    exact ⟨fun _ => ha,fun hn => by cases b' <;> simp at hn⟩
   ·rw [if_neg he] at ha
    have hb:(!b) = b':=by cases b <;> cases b' <;> simp_all
    rw [hb,b2s ht] at ha
    exact ⟨fun hn => absurd hn he,fun _ => ha⟩
  | skip => simpa only [ht] using ha
  | _ => simp only [ht] at ha
def again (m:Bool) (o:a4q) (t:Nat → AV) (h:List y9):Prop :=
 match o.dst with
 | none => False
 | some d => match o.guard with
  | none => aqQ m o.op (AX.ev t) h ∧ t d = aqV o.op (AX.ev t) h
  | some (s,b) => match t s with
   | .bool b' => (b' = b → aqQ m o.op (AX.ev t) h ∧ t d = aqV o.op (AX.ev t) h) ∧ (b' = (!b) → t d = .skip)
   | .skip => t d = .skip
   | _ => False
def d1f (m:Bool) (t:Nat → AV) (h:List y9):List a4q → Prop
 | [] => True
 | o :: os => again m o t h ∧ d1f m t h os
theorem c6n {m:Bool} {t:Nat → AV} {h:List y9}:∀ {os:List a4q},d1f m t h os → ∀ o ∈ os,again m o t h
 | [],_,o,ho => by simp at ho
 | x :: os,hp,o,ho => by
  simp only [d1f] at hp
  rcases List.mem_cons.1 ho with rfl | ho
  ·exact hp.1
  ·exact c6n hp.2 o ho
def b9y (m:Bool) (re:List a4q) (t:Nat → AV) (h h':List y9):Prop :=
 match re with
 | [] => True
 | r :: rs => h' = h ∨ d1f m t h' (r :: rs)
inductive b0f where
 | done
 | non
 | fail
 | q (o:a4q) (n:b0f)
 | l (o:a4q) (re:List a4q) (n other:b0f)
def kT (F:(Nat → AV) → List y9 → ((Nat → AV) → List y9 → Prop) → Prop) (d:Option Nat) (K:(Nat → AV) → List y9 → Prop) (t:Nat → AV) (v:AV) (h:List y9):Prop:=F (b4o t d v) h K
def kL (m:Bool) (re:List a4q) (F:(Nat → AV) → List y9 → ((Nat → AV) → List y9 → Prop) → Prop) (d:Option Nat) (K:(Nat → AV) → List y9 → Prop) (h0:List y9) (t:Nat → AV) (v:AV) (h:List y9):Prop :=
 b9y m re (b4o t d v) h0 h ∧ F (b4o t d v) h K
def a5g (P:Program) (dm:Md):b0f → (Nat → AV) → List y9 → ((Nat → AV) → List y9 → Prop) → Prop
 | .done,t,h,K => K t h
 | .non,_,_,_ => True
 | .fail,_,_,_ => False
 | .q o n,t,h,K => b7h P dm o t h (kT (a5g P dm n) o.dst K)
 | .l o re n other,t,h,K => b7h P dm o t h (kL dm.m re (a5g P dm n) o.dst K h) ∧ a5g P dm other t h K
def e4e (N:Nat):Option Nat → Bool
 | some d => decide (d < N)
 | none => true
def ocO (P:Program) (ops:Array Oper) (N:Nat) (o:Oper):Option a4q :=
 match oc2 P o.op with
 | none => none
 | some ao =>
  if e4e N o.dst = true then
   match o.guard with
   | none => some ⟨o.dst,none,ao⟩
   | some (j,b) => match (ops[j]?).bind (·.dst) with
    | some s => some ⟨o.dst,some (s,b),ao⟩
    | none => none
  else none
def ocs (P:Program) (ops:Array Oper) (N:Nat):List Oper → Option (List a4q)
 | [] => some []
 | o :: l => match ocO P ops N o,ocs P ops N l with
  | some a,some as => some (a :: as)
  | _,_ => none
def lin:List a4q → b0f
 | [] => .done
 | o :: l => .q o (lin l)
structure St (C:Ctx) (w0:World) (σ0:Sg) (h0:List y9) (N:Nat) (t:Nat → AV) (h:List y9) (a:Act) (w:World):Prop where
 rel:∃ F σ φ,FrX C w F ∧ a0b (C.frz F) σ φ h w ∧ EvX C σ0 h0 w0 σ h w ∧ ∀ n,RV (C.frz F) σ h w (t n) (a.tmps.getD n Go.undef)
 size:a.tmps.size = N
 defers:a.defers = []
 below:Below C.base w0 w
theorem Act.put_size (a:Act) (d:Option Nat) (v:Value):(a.put d v).tmps.size = a.tmps.size:=by cases d <;> simp [Act.put]
theorem Act.put_defs (a:Act) (d:Option Nat) (v:Value):(a.put d v).defers = a.defers:=by cases d <;> rfl
theorem Act.put_getD (a:Act) (d:Option Nat) (v:Value) (n:Nat) (hd:∀ x,d = some x → x < a.tmps.size):(a.put d v).tmps.getD n Go.undef = if d = some n then v else a.tmps.getD n Go.undef:=by
 cases d with
 | none => simp [Act.put]
 | some x =>
  have:=hd x rfl
  simp only [Act.put,Option.some.injEq]
  by_cases he:x = n
  ·subst he; simp [this]
  ·simp [he,Array.getElem?_setIfInBounds_ne he]
theorem b4d (t:Nat → AV) (d:Option Nat) (v:AV) (n:Nat):b4o t d v n = if d = some n then v else t n:=by
 cases d with
 | none => simp [b4o]
 | some x =>
  simp only [b4o,upd,Option.some.injEq]
  by_cases he:n = x
  ·simp [he]
  ·simp [he,Ne.symm he]
section
variable {P:Program} {C:Ctx} {w0:World} {σ0:Sg} {h0:List y9} {N:Nat} {t:Nat → AV} {h:List y9} {a:Act} {w:World}
theorem b1e {ops:Array Oper} {o:Oper} {r:a4q} (hc:ocO P ops N o = some r):oc2 P o.op = some r.op ∧ r.dst = o.dst ∧ (∀ x,o.dst = some x → x < N) ∧
  ((o.guard = none ∧ r.guard = none) ∨ ∃ j b s,o.guard = some (j,b) ∧ (ops[j]?).bind (·.dst) = some s ∧ r.guard = some (s,b)):=by
 unfold ocO at hc
 split at hc
 ·cases hc
 ·rename_i ao ho
  split at hc
  ·rename_i hd
   have hdd:∀ x,o.dst = some x → x < N:=by
    intro x hx
    rw [hx] at hd
    simpa [e4e] using hd
   split at hc
   ·rename_i hg
    cases hc
    exact ⟨ho,rfl,hdd,.inl ⟨hg,rfl⟩⟩
   ·rename_i j b hg
    split at hc
    ·rename_i s hs
     cases hc
     exact ⟨ho,rfl,hdd,.inr ⟨j,b,s,hg,hs,rfl⟩⟩
    ·cases hc
  ·cases hc
theorem St.env (hs:St C w0 σ0 h0 N t h a w):∃ F σ φ,FrX C w F ∧ a0b (C.frz F) σ φ h w ∧ EvX C σ0 h0 w0 σ h w ∧ (∀ n,RV (C.frz F) σ h w (t n) (a.tmps.getD n Go.undef)) ∧ a7b (C.frz F) σ h w t a.eval:=by
 obtain ⟨F,σ,φ,h0,h1,h2,h3⟩:=hs.rel
 exact ⟨F,σ,φ,h0,h1,h2,h3,a7b.of_act h3⟩
theorem c4c {σ:Sg} (ht:∀ n,RV C σ h w (t n) (a.tmps.getD n Go.undef)) (hsz:a.tmps.size = N) {ops:Array Oper} {o:Oper} {r:a4q} (hc:ocO P ops N o = some r) (hops:∀ (j:Nat) x,(ops[j]?).bind (·.dst) = some x → x < N) :
  (o.guard = none → Region.wanted o (yielded ops a.tmps) = true) ∧
  ∀ s b,r.guard = some (s,b) → (∀ b',t s = .bool b' → Region.wanted o (yielded ops a.tmps) = (b' == b)) ∧ (t s = .skip → Region.wanted o (yielded ops a.tmps) = false):=by
 obtain ⟨_,_,_,hg⟩:=b1e hc
 rcases hg with ⟨g1,g2⟩ | ⟨j,b,s,g1,g2,g3⟩
 ·refine ⟨fun _ => by simp [Region.wanted,g1],?_⟩
  intro s b hb
  rw [g2] at hb
  cases hb
 ·refine ⟨fun hn => (by rw [g1] at hn; cases hn),?_⟩
  intro s' b' hb
  rw [g3] at hb
  cases hb
  have hlt:s < a.tmps.size:=by rw [hsz]; exact hops j s g2
  have hv:=ht s
  have hget:a.tmps[s]? = some (a.tmps.getD s Go.undef):=by simp [hlt]
  constructor
  ·intro b' hb'
   rw [hb'] at hv
   simp only [RV] at hv
   have hy:yielded ops a.tmps j = some b':=by
    simp only [yielded,g2,Option.bind_some,hget,hv]
   simp only [Region.wanted,g1,hy]
   cases b' <;> cases b <;> rfl
  ·intro hb'
   rw [hb'] at hv
   simp only [RV] at hv
   have hy:yielded ops a.tmps j = none:=by
    simp only [yielded,g2,Option.bind_some,hget,hv]
    rfl
   simp only [Region.wanted,g1,hy]
   cases b <;> rfl
theorem St.next {F F':Nat → Prop} {σ σ':Sg} {φ':Nat → List Nat} {h':List y9} {w':World} {d:Option Nat} {v:Value} {r:AV} (hs:St C w0 σ0 h0 N t h a w) (hd:∀ x,d = some x → x < N) (hF:FrX C w F) (hev0:EvX C σ0 h0 w0 σ h w) (ht:∀ n,RV (C.frz F) σ h w (t n) (a.tmps.getD n Go.undef))
  (hF':FrX (C.frz F) w' F') (hr:a0b (C.frz F') σ' φ' h' w') (hev:EvX (C.frz F) σ h w σ' h' w') (hv:RV (C.frz F') σ' h' w' r v) (hb:Below C.base w w'):St C w0 σ0 h0 N (b4o t d r) h' (a.put d v) w':=by
 refine ⟨⟨F',σ',φ',hF.trans hF' hev.size,hr,hev0.trans (hF.ev hev),?_⟩,by rw [Act.put_size]; exact hs.size,by rw [Act.put_defs]; exact hs.defers,hs.below.trans hb⟩
 intro n
 rw [b4d,Act.put_getD a d v n (fun x hx => by rw [hs.size]; exact hd x hx)]
 split
 ·exact hv
 ·exact RV.ctx (C:=C.frz F) (C':=C.frz F') (fun _ hi => hF'.imm hi) _ _ (hev.rv _ _ (ht n))
theorem e2n (hs:St C w0 σ0 h0 N t h a w) (hb:∀ b,w0.heap.size ≤ b → C.mine b):∀ b,w.heap.size ≤ b → C.mine b:=fun b h => hb b (Nat.le_trans hs.below.size h)
theorem c4d (hmd:C.mm = true → C.dm = true) (hs:St C w0 σ0 h0 N t h a w) (hok:∀ b,C.mine b → C.ok b) (hb:∀ b,w0.heap.size ≤ b → C.mine b) {ops:Array Oper} (hops:∀ (j:Nat) x,(ops[j]?).bind (·.dst) = some x → x < N) {o:Oper} {r:a4q} (hc:ocO P ops N o = some r) {k:AV → List y9 → Prop} (hk:c1f P C.md r t h k)
  {b:Act} (hex:execOp b.eval o = execOp a.eval o) (hwt:Region.wanted o (yielded ops b.tmps) = Region.wanted o (yielded ops a.tmps))
  {Q:Exit → Act → World → Prop} {next:Act → World → Prop} (hn:∀ v r' h' w',St C w0 σ0 h0 N (b4o t r.dst r') h' (a.put o.dst v) w' → k r' h' → next (b.put o.dst v) w') :
  if Region.wanted o (yielded ops b.tmps) then o.wp P b w next Q ∨ (o.asks P b w ∧ LetsOut Q) else next (b.put o.dst Go.undef) w:=by
 obtain ⟨c1,c2,c3,c4⟩:=b1e hc
 obtain ⟨F,σ,φ,hF,h1,h2,h3,h4⟩:=hs.env
 obtain ⟨w1,w2⟩:=c4c h3 hs.size hc hops
 rw [hwt]
 have hgo:a4s P C.md r.op (AX.ev t) h k → o.wp P b w next Q:=by
  intro ha
  unfold Oper.wp
  rw [hex]
  refine d8o (C:=C.frz F) hmd h1 (hF.hok hok) (hF.hb (e2n hs hb)) o c1 h4 ha ?_
  intro F' r' h' v w' σ' φ' g0 g1 g2 g3 g4 g5
  refine hn v r' h' w' ?_ g5
  rw [c2]
  exact hs.next c3 hF h2 h3 g0 g1 g2 g3 g4
 have hskip:k .skip h → next (b.put o.dst Go.undef) w:=by
  intro ha
  refine hn _ .skip h w ?_ ha
  rw [c2]
  exact hs.next c3 hF h2 h3 (FrX.refl (C.frz F) w) h1 (EvX.refl _ _ _) (by simp only [RV]) (Below.refl _ _)
 unfold c1f at hk
 split at hk
 ·rename_i hg
  have:o.guard = none:=by
   rcases c4 with ⟨g1,_⟩ | ⟨j,b,s,g1,g2,g3⟩
   ·exact g1
   ·rw [hg] at g3; cases g3
  rw [if_pos (w1 this)]
  exact .inl (hgo hk)
 ·rename_i s b hg
  split at hk
  ·rename_i b' hb'
   rw [(w2 s b hg).1 b' hb']
   by_cases he:b' = b
   ·subst he
    simp only [beq_self_eq_true,if_true]
    exact .inl (hgo (hk.1 rfl))
   ·have:(b' == b) = false:=by simpa using he
    rw [this]
    simp only [Bool.false_eq_true,if_false]
    exact hskip (hk.2 (by cases b' <;> cases b <;> simp_all))
  ·rename_i hb'
   rw [(w2 s b hg).2 hb']
   simp only [Bool.false_eq_true,if_false]
   exact hskip hk
  ·exact hk.elim
theorem d5o (hmd:C.mm = true → C.dm = true) (hs:St C w0 σ0 h0 N t h a w) (hok:∀ b,C.mine b → C.ok b) (hb:∀ b,w0.heap.size ≤ b → C.mine b) {ops:Array Oper} (hops:∀ (j:Nat) x,(ops[j]?).bind (·.dst) = some x → x < N) {o:Oper} {r:a4q} (hc:ocO P ops N o = some r) {k:AV → List y9 → Prop} (hk:c1f P C.md r t h k)
  {Q:Exit → Act → World → Prop} {next:Act → World → Prop} (hn:∀ v r' h' w',St C w0 σ0 h0 N (b4o t r.dst r') h' (a.put o.dst v) w' → k r' h' → next (a.put o.dst v) w') :
  if Region.wanted o (yielded ops a.tmps) then o.wp P a w next Q ∨ (o.asks P a w ∧ LetsOut Q) else next (a.put o.dst Go.undef) w :=
 c4d hmd hs hok hb hops hc hk rfl rfl hn
theorem c9w (hmd:C.mm = true → C.dm = true) (hok:∀ b,C.mine b → C.ok b) (hb:∀ b,w0.heap.size ≤ b → C.mine b) {ops:Array Oper} (hops:∀ (j:Nat) x,(ops[j]?).bind (·.dst) = some x → x < N) {Q:Exit → Act → World → Prop} {K:(Nat → AV) → List y9 → Prop}
  (hQ:∀ t h a w,St C w0 σ0 h0 N t h a w → K t h → Q .normal a w) :
  ∀ (l:List Oper) (rs:List a4q) (t:Nat → AV) (h:List y9) (a:Act) (w:World),ocs P ops N l = some rs → St C w0 σ0 h0 N t h a w → a5g P C.md (lin rs) t h K → wpList P ops Q l a w
 | [],rs,t,h,a,w,hc,hs,hk => by
  simp only [ocs] at hc
  cases hc
  exact hQ t h a w hs hk
 | o :: l,rs,t,h,a,w,hc,hs,hk => by
  simp only [ocs] at hc
  cases h1:ocO P ops N o with
  | none => simp [h1] at hc
  | some r =>
   cases h2:ocs P ops N l with
   | none => simp [h1,h2] at hc
   | some rs' =>
    simp only [h1,h2,Option.some.injEq] at hc
    subst hc
    simp only [lin,a5g] at hk
    unfold wpList
    refine d5o hmd hs hok hb hops h1 hk.old ?_
    intro v r' h' w' hs' hk'
    exact c9w hmd hok hb hops hQ l rs' _ h' _ w' h2 hs' hk'
end
end Go.R
