/- Operations one behind the other: regions whose order is given. -/
import Derived.Test.YtldahjcikmpifaaGreatC17
set_option linter.all false
namespace Go.R
open Go Go.RowKit
set_option linter.unusedVariables false
set_option linter.unusedSimpArgs false

structure a4t where
 dst:Option Nat
 guard:Option (Nat × Bool)
 op:AOp

def b6n (t:Nat → AV) (d:Option Nat) (v:AV):Nat → AV:=match d with
 | some d => upd t d v
 | none => t

def c2w (P:Program) (dm:Md) (o:a4t) (t:Nat → AV) (h:List a0b) (k:AV → List a0b → Prop):Prop :=
 match o.guard with
 | none => a5a P dm o.op (AX.ev t) h k
 | some (s,b) => match t s with
  | .bool b' => (b' = b → a5a P dm o.op (AX.ev t) h k) ∧ (b' = (!b) → k .skip h)
  | .skip => k .skip h
  | _ => False

theorem b4g {t:Nat → AV} {s:Nat} {v:AV} (h:t s = v):upd t s v = t:=by
 funext m
 unfold upd
 split
 ·rename_i e; rw [e,h]
 ·rfl

def b9h (P:Program) (dm:Md) (o:a4t) (t:Nat → AV) (h:List a0b) (k:(Nat → AV) → AV → List a0b → Prop):Prop :=
 match o.guard with
 | none => a5a P dm o.op (AX.ev t) h (k t)
 | some (s,b) => match t s with
  | .bool b' => if b' = b then a5a P dm o.op (AX.ev (upd t s (.bool b))) h (k (upd t s (.bool b))) else k (upd t s (.bool !b)) .skip h
  | .skip => k t .skip h
  | _ => False

theorem b9h.old {P:Program} {dm:Md} {o:a4t} {t:Nat → AV} {h:List a0b} {k:(Nat → AV) → AV → List a0b → Prop} (ha:b9h P dm o t h k):c2w P dm o t h (k t):=by
 unfold b9h at ha
 unfold c2w
 cases hg:o.guard with
 | none => simpa only [hg] using ha
 | some sb =>
  obtain ⟨s,b⟩:=sb
  simp only [hg] at ha ⊢
  cases ht:t s with
  | bool b' =>
   simp only [ht] at ha ⊢
   by_cases he:b' = b
   ·subst he
    rw [if_pos rfl,b4g ht] at ha
    exact ⟨fun _ => ha,fun hn => by cases b' <;> simp at hn⟩
   ·rw [if_neg he] at ha
    have hb:(!b) = b':=by cases b <;> cases b' <;> simp_all
    rw [hb,b4g ht] at ha
    exact ⟨fun hn => absurd hn he,fun _ => ha⟩
  | skip => simpa only [ht] using ha
  | _ => simp only [ht] at ha

def again (m:Bool) (o:a4t) (t:Nat → AV) (h:List a0b):Prop :=
 match o.dst with
 | none => False
 | some d => match o.guard with
  | none => aqQ m o.op (AX.ev t) h ∧ t d = aqV o.op (AX.ev t) h
  | some (s,b) => match t s with
   | .bool b' => (b' = b → aqQ m o.op (AX.ev t) h ∧ t d = aqV o.op (AX.ev t) h) ∧ (b' = (!b) → t d = .skip)
   | .skip => t d = .skip
   | _ => False
def d3j (m:Bool) (t:Nat → AV) (h:List a0b):List a4t → Prop
 | [] => True
 | o :: os => again m o t h ∧ d3j m t h os
theorem c8k {m:Bool} {t:Nat → AV} {h:List a0b}:∀ {os:List a4t},d3j m t h os → ∀ o ∈ os,again m o t h
 | [],_,o,ho => by simp at ho
 | x :: os,hp,o,ho => by
  simp only [d3j] at hp
  rcases List.mem_cons.1 ho with rfl | ho
  ·exact hp.1
  ·exact c8k hp.2 o ho
def c1t (m:Bool) (re:List a4t) (t:Nat → AV) (h h':List a0b):Prop :=
 match re with
 | [] => True
 | r :: rs => h' = h ∨ d3j m t h' (r :: rs)

inductive b0o where
 | done
 | non
 | fail
 | q (o:a4t) (n:b0o)
 | l (o:a4t) (re:List a4t) (n other:b0o)

def kT (F:(Nat → AV) → List a0b → ((Nat → AV) → List a0b → Prop) → Prop) (d:Option Nat) (K:(Nat → AV) → List a0b → Prop) (t:Nat → AV) (v:AV) (h:List a0b):Prop:=F (b6n t d v) h K
def kL (m:Bool) (re:List a4t) (F:(Nat → AV) → List a0b → ((Nat → AV) → List a0b → Prop) → Prop) (d:Option Nat) (K:(Nat → AV) → List a0b → Prop) (h0:List a0b) (t:Nat → AV) (v:AV) (h:List a0b):Prop :=
 c1t m re (b6n t d v) h0 h ∧ F (b6n t d v) h K

def a5m (P:Program) (dm:Md):b0o → (Nat → AV) → List a0b → ((Nat → AV) → List a0b → Prop) → Prop
 | .done,t,h,K => K t h
 | .non,_,_,_ => True
 | .fail,_,_,_ => False
 | .q o n,t,h,K => b9h P dm o t h (kT (a5m P dm n) o.dst K)
 | .l o re n other,t,h,K => b9h P dm o t h (kL dm.m re (a5m P dm n) o.dst K h) ∧ a5m P dm other t h K

def e6i (N:Nat):Option Nat → Bool
 | some d => decide (d < N)
 | none => true

def ocO (P:Program) (ops:Array Oper) (N:Nat) (o:Oper):Option a4t :=
 match oc2 P o.op with
 | none => none
 | some ao =>
  if e6i N o.dst = true then
   match o.guard with
   | none => some ⟨o.dst,none,ao⟩
   | some (j,b) => match (ops[j]?).bind (·.dst) with
    | some s => some ⟨o.dst,some (s,b),ao⟩
    | none => none
  else none

def ocs (P:Program) (ops:Array Oper) (N:Nat):List Oper → Option (List a4t)
 | [] => some []
 | o :: l => match ocO P ops N o,ocs P ops N l with
  | some a,some as => some (a :: as)
  | _,_ => none

def lin:List a4t → b0o
 | [] => .done
 | o :: l => .q o (lin l)

structure St (C:Ctx) (w0:World) (σ0:Sg) (h0:List a0b) (N:Nat) (t:Nat → AV) (h:List a0b) (a:Act) (w:World):Prop where
 rel:∃ F σ φ,FrX C w F ∧ a0c (C.frz F) σ φ h w ∧ EvX C σ0 h0 w0 σ h w ∧ ∀ n,RV (C.frz F) σ h w (t n) (a.tmps.getD n Go.undef)
 size:a.tmps.size = N
 defers:a.defers = []
 below:Below C.base w0 w

theorem Act.put_size (a:Act) (d:Option Nat) (v:Value):(a.put d v).tmps.size = a.tmps.size:=by cases d <;> simp [Act.put]
theorem Act.put_defs (a:Act) (d:Option Nat) (v:Value):(a.put d v).defers = a.defers:=by cases d <;> rfl
theorem Act.put_getD (a:Act) (d:Option Nat) (v:Value) (n:Nat) (hd:∀ x,d = some x → x < a.tmps.size):(a.put d v).tmps.getD n Go.undef = if d = some n then v else a.tmps.getD n Go.undef:=by
 cases d with
 | none => simp [Act.put]
 | some x =>
  have:=hd x rfl
  simp only [Act.put,Option.some.injEq]
  by_cases he:x = n
  ·subst he; simp [this]
  ·simp [he,Array.getElem?_setIfInBounds_ne he]

theorem b5x (t:Nat → AV) (d:Option Nat) (v:AV) (n:Nat):b6n t d v n = if d = some n then v else t n:=by
 cases d with
 | none => simp [b6n]
 | some x =>
  simp only [b6n,upd,Option.some.injEq]
  by_cases he:n = x
  ·simp [he]
  ·simp [he,Ne.symm he]

section
variable {P:Program} {C:Ctx} {w0:World} {σ0:Sg} {h0:List a0b} {N:Nat} {t:Nat → AV} {h:List a0b} {a:Act} {w:World}

theorem b2m {ops:Array Oper} {o:Oper} {r:a4t} (hc:ocO P ops N o = some r):oc2 P o.op = some r.op ∧ r.dst = o.dst ∧ (∀ x,o.dst = some x → x < N) ∧
  ((o.guard = none ∧ r.guard = none) ∨ ∃ j b s,o.guard = some (j,b) ∧ (ops[j]?).bind (·.dst) = some s ∧ r.guard = some (s,b)):=by
 unfold ocO at hc
 split at hc
 ·cases hc
 ·rename_i ao ho
  split at hc
  ·rename_i hd
   have hdd:∀ x,o.dst = some x → x < N:=by
    intro x hx
    rw [hx] at hd
    simpa [e6i] using hd
   split at hc
   ·rename_i hg
    cases hc
    exact ⟨ho,rfl,hdd,.inl ⟨hg,rfl⟩⟩
   ·rename_i j b hg
    split at hc
    ·rename_i s hs
     cases hc
     exact ⟨ho,rfl,hdd,.inr ⟨j,b,s,hg,hs,rfl⟩⟩
    ·cases hc
  ·cases hc

theorem St.env (hs:St C w0 σ0 h0 N t h a w):∃ F σ φ,FrX C w F ∧ a0c (C.frz F) σ φ h w ∧ EvX C σ0 h0 w0 σ h w ∧ (∀ n,RV (C.frz F) σ h w (t n) (a.tmps.getD n Go.undef)) ∧ a7m (C.frz F) σ h w t a.eval:=by
 obtain ⟨F,σ,φ,h0,h1,h2,h3⟩:=hs.rel
 exact ⟨F,σ,φ,h0,h1,h2,h3,a7m.of_act h3⟩

theorem c5j {σ:Sg} (ht:∀ n,RV C σ h w (t n) (a.tmps.getD n Go.undef)) (hsz:a.tmps.size = N) {ops:Array Oper} {o:Oper} {r:a4t} (hc:ocO P ops N o = some r) (hops:∀ (j:Nat) x,(ops[j]?).bind (·.dst) = some x → x < N) :
  (o.guard = none → Region.wanted o (yielded ops a.tmps) = true) ∧
  ∀ s b,r.guard = some (s,b) → (∀ b',t s = .bool b' → Region.wanted o (yielded ops a.tmps) = (b' == b)) ∧ (t s = .skip → Region.wanted o (yielded ops a.tmps) = false):=by
 obtain ⟨_,_,_,hg⟩:=b2m hc
 rcases hg with ⟨g1,g2⟩ | ⟨j,b,s,g1,g2,g3⟩
 ·refine ⟨fun _ => by simp [Region.wanted,g1],?_⟩
  intro s b hb
  rw [g2] at hb
  cases hb
 ·refine ⟨fun hn => (by rw [g1] at hn; cases hn),?_⟩
  intro s' b' hb
  rw [g3] at hb
  cases hb
  have hlt:s < a.tmps.size:=by rw [hsz]; exact hops j s g2
  have hv:=ht s
  have hget:a.tmps[s]? = some (a.tmps.getD s Go.undef):=by simp [hlt]
  constructor
  ·intro b' hb'
   rw [hb'] at hv
   simp only [RV] at hv
   have hy:yielded ops a.tmps j = some b':=by
    simp only [yielded,g2,Option.bind_some,hget,hv]
   simp only [Region.wanted,g1,hy]
   cases b' <;> cases b <;> rfl
  ·intro hb'
   rw [hb'] at hv
   simp only [RV] at hv
   have hy:yielded ops a.tmps j = none:=by
    simp only [yielded,g2,Option.bind_some,hget,hv]
    rfl
   simp only [Region.wanted,g1,hy]
   cases b <;> rfl

theorem St.next {F F':Nat → Prop} {σ σ':Sg} {φ':Nat → List Nat} {h':List a0b} {w':World} {d:Option Nat} {v:Value} {r:AV} (hs:St C w0 σ0 h0 N t h a w) (hd:∀ x,d = some x → x < N) (hF:FrX C w F) (hev0:EvX C σ0 h0 w0 σ h w) (ht:∀ n,RV (C.frz F) σ h w (t n) (a.tmps.getD n Go.undef))
  (hF':FrX (C.frz F) w' F') (hr:a0c (C.frz F') σ' φ' h' w') (hev:EvX (C.frz F) σ h w σ' h' w') (hv:RV (C.frz F') σ' h' w' r v) (hb:Below C.base w w'):St C w0 σ0 h0 N (b6n t d r) h' (a.put d v) w':=by
 refine ⟨⟨F',σ',φ',hF.trans hF' hev.size,hr,hev0.trans (hF.ev hev),?_⟩,by rw [Act.put_size]; exact hs.size,by rw [Act.put_defs]; exact hs.defers,hs.below.trans hb⟩
 intro n
 rw [b5x,Act.put_getD a d v n (fun x hx => by rw [hs.size]; exact hd x hx)]
 split
 ·exact hv
 ·exact RV.ctx (C:=C.frz F) (C':=C.frz F') (fun _ hi => hF'.imm hi) _ _ (hev.rv _ _ (ht n))

theorem e5b (hs:St C w0 σ0 h0 N t h a w) (hb:∀ b,w0.heap.size ≤ b → C.mine b):∀ b,w.heap.size ≤ b → C.mine b:=fun b h => hb b (Nat.le_trans hs.below.size h)

theorem c5k (hmd:C.mm = true → C.dm = true) (hs:St C w0 σ0 h0 N t h a w) (hok:∀ b,C.mine b → C.ok b) (hb:∀ b,w0.heap.size ≤ b → C.mine b) {ops:Array Oper} (hops:∀ (j:Nat) x,(ops[j]?).bind (·.dst) = some x → x < N) {o:Oper} {r:a4t} (hc:ocO P ops N o = some r) {k:AV → List a0b → Prop} (hk:c2w P C.md r t h k)
  {b:Act} (hex:execOp b.eval o = execOp a.eval o) (hwt:Region.wanted o (yielded ops b.tmps) = Region.wanted o (yielded ops a.tmps))
  {Q:Exit → Act → World → Prop} {next:Act → World → Prop} (hn:∀ v r' h' w',St C w0 σ0 h0 N (b6n t r.dst r') h' (a.put o.dst v) w' → k r' h' → next (b.put o.dst v) w') :
  if Region.wanted o (yielded ops b.tmps) then o.wp P b w next Q ∨ (o.asks P b w ∧ LetsOut Q) else next (b.put o.dst Go.undef) w:=by
 obtain ⟨c1,c2,c3,c4⟩:=b2m hc
 obtain ⟨F,σ,φ,hF,h1,h2,h3,h4⟩:=hs.env
 obtain ⟨w1,w2⟩:=c5j h3 hs.size hc hops
 rw [hwt]
 have hgo:a5a P C.md r.op (AX.ev t) h k → o.wp P b w next Q:=by
  intro ha
  unfold Oper.wp
  rw [hex]
  refine e0i (C:=C.frz F) hmd h1 (hF.hok hok) (hF.hb (e5b hs hb)) o c1 h4 ha ?_
  intro F' r' h' v w' σ' φ' g0 g1 g2 g3 g4 g5
  refine hn v r' h' w' ?_ g5
  rw [c2]
  exact hs.next c3 hF h2 h3 g0 g1 g2 g3 g4
 have hskip:k .skip h → next (b.put o.dst Go.undef) w:=by
  intro ha
  refine hn _ .skip h w ?_ ha
  rw [c2]
  exact hs.next c3 hF h2 h3 (FrX.refl (C.frz F) w) h1 (EvX.refl _ _ _) (by simp only [RV]) (Below.refl _ _)
 unfold c2w at hk
 split at hk
 ·rename_i hg
  have:o.guard = none:=by
   rcases c4 with ⟨g1,_⟩ | ⟨j,b,s,g1,g2,g3⟩
   ·exact g1
   ·rw [hg] at g3; cases g3
  rw [if_pos (w1 this)]
  exact .inl (hgo hk)
 ·rename_i s b hg
  split at hk
  ·rename_i b' hb'
   rw [(w2 s b hg).1 b' hb']
   by_cases he:b' = b
   ·subst he
    simp only [beq_self_eq_true,if_true]
    exact .inl (hgo (hk.1 rfl))
   ·have:(b' == b) = false:=by simpa using he
    rw [this]
    simp only [Bool.false_eq_true,if_false]
    exact hskip (hk.2 (by cases b' <;> cases b <;> simp_all))
  ·rename_i hb'
   rw [(w2 s b hg).2 hb']
   simp only [Bool.false_eq_true,if_false]
   exact hskip hk
  ·exact hk.elim

theorem d7l (hmd:C.mm = true → C.dm = true) (hs:St C w0 σ0 h0 N t h a w) (hok:∀ b,C.mine b → C.ok b) (hb:∀ b,w0.heap.size ≤ b → C.mine b) {ops:Array Oper} (hops:∀ (j:Nat) x,(ops[j]?).bind (·.dst) = some x → x < N) {o:Oper} {r:a4t} (hc:ocO P ops N o = some r) {k:AV → List a0b → Prop} (hk:c2w P C.md r t h k)
  {Q:Exit → Act → World → Prop} {next:Act → World → Prop} (hn:∀ v r' h' w',St C w0 σ0 h0 N (b6n t r.dst r') h' (a.put o.dst v) w' → k r' h' → next (a.put o.dst v) w') :
  if Region.wanted o (yielded ops a.tmps) then o.wp P a w next Q ∨ (o.asks P a w ∧ LetsOut Q) else next (a.put o.dst Go.undef) w :=
 c5k hmd hs hok hb hops hc hk rfl rfl hn

theorem d1r (hmd:C.mm = true → C.dm = true) (hok:∀ b,C.mine b → C.ok b) (hb:∀ b,w0.heap.size ≤ b → C.mine b) {ops:Array Oper} (hops:∀ (j:Nat) x,(ops[j]?).bind (·.dst) = some x → x < N) {Q:Exit → Act → World → Prop} {K:(Nat → AV) → List a0b → Prop}
  (hQ:∀ t h a w,St C w0 σ0 h0 N t h a w → K t h → Q .normal a w) :
  ∀ (l:List Oper) (rs:List a4t) (t:Nat → AV) (h:List a0b) (a:Act) (w:World),ocs P ops N l = some rs → St C w0 σ0 h0 N t h a w → a5m P C.md (lin rs) t h K → wpList P ops Q l a w
 | [],rs,t,h,a,w,hc,hs,hk => by
  simp only [ocs] at hc
  cases hc
  exact hQ t h a w hs hk
 | o :: l,rs,t,h,a,w,hc,hs,hk => by
  simp only [ocs] at hc
  cases h1:ocO P ops N o with
  | none => simp [h1] at hc
  | some r =>
   cases h2:ocs P ops N l with
   | none => simp [h1,h2] at hc
   | some rs' =>
    simp only [h1,h2,Option.some.injEq] at hc
    subst hc
    simp only [lin,a5m] at hk
    unfold wpList
    refine d7l hmd hs hok hb hops h1 hk.old ?_
    intro v r' h' w' hs' hk'
    exact d1r hmd hok hb hops hQ l rs' _ h' _ w' h2 hs' hk'
end
end Go.R
