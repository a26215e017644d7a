/- Operations one behind the other: regions whose order is given. -/
import Derived.Test.YtgdkfnndbknjpaaC17
set_option linter.all false
namespace Go.R
open Go Go.RowKit
set_option linter.unusedVariables false
set_option linter.unusedSimpArgs false

structure a2l where
  dst:Option Nat
  guard:Option (Nat × Bool)
  op:AOp

def a9y (t:Nat → AV) (d:Option Nat) (v:AV):Nat → AV:=match d with
  | some d => upd t d v
  | none => t

def b4s (P:Program) (dm:Md) (o:a2l) (t:Nat → AV) (h:List o7) (k:AV → List o7 → Prop):Prop :=
  match o.guard with
  | none => a3t P dm o.op (AX.ev t) h k
  | some (s,b) => match t s with
    | .bool b' => (b' = b → a3t P dm o.op (AX.ev t) h k) ∧ (b' = (!b) → k .skip h)
    | .skip => k .skip h
    | _ => False

theorem a8l {t:Nat → AV} {s:Nat} {v:AV} (h:t s = v):upd t s v = t:=by
  funext m
  unfold upd
  split
  · rename_i e; rw [e,h]
  · rfl

def b2y (P:Program) (dm:Md) (o:a2l) (t:Nat → AV) (h:List o7) (k:(Nat → AV) → AV → List o7 → Prop):Prop :=
  match o.guard with
  | none => a3t P dm o.op (AX.ev t) h (k t)
  | some (s,b) => match t s with
    | .bool b' => if b' = b then a3t P dm o.op (AX.ev (upd t s (.bool b))) h (k (upd t s (.bool b))) else k (upd t s (.bool !b)) .skip h
    | .skip => k t .skip h
    | _ => False

theorem b2y.old {P:Program} {dm:Md} {o:a2l} {t:Nat → AV} {h:List o7} {k:(Nat → AV) → AV → List o7 → Prop} (ha:b2y P dm o t h k):b4s P dm o t h (k t):=by
  unfold b2y at ha
  unfold b4s
  cases hg:o.guard with
  | none => simpa only [hg] using ha
  | some sb =>
    obtain ⟨s,b⟩:=sb
    simp only [hg] at ha ⊢
    cases ht:t s with
    | bool b' =>
      simp only [ht] at ha ⊢
      by_cases he:b' = b
      · subst he
        rw [if_pos rfl,a8l ht] at ha
        exact ⟨fun _ => ha,fun hn => by cases b' <;> simp at hn⟩
      · rw [if_neg he] at ha
        have hb:(!b) = b':=by cases b <;> cases b' <;> simp_all
        rw [hb,a8l ht] at ha
        exact ⟨fun hn => absurd hn he,fun _ => ha⟩
    | skip => simpa only [ht] using ha
    | _ => simp only [ht] at ha

def again (m:Bool) (o:a2l) (t:Nat → AV) (h:List o7):Prop :=
  match o.dst with
  | none => False
  | some d => match o.guard with
    | none => aqQ m o.op (AX.ev t) h ∧ t d = aqV o.op (AX.ev t) h
    | some (s,b) => match t s with
      | .bool b' => (b' = b → aqQ m o.op (AX.ev t) h ∧ t d = aqV o.op (AX.ev t) h) ∧ (b' = (!b) → t d = .skip)
      | .skip => t d = .skip
      | _ => False
def c2h (m:Bool) (t:Nat → AV) (h:List o7):List a2l → Prop
  | [] => True
  | o :: os => again m o t h ∧ c2h m t h os
theorem b8i {m:Bool} {t:Nat → AV} {h:List o7}:∀ {os:List a2l},c2h m t h os → ∀ o ∈ os,again m o t h
  | [],_,o,ho => by simp at ho
  | x :: os,hp,o,ho => by
    simp only [c2h] at hp
    rcases List.mem_cons.1 ho with rfl | ho
    · exact hp.1
    · exact b8i hp.2 o ho
def b3y (m:Bool) (re:List a2l) (t:Nat → AV) (h h':List o7):Prop :=
  match re with
  | [] => True
  | r :: rs => h' = h ∨ c2h m t h' (r :: rs)

inductive a6w where
  | done
  | non
  | fail
  | q (o:a2l) (n:a6w)
  | l (o:a2l) (re:List a2l) (n other:a6w)

def kT (F:(Nat → AV) → List o7 → ((Nat → AV) → List o7 → Prop) → Prop) (d:Option Nat) (K:(Nat → AV) → List o7 → Prop) (t:Nat → AV) (v:AV) (h:List o7):Prop:=F (a9y t d v) h K
def kL (m:Bool) (re:List a2l) (F:(Nat → AV) → List o7 → ((Nat → AV) → List o7 → Prop) → Prop) (d:Option Nat) (K:(Nat → AV) → List o7 → Prop) (h0:List o7) (t:Nat → AV) (v:AV) (h:List o7):Prop :=
  b3y m re (a9y t d v) h0 h ∧ F (a9y t d v) h K

def a3e (P:Program) (dm:Md):a6w → (Nat → AV) → List o7 → ((Nat → AV) → List o7 → Prop) → Prop
  | .done,t,h,K => K t h
  | .non,_,_,_ => True
  | .fail,_,_,_ => False
  | .q o n,t,h,K => b2y P dm o t h (kT (a3e P dm n) o.dst K)
  | .l o re n other,t,h,K => b2y P dm o t h (kL dm.m re (a3e P dm n) o.dst K h) ∧ a3e P dm other t h K

def d2h (N:Nat):Option Nat → Bool
  | some d => decide (d < N)
  | none => true

def ocO (P:Program) (ops:Array Oper) (N:Nat) (o:Oper):Option a2l :=
  match oc2 P o.op with
  | none => none
  | some ao =>
    if d2h N o.dst = true then
      match o.guard with
      | none => some ⟨o.dst,none,ao⟩
      | some (j,b) => match (ops[j]?).bind (·.dst) with
        | some s => some ⟨o.dst,some (s,b),ao⟩
        | none => none
    else none

def ocs (P:Program) (ops:Array Oper) (N:Nat):List Oper → Option (List a2l)
  | [] => some []
  | o :: l => match ocO P ops N o,ocs P ops N l with
    | some a,some as => some (a :: as)
    | _,_ => none

def lin:List a2l → a6w
  | [] => .done
  | o :: l => .q o (lin l)

structure St (C:Ctx) (w0:World) (σ0:Sg) (h0:List o7) (N:Nat) (t:Nat → AV) (h:List o7) (a:Act) (w:World):Prop where
  rel:∃ σ φ,x8 C σ φ h w ∧ EvX C σ0 h0 w0 σ h w ∧ ∀ n,RV C σ h w (t n) (a.tmps.getD n Go.undef)
  size:a.tmps.size = N
  defers:a.defers = []
  below:Below C.base w0 w

theorem Act.put_size (a:Act) (d:Option Nat) (v:Value):(a.put d v).tmps.size = a.tmps.size:=by cases d <;> simp [Act.put]
theorem Act.put_defs (a:Act) (d:Option Nat) (v:Value):(a.put d v).defers = a.defers:=by cases d <;> rfl
theorem Act.put_getD (a:Act) (d:Option Nat) (v:Value) (n:Nat) (hd:∀ x,d = some x → x < a.tmps.size):(a.put d v).tmps.getD n Go.undef = if d = some n then v else a.tmps.getD n Go.undef:=by
  cases d with
  | none => simp [Act.put]
  | some x =>
    have:=hd x rfl
    simp only [Act.put,Option.some.injEq]
    by_cases he:x = n
    · subst he; simp [this]
    · simp [he,Array.getElem?_setIfInBounds_ne he]

theorem a9q (t:Nat → AV) (d:Option Nat) (v:AV) (n:Nat):a9y t d v n = if d = some n then v else t n:=by
  cases d with
  | none => simp [a9y]
  | some x =>
    simp only [a9y,upd,Option.some.injEq]
    by_cases he:n = x
    · simp [he]
    · simp [he,Ne.symm he]

section
variable {P:Program} {C:Ctx} {w0:World} {σ0:Sg} {h0:List o7} {N:Nat} {t:Nat → AV} {h:List o7} {a:Act} {w:World}

theorem a7t {ops:Array Oper} {o:Oper} {r:a2l} (hc:ocO P ops N o = some r):oc2 P o.op = some r.op ∧ r.dst = o.dst ∧ (∀ x,o.dst = some x → x < N) ∧
    ((o.guard = none ∧ r.guard = none) ∨ ∃ j b s,o.guard = some (j,b) ∧ (ops[j]?).bind (·.dst) = some s ∧ r.guard = some (s,b)):=by
  unfold ocO at hc
  split at hc
  · cases hc
  · rename_i ao ho
    split at hc
    · rename_i hd
      have hdd:∀ x,o.dst = some x → x < N:=by
        intro x hx
        rw [hx] at hd
        simpa [d2h] using hd
      split at hc
      · rename_i hg
        cases hc
        exact ⟨ho,rfl,hdd,.inl ⟨hg,rfl⟩⟩
      · rename_i j b hg
        split at hc
        · rename_i s hs
          cases hc
          exact ⟨ho,rfl,hdd,.inr ⟨j,b,s,hg,hs,rfl⟩⟩
        · cases hc
    · cases hc

theorem St.env (hs:St C w0 σ0 h0 N t h a w):∃ σ φ,x8 C σ φ h w ∧ EvX C σ0 h0 w0 σ h w ∧ (∀ n,RV C σ h w (t n) (a.tmps.getD n Go.undef)) ∧ a4z C σ h w t a.eval:=by
  obtain ⟨σ,φ,h1,h2,h3⟩:=hs.rel
  exact ⟨σ,φ,h1,h2,h3,a4z.of_act h3⟩

theorem b6p {σ:Sg} (ht:∀ n,RV C σ h w (t n) (a.tmps.getD n Go.undef)) (hsz:a.tmps.size = N) {ops:Array Oper} {o:Oper} {r:a2l} (hc:ocO P ops N o = some r) (hops:∀ (j:Nat) x,(ops[j]?).bind (·.dst) = some x → x < N) :
    (o.guard = none → Region.wanted o (yielded ops a.tmps) = true) ∧
    ∀ s b,r.guard = some (s,b) → (∀ b',t s = .bool b' → Region.wanted o (yielded ops a.tmps) = (b' == b)) ∧ (t s = .skip → Region.wanted o (yielded ops a.tmps) = false):=by
  obtain ⟨_,_,_,hg⟩:=a7t hc
  rcases hg with ⟨g1,g2⟩ | ⟨j,b,s,g1,g2,g3⟩
  · refine ⟨fun _ => by simp [Region.wanted,g1],?_⟩
    intro s b hb
    rw [g2] at hb
    cases hb
  · refine ⟨fun hn => (by rw [g1] at hn; cases hn),?_⟩
    intro s' b' hb
    rw [g3] at hb
    cases hb
    have hlt:s < a.tmps.size:=by rw [hsz]; exact hops j s g2
    have hv:=ht s
    have hget:a.tmps[s]? = some (a.tmps.getD s Go.undef):=by simp [hlt]
    constructor
    · intro b' hb'
      rw [hb'] at hv
      simp only [RV] at hv
      have hy:yielded ops a.tmps j = some b':=by
        simp only [yielded,g2,Option.bind_some,hget,hv]
      simp only [Region.wanted,g1,hy]
      cases b' <;> cases b <;> rfl
    · intro hb'
      rw [hb'] at hv
      simp only [RV] at hv
      have hy:yielded ops a.tmps j = none:=by
        simp only [yielded,g2,Option.bind_some,hget,hv]
        rfl
      simp only [Region.wanted,g1,hy]
      cases b <;> rfl

theorem St.next {σ σ':Sg} {φ':Nat → List Nat} {h':List o7} {w':World} {d:Option Nat} {v:Value} {r:AV} (hs:St C w0 σ0 h0 N t h a w) (hd:∀ x,d = some x → x < N) (hev0:EvX C σ0 h0 w0 σ h w) (ht:∀ n,RV C σ h w (t n) (a.tmps.getD n Go.undef))
    (hr:x8 C σ' φ' h' w') (hev:EvX C σ h w σ' h' w') (hv:RV C σ' h' w' r v) (hb:Below C.base w w'):St C w0 σ0 h0 N (a9y t d r) h' (a.put d v) w':=by
  refine ⟨⟨σ',φ',hr,hev0.trans hev,?_⟩,by rw [Act.put_size]; exact hs.size,by rw [Act.put_defs]; exact hs.defers,hs.below.trans hb⟩
  intro n
  rw [a9q,Act.put_getD a d v n (fun x hx => by rw [hs.size]; exact hd x hx)]
  split
  · exact hv
  · exact hev.rv _ _ (ht n)

theorem d0u (hs:St C w0 σ0 h0 N t h a w) (hb:∀ b,w0.heap.size ≤ b → C.mine b):∀ b,w.heap.size ≤ b → C.mine b:=fun b h => hb b (Nat.le_trans hs.below.size h)

theorem b6q (hmd:C.mm = true → C.dm = true) (hs:St C w0 σ0 h0 N t h a w) (hok:∀ b,C.mine b → C.ok b) (hb:∀ b,w0.heap.size ≤ b → C.mine b) {ops:Array Oper} (hops:∀ (j:Nat) x,(ops[j]?).bind (·.dst) = some x → x < N) {o:Oper} {r:a2l} (hc:ocO P ops N o = some r) {k:AV → List o7 → Prop} (hk:b4s P C.md r t h k)
    {b:Act} (hex:execOp b.eval o = execOp a.eval o) (hwt:Region.wanted o (yielded ops b.tmps) = Region.wanted o (yielded ops a.tmps))
    {Q:Exit → Act → World → Prop} {next:Act → World → Prop} (hn:∀ v r' h' w',St C w0 σ0 h0 N (a9y t r.dst r') h' (a.put o.dst v) w' → k r' h' → next (b.put o.dst v) w') :
    if Region.wanted o (yielded ops b.tmps) then o.wp P b w next Q ∨ (o.asks P b w ∧ LetsOut Q) else next (b.put o.dst Go.undef) w:=by
  obtain ⟨c1,c2,c3,c4⟩:=a7t hc
  obtain ⟨σ,φ,h1,h2,h3,h4⟩:=hs.env
  obtain ⟨w1,w2⟩:=b6p h3 hs.size hc hops
  rw [hwt]
  have hgo:a3t P C.md r.op (AX.ev t) h k → o.wp P b w next Q:=by
    intro ha
    unfold Oper.wp
    rw [hex]
    refine c8b hmd h1 hok (d0u hs hb) o c1 h4 ha ?_
    intro r' h' v w' σ' φ' g1 g2 g3 g4 g5
    refine hn v r' h' w' ?_ g5
    rw [c2]
    exact hs.next c3 h2 h3 g1 g2 g3 g4
  have hskip:k .skip h → next (b.put o.dst Go.undef) w:=by
    intro ha
    refine hn _ .skip h w ?_ ha
    rw [c2]
    exact hs.next c3 h2 h3 h1 (EvX.refl _ _ _) (by simp only [RV]) (Below.refl _ _)
  unfold b4s at hk
  split at hk
  · rename_i hg
    have:o.guard = none:=by
      rcases c4 with ⟨g1,_⟩ | ⟨j,b,s,g1,g2,g3⟩
      · exact g1
      · rw [hg] at g3; cases g3
    rw [if_pos (w1 this)]
    exact .inl (hgo hk)
  · rename_i s b hg
    split at hk
    · rename_i b' hb'
      rw [(w2 s b hg).1 b' hb']
      by_cases he:b' = b
      · subst he
        simp only [beq_self_eq_true,if_true]
        exact .inl (hgo (hk.1 rfl))
      · have:(b' == b) = false:=by simpa using he
        rw [this]
        simp only [Bool.false_eq_true,if_false]
        exact hskip (hk.2 (by cases b' <;> cases b <;> simp_all))
    · rename_i hb'
      rw [(w2 s b hg).2 hb']
      simp only [Bool.false_eq_true,if_false]
      exact hskip hk
    · exact hk.elim

theorem c6c (hmd:C.mm = true → C.dm = true) (hs:St C w0 σ0 h0 N t h a w) (hok:∀ b,C.mine b → C.ok b) (hb:∀ b,w0.heap.size ≤ b → C.mine b) {ops:Array Oper} (hops:∀ (j:Nat) x,(ops[j]?).bind (·.dst) = some x → x < N) {o:Oper} {r:a2l} (hc:ocO P ops N o = some r) {k:AV → List o7 → Prop} (hk:b4s P C.md r t h k)
    {Q:Exit → Act → World → Prop} {next:Act → World → Prop} (hn:∀ v r' h' w',St C w0 σ0 h0 N (a9y t r.dst r') h' (a.put o.dst v) w' → k r' h' → next (a.put o.dst v) w') :
    if Region.wanted o (yielded ops a.tmps) then o.wp P a w next Q ∨ (o.asks P a w ∧ LetsOut Q) else next (a.put o.dst Go.undef) w :=
  b6q hmd hs hok hb hops hc hk rfl rfl hn

theorem c0w (hmd:C.mm = true → C.dm = true) (hok:∀ b,C.mine b → C.ok b) (hb:∀ b,w0.heap.size ≤ b → C.mine b) {ops:Array Oper} (hops:∀ (j:Nat) x,(ops[j]?).bind (·.dst) = some x → x < N) {Q:Exit → Act → World → Prop} {K:(Nat → AV) → List o7 → Prop}
    (hQ:∀ t h a w,St C w0 σ0 h0 N t h a w → K t h → Q .normal a w) :
    ∀ (l:List Oper) (rs:List a2l) (t:Nat → AV) (h:List o7) (a:Act) (w:World),ocs P ops N l = some rs → St C w0 σ0 h0 N t h a w → a3e P C.md (lin rs) t h K → wpList P ops Q l a w
  | [],rs,t,h,a,w,hc,hs,hk => by
    simp only [ocs] at hc
    cases hc
    exact hQ t h a w hs hk
  | o :: l,rs,t,h,a,w,hc,hs,hk => by
    simp only [ocs] at hc
    cases h1:ocO P ops N o with
    | none => simp [h1] at hc
    | some r =>
      cases h2:ocs P ops N l with
      | none => simp [h1,h2] at hc
      | some rs' =>
        simp only [h1,h2,Option.some.injEq] at hc
        subst hc
        simp only [lin,a3e] at hk
        unfold wpList
        refine c6c hmd hs hok hb hops h1 hk.old ?_
        intro v r' h' w' hs' hk'
        exact c0w hmd hok hb hops hQ l rs' _ h' _ w' h2 hs' hk'
end
end Go.R
