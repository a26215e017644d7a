import Derived.Test.YtldahjcikmpifaaGreatC23
set_option linter.all false
namespace Go.R
open Go Go.RowKit
section
variable {P:Program} {dm:Md} {n0:Nat}
theorem a2h.mono {f:Nat} {as:List AV} {h:List y9} {k k':AV → List y9 → Prop} (hk:∀ r h,k r h → k' r h) (hc:a2h P dm f as h k):a2h P dm f as h k':=by
 rcases hc with ⟨bs,bs',r,h1,hl,h2,h3⟩ | ⟨bs,bs',r,h1,hl,h2,h3⟩ | ⟨hm,bs,bs',ks,r,h1,hl,h2,h3⟩ | ⟨fl,cs,ks,js,args,hi,r,hout,hm,hf,hn,hin,hl,hh,hc,h3⟩ | ⟨hm,bs,bs',r,h1,hl,h2,h3⟩ | ⟨hm,hd,o,i,j,z,z',l,l',l'',el,v,n,n',rfl,ho,hel,hf,hz,hc,h3⟩
 ·exact .inl ⟨bs,bs',r,h1,hl,h2,hk _ _ h3⟩
 ·exact .inr (.inl ⟨bs,bs',r,h1,hl,h2,hk _ _ h3⟩)
 ·exact .inr (.inr (.inl ⟨hm,bs,bs',ks,r,h1,hl,h2,hk _ _ h3⟩))
 ·exact .inr (.inr (.inr (.inl ⟨fl,cs,ks,js,args,hi,r,hout,hm,hf,hn,hin,hl,hh,hc,fun hs => hk _ _ (h3 hs)⟩)))
 ·exact .inr (.inr (.inr (.inr (.inl ⟨hm,bs,bs',r,h1,hl,h2,hk _ _ h3⟩))))
 ·exact .inr (.inr (.inr (.inr (.inr ⟨hm,hd,o,i,j,z,z',l,l',l'',el,v,n,n',rfl,ho,hel,hf,hz,hc,hk _ _ h3⟩))))
theorem a2p.mono {f:Nat} {as:List AV} {h:List y9} {k k':AV → List y9 → Prop} (hk:∀ r h,k r h → k' r h) (hc:a2p P dm f as h k):a2p P dm f as h k':=by
 rcases hc with hc | ⟨hz,hd,bs,bs',ks,r,h1,hl,h2,h3⟩
 ·exact .inl (a2h.mono hk hc)
 ·exact .inr ⟨hz,hd,bs,bs',ks,r,h1,hl,h2,hk _ _ h3⟩
theorem d0c {o:AOp} {e:AX → AV} {h:List y9} {k k':AV → List y9 → Prop} (hk:∀ r h,k r h → k' r h) (ha:a4s P dm o e h k):a4s P dm o e h k':=by
 cases o with
 | box sz x => exact ⟨ha.1,hk _ _ ha.2⟩
 | mkslice sz bytes zero n c =>
  simp only [a4s] at ha ⊢
  split at ha
  ·obtain ⟨h1,l,h2,h3⟩:=ha; exact ⟨h1,l,h2,hk _ _ h3⟩
  ·exact ha.elim
 | bslice sz xs =>
  simp only [a4s] at ha ⊢
  rcases ha with ha | ⟨h0,as,ks,h1,h2,h3⟩
  ·refine .inl ?_
   split at ha
   ·obtain ⟨h1,l,h2,h3⟩:=ha; exact ⟨h1,l,h2,hk _ _ h3⟩
   ·exact ha.elim
  ·exact .inr ⟨h0,as,ks,h1,h2,hk _ _ h3⟩
 | append sz bytes s x =>
  simp only [a4s] at ha ⊢
  cases hd:dm.d with
  | false =>
   simp only [hd] at ha ⊢
   split at ha
   ·exact ⟨ha.1,hk _ _ ha.2⟩
   ·exact ha.elim
  | true =>
   simp only [hd] at ha ⊢
   rcases ha with ⟨c,ha⟩ | ⟨o,n,lo,m,l,h1,h2⟩
   ·refine .inl ⟨c,?_⟩
    split at ha
    ·exact ⟨ha.1,hk _ _ ha.2⟩
    ·exact ha.elim
   ·exact .inr ⟨o,n,lo,m,l,h1,hk _ _ h2⟩
 | store sz a x =>
  simp only [a4s] at ha ⊢
  split at ha
  ·split at ha
   ·exact ⟨ha.1,hk _ _ ha.2⟩
   ·split at ha
    ·obtain ⟨h1,l,h2,h3⟩:=ha; exact ⟨h1,l,h2,hk _ _ h3⟩
    ·exact ha.elim
   ·exact ⟨ha.1,hk _ _ ha.2⟩
   ·exact ha.elim
  ·exact ha.elim
 | call f args => exact a2p.mono hk ha
 | calv x args =>
  simp only [a4s] at ha ⊢
  split at ha
  ·exact ⟨ha.1,a2p.mono hk ha.2⟩
  ·exact ha.elim
 | convBS x =>
  simp only [a4s] at ha ⊢
  split at ha
  ·obtain ⟨l,h1,h2⟩:=ha; exact ⟨l,h1,hk _ _ h2⟩
  ·exact ha.elim
 | isnil ng x =>
  simp only [a4s] at ha ⊢
  split at ha
  ·exact hk _ _ ha
  ·exact fun b hb => hk _ _ (ha b hb)
  ·split at ha
   ·exact fun b hb => hk _ _ (ha b hb)
   ·exact ha.elim
  ·exact ha.elim
 | mkmap => exact hk _ _ ha
 | mapset m kk x =>
  simp only [a4s] at ha ⊢
  split at ha
  ·split at ha
   ·exact hk _ _ ha
   ·exact ha.elim
  ·exact ha.elim
 | mapget z m kk =>
  simp only [a4s] at ha ⊢
  split at ha
  ·split at ha
   ·exact hk _ _ ha
   ·exact ha.elim
  ·exact ha.elim
 | isnilp ng x =>
  simp only [a4s] at ha ⊢
  split at ha
  ·exact hk _ _ ha
  ·split at ha
   ·exact hk _ _ ha
   ·exact ha.elim
  ·exact ha.elim
 | never => exact ha.elim
 | cap x =>
  simp only [a4s] at ha ⊢
  split at ha
  ·exact hk _ _ ha
  ·exact ha.elim
 | appz sz bytes zero s n =>
  simp only [a4s] at ha ⊢
  split at ha
  ·obtain ⟨h1,l,h2,h3⟩:=ha; exact ⟨h1,l,h2,hk _ _ h3⟩
  ·exact ha.elim
 | sl3 x lo hi mx =>
  simp only [a4s] at ha ⊢
  split at ha
  ·exact ⟨ha.1,hk _ _ ha.2⟩
  ·exact ⟨ha.1,hk _ _ ha.2⟩
  ·exact ha.elim
 | clr sz zero x =>
  simp only [a4s] at ha ⊢
  split at ha
  ·exact hk _ _ ha
  ·split at ha
   ·obtain ⟨h1,zl,h2,h3⟩:=ha; exact ⟨h1,zl,h2,hk _ _ h3⟩
   ·exact ha.elim
  ·exact ha.elim
 | _ => exact ⟨ha.1,fun hf => hk _ _ (ha.2 hf)⟩
theorem d0d {o:a4q} {t:Nat → AV} {h:List y9} {k k':(Nat → AV) → AV → List y9 → Prop} (hk:∀ t r h,k t r h → k' t r h) (ha:b7h P dm o t h k):b7h P dm o t h k':=by
 unfold b7h at ha ⊢
 split at ha
 ·exact d0c (fun r h => hk _ r h) ha
 ·split at ha
  ·split at ha
   ·rename_i hc; simp only [if_pos hc]; exact d0c (fun r h => hk _ r h) ha
   ·rename_i hc; simp only [if_neg hc]; exact hk _ _ _ ha
  ·exact hk _ _ _ ha
  ·exact ha
theorem b8o:∀ (T:b0f) {t:Nat → AV} {h:List y9} {K K':(Nat → AV) → List y9 → Prop},(∀ t h,K t h → K' t h) → a5g P dm T t h K → a5g P dm T t h K'
 | .done,t,h,K,K',hk,ha => hk _ _ ha
 | .non,_,_,_,_,_,_ => trivial
 | .fail,_,_,_,_,_,ha => ha.elim
 | .q o n,t,h,K,K',hk,ha => d0d (fun t r h => b8o n hk) ha
 | .l o re n other,t,h,K,K',hk,ha => ⟨d0d (fun t r h hh => ⟨hh.1,b8o n hk hh.2⟩) ha.1,b8o other hk ha.2⟩
theorem a8o:∀ (c:a0q) {t:Nat → AV} {h:List y9} {Q Q':AQ},(∀ e t h,Q e t h → Q' e t h) → awp P dm n0 c t h Q → awp P dm n0 c t h Q'
 | .skip,t,h,Q,Q',hq,ha => hq _ _ _ ha
 | .reg T,t,h,Q,Q',hq,ha => b8o T (fun t h => hq _ t h) ha
 | .seq a b,t,h,Q,Q',hq,ha => by
  refine a8o a (fun e t h => ?_) ha
  cases e with
  | norm => exact a8o b hq
  | exit i => exact hq _ _ _
  | ret => exact hq _ _ _
 | .cond c a b,t,h,Q,Q',hq,ha => by
  simp only [awp] at ha ⊢
  split at ha
  ·split at ha
   ·rename_i hc; simp only [if_pos hc]; exact a8o a hq ha
   ·rename_i hc; simp only [if_neg hc]; exact a8o b hq ha
  ·exact ha
 | .block id c,t,h,Q,Q',hq,ha => by
  refine a8o c (fun e t h => ?_) ha
  cases e with
  | norm => exact hq _ _ _
  | exit i =>
   simp only [d1j]
   split
   ·exact hq _ _ _
   ·exact hq _ _ _
  | ret => exact hq _ _ _
 | .loop c,t,h,Q,Q',hq,ha => by
  obtain ⟨X,S,μ,x0,h1,h2⟩:=ha
  refine ⟨X,S,μ,x0,h1,fun x => a8o c (fun e t h => ?_) (h2 x)⟩
  cases e with
  | norm => exact id
  | exit i => exact hq _ _ _
  | ret => exact hq _ _ _
 | .exit i,t,h,Q,Q',hq,ha => hq _ _ _ ha
 | .ret,t,h,Q,Q',hq,ha => hq _ _ _ ha
 | .cut c,t,h,Q,Q',hq,ha => by
  obtain ⟨s,h1,h2⟩:=ha
  exact ⟨s,h1,a8o c hq h2⟩
 | .rev c,t,h,Q,Q',hq,ha => by
  rcases ha with ⟨o,i,f,z,l,el,z',l',h1,h2,h3,h4⟩ | ⟨hm,o,i,z,l,el,el2,xs,h1,h2,h3,h4⟩ | ⟨gs,t',h',h'',h1,h2,h3⟩
  ·exact .inl ⟨o,i,f,z,l,el,z',l',h1,h2,h3,fun v => a8o c hq (h4 v)⟩
  ·exact .inr (.inl ⟨hm,o,i,z,l,el,el2,xs,h1,h2,h3,a8o c hq h4⟩)
  ·exact .inr (.inr ⟨gs,t',h',h'',h1,h2,a8o c hq h3⟩)
def f1m (m:Bool) (n0:Nat) (s:List (Nat × AV) × List y9) (Q:AQ):AQ
 | .norm,t,h => b6r m n0 t h s
 | .exit i,t,h => Q (.exit i) t h
 | .ret,t,h => Q .ret t h
theorem a2d {a b:a0q} {t:Nat → AV} {h:List y9} {Q:AQ} (s:List (Nat × AV) × List y9) (h1:awp P dm n0 a t h (f1m dm.m n0 s Q)) (h2:awp P dm n0 b (ofL s.1) s.2 Q):awp P dm n0 a t h (d3p (awp P dm n0 (.cut b)) Q):=by
 refine a8o a (fun e t h hh => ?_) h1
 cases e with
 | norm => exact ⟨s,hh,h2⟩
 | exit i => exact hh
 | ret => exact hh
def e4i {X:Type} (m:Bool) (n0:Nat) (S:X → List (Nat × AV) × List y9) (Q:AQ):AQ
 | .norm,t,h => ∃ x,b6r m n0 t h (S x)
 | .exit i,t,h => Q (.exit i) t h
 | .ret,t,h => Q .ret t h
theorem a1u {a b:a0q} {t:Nat → AV} {h:List y9} {Q:AQ} {X:Type} (S:X → List (Nat × AV) × List y9) (h1:awp P dm n0 a t h (e4i dm.m n0 S Q)) (h2:∀ x,awp P dm n0 b (ofL (S x).1) (S x).2 Q):awp P dm n0 a t h (d3p (awp P dm n0 (.cut b)) Q):=by
 refine a8o a (fun e t h hh => ?_) h1
 cases e with
 | norm => obtain ⟨x,hx⟩:=hh; exact ⟨_,hx,h2 x⟩
 | exit i => exact hh
 | ret => exact hh
theorem o6 {a b:a0q} {t:Nat → AV} {h:List y9} {Q:AQ} (h1:awp P dm n0 a t h (d3p (awp P dm n0 b) Q)):awp P dm n0 (.seq a b) t h Q:=h1
theorem a1h {body:a0q} {id:Nat} {t:Nat → AV} {h:List y9} {Q:AQ} {X:Type} (S:X → List (Nat × AV) × List y9) (μ:X → Nat) (x0:X) (h0:b6r dm.m n0 t h (S x0)) (h1:∀ x,awp P dm n0 body (ofL (S x).1) (S x).2 (d6w dm.m n0 S μ x (d1j id Q))) :
  awp P dm n0 (.block id (.loop body)) t h Q:=⟨X,S,μ,x0,h0,h1⟩
end
theorem og {p:Prop} {_:Decidable p} {α:Type} {x:Option α} {r:α} (h:(if p then x else none) = some r):p ∧ x = some r:=by
 split at h
 ·exact ⟨‹_›,h⟩
 ·cases h
theorem oi {p:Prop} {_:Decidable p} {α:Type} {x y:Option α} {r:α} (h:(if p then x else y) = some r):(p ∧ x = some r) ∨ (¬ p ∧ y = some r):=by
 split at h
 ·exact .inl ⟨‹_›,h⟩
 ·exact .inr ⟨‹_›,h⟩
theorem ob {α β:Type} {x:Option α} {f:α → Option β} {r:β} (h:x.bind f = some r):∃ v,x = some v ∧ f v = some r:=by
 cases x with
 | none => cases h
 | some v => exact ⟨v,rfl,h⟩
theorem a5j {α:Type} (l:List α) (i:Nat):(l.length ≤ i ∧ l.drop i = []) ∨ (i < l.length ∧ ∃ x,l[i]? = some x ∧ l.drop i = x :: l.drop (i + 1)):=by
 rcases Nat.lt_or_ge i l.length with h1 | h1
 ·exact .inr ⟨h1,l[i],by simp [h1],List.drop_eq_getElem_cons h1⟩
 ·exact .inl ⟨h1,by simp [h1]⟩
theorem os {α:Type} {a b:α} (h:some a = some b):a = b:=Option.some.inj h
theorem bf {b:Bool} (h:¬ b = true):b = false:=by cases b <;> simp_all
def idx {α:Type} (l:List α) (n:Int):Option α:=if 0 ≤ n then l[n.toNat]? else none
theorem b0a {α:Type} {l:List α} {n:Int} {x:α} (h:idx l n = some x):0 ≤ n:=(og h).1
theorem b0b {α:Type} {l:List α} {n:Int} {x:α} (h:idx l n = some x):l[n.toNat]? = some x:=(og h).2
theorem mul {i n:Nat} (h:i < n):n - (i + 1) < n - i:=by omega
theorem dlt {i n:Nat} (h:i < n):decide ((i:Int) < (n:Int)) = true:=decide_eq_true (by omega)
theorem dlf {i n:Nat} (h:n ≤ i):decide ((i:Int) < (n:Int)) = false:=decide_eq_false (by omega)
inductive Fl (R S:Type) where
 | ret (r:R)
 | go (s:S)
def w64 (n:Int):Int:=IntKind.i64.wrap n
theorem e0l {n:Int} (h0:-9223372036854775808 ≤ n) (h1:n < 9223372036854775808):w64 n = n:=by
 unfold w64
 rw [IntKind.wrap_i64]
 omega
theorem a1r {i n:Nat} (h:i < n) (hn:n ≤ maxLen):w64 ((i:Int) + 1) = ((i + 1:Nat):Int):=by
 rw [e0l (by omega) (by simp only [maxLen] at hn; omega)]
 rfl
section
variable {P:Program} {dm:Md} {bs:List (Nat × AV)} {h:List y9} {n:b0f} {K:(Nat → AV) → List y9 → Prop} {d:Nat}
theorem o7 {op:AOp} (v:AV) (hq:op.quiet = true) (hp:aqQ dm.m op (AX.ev (ofL bs)) h) (hv:aqV op (AX.ev (ofL bs)) h = v) (hn:a5g P dm n (ofL ((d,v) :: bs)) h K):a5g P dm (.q ⟨some d,none,op⟩ n) (ofL bs) h K:=by
 subst hv
 show a4s P dm op _ h _
 cases op <;> first | (exact ⟨hp,fun _ => hn⟩) | (cases hq)
theorem l7 {x:AX} (v:AV) (hv:x.ev (ofL bs) = v) (hn:a5g P dm n (ofL ((d,v) :: bs)) h K):a5g P dm (.q ⟨some d,none,.mov x⟩ n) (ofL bs) h K :=
 o7 v rfl (.of trivial trivial) hv hn
end
end Go.R
