/- Part of the proof. -/
import Derived.Test.YtldahjcikmpifaaGreatS1
import Derived.Lib.AppendZeros
import Derived.Scope
import Derived.Deep.Slices
import Derived.ChangeArms
section
set_option linter.all false
namespace Go.R
open Go Go.RowKit
def a7r (js:List Nat):Nat → Option Nat:=c9y js 0
def b1z (h:List l7) (js:List Nat):List l7:=js.map fun i => a5w (a7r js) (h.getD i .dead)
def a5x (n:Nat) (js:List Nat) (k:Nat):Option Nat:=if k < js.length then js[k]? else some (n + (k - js.length))
def b5b:List l7 → List Nat → List l7 → List l7
 | h,j :: js,x :: xs => b5b (h.set j x) js xs
 | h,_,_ => h
def b5c (h:List l7) (js:List Nat) (hout:List l7):List l7 :=
 b5b h js (hout.map (a5w (a5x h.length js))) ++ (hout.drop js.length).map (a5w (a5x h.length js))
def a3n (P:Program) (dm:Md) (f:Nat) (args:List AV) (hin:List l7) (r:AV) (hout:List l7):Prop :=
 ∀ (C:Ctx) (σ:Sg) (φ:Nat → List Nat) (w:World) (vals:List Value),C.md = dm → (C.mm = true → C.dm = true) → (∀ b,C.mine b → C.ok b) → (∀ b,w.heap.size ≤ b → C.mine b) → o9 C σ φ hin w → RVs C σ hin w args vals →
  Calls P f vals.toArray w fun e w' => match e with
   | .returned v => ∃ σ' φ',o9 C σ' φ' hout w' ∧ EvX C σ hin w σ' hout w' ∧ RV C σ' hout w' r v ∧ Below C.base w w'
   | _ => False
theorem a5e {js:List Nat} (hn:js.Nodup) {o k:Nat}:a7r js o = some k ↔ js[k]? = some o:=by
 unfold a7r
 rw [c3u _ _ _ _ hn]
 simp
theorem b3x {js:List Nat} (hn:js.Nodup) {o:Nat}:a7r js o = none ↔ o ∉ js:=by
 constructor
 ·intro h hm
  obtain ⟨k,hk⟩:=List.mem_iff_getElem?.1 hm
  rw [(a5e hn).2 hk] at h
  cases h
 ·intro h
  cases hs:a7r js o with
  | none => rfl
  | some k => exact absurd (List.mem_of_getElem? ((a5e hn).1 hs)) h
theorem a4x {h:List l7} {js:List Nat} {k:Nat} {y:l7} (hin:∀ j ∈ js,j < h.length):(b1z h js)[k]? = some y ↔ ∃ o x,js[k]? = some o ∧ h[o]? = some x ∧ y = a5w (a7r js) x:=by
 unfold b1z
 rw [List.getElem?_map,Option.map_eq_some_iff]
 constructor
 ·rintro ⟨o,h1,rfl⟩
  have:=hin o (List.mem_of_getElem? h1)
  exact ⟨o,h[o],h1,by simp [this],by simp [this]⟩
 ·rintro ⟨o,x,h1,h2,rfl⟩
  exact ⟨o,h1,by simp [h2]⟩
theorem c9z:∀ (js:List Nat) (h:List l7) (xs:List l7) (o:Nat),js.Nodup → js.length ≤ xs.length → (∀ j ∈ js,j < h.length) →
  (b5b h js xs)[o]? = match a7r js o with
   | some k => xs[k]?
   | none => h[o]?
 | [],h,xs,o,_,_,_ => by cases xs <;> simp [b5b,a7r,c9y]
 | j :: js,h,[],o,_,hl,_ => by simp at hl
 | j :: js,h,x :: xs,o,hn,hl,hin => by
  have hn':=hn
  rw [List.nodup_cons] at hn
  simp only [b5b]
  rw [c9z js (h.set j x) xs o hn.2 (by simpa using hl) (fun i hi => by simpa using hin i (by simp [hi]))]
  by_cases he:o = j
  ·subst he
   have h1:a7r js o = none:=(b3x hn.2).2 hn.1
   have h2:a7r (o :: js) o = some 0:=(a5e hn').2 (by simp)
   have:=hin o (by simp)
   rw [h1,h2]
   simp [this]
  ·cases h1:a7r js o with
   | none =>
    have h2:a7r (j :: js) o = none:=(b3x hn').2 (by rw [List.mem_cons]; rintro (h | h); exact he h; exact (b3x hn.2).1 h1 h)
    rw [h2]
    simp only
    rw [List.getElem?_set_ne (Ne.symm he)]
   | some k =>
    have h2:a7r (j :: js) o = some (k + 1):=(a5e hn').2 (by simpa using (a5e hn.2).1 h1)
    rw [h2]
    simp
theorem c2l:∀ (js:List Nat) (h:List l7) (xs:List l7),(b5b h js xs).length = h.length
 | [],h,xs => by cases xs <;> simp [b5b]
 | j :: js,h,[] => by simp [b5b]
 | j :: js,h,x :: xs => by simp only [b5b]; rw [c2l js]; simp
theorem d0a {h:List l7} {js:List Nat} {hout:List l7} (hn:js.Nodup) (hin:∀ j ∈ js,j < h.length) (hl:js.length ≤ hout.length) (o:Nat) :
  (b5c h js hout)[o]? = match a7r js o with
   | some k => (hout[k]?).map (a5w (a5x h.length js))
   | none => if o < h.length then h[o]? else (hout[js.length + (o - h.length)]?).map (a5w (a5x h.length js)):=by
 unfold b5c
 rw [List.getElem?_append,c2l]
 by_cases ho:o < h.length
 ·rw [if_pos ho,c9z js h _ o hn (by simpa using hl) hin]
  cases hs:a7r js o with
  | none => simp [ho]
  | some k => simp
 ·rw [if_neg ho]
  have:a7r js o = none:=(b3x hn).2 fun hm => ho (hin o hm)
  rw [this]
  simp only [if_neg ho,List.getElem?_map,List.getElem?_drop]
section
variable {C C':Ctx} {σ σ':Sg} {φ:Nat → List Nat} {h h':List l7} {w:World} {f:Nat → Option Nat}
def d3i (f:Nat → Option Nat) (σ:Sg) (h:List l7) (σ':Sg) (h':List l7):Prop :=
 ∀ o k x,f o = some k → h[o]? = some x → h'[k]? = some (a5w f x) ∧ σ' k = σ o
mutual
theorem d0b (hf:d3i f σ h σ' h') (hok:∀ b,C.imm b → ¬ liveAt h σ b → C'.imm b ∧ ¬ liveAt h' σ' b):∀ (a:AV) (v:Value),RV C σ h w a v → RV C' σ' h' w (ren f a) v
 | .undef,_,_ => by simp only [ren,RV]
 | .skip,_,hr => by simpa only [ren,RV] using hr
 | .hdr _ _ _,_,hr => by simpa only [ren,RV] using hr
 | .int _ _,_,hr => by simpa only [ren,RV] using hr
 | .bool _,_,hr => by simpa only [ren,RV] using hr
 | .str _,_,hr => by simpa only [ren,RV] using hr
 | .nil,_,hr => by simpa only [ren,RV] using hr
 | .lst z l,v,hr => by
  simp only [ren,RV] at hr ⊢
  obtain ⟨fp,h1,h2⟩:=hr
  exact ⟨fp,h1,fun b hb => hok b (h2 b hb).1 (h2 b hb).2⟩
 | .iptr l f,v,hr => by
  simp only [ren,RV] at hr ⊢
  obtain ⟨fp,h1,h2⟩:=hr
  exact ⟨fp,h1,fun b hb => hok b (h2 b hb).1 (h2 b hb).2⟩
 | .own o lo n,v,hr => by
  simp only [ren]
  cases hfo:f o with
  | none => simp only [RV]
  | some k =>
   simp only [RV] at hr ⊢
   cases ho:h[o]? with
   | none => rw [ho] at hr; exact hr.elim
   | some x =>
    rw [ho] at hr
    obtain ⟨hg,hσ⟩:=hf o k x hfo ho
    rw [hg]
    cases x with
    | dead => simp only [a5w]
    | map _ => exact hr.elim
    | box _ _ => exact hr.elim
    | row sz l =>
     simp only [a5w]
     unfold b9i at hr ⊢
     rw [hσ]
     exact hr
    | rowx sz l i el =>
     simp only [a5w]
     unfold b9i at hr ⊢
     rw [hσ]
     exact hr
 | .ptr o i g,v,hr => by
  simp only [ren]
  cases hfo:f o with
  | none => simp only [RV]
  | some k =>
   simp only [RV] at hr ⊢
   cases ho:h[o]? with
   | none => rw [ho] at hr; exact hr.elim
   | some x =>
    rw [ho] at hr
    obtain ⟨hg,hσ⟩:=hf o k x hfo ho
    rw [hg]
    cases x with
    | dead => simp only [a5w]
    | map _ => simp only [a5w]; rw [hσ]; exact hr
    | box _ _ => simp only [a5w]; rw [hσ]; exact hr
    | row sz l => simp only [a5w]; rw [hσ]; exact hr
    | rowx sz l j el => simp only [a5w]; rw [hσ]; exact hr
 | .agg as,v,hr => by
  simp only [ren,RV] at hr ⊢
  obtain ⟨vs,e,h1⟩:=hr
  exact ⟨vs,e,b5k hf hok as _ h1⟩
 | .tup as,v,hr => by
  simp only [ren,RV] at hr ⊢
  obtain ⟨vs,e,h1⟩:=hr
  exact ⟨vs,e,b5k hf hok as _ h1⟩
 | .fn g as,v,hr => by
  simp only [ren,RV] at hr ⊢
  obtain ⟨vs,e,h1⟩:=hr
  exact ⟨vs,e,b5k hf hok as _ h1⟩
theorem b5k (hf:d3i f σ h σ' h') (hok:∀ b,C.imm b → ¬ liveAt h σ b → C'.imm b ∧ ¬ liveAt h' σ' b):∀ (as:List AV) (vs:List Value),RVs C σ h w as vs → RVs C' σ' h' w (a7h f as) vs
 | [],_,hr => by simpa only [a7h,RVs] using hr
 | a :: as,vs,hr => by
  simp only [a7h,RVs] at hr ⊢
  obtain ⟨v,vs',e,h1,h2⟩:=hr
  exact ⟨v,vs',e,d0b hf hok a v h1,b5k hf hok as vs' h2⟩
end
theorem b2a (hf:d3i f σ h σ' h') (hok:∀ b,C.imm b → ¬ liveAt h σ b → C'.imm b ∧ ¬ liveAt h' σ' b) (a:AV) (vs:List Value) (hr:RVs C σ h w a.cells vs):RVs C' σ' h' w (ren f a).cells vs:=by
 have h1:=b5k hf hok a.cells vs hr
 rcases d3h (f:=f) a with h2 | ⟨o,h2,h3⟩
 ·rw [h2]; exact h1
 ·have hc:a.cells = [a]:=by
   cases a <;> simp [ren] at h3 <;> rfl
  rw [hc] at h1
  simpa only [a7h,h3,AV.cells] using h1
end
section
variable {P:Program} {C:Ctx} {σ:Sg} {φ:Nat → List Nat} {h:List l7} {w:World} {js:List Nat}
def Kept (σ:Sg) (φ:Nat → List Nat) (h:List l7) (js:List Nat) (b:Nat):Prop :=
 (∃ o x c,h[o]? = some x ∧ x.isLive = true ∧ o ∉ js ∧ σ o = some (b,c)) ∨ ∃ o x,h[o]? = some x ∧ x.rw = true ∧ o ∉ js ∧ b ∈ φ o
def d0c (C:Ctx) (σ:Sg) (φ:Nat → List Nat) (h:List l7) (js:List Nat):Ctx :=
 { C with ok:=fun b => (C.ok b ∧ ∀ o x c,h[o]? = some x → x.isLive = true → o ∉ js → σ o ≠ some (b,c)) ∧ (C.mm = true → C.mine b → ¬ ((∃ o x c,h[o]? = some x ∧ x.isLive = true ∧ o ∉ js ∧ σ o = some (b,c)) ∨ (C.dm = true ∧ ∃ o x,h[o]? = some x ∧ x.rw = true ∧ o ∉ js ∧ b ∈ φ o))),fr:=fun b => C.fr b ∨ (∃ o x c,h[o]? = some x ∧ x.isLive = true ∧ o ∉ js ∧ σ o = some (b,c)) ∨ (C.dm = true ∧ ∃ o x,h[o]? = some x ∧ x.rw = true ∧ o ∉ js ∧ b ∈ φ o),fz:=false }
def b5y (σ:Sg) (js:List Nat):Sg:=fun k => match js[k]? with
 | some o => σ o
 | none => none
def c4t (φ:Nat → List Nat) (js:List Nat):Nat → List Nat:=fun k => match js[k]? with
 | some o => φ o
 | none => []
theorem o9.phiLt (hr:o9 C σ φ h w) {o sz:Nat} {l:List AV} (ho:h[o]? = some (.row sz l)) {b:Nat} (hb:b ∈ φ o):b < w.heap.size:=by
 obtain ⟨_,hob⟩:=hr.obj o _ ho
 cases hs:σ o with
 | none => rw [hs] at hob; rw [hob.2] at hb; simp at hb
 | some p =>
  rw [hs] at hob
  obtain ⟨_,cur,e,_,_,h4,_⟩:=hob
  exact a0a.lt _ _ _ h4 b hb
theorem o9.phiLtx (hr:o9 C σ φ h w) {o:Nat} {x:l7} (ho:h[o]? = some x) (hx:x.rw = true) {b:Nat} (hb:b ∈ φ o):b < w.heap.size:=by
 cases x with
 | dead => cases hx
 | box _ _ => cases hx
 | map _ => cases hx
 | row sz l => exact hr.phiLt ho hb
 | rowx sz l i el =>
  obtain ⟨hz,hmm,hi,g,c,cur,e,f1,f2,k1,k2,k3,k4,k5,k6,k7,k7',k8,k9⟩:=hr.obj o _ ho
  rw [k8] at hb
  rcases List.mem_append.1 hb with hb | hb
  ·exact a0a.lt _ _ _ k5 b hb
  ·exact a0a.lt _ _ _ k7 b hb
theorem d7j (hn:js.Nodup) (hin:∀ j ∈ js,j < h.length) {b:Nat} (hl:liveAt (b1z h js) (b5y σ js) b):∃ o x c,h[o]? = some x ∧ x.isLive = true ∧ o ∈ js ∧ σ o = some (b,c):=by
 obtain ⟨k,y,c,h1,h2,h3⟩:=hl
 obtain ⟨o,x,g1,g2,rfl⟩:=(a4x hin).1 h1
 rw [a5m] at h2
 simp only [b5y,g1] at h3
 exact ⟨o,x,c,g2,h2,List.mem_of_getElem? g1,h3⟩
theorem b0m (hn:js.Nodup) (hin:∀ j ∈ js,j < h.length) {b:Nat} (hl:liveAt (b1z h js) (b5y σ js) b):liveAt h σ b:=by
 obtain ⟨o,x,c,h1,h2,_,h3⟩:=d7j hn hin hl
 exact ⟨o,x,c,h1,h2,h3⟩
theorem b6l (hn:js.Nodup) (hin:∀ j ∈ js,j < h.length):d3i (a7r js) σ h (b5y σ js) (b1z h js):=by
 intro o k x h1 h2
 have hk:=(a5e hn).1 h1
 exact ⟨(a4x hin).2 ⟨o,x,hk,h2,rfl⟩,by simp only [b5y,hk]⟩
theorem b7y {b:Nat} (hm:(d0c C σ φ h js).mine b):C.mine b:=⟨hm.1,fun hf => hm.2 (.inl hf)⟩
theorem d5e (hn:js.Nodup) (hin:∀ j ∈ js,j < h.length) (b:Nat) (h1:C.imm b) (h2:¬ liveAt h σ b):(d0c C σ φ h js).imm b ∧ ¬ liveAt (b1z h js) (b5y σ js) b :=
 ⟨⟨⟨⟨h1.1,fun o x c g1 g2 _ g3 => h2 ⟨o,x,c,g1,g2,g3⟩⟩,fun hm hmine => absurd hmine (h1.2 hm)⟩,fun hm hmine => h1.2 hm (b7y hmine)⟩,fun hl => h2 (b0m hn hin hl)⟩
theorem e2s (hn:js.Nodup) (hin:∀ j ∈ js,j < h.length) (hr:o9 C σ φ h w) {o:Nat} {x:l7} (ho:h[o]? = some x) (hx:x.rw = true) (hj:o ∈ js) (b:Nat) (hb:b ∈ φ o) (h1:C.ok b) (h2:¬ liveAt h σ b):(d0c C σ φ h js).ok b ∧ ¬ liveAt (b1z h js) (b5y σ js) b:=by
 refine ⟨⟨⟨h1,fun o x c g1 g2 _ g3 => h2 ⟨o,x,c,g1,g2,g3⟩⟩,fun _ _ => ?_⟩,fun hl => h2 (b0m hn hin hl)⟩
 rintro (⟨o',x',c',k1,k2,k3,k4⟩ | ⟨hdm,o',x',k1,k1',k2,k3⟩)
 ·exact h2 ⟨o',x',c',k1,k2,k4⟩
 ·exact (hr.deepx hdm o x ho hx).2.2 o' x' k1 k1' (fun he => by subst he; exact k2 hj) b hb k3
theorem e6e (hn:js.Nodup) (hin:∀ j ∈ js,j < h.length) (hr:o9 C σ φ h w):o9 (d0c C σ φ h js) (b5y σ js) (c4t φ js) (b1z h js) w where
 obj k y hk:=by
  obtain ⟨o,x,g1,g2,rfl⟩:=(a4x hin).1 hk
  have hob:=hr.obj o x g2
  have e1:b5y σ js k = σ o:=by simp only [b5y,g1]
  have e2:c4t φ js k = φ o:=by simp only [c4t,g1]
  cases x with
  | dead => trivial
  | box sz v =>
   obtain ⟨g,cur,e,h1,h2,h3,h4⟩:=hob
   exact ⟨g,cur,e,by rw [e1]; exact h1,h2,h3,b2a (b6l hn hin) (d5e hn hin) _ _ h4⟩
  | map m =>
   obtain ⟨g,cur,e,h1,h2,h3,h4⟩:=hob
   exact ⟨g,cur,e,by rw [e1]; exact h1,h2,h3.ren _,by rw [c4q]; exact b5k (b6l hn hin) (d5e hn hin) _ _ h4⟩
  | row sz l =>
   obtain ⟨h0,hob⟩:=hob
   refine ⟨h0,?_⟩
   rw [e1,e2]
   cases hs:σ o with
   | none => rw [hs] at hob; exact hob
   | some p =>
    rw [hs] at hob
    obtain ⟨h1,cur,e,h2,h3,h4,h5⟩:=hob
    exact ⟨h1,cur,e,h2,h3,h4,fun b hb => e2s hn hin hr g2 rfl (List.mem_of_getElem? g1) b hb (h5 b hb).1 (h5 b hb).2⟩
  | rowx sz l i el =>
   obtain ⟨hz,hmm,hi,g,c,cur,e,f1,f2,k1,k2,k3,k4,k5,k6,k7,k7',k8,k9⟩:=hob
   exact ⟨hz,hmm,hi,g,c,cur,e,f1,f2,by rw [e1]; exact k1,k2,k3,k4,k5,b2a (b6l hn hin) (d5e hn hin) _ _ k6,k7,by rw [b5j]; exact k7',by rw [e2]; exact k8,fun b hb => by rw [e2] at hb; exact e2s hn hin hr g2 rfl (List.mem_of_getElem? g1) b hb (k9 b hb).1 (k9 b hb).2⟩
 inj k k' y y' b c c' hk hy hk' hy' hs hs':=by
  obtain ⟨o,x,g1,g2,rfl⟩:=(a4x hin).1 hk
  obtain ⟨o',x',g1',g2',rfl⟩:=(a4x hin).1 hk'
  rw [a5m] at hy hy'
  simp only [b5y,g1] at hs
  simp only [b5y,g1'] at hs'
  have:=hr.inj o o' x x' b c c' g2 hy g2' hy' hs hs'
  subst this
  have e1:=(a5e hn).2 g1
  have e2:=(a5e hn).2 g1'
  rw [e1] at e2
  exact Option.some.inj e2
 base k y b c hk hy hs:=by
  obtain ⟨o,x,g1,g2,rfl⟩:=(a4x hin).1 hk
  rw [a5m] at hy
  simp only [b5y,g1] at hs
  have hm:=hr.base o x b c g2 hy hs
  refine ⟨hm.1,?_⟩
  rintro (hf | ⟨o',x',c',k1,k2,k3,k4⟩ | ⟨_,o',x',k1,k1',k2,k3⟩)
  ·exact hm.2 hf
  ·have:=hr.inj o o' x x' b c c' g2 hy k1 k2 hs k4
   subst this
   exact k3 (List.mem_of_getElem? g1)
  ·exact (hr.phix k1 k1' k3).2 ⟨o,x,c,g2,hy,hs⟩
 deepx hdm k y hk hy:=by
  obtain ⟨o,x,g1,g2,rfl⟩:=(a4x hin).1 hk
  rw [b6k] at hy
  have e2:c4t φ js k = φ o:=by simp only [c4t,g1]
  obtain ⟨d1,d2,d3⟩:=hr.deepx hdm o x g2 hy
  rw [e2]
  refine ⟨d1,fun b hb => ⟨(d2 b hb).1,?_⟩,?_⟩
  ·rintro (hf | ⟨o',x',c',k1,k2,k3,k4⟩ | ⟨_,o',x',k1,k1',k2,k3⟩)
   ·exact (d2 b hb).2 hf
   ·exact (hr.phix g2 hy hb).2 ⟨o',x',c',k1,k2,k4⟩
   ·exact d3 o' x' k1 k1' (fun he => by subst he; exact k2 (List.mem_of_getElem? g1)) b hb k3
  ·intro k' y' hk' hy' hne b hb
   obtain ⟨o',x',g1',g2',rfl⟩:=(a4x hin).1 hk'
   rw [b6k] at hy'
   have e2':c4t φ js k' = φ o':=by simp only [c4t,g1']
   rw [e2']
   refine d3 o' x' g2' hy' (fun he => ?_) b hb
   subst he
   have e1:=(a5e hn).2 g1
   have e3:=(a5e hn).2 g1'
   rw [e1] at e3
   exact hne (Option.some.inj e3).symm
def b8n (σ σ1:Sg) (h:List l7) (js:List Nat):Sg:=fun o => match a7r js o with
 | some k => σ1 k
 | none => if o < h.length then σ o else σ1 (js.length + (o - h.length))
def e3z (φ φ1:Nat → List Nat) (h:List l7) (js:List Nat):Nat → List Nat:=fun o => match a7r js o with
 | some k => φ1 k
 | none => if o < h.length then φ o else φ1 (js.length + (o - h.length))
theorem b2u (hn:js.Nodup) (hin:∀ j ∈ js,j < h.length) {hout:List l7} (hl:js.length ≤ hout.length) {σ1:Sg} {φ1:Nat → List Nat} {o:Nat} {y:l7} (ho:(b5c h js hout)[o]? = some y) :
  (o ∉ js ∧ h[o]? = some y ∧ b8n σ σ1 h js o = σ o ∧ e3z φ φ1 h js o = φ o) ∨
  (∃ k x,hout[k]? = some x ∧ a5x h.length js k = some o ∧ y = a5w (a5x h.length js) x ∧ b8n σ σ1 h js o = σ1 k ∧ e3z φ φ1 h js o = φ1 k):=by
 rw [d0a hn hin hl] at ho
 cases hs:a7r js o with
 | some k =>
  rw [hs] at ho
  simp only [Option.map_eq_some_iff] at ho
  obtain ⟨x,h1,rfl⟩:=ho
  have hk:=(a5e hn).1 hs
  have hlt:=(List.getElem?_eq_some_iff.1 hk).1
  exact .inr ⟨k,x,h1,by unfold a5x; rw [if_pos hlt]; exact hk,rfl,by simp only [b8n,hs],by simp only [e3z,hs]⟩
 | none =>
  rw [hs] at ho
  simp only at ho
  by_cases hlt:o < h.length
  ·rw [if_pos hlt] at ho
   exact .inl ⟨(b3x hn).1 hs,ho,by simp only [b8n,hs,if_pos hlt],by simp only [e3z,hs,if_pos hlt]⟩
  ·rw [if_neg hlt] at ho
   simp only [Option.map_eq_some_iff] at ho
   obtain ⟨x,h1,rfl⟩:=ho
   refine .inr ⟨js.length + (o - h.length),x,h1,?_,rfl,by simp only [b8n,hs,if_neg hlt],by simp only [e3z,hs,if_neg hlt]⟩
   unfold a5x
   rw [if_neg (by omega)]
   congr 1
   omega
theorem c4u (hn:js.Nodup) (hin:∀ j ∈ js,j < h.length) {hout:List l7} (hl:js.length ≤ hout.length) {σ1:Sg} {k o:Nat} {x:l7} (hk:a5x h.length js k = some o) (hx:hout[k]? = some x) :
  (b5c h js hout)[o]? = some (a5w (a5x h.length js) x) ∧ b8n σ σ1 h js o = σ1 k:=by
 rw [d0a hn hin hl]
 unfold a5x at hk
 split at hk
 ·have hs:=(a5e hn).2 hk
  rw [hs]
  simp only [b8n,hs,hx,Option.map_some,and_self]
 ·rename_i hlt
  simp only [Option.some.injEq] at hk
  have hs:a7r js o = none:=(b3x hn).2 fun hm => by have:=hin o hm; omega
  rw [hs]
  have h1:¬ o < h.length:=by omega
  have h2:js.length + (o - h.length) = k:=by omega
  simp only [b8n,hs,if_neg h1,h2,hx,Option.map_some,and_self]
theorem d7k (hn:js.Nodup) (hin:∀ j ∈ js,j < h.length) {hout:List l7} (hl:js.length ≤ hout.length) {σ1:Sg} {o:Nat} {x:l7} (ho:h[o]? = some x) (hj:o ∉ js) :
  (b5c h js hout)[o]? = some x ∧ b8n σ σ1 h js o = σ o:=by
 have hlt:=(List.getElem?_eq_some_iff.1 ho).1
 rw [d0a hn hin hl,(b3x hn).2 hj]
 simp only [if_pos hlt,b8n,(b3x hn).2 hj,ho,and_self]
theorem e6f (hmd:C.mm = true → C.dm = true) (hn:js.Nodup) (hin:∀ j ∈ js,j < h.length) (hr:o9 C σ φ h w) {hout:List l7} {w':World} {σ1:Sg} {φ1:Nat → List Nat}
  (h1:o9 (d0c C σ φ h js) σ1 φ1 hout w') (ev1:EvX (d0c C σ φ h js) (b5y σ js) (b1z h js) w σ1 hout w') :
  o9 C (b8n σ σ1 h js) (e3z φ φ1 h js) (b5c h js hout) w' ∧ EvX C σ h w (b8n σ σ1 h js) (b5c h js hout) w' ∧
   ∀ r v,RV (d0c C σ φ h js) σ1 hout w' r v → RV C (b8n σ σ1 h js) (b5c h js hout) w' (ren (a5x h.length js) r) v:=by
 have hl:js.length ≤ hout.length:=by
  by_cases h0:js.length = 0
  ·omega
  ·have hk:js.length - 1 < js.length:=by omega
   have g1:js[js.length - 1]? = some js[js.length - 1]:=by simp [hk]
   have hlt:=hin _ (List.mem_of_getElem? g1)
   have hs:=(a4x hin).2 ⟨_,h[js[js.length - 1]],g1,by simp [hlt],rfl⟩
   have:∃ y,hout[js.length - 1]? = some y:=by
    by_cases hlive:(a5w (a7r js) h[js[js.length - 1]]).isLive = true
    ·rcases ev1.obj _ _ hs hlive with hd | ⟨_,x',hx',_⟩
     ·exact ⟨_,hd⟩
     ·exact ⟨_,hx'⟩
    ·have:a5w (a7r js) h[js[js.length - 1]] = .dead:=by
      cases hh:h[js[js.length - 1]] <;> simp [hh,a5w,l7.isLive] at hlive ⊢
     rw [this] at hs
     exact ⟨_,ev1.gone _ hs⟩
   obtain ⟨y,hy⟩:=this
   have:=(List.getElem?_eq_some_iff.1 hy).1
   omega
 -- an untouched live block is no block of what came back
 have apart:∀ o x b c k y c',h[o]? = some x → x.isLive = true → o ∉ js → σ o = some (b,c) → hout[k]? = some y → y.isLive = true → σ1 k = some (b,c') → False:=by
  intro o x b c k y c' g1 g2 g3 g4 g5 g6 g7
  exact (h1.base k y b c' g5 g6 g7).2 (.inr (.inl ⟨o,x,c,g1,g2,g3,g4⟩))
 have live':∀ b,liveAt (b5c h js hout) (b8n σ σ1 h js) b → (∃ o x c,h[o]? = some x ∧ x.isLive = true ∧ o ∉ js ∧ σ o = some (b,c)) ∨ liveAt hout σ1 b:=by
  rintro b ⟨o,y,c,g1,g2,g3⟩
  rcases b2u (σ:=σ) (φ:=φ) (σ1:=σ1) (φ1:=φ1) hn hin hl g1 with ⟨k1,k2,k3,_⟩ | ⟨k,x,k1,k2,rfl,k4,_⟩
  ·rw [k3] at g3
   exact .inl ⟨o,y,c,k2,g2,k1,g3⟩
  ·rw [a5m] at g2
   rw [k4] at g3
   exact .inr ⟨k,x,c,k1,g2,g3⟩
 have ev:EvX C σ h w (b8n σ σ1 h js) (b5c h js hout) w':=by
  refine ⟨?_,?_,?_,?_,ev1.size⟩
  ·intro o x ho hx
   by_cases hj:o ∈ js
   ·obtain ⟨k,hk⟩:=List.mem_iff_getElem?.1 hj
    have hs:=(a4x hin).2 ⟨o,x,hk,ho,rfl⟩
    have hkl:=(List.getElem?_eq_some_iff.1 hk).1
    have hb:a5x h.length js k = some o:=by unfold a5x; rw [if_pos hkl]; exact hk
    rcases ev1.obj k _ hs (by rw [a5m]; exact hx) with hd | ⟨e,x',hx',hsh⟩
    ·exact .inl (c4u (σ:=σ) (σ1:=σ1) hn hin hl hb hd).1
    ·obtain ⟨q1,q2⟩:=c4u (σ:=σ) (σ1:=σ1) hn hin hl hb hx'
     refine .inr ⟨by rw [q2,e]; simp only [b5y,hk],_,q1,?_⟩
     cases x <;> cases x' <;> simp_all [sameShape,a5w]
   ·obtain ⟨q1,q2⟩:=d7k (σ:=σ) (σ1:=σ1) hn hin hl ho hj
    exact .inr ⟨q2,x,q1,sameShape.refl hx⟩
  ·intro o ho
   by_cases hj:o ∈ js
   ·obtain ⟨k,hk⟩:=List.mem_iff_getElem?.1 hj
    have hs:=(a4x hin).2 ⟨o,_,hk,ho,rfl⟩
    have hkl:=(List.getElem?_eq_some_iff.1 hk).1
    have hb:a5x h.length js k = some o:=by unfold a5x; rw [if_pos hkl]; exact hk
    exact (c4u (σ:=σ) (σ1:=σ1) hn hin hl hb (ev1.gone k hs)).1
   ·exact (d7k (σ:=σ) (σ1:=σ1) hn hin hl ho hj).1
  ·intro b hb hlv
   rcases live' b hlv with ⟨o,x,c,g1,g2,_,g3⟩ | g
   ·exact .inl ⟨o,x,c,g1,g2,g3⟩
   ·exact (ev1.live b hb g).imp (b0m hn hin) (fun h => ⟨h.1,b7y h.2⟩)
  ·intro b hb hlv hm
   exact ev1.blk b hb (fun hl' => hlv (b0m hn hin hl')) fun h1 h2 => hm h1 (b7y h2)
 have hkeep:∀ o x,o ∉ js → h[o]? = some x → x.rw = true → ∀ b ∈ φ o,¬ liveAt (b5c h js hout) (b8n σ σ1 h js) b:=by
  intro o x hj ho hx b hb hlv
  have hphi:=hr.phix ho hx hb
  rcases live' b hlv with ⟨o',x',c,g1,g2,_,g3⟩ | g
  ·exact hphi.2 ⟨o',x',c,g1,g2,g3⟩
  ·rcases ev1.live b (hr.phiLtx ho hx hb) g with h1 | ⟨h1,h2⟩
   ·exact hphi.2 (b0m hn hin h1)
   ·exact h2.2 (.inr (.inr ⟨hmd h1,o,x,ho,hx,hj,hb⟩))
 have hok0:∀ b,(d0c C σ φ h js).ok b → ¬ liveAt hout σ1 b → C.ok b ∧ ¬ liveAt (b5c h js hout) (b8n σ σ1 h js) b:=by
  rintro b ⟨⟨g1,g2⟩,_⟩ g3
  refine ⟨g1,fun hlv => ?_⟩
  rcases live' b hlv with ⟨o,x,c,k1,k2,k3,k4⟩ | k
  ·exact g2 o x c k1 k2 k3 k4
  ·exact g3 k
 have hok':∀ b,(d0c C σ φ h js).imm b → ¬ liveAt hout σ1 b → C.imm b ∧ ¬ liveAt (b5c h js hout) (b8n σ σ1 h js) b:=by
  intro b h1 h2
  obtain ⟨g1,g2⟩:=hok0 b h1.1 h2
  refine ⟨⟨g1,fun hm hmine => ?_⟩,g2⟩
  refine h1.2 hm ⟨hmine.1,?_⟩
  rintro (hf | hf)
  ·exact hmine.2 hf
  ·exact h1.1.2 hm hmine hf
 have hren:d3i (a5x h.length js) σ1 hout (b8n σ σ1 h js) (b5c h js hout):=fun k o x hk hx => c4u hn hin hl hk hx
 refine ⟨?_,ev,fun r v hv => d0b hren hok' r v hv⟩
 refine ⟨?_,?_,?_,?_⟩
 ·intro o y ho
  rcases b2u (σ:=σ) (φ:=φ) (σ1:=σ1) (φ1:=φ1) hn hin hl ho with ⟨k1,k2,k3,k4⟩ | ⟨k,x,k1,k2,rfl,k4,k5⟩
  ·have hob:=hr.obj o y k2
   have hsame:∀ g c,σ o = some (g,c) → y.isLive = true → w'.heap[g]? = w.heap[g]?:=by
    intro g c hs hy
    refine ev1.blk g (hr.lt k2 hy hs) (fun hlv => ?_) fun _ hmine => hmine.2 (.inr (.inl ⟨o,y,c,k2,hy,k1,hs⟩))
    obtain ⟨o',x',c',q1,q2,q3,q4⟩:=d7j hn hin hlv
    have:=hr.inj o o' y x' g c c' k2 hy q1 q2 hs q4
    subst this
    exact k1 q3
   cases y with
   | dead => trivial
   | box sz v =>
    obtain ⟨g,cur,e,g1,g2,g3,g4⟩:=hob
    exact ⟨g,cur,e,by rw [k3]; exact g1,by rw [hsame g 1 g1 rfl]; exact g2,g3,ev.rvs _ _ g4⟩
   | map m =>
    obtain ⟨g,cur,e,g1,g2,g3,g4⟩:=hob
    exact ⟨g,cur,e,by rw [k3]; exact g1,by rw [hsame g 1 g1 rfl]; exact g2,g3,ev.rvs _ _ g4⟩
   | row sz l =>
    have hphi:=fun b (hb:b ∈ φ o) => hr.phi k2 hb
    have hplt:=fun b (hb:b ∈ φ o) => hr.phiLt k2 hb
    obtain ⟨g0,hob⟩:=hob
    refine ⟨g0,?_⟩
    rw [k3,k4]
    cases hs:σ o with
    | none => rw [hs] at hob; exact hob
    | some p =>
     obtain ⟨g,c⟩:=p
     rw [hs] at hob
     obtain ⟨g1,cur,e,g2,g3,g4,g5⟩:=hob
     refine ⟨g1,cur,e,by rw [hsame g c hs rfl]; exact g2,g3,?_,fun b hb => ⟨(g5 b hb).1,hkeep o _ k1 k2 rfl b hb⟩⟩
     exact a0a.world _ _ _ (fun b hb => ev1.blk b (hplt b hb) (fun hlv => (hphi b hb).2 (b0m hn hin hlv)) fun hm hmine => hmine.2 (.inr (.inr ⟨hmd hm,o,_,k2,rfl,k1,hb⟩))) g4
   | rowx sz l i el =>
    have hphi:=fun b (hb:b ∈ φ o) => hr.phix k2 rfl hb
    have hplt:=fun b (hb:b ∈ φ o) => hr.phiLtx k2 rfl hb
    obtain ⟨hz,hmm,hi,g,c,cur,e,f1,f2,q1,q2,q3,q4,q5,q6,q7,q7',q8,q9⟩:=hob
    have hwb:∀ b ∈ φ o,w'.heap[b]? = w.heap[b]?:=fun b hb => ev1.blk b (hplt b hb) (fun hlv => (hphi b hb).2 (b0m hn hin hlv)) fun hm hmine => hmine.2 (.inr (.inr ⟨hmd hm,o,_,k2,rfl,k1,hb⟩))
    exact ⟨hz,hmm,hi,g,c,cur,e,f1,f2,by rw [k3]; exact q1,q2,by rw [hsame g c q1 rfl]; exact q3,q4,a0a.world _ _ _ (fun b hb => hwb b (by rw [q8]; simp [hb])) q5,ev.rvs _ _ q6,
     a0a.world _ _ _ (fun b hb => hwb b (by rw [q8]; simp [hb])) q7,q7',by rw [k4]; exact q8,fun b hb => by rw [k4] at hb; exact ⟨(q9 b hb).1,hkeep o _ k1 k2 rfl b hb⟩⟩
  ·have hob:=h1.obj k x k1
   cases x with
   | dead => trivial
   | box sz v =>
    obtain ⟨g,cur,e,g1,g2,g3,g4⟩:=hob
    exact ⟨g,cur,e,by rw [k4]; exact g1,g2,g3,b2a hren hok' _ _ g4⟩
   | map m =>
    obtain ⟨g,cur,e,g1,g2,g3,g4⟩:=hob
    exact ⟨g,cur,e,by rw [k4]; exact g1,g2,g3.ren _,by rw [c4q]; exact b5k hren hok' _ _ g4⟩
   | row sz l =>
    obtain ⟨g0,hob⟩:=hob
    refine ⟨g0,?_⟩
    rw [k4,k5]
    cases hs:σ1 k with
    | none => rw [hs] at hob; exact hob
    | some p =>
     obtain ⟨g,c⟩:=p
     rw [hs] at hob
     obtain ⟨g1,cur,e,g2,g3,g4,g5⟩:=hob
     exact ⟨g1,cur,e,g2,g3,g4,fun b hb => hok0 b (g5 b hb).1 (g5 b hb).2⟩
   | rowx sz l i el =>
    obtain ⟨hz,hmm,hi,g,c,cur,e,f1,f2,q1,q2,q3,q4,q5,q6,q7,q7',q8,q9⟩:=hob
    exact ⟨hz,hmm,hi,g,c,cur,e,f1,f2,by rw [k4]; exact q1,q2,q3,q4,q5,b2a hren hok' _ _ q6,q7,by rw [b5j]; exact q7',by rw [k5]; exact q8,fun b hb => by rw [k5] at hb; exact hok0 b (q9 b hb).1 (q9 b hb).2⟩
 ·intro o o' y y' b c c' ho hy ho' hy' hs hs'
  rcases b2u (σ:=σ) (φ:=φ) (σ1:=σ1) (φ1:=φ1) hn hin hl ho with ⟨k1,k2,k3,k4⟩ | ⟨k,x,k1,k2,rfl,k4,k5⟩
  ·rw [k3] at hs
   rcases b2u (σ:=σ) (φ:=φ) (σ1:=σ1) (φ1:=φ1) hn hin hl ho' with ⟨q1,q2,q3,q4⟩ | ⟨q,x',q1,q2,rfl,q4,q5⟩
   ·rw [q3] at hs'
    exact hr.inj o o' y y' b c c' k2 hy q2 hy' hs hs'
   ·rw [q4] at hs'
    rw [a5m] at hy'
    exact (apart o y b c q x' c' k2 hy k1 hs q1 hy' hs').elim
  ·rw [k4] at hs
   rw [a5m] at hy
   rcases b2u (σ:=σ) (φ:=φ) (σ1:=σ1) (φ1:=φ1) hn hin hl ho' with ⟨q1,q2,q3,q4⟩ | ⟨q,x',q1,q2,rfl,q4,q5⟩
   ·rw [q3] at hs'
    exact (apart o' y' b c' k x c q2 hy' q1 hs' k1 hy hs).elim
   ·rw [q4] at hs'
    rw [a5m] at hy'
    have:=h1.inj k q x x' b c c' k1 hy q1 hy' hs hs'
    subst this
    rw [k2] at q2
    exact Option.some.inj q2
 ·intro o y b c ho hy hs
  rcases b2u (σ:=σ) (φ:=φ) (σ1:=σ1) (φ1:=φ1) hn hin hl ho with ⟨k1,k2,k3,k4⟩ | ⟨k,x,k1,k2,rfl,k4,k5⟩
  ·rw [k3] at hs
   exact hr.base o y b c k2 hy hs
  ·rw [k4] at hs
   rw [a5m] at hy
   exact b7y (h1.base k x b c k1 hy hs)
 ·intro hdm o y ho hy
  rcases b2u (σ:=σ) (φ:=φ) (σ1:=σ1) (φ1:=φ1) hn hin hl ho with ⟨k1,k2,k3,k4⟩ | ⟨k,x,k1,k2,rfl,k4,k5⟩
  ·obtain ⟨d1,d2,d3⟩:=hr.deepx hdm o y k2 hy
   rw [k4]
   refine ⟨d1,d2,?_⟩
   intro o' y' ho' hy' hne b hb hb'
   rcases b2u (σ:=σ) (φ:=φ) (σ1:=σ1) (φ1:=φ1) hn hin hl ho' with ⟨q1,q2,q3,q4⟩ | ⟨q,x',q1,q2,rfl,q4,q5⟩
   ·rw [q4] at hb'
    exact d3 o' y' q2 hy' hne b hb hb'
   ·rw [b6k] at hy'
    rw [q5] at hb'
    exact ((h1.deepx hdm q x' q1 hy').2.1 b hb').2 (.inr (.inr ⟨hdm,o,y,k2,hy,k1,hb⟩))
  ·rw [b6k] at hy
   obtain ⟨d1,d2,d3⟩:=h1.deepx hdm k x k1 hy
   rw [k5]
   refine ⟨d1,fun b hb => b7y (d2 b hb),?_⟩
   intro o' y' ho' hy' hne b hb hb'
   rcases b2u (σ:=σ) (φ:=φ) (σ1:=σ1) (φ1:=φ1) hn hin hl ho' with ⟨q1,q2,q3,q4⟩ | ⟨q,x',q1,q2,rfl,q4,q5⟩
   ·rw [q4] at hb'
    exact (d2 b hb).2 (.inr (.inr ⟨hdm,o',y',q2,hy',q1,hb'⟩))
   ·rw [b6k] at hy'
    rw [q5] at hb'
    refine d3 q x' q1 hy' (fun he => ?_) b hb hb'
    subst he
    rw [k2] at q2
    exact hne (Option.some.inj q2).symm
def c4v (hi hout:List l7):Prop:=∀ (i z:Nat) (l:List AV) (z':Nat) (l':List AV),hi[i]? = some (.row z l) → hout[i]? = some (.row z' l') → l'.length = l.length
theorem EvX.shapes {σ1 σ2:Sg} {hi hout:List l7} {w1 w2:World} (ev:EvX C σ1 hi w1 σ2 hout w2):c4v hi hout:=by
 intro i z l z' l' h1 h2
 rcases ev.obj i _ h1 rfl with hd | ⟨_,x',hx',hs⟩
 ·rw [hd] at h2; cases h2
 ·rw [h2] at hx'
  cases hx'
  exact hs.2.symm
theorem a3n.sound (hmd:C.mm = true → C.dm = true) (hr:o9 C σ φ h w) (hok:∀ b,C.mine b → C.ok b) (hb:∀ b,w.heap.size ≤ b → C.mine b) {f:Nat} {as:List AV} {vs:List Value} (hv:RVs C σ h w as vs)
  {args:List AV} {hi hout:List l7} {r:AV} (hn:js.Nodup) (hin:∀ j ∈ js,j < h.length) (ha:LeL (a7h (a7r js) as) args) (hh:LeH (b1z h js) hi) (hc:a3n P C.md.nz f args hi r hout) :
  Calls P f vs.toArray w fun e w' => match e with
   | .returned v => ∃ σ' φ',o9 C σ' φ' (b5c h js hout) w' ∧ EvX C σ h w σ' (b5c h js hout) w' ∧ RV C σ' (b5c h js hout) w' (ren (a5x h.length js) r) v ∧ Below C.base w w' ∧ c4v hi hout
   | _ => False:=by
 have h1:=e6e hn hin hr
 have h2:=hh.heap h1
 have hvs:=b5k (C':=d0c C σ φ h js) (b6l hn hin) (d5e hn hin) as vs hv
 have hvs2:=LeL.rvs ha _ ((LeH.ev hh).rvs _ _ hvs)
 refine (hc (d0c C σ φ h js) _ _ w vs rfl hmd ?_ ?_ h2 hvs2).mono ?_
 ·intro b hm
  refine ⟨⟨hok b (b7y hm),fun o x c g1 g2 g3 g4 => hm.2 (.inr (.inl ⟨o,x,c,g1,g2,g3,g4⟩))⟩,fun _ _ hf => hm.2 (.inr hf)⟩
 ·intro b hge
  have hm:=hb b hge
  refine ⟨hm.1,?_⟩
  rintro (hf | ⟨o,x,c,g1,g2,g3,g4⟩ | ⟨_,o,x,g1,g1',g2,g3⟩)
  ·exact hm.2 hf
  ·have:=hr.lt g1 g2 g4; omega
  ·have:=hr.phiLtx g1 g1' g3; omega
 ·intro e w' he
  cases e with
  | returned v =>
   obtain ⟨σ1,φ1,k1,k2,k3,k4⟩:=he
   obtain ⟨m1,m2,m3⟩:=e6f hmd hn hin hr k1 ((LeH.ev hh).x.trans k2)
   exact ⟨_,_,m1,m2,m3 r v k3,k4,k2.shapes⟩
  | panicked _ => exact he
  | outgrown => exact he
end
end Go.R
end
section
set_option linter.all false
namespace Go.R
open Go Go.RowKit
theorem a0b.setAt {m:Bool} {w:World}:∀ {as:List AV} {cs:List Value} {fp:List Nat} {i:Nat} {a:AV},a0b m w as cs fp → as[i]? = some a →
  ∃ A f B c,fp = A ++ f ++ B ∧ cs[i]? = some c ∧ a.isCell = true ∧ Rep m w a [c] f ∧
   ∀ w' a' f',(∀ b ∈ A ++ B,w'.heap[b]? = w.heap[b]?) → a'.isCell = true → Rep m w' a' [c] f' → a0b m w' (as.set i a') cs (A ++ f' ++ B)
 | [],_,_,_,_,_,h => by simp at h
 | x :: as,cs,fp,0,a,h,hi => by
  simp only [a0b] at h
  obtain ⟨c,cs',f1,f2,rfl,hc,h1,h2,rfl⟩:=h
  simp at hi
  subst hi
  refine ⟨[],f1,f2,c,by simp,rfl,hc,h1,?_⟩
  intro w' a' f' hw hc' hr
  simp only [List.set_cons_zero,a0b]
  exact ⟨c,cs',f',f2,rfl,hc',hr,a0b.world _ _ _ (fun b hb => hw b (by simpa using hb)) h2,rfl⟩
 | x :: as,cs,fp,i + 1,a,h,hi => by
  simp only [a0b] at h
  obtain ⟨c,cs',f1,f2,rfl,hc,h1,h2,rfl⟩:=h
  obtain ⟨A,f,B,c',rfl,g1,g2,g3,g4⟩:=a0b.setAt h2 (by simpa using hi)
  refine ⟨f1 ++ A,f,B,c',by simp,by simpa using g1,g2,g3,?_⟩
  intro w' a' f' hw hc' hr
  simp only [List.set_cons_succ,a0b]
  refine ⟨c,cs',f1,A ++ f' ++ B,rfl,hc,Rep.world _ _ _ (fun b hb => hw b (by simp [hb])) h1,?_,by simp⟩
  exact g4 w' a' f' (fun b hb => hw b (by simp only [List.mem_append] at hb ⊢; rcases hb with hb | hb; exact .inl (.inr hb); exact .inr hb)) hc' hr
def b7z (el:AV) (f:Nat) (a:AV):AV:=match el with
 | .agg cs => .agg (cs.set f a)
 | _ => a
theorem Rep.elAt {m:Bool} {w:World} {el a:AV} {cs:List Value} {fp:List Nat} {f:Nat} (he:el.isElem = true) (hr:Rep m w el cs fp) (hf:el.cells[f]? = some a) :
  ∃ A fc B c,fp = A ++ fc ++ B ∧ a.isCell = true ∧ Rep m w a [c] fc ∧
   ∀ w' a' f',(∀ b ∈ A ++ B,w'.heap[b]? = w.heap[b]?) → a'.isCell = true → Rep m w' a' [c] f' → Rep m w' (b7z el f a') cs (A ++ f' ++ B):=by
 by_cases hc:el.isCell = true
 ·obtain ⟨c,rfl,_⟩:=hr.cell hc
  have hcells:el.cells = [el]:=by cases el <;> simp_all [AV.cells,AV.isCell]
  rw [hcells] at hf
  have h0:f = 0:=by
   cases f with
   | zero => rfl
   | succ f => simp at hf
  subst h0
  simp at hf
  subst hf
  refine ⟨[],fp,[],c,by simp,hc,hr,?_⟩
  intro w' a' f' hw hc' hr'
  have:b7z el 0 a' = a':=by cases el <;> first | rfl | simp [AV.isCell] at hc
  rw [this]
  simpa using hr'
 ·cases el with
  | agg as =>
   simp only [Rep] at hr
   obtain ⟨A,fc,B,c,h1,_,h2,h3,h4⟩:=a0b.setAt hr hf
   refine ⟨A,fc,B,c,h1,h2,h3,?_⟩
   intro w' a' f' hw hc' hr'
   simp only [b7z,Rep]
   exact h4 w' a' f' hw hc' hr'
  | tup as => simp [AV.isElem] at he
  | _ => simp [AV.isCell] at hc
theorem a0a.elAt {m:Bool} {w:World} {z i f:Nat} {l:List AV} {cs:List Value} {fp:List Nat} {el a:AV} (hr:a0a m w z l cs fp) (hi:l[i]? = some el) (hf:el.cells[f]? = some a) :
  ∃ A fc B c,fp = A ++ fc ++ B ∧ a.isCell = true ∧ Rep m w a [c] fc ∧
   ∀ w' a' f',(∀ b ∈ A ++ B,w'.heap[b]? = w.heap[b]?) → a'.isCell = true → Rep m w' a' [c] f' → a0a m w' z (l.set i (b7z el f a')) cs (A ++ f' ++ B):=by
 obtain ⟨A,fe,B,rfl,g1,g2,g3,g4⟩:=hr.set hi
 obtain ⟨A',fc,B',c,rfl,k1,k2,k3⟩:=g1.elAt g3 hf
 refine ⟨A ++ A',fc,B' ++ B,c,by simp,k1,k2,?_⟩
 intro w' a' f' hw hc' hr'
 have h1:=k3 w' a' f' (fun b hb => hw b (by simp only [List.mem_append] at hb ⊢; rcases hb with hb | hb; exact .inl (.inr hb); exact .inr (.inl hb))) hc' hr'
 have he:(b7z el f a').isElem = true:=by
  cases el with
  | agg _ => rfl
  | _ => cases a' <;> first | rfl | simp [AV.isCell] at hc'
 have h2:=g4 w' _ _ _ (fun b hb => hw b (by simp only [List.mem_append] at hb ⊢; rcases hb with hb | hb; exact .inl (.inl hb); exact .inr (.inr hb))) g2 he h1
 have e:cs.take (i * z) ++ (cs.drop (i * z)).take z ++ cs.drop (i * z + z) = cs:=by
  rw [List.append_assoc,← List.drop_drop,List.take_append_drop,List.take_append_drop]
 rw [e] at h2
 simpa [List.append_assoc] using h2
section
variable {P:Program} {C:Ctx} {σ:Sg} {φ:Nat → List Nat} {h:List l7} {w:World}
theorem d5f (hr:o9 C σ φ h w) {o i f z z':Nat} {l l':List AV} {el:AV} (ho:h[o]? = some (.row z l)) (hel:l[i]? = some el) (hf:el.cells[f]? = some (.lst z' l')) :
  ∃ v φ',o9 C σ φ' (h.set o (.row z (l.set i (b7z el f (.hdr v z' l'))))) w ∧ Ev σ h w σ (h.set o (.row z (l.set i (b7z el f (.hdr v z' l'))))) w:=by
 obtain ⟨hz,hob⟩:=hr.obj o _ ho
 cases hs:σ o with
 | none =>
  rw [hs] at hob
  rw [hob.1] at hel
  simp at hel
 | some p =>
  obtain ⟨g,c⟩:=p
  rw [hs] at hob
  obtain ⟨hcm,cur,e,h2,h3,h4,h5⟩:=hob
  obtain ⟨A,fc,B,v,hfp,k1,k2,k3⟩:=h4.elAt hel hf
  have hnew:=k3 w (.hdr v z' l') fc (fun _ _ => rfl) rfl (Rep.hdr.2 ⟨rfl,k2⟩)
  rw [← hfp] at hnew
  have key:=hr.turn (w':=w) ho (x':=.row z (l.set i (b7z el f (.hdr v z' l')))) rfl ⟨rfl,by simp⟩ hs (ks:=[]) (by simp) (fx:=φ o) rfl (fun _ _ => rfl) (fun ev => by
   refine ⟨hz,?_⟩
   rw [hs]
   have:upd φ o (φ o) o = φ o:=by simp [upd]
   simp only [this]
   exact ⟨hcm,cur,e,h2,h3,hnew,fun b hb => ⟨(h5 b hb).1,fun hl => (h5 b hb).2 (ev.live b (a0a.lt _ _ _ h4 b hb) hl)⟩⟩) (by
   intro hdm _
   obtain ⟨d1,d2,d3⟩:=hr.deep hdm o z l ho
   exact ⟨d1,d2,fun o' y ho' hy _ hne b hb => d3 o' y ho' hy hne b hb⟩)
  simp only [kill] at key
  exact ⟨v,_,key.1,key.2⟩
def cellC (C:Ctx) (w:World) (fc:List Nat):Ctx:={ base:=C.base,ok:=fun b => C.base ≤ b ∧ ¬ (C.fr b ∨ (b < w.heap.size ∧ b ∉ fc)),dm:=true,fr:=fun b => C.fr b ∨ (b < w.heap.size ∧ b ∉ fc),mm:=true }
theorem b5l {x y:l7} {k:Nat} (h:[x][k]? = some y):k = 0 ∧ y = x:=by
 cases k with
 | zero => simp at h; exact ⟨rfl,h.symm⟩
 | succ k => simp at h
theorem e4a {fc:List Nat} {v:Value} {z':Nat} {l':List AV} (hz:0 < z') (hmine:∀ b ∈ fc,C.mine b) (hn:fc.Nodup) (hr:Rep true w (.lst z' l') [v] fc) :
  ∃ σ1 φ1,o9 (cellC C w fc) σ1 φ1 [.row z' l'] w ∧ RV (cellC C w fc) σ1 [.row z' l'] w (.own 0 0 l'.length) v ∧ (∀ b,liveAt [.row z' l'] σ1 b → b ∈ fc) ∧
   ∀ w' σ2 φ2 l'',o9 (cellC C w fc) σ2 φ2 [.row z' l''] w' → σ2 0 = σ1 0 → l''.length = l'.length → ∃ fc',Rep true w' (.lst z' l'') [v] fc' ∧ fc'.Nodup ∧ ∀ b ∈ fc',(cellC C w fc).mine b:=by
 have hmine':∀ b ∈ fc,(cellC C w fc).mine b:=by
  intro b hb
  refine ⟨(hmine b hb).1,?_⟩
  rintro (hf | ⟨_,hf⟩)
  ·exact (hmine b hb).2 hf
  ·exact hf hb
 simp only [Rep,List.cons.injEq,and_true] at hr
 rcases hr with ⟨rfl,rfl,a,cap,rfl,hcap,hm⟩ | ⟨b,off,cap,cur,e,fz,fps,rfl,h2,h3,h4,h5,rfl,h7,h8⟩
 ·obtain ⟨rfl,rfl⟩:=hm trivial
  refine ⟨fun _ => none,fun _ => [],⟨?_,?_,?_,?_⟩,?_,?_,?_⟩
  ·intro o x ho
   obtain ⟨rfl,rfl⟩:=b5l ho
   exact ⟨hz,rfl,rfl⟩
  ·intro _ _ _ _ _ _ _ _ _ _ _ hs; cases hs
  ·intro _ _ _ _ _ _ hs; cases hs
  ·intro _ o x ho _
   simp
  ·simp only [RV,List.getElem?_cons_zero]
   exact ⟨none,0,rfl,by simp,by simp,by simp [maxLen],rfl,rfl⟩
  ·rintro b ⟨o,x,c,_,_,hs⟩; cases hs
  ·intro w' σ2 φ2 l'' hr' _ hl
   have:l'' = []:=List.eq_nil_of_length_eq_zero (by simpa using hl)
   subst this
   refine ⟨[],?_,by simp,by simp⟩
   simp only [Rep]
   exact .inl ⟨trivial,trivial,none,0,rfl,by simp [maxLen],by simp⟩
 ·obtain ⟨rfl,rfl,hsz⟩:=h5 trivial
  rw [List.nodup_cons] at hn
  have hbm:=hmine' b (by simp)
  refine ⟨fun k => if k = 0 then some (b,cap) else none,fun k => if k = 0 then fps else [],⟨?_,?_,?_,?_⟩,?_,?_,?_⟩
  ·intro o x ho
   obtain ⟨rfl,rfl⟩:=b5l ho
   refine ⟨hz,?_⟩
   simp only [if_pos]
   refine ⟨h3,cur,e,h4,hsz,by rw [List.drop_zero] at h8; exact h8,?_⟩
   intro x hx
   have hxm:=hmine' x (by simp [hx])
   refine ⟨hxm,?_⟩
   rintro ⟨o',y,c',g1,g2,g3⟩
   obtain ⟨rfl,rfl⟩:=b5l g1
   simp only [if_pos,Option.some.injEq,Prod.mk.injEq] at g3
   rw [g3.1] at hn
   exact hn.1 hx
  ·intro o o' x x' b1 c c' h1 _ h2' _ _ _
   rw [(b5l h1).1,(b5l h2').1]
  ·intro o x b1 c h1 _ hs
   obtain ⟨rfl,rfl⟩:=b5l h1
   simp only [if_pos,Option.some.injEq,Prod.mk.injEq] at hs
   rw [← hs.1]
   exact hbm
  ·intro _ o x ho _
   obtain ⟨rfl,_⟩:=b5l ho
   simp only [if_pos]
   refine ⟨hn.2,fun x hx => hmine' x (by simp [hx]),?_⟩
   intro o' x' ho' _ hne
   exact absurd (b5l ho').1 hne
  ·simp only [RV,List.getElem?_cons_zero]
   exact ⟨some ⟨b,0,none⟩,cap,rfl,by simp,h2,h3,by simp⟩
  ·rintro b1 ⟨o,x,c,g1,_,hs⟩
   obtain ⟨rfl,rfl⟩:=b5l g1
   simp only [if_pos,Option.some.injEq,Prod.mk.injEq] at hs
   rw [← hs.1]
   simp
  ·intro w' σ2 φ2 l'' hr' hs hl
   obtain ⟨_,hob⟩:=hr'.obj 0 _ rfl
   simp only [if_pos] at hs
   rw [hs] at hob
   obtain ⟨q1,cur',e',q2,q3,q4,q5⟩:=hob
   obtain ⟨d1,d2,_⟩:=hr'.deep rfl 0 _ _ rfl
   refine ⟨b :: φ2 0,?_,?_,?_⟩
   ·simp only [Rep]
    exact .inr ⟨b,0,cap,cur',e',(0,0),φ2 0,by rw [hl],by rw [hl]; exact h2,h3,q2,fun _ => ⟨rfl,rfl,q3⟩,rfl,h7,by rw [List.drop_zero]; exact q4⟩
   ·rw [List.nodup_cons]
    exact ⟨fun hb => (q5 b hb).2 ⟨0,_,cap,rfl,rfl,hs⟩,d1⟩
   ·intro x hx
    rcases List.mem_cons.1 hx with rfl | hx
    ·exact hbm
    ·exact d2 x hx
theorem e0n (hdm:C.dm = true) (hmm:C.mm = true) (hr:o9 C σ φ h w) (hok:∀ b,C.mine b → C.ok b) (hb:∀ b,w.heap.size ≤ b → C.mine b) {F o i f z z':Nat} {l l' l'':List AV} {el:AV} {v:Value} {n n':Int} {vs:List Value}
  (hv:RVs C σ h w [.hdr v z' l',.int .i64 n] vs) (ho:h[o]? = some (.row z l)) (hel:l[i]? = some el) (hf:el.cells[f]? = some (.hdr v z' l')) (hz:0 < z')
  (hc:a3n P ⟨true,true,false⟩ F [.own 0 0 l'.length,.int .i64 n] [.row z' l'] (.int .i64 n') [.row z' l'']) :
  Calls P F vs.toArray w fun e w' => match e with
   | .returned u => u = .int .i64 n' ∧ ∃ φ',o9 C σ φ' (h.set o (.row z (l.set i (b7z el f (.lst z' l''))))) w' ∧ EvX C σ h w σ (h.set o (.row z (l.set i (b7z el f (.lst z' l''))))) w' ∧ Below C.base w w'
   | _ => False:=by
 simp only [RVs,RV] at hv
 obtain ⟨_,_,rfl,rfl,_,_,rfl,rfl,rfl⟩:=hv
 obtain ⟨hz0,hob⟩:=hr.obj o _ ho
 cases hs:σ o with
 | none =>
  rw [hs] at hob
  rw [hob.1] at hel
  simp at hel
 | some p =>
  obtain ⟨g,c⟩:=p
  rw [hs] at hob
  obtain ⟨hcm,cur,e,h2,h3,h4,h5⟩:=hob
  obtain ⟨A,fc,B,cc,hfp,k1,k2,k3⟩:=h4.elAt hel hf
  rw [hdm] at k2 k3
  obtain ⟨k4,k5⟩:=Rep.hdr.1 k2
  simp only [List.cons.injEq,and_true] at k4
  subst k4
  obtain ⟨d1,d2,d3⟩:=hr.deep hdm o z l ho
  have hfcφ:∀ b ∈ fc,b ∈ φ o:=fun b hb => by rw [hfp]; simp [hb]
  have hABφ:∀ b ∈ A ++ B,b ∈ φ o:=fun b hb => by
   rw [hfp]; simp only [List.mem_append] at hb ⊢; rcases hb with hb | hb
   ·exact .inl (.inl hb)
   ·exact .inr hb
  have hnd:=d1
  rw [hfp] at hnd
  have hnd2:=List.nodup_append.1 hnd
  have hnd3:=List.nodup_append.1 hnd2.1
  have hAB:∀ b ∈ A ++ B,b ∉ fc:=by
   intro b hb hbf
   rcases List.mem_append.1 hb with hb | hb
   ·exact hnd3.2.2 b hb b hbf rfl
   ·exact hnd2.2.2 b (by simp [hbf]) b hb rfl
  have hplt:∀ b ∈ φ o,b < w.heap.size:=fun b hb => a0a.lt _ _ _ h4 b hb
  obtain ⟨σ1,φ1,m1,m2,m3,m4⟩:=e4a (C:=C) hz (fun b hb => d2 b (hfcφ b hb)) hnd3.2.1 k5
  have hrvs:RVs (cellC C w fc) σ1 [.row z' l'] w [.own 0 0 l'.length,.int .i64 n] [cc,.int .i64 n]:=by
   simp only [RVs]
   exact ⟨_,_,rfl,m2,_,_,rfl,by simp only [RV],rfl⟩
  refine (hc (cellC C w fc) σ1 φ1 w _ rfl (fun _ => rfl) (fun b hm => hm) ?_ m1 hrvs).mono ?_
  ·intro b hge
   have hm:=hb b hge
   refine ⟨hm.1,?_⟩
   rintro (hf' | ⟨hlt,_⟩)
   ·exact hm.2 hf'
   ·omega
  ·intro ex w' he
   cases ex with
   | returned u =>
    obtain ⟨σ2,φ2,q1,q2,q3,q4⟩:=he
    simp only [RV] at q3
    refine ⟨q3,?_⟩
    have hlen:σ2 0 = σ1 0 ∧ l''.length = l'.length:=by
     rcases q2.obj 0 _ rfl rfl with hd | ⟨e1,x',hx',hsh⟩
     ·cases hd
     ·obtain ⟨_,rfl⟩:=b5l hx'
      exact ⟨e1,hsh.2.symm⟩
    obtain ⟨fc',r1,r2,r3⟩:=m4 w' σ2 φ2 l'' q1 hlen.1 hlen.2
    have hsame:∀ b,b < w.heap.size → b ∉ fc → w'.heap[b]? = w.heap[b]?:=fun b hlt hnf =>
     q2.blk b hlt (fun hl => hnf (m3 b hl)) fun _ hm => hm.2 (.inr ⟨hlt,hnf⟩)
    have hmC:∀ b,(cellC C w fc).mine b → C.mine b:=fun b hm => ⟨hm.1,fun hf' => hm.2 (.inl hf')⟩
    have hnew:∀ b ∈ fc',b ∈ fc ∨ w.heap.size ≤ b:=by
     intro b hb'
     by_cases hlt:b < w.heap.size
     ·by_cases hbf:b ∈ fc
      ·exact .inl hbf
      ·exact absurd (.inr ⟨hlt,hbf⟩) (r3 b hb').2
     ·exact .inr (by omega)
    have hrep:=k3 w' (.lst z' l'') fc' (fun b hb' => hsame b (hplt b (hABφ b hb')) (hAB b hb')) rfl r1
    obtain ⟨x',hx'⟩:∃ x',x' = l7.row z (l.set i (b7z el f (.lst z' l''))):=⟨_,rfl⟩
    rw [← hx']
    have hlt:o < h.length:=(List.getElem?_eq_some_iff.1 ho).1
    have hget:∀ o',(h.set o x')[o']? = if o' = o then some x' else h[o']?:=by
     intro o'
     rw [List.getElem?_set]
     by_cases he:o = o'
     ·subst he; simp [hlt]
     ·simp [he,Ne.symm he]
    have hxl:x'.isLive = true:=by rw [hx']; rfl
    have live':∀ (o':Nat) (y:l7),(h.set o x')[o']? = some y → y.isLive = true → ∃ y0:l7,h[o']? = some y0 ∧ y0.isLive = true:=by
     intro o' y hy hly
     rw [hget] at hy
     split at hy
     ·rename_i he; subst he; exact ⟨_,ho,rfl⟩
     ·exact ⟨y,hy,hly⟩
    have hlive:∀ b,liveAt (h.set o x') σ b → liveAt h σ b:=by
     rintro b ⟨o',y,c',g1,g2,g3⟩
     obtain ⟨y0,p1,p2⟩:=live' o' y g1 g2
     exact ⟨o',y0,c',p1,p2,g3⟩
    have hgnf:∀ b,liveAt h σ b → b ∉ fc:=fun b hl hbf => (h5 b (hfcφ b hbf)).2 hl
    have ev:EvX C σ h w σ (h.set o x') w':=by
     refine ⟨?_,?_,?_,?_,q4.size⟩
     ·intro o' y hy hly
      rw [hget]
      by_cases he:o' = o
      ·subst he
       rw [ho] at hy
       cases hy
       refine .inr ⟨rfl,x',by simp,?_⟩
       rw [hx']
       exact ⟨rfl,by simp⟩
      ·rw [if_neg he]
       exact .inr ⟨rfl,y,hy,sameShape.refl hly⟩
     ·intro o' hd
      rw [hget,if_neg (fun he => by subst he; rw [ho] at hd; cases hd)]
      exact hd
     ·exact fun b _ hl => .inl (hlive b hl)
     ·intro b hlt' _ hm
      exact hsame b hlt' fun hbf => hm hmm (d2 b (hfcφ b hbf))
    refine ⟨upd φ o (A ++ fc' ++ B),?_,ev,?_⟩
    ·have hall:∀ b ∈ A ++ fc' ++ B,(b ∈ φ o ∧ (b ∈ A ++ B ∨ b ∈ fc)) ∨ w.heap.size ≤ b:=by
      intro b hb'
      rw [List.append_assoc,List.mem_append,List.mem_append] at hb'
      rcases hb' with hb' | hb' | hb'
      ·exact .inl ⟨hABφ b (by simp [hb']),.inl (by simp [hb'])⟩
      ·rcases hnew b hb' with h' | h'
       ·exact .inl ⟨hfcφ b h',.inr h'⟩
       ·exact .inr h'
      ·exact .inl ⟨hABφ b (by simp [hb']),.inl (by simp [hb'])⟩
     have hallm:∀ b ∈ A ++ fc' ++ B,C.mine b:=by
      intro b hb'
      rw [List.append_assoc,List.mem_append,List.mem_append] at hb'
      rcases hb' with hb' | hb' | hb'
      ·exact d2 b (hABφ b (by simp [hb']))
      ·exact hmC b (r3 b hb')
      ·exact d2 b (hABφ b (by simp [hb']))
     refine ⟨?_,?_,?_,?_⟩
     ·intro o' y hy
      rw [hget] at hy
      split at hy
      ·rename_i he
       subst he
       cases hy
       rw [hx']
       refine ⟨hz0,?_⟩
       rw [hs]
       have:upd φ o' (A ++ fc' ++ B) o' = A ++ fc' ++ B:=by simp [upd]
       simp only [this]
       refine ⟨hcm,cur,e,?_,h3,by rw [hdm]; exact hrep,?_⟩
       ·rw [hsame g (lt_of_heap h2) (hgnf g ⟨o',_,c,ho,rfl,hs⟩)]; exact h2
       ·intro b hb'
        refine ⟨hok b (hallm b hb'),fun hl => ?_⟩
        rw [← hx'] at hl
        have hl:=hlive b hl
        rcases hall b hb' with ⟨h',_⟩ | h'
        ·exact (h5 b h').2 hl
        ·have:=hr.liveLt hl; omega
      ·rename_i hne
       have hold:=hr.obj o' y hy
       have same:∀ g' c',σ o' = some (g',c') → y.isLive = true → w'.heap[g']? = w.heap[g']?:=fun g' c' hs' hly =>
        hsame g' (hr.lt hy hly hs') (hgnf g' ⟨o',y,c',hy,hly,hs'⟩)
       cases y with
       | dead => trivial
       | box sz x =>
        obtain ⟨g',cur',e',j1,j2,j3,j4⟩:=hold
        exact ⟨g',cur',e',j1,by rw [same g' 1 j1 rfl]; exact j2,j3,ev.rvs _ _ j4⟩
       | map m3 =>
        obtain ⟨g',cur',e',j1,j2,j3,j4⟩:=hold
        exact ⟨g',cur',e',j1,by rw [same g' 1 j1 rfl]; exact j2,j3,ev.rvs _ _ j4⟩
       | row sz l3 =>
        obtain ⟨j0,hold⟩:=hold
        refine ⟨j0,?_⟩
        have hφ:upd φ o (A ++ fc' ++ B) o' = φ o':=by simp [upd,hne]
        rw [hφ]
        cases hs':σ o' with
        | none => rw [hs'] at hold; exact hold
        | some p' =>
         obtain ⟨g',c'⟩:=p'
         rw [hs'] at hold
         obtain ⟨j1,cur',e',j2,j3,j4,j5⟩:=hold
         refine ⟨j1,cur',e',by rw [same g' c' hs' rfl]; exact j2,j3,?_,fun b hb' => ⟨(j5 b hb').1,fun hl => (j5 b hb').2 (hlive b hl)⟩⟩
         exact a0a.world _ _ _ (fun b hb' => hsame b (a0a.lt _ _ _ j4 b hb') fun hbf => d3 o' _ hy rfl hne b (hfcφ b hbf) hb') j4
       | rowx sz l3 i3 el3 =>
        have hφ:upd φ o (A ++ fc' ++ B) o' = φ o':=by simp [upd,hne]
        obtain ⟨hz',hmm',hi',g',c',cur',e',p1,p2,j1,j2,j3,j4,j5,j6,j7,j7',j8,j9⟩:=hold
        have hwb:∀ b ∈ φ o',w'.heap[b]? = w.heap[b]?:=fun b hb' => hsame b (hr.phiLtx hy rfl hb') fun hbf => d3 o' _ hy rfl hne b (hfcφ b hbf) hb'
        exact ⟨hz',hmm',hi',g',c',cur',e',p1,p2,j1,j2,by rw [same g' c' j1 rfl]; exact j3,j4,a0a.world _ _ _ (fun b hb' => hwb b (by rw [j8]; simp [hb'])) j5,ev.rvs _ _ j6,
         a0a.world _ _ _ (fun b hb' => hwb b (by rw [j8]; simp [hb'])) j7,j7',by rw [hφ]; exact j8,fun b hb' => by rw [hφ] at hb'; exact ⟨(j9 b hb').1,fun hl => (j9 b hb').2 (hlive b hl)⟩⟩
     ·intro o1 o2 y1 y2 b c1 c2 g1 l1 g2 l2 s1 s2
      obtain ⟨z1,p1,p2⟩:=live' o1 y1 g1 l1
      obtain ⟨z2,p3,p4⟩:=live' o2 y2 g2 l2
      exact hr.inj o1 o2 z1 z2 b c1 c2 p1 p2 p3 p4 s1 s2
     ·intro o1 y1 b c1 g1 l1 s1
      obtain ⟨z1,p1,p2⟩:=live' o1 y1 g1 l1
      exact hr.base o1 z1 b c1 p1 p2 s1
     ·intro _ o1 y1 g1 r1
      rw [hget] at g1
      split at g1
      ·rename_i he
       subst he
       have:upd φ o1 (A ++ fc' ++ B) o1 = A ++ fc' ++ B:=by simp [upd]
       rw [this]
       refine ⟨?_,hallm,?_⟩
       ·have hfA:∀ b ∈ fc',b ∉ A ++ B:=by
         intro b hb' hb2
         rcases hnew b hb' with h' | h'
         ·exact hAB b hb2 h'
         ·have:=hplt b (hABφ b hb2); omega
        rw [List.nodup_append,List.nodup_append]
        refine ⟨⟨hnd3.1,r2,?_⟩,hnd2.2.1,?_⟩
        ·intro a ha b hb' hab
         subst hab
         exact hfA a hb' (by simp [ha])
        ·intro a ha b hb' hab
         subst hab
         rcases List.mem_append.1 ha with ha | ha
         ·exact hnd2.2.2 a (by simp [ha]) a hb' rfl
         ·exact hfA a ha (by simp [hb'])
       ·intro o2 y2 g2 r2' hne b hb'
        rw [hget,if_neg hne] at g2
        have:upd φ o1 (A ++ fc' ++ B) o2 = φ o2:=by simp [upd,hne]
        rw [this]
        intro hb2
        rcases hall b hb' with ⟨h',_⟩ | h'
        ·exact d3 o2 y2 g2 r2' hne b h' hb2
        ·have:=hr.phiLtx g2 r2' hb2; omega
      ·rename_i hne
       obtain ⟨e1,e2,e3⟩:=hr.deepx hdm o1 y1 g1 r1
       have:upd φ o (A ++ fc' ++ B) o1 = φ o1:=by simp [upd,hne]
       rw [this]
       refine ⟨e1,e2,?_⟩
       intro o2 y2 g2 r2' hne2 b hb'
       rw [hget] at g2
       split at g2
       ·rename_i he
        subst he
        have:upd φ o2 (A ++ fc' ++ B) o2 = A ++ fc' ++ B:=by simp [upd]
        rw [this]
        intro hb2
        rcases hall b hb2 with ⟨h',_⟩ | h'
        ·exact e3 o2 _ ho rfl hne2 b hb' h'
        ·have:=hr.phiLtx g1 r1 hb'; omega
       ·rename_i hne3
        have:upd φ o (A ++ fc' ++ B) o2 = φ o2:=by simp [upd,hne3]
        rw [this]
        exact e3 o2 y2 g2 r2' hne2 b hb'
    ·exact q4
   | panicked _ => exact he
   | outgrown => exact he
end
end Go.R
end
section
set_option linter.all false
namespace Go.R
open Go Go.RowKit
section calls
variable {P:Program} {C:Ctx} {σ:Sg} {φ:Nat → List Nat} {h:List l7} {w w':World} {t:Nat → AV} {ρ:Operand → Value}
theorem Below.grows {w w':World} (hb:Below w.heap.size w w'):b5q w w':=⟨hb.size,fun b h => hb.block b h⟩
theorem Below.lower {B B':Nat} {w w':World} (hb:Below B w w') (h:B' ≤ B):Below B' w w':=⟨hb.os,hb.tape,hb.output,hb.size,fun k hk => hb.block k (by omega)⟩
theorem e0o (hr:o9 C σ φ h w) (hok:∀ b,C.mine b → C.ok b) (hb:∀ b,w.heap.size ≤ b → C.mine b) (hbel:Below w.heap.size w w') {r:AV} {cs:List Value} {fp:List Nat} (hrep:Rep true w' r cs fp) (hn:fp.Nodup) (hge:∀ b ∈ fp,w.heap.size ≤ b) :
  ∃ σ' φ',o9 C σ' φ' (h ++ (a4i h.length r).2) w' ∧ Ev σ h w σ' (h ++ (a4i h.length r).2) w' ∧ RV C σ' (h ++ (a4i h.length r).2) w' (a4i h.length r).1 (mkV r cs):=by
 obtain ⟨s,p,hf,hrv⟩:=c9x (C:=C) (B:=0) h.length r cs fp hrep
 obtain ⟨xs,hxs⟩:∃ xs,xs = (a4i h.length r).2:=⟨_,rfl⟩
 rw [← hxs] at hf hrv ⊢
 have hσ0:∀ o,o < h.length → (fun o => if o < h.length then σ o else (s[o - h.length]?).getD none) o = σ o:=fun o ho => by simp [ho]
 have hσ1:∀ j,(fun o => if o < h.length then σ o else (s[o - h.length]?).getD none) (h.length + j) = (s[j]?).getD none:=fun j => by simp only; rw [if_neg (by omega)]; simp
 have hφ0:∀ o,o < h.length → (fun o => if o < h.length then φ o else (p[o - h.length]?).getD []) o = φ o:=fun o ho => by simp [ho]
 have hφ1:∀ j,(fun o => if o < h.length then φ o else (p[o - h.length]?).getD []) (h.length + j) = (p[j]?).getD []:=fun j => by simp only; rw [if_neg (by omega)]; simp
 obtain ⟨σ',hσ'⟩:∃ σ':Sg,σ' = fun o => if o < h.length then σ o else (s[o - h.length]?).getD none:=⟨_,rfl⟩
 obtain ⟨φ',hφ'⟩:∃ φ':Nat → List Nat,φ' = fun o => if o < h.length then φ o else (p[o - h.length]?).getD []:=⟨_,rfl⟩
 rw [← hσ'] at hσ0 hσ1
 rw [← hφ'] at hφ0 hφ1
 have hsome:∀ j g c,σ' (h.length + j) = some (g,c) → s[j]? = some (some (g,c)):=by
  intro j g c hs
  rw [hσ1] at hs
  cases he:s[j]? with
  | none => rw [he] at hs; cases hs
  | some o => rw [he] at hs; simp only [Option.getD_some] at hs; rw [hs]
 have key:=o9.puts (σ':=σ') (φ':=φ') (w':=w') (ks:=[]) (xs:=xs) hr (fun o ho => ⟨hσ0 o ho,hφ0 o ho⟩) hbel.size
  (by
   intro j x hj g c hs
   have:=hge g (hf.sub j g c (hsome j g c hs))
   exact ⟨hb g this,.inl this⟩)
  (fun b hb' _ => hbel.block b hb')
  (by
   intro ev j x hj
   obtain ⟨z,l,rfl,hz,q,hq,hsub,hm⟩:=hf.row j x hj
   refine ⟨hz,?_⟩
   rw [hσ1,hφ1,hq]
   have hjs:j < s.length:=by rw [hf.ls]; exact (List.getElem?_eq_some_iff.1 hj).1
   cases he:s[j]? with
   | none => rw [he] at hm; exact hm.elim
   | some o =>
    rw [he] at hm
    cases o with
    | none => exact hm
    | some gc =>
     obtain ⟨g,c⟩:=gc
     obtain ⟨h1,h2,cur,e,h3,h4,h5⟩:=hm
     refine ⟨h2,cur,e,h3,h4,?_,?_⟩
     ·cases hdm:C.dm with
      | true => exact h5
      | false => exact a0a.weak _ _ _ h5
     ·intro b hbq
      have hbf:=hsub.subset hbq
      have hbge:=hge b hbf
      refine ⟨hok b (hb b hbge),?_⟩
      rintro ⟨o',x',c',e1,e2,e3⟩
      rcases a8c e1 e2 with ⟨hl,g1,_⟩ | ⟨hge',g1⟩
      ·rw [hσ0 o' hl] at e3
       have:=hr.lt g1 e2 e3
       omega
      ·have:o' = h.length + (o' - h.length):=by omega
       rw [this] at e3
       exact hf.out hn (o' - h.length) j b c' q (hsome _ _ _ e3) hq hbq)
  (by
   intro j j' g c c' hj hj' h1 h2
   exact hf.inj hn j j' g c g c' (hsome _ _ _ h1) (hsome _ _ _ h2) rfl)
  (by
   intro hdm j y hj _
   obtain ⟨z,l',hx,hz,q,hq,hsub,hm⟩:=hf.row j _ hj
   rw [hφ1,hq]
   refine ⟨hn.sublist hsub,fun b hb' => hb b (hge b (hsub.subset hb')),?_,?_⟩
   ·intro j' y' hj' _ hne b hb'
    obtain ⟨_,_,_,_,q',hq',_,_⟩:=hf.row j' _ hj'
    rw [hφ1,hq']
    exact hf.dis hn j j' q q' hq hq' (Ne.symm hne) b hb'
   ·intro o y' ho hy' _ b hb' hbo
    have h1:=hge b (hsub.subset hb')
    have:=hr.phiLtx ho hy' hbo
    omega)
 simp only [kill] at key
 refine ⟨σ',φ',key.1,key.2,hrv σ' _ hn ?_ ?_⟩
 ·intro j x hj
  rw [hσ1,hj]; rfl
 ·intro j x hj
  rw [List.getElem?_append_right (by omega)]
  simpa using hj
mutual
theorem RV.ctx {C':Ctx} (hok:∀ b,C.imm b → C'.imm b):∀ (a:AV) (v:Value),RV C σ h w a v → RV C' σ h w a v
 | .undef,_,_ => by simp only [RV]
 | .skip,_,hr => by simpa only [RV] using hr
 | .hdr _ _ _,_,hr => by simpa only [RV] using hr
 | .int _ _,_,hr => by simpa only [RV] using hr
 | .bool _,_,hr => by simpa only [RV] using hr
 | .str _,_,hr => by simpa only [RV] using hr
 | .nil,_,hr => by simpa only [RV] using hr
 | .lst z l,v,hr => by
  simp only [RV] at hr ⊢
  obtain ⟨fp,h1,h2⟩:=hr
  exact ⟨fp,h1,fun b hb => ⟨hok b (h2 b hb).1,(h2 b hb).2⟩⟩
 | .iptr l f,v,hr => by
  simp only [RV] at hr ⊢
  obtain ⟨fp,h1,h2⟩:=hr
  exact ⟨fp,h1,fun b hb => ⟨hok b (h2 b hb).1,(h2 b hb).2⟩⟩
 | .own o lo n,v,hr => by simpa only [RV] using hr
 | .ptr o i f,v,hr => by simpa only [RV] using hr
 | .agg as,v,hr => by
  simp only [RV] at hr ⊢
  obtain ⟨vs,e,h1⟩:=hr
  exact ⟨vs,e,RVs.ctx hok as _ h1⟩
 | .tup as,v,hr => by
  simp only [RV] at hr ⊢
  obtain ⟨vs,e,h1⟩:=hr
  exact ⟨vs,e,RVs.ctx hok as _ h1⟩
 | .fn f caps,v,hr => by
  simp only [RV] at hr ⊢
  obtain ⟨vs,e,h1⟩:=hr
  exact ⟨vs,e,RVs.ctx hok caps _ h1⟩
theorem RVs.ctx {C':Ctx} (hok:∀ b,C.imm b → C'.imm b):∀ (as:List AV) (vs:List Value),RVs C σ h w as vs → RVs C' σ h w as vs
 | [],_,hr => by simpa only [RVs] using hr
 | a :: as,vs,hr => by
  simp only [RVs] at hr ⊢
  obtain ⟨v,vs',e,h1,h2⟩:=hr
  exact ⟨v,vs',e,RV.ctx hok a v h1,RVs.ctx hok as vs' h2⟩
end
theorem o9.weak (hm:C.mm = false) (hr:o9 C σ φ h w):o9 { C with dm:=false } σ φ h w where
 obj o x ho:=by
  have:=hr.obj o x ho
  cases x with
  | dead => trivial
  | box sz v =>
   obtain ⟨g,cur,e,h1,h2,h3,h4⟩:=this
   exact ⟨g,cur,e,h1,h2,h3,RVs.ctx (C:=C) (C':={ C with dm:=false }) (fun _ h => h) _ _ h4⟩
  | map m =>
   obtain ⟨g,cur,e,h1,h2,h3,h4⟩:=this
   exact ⟨g,cur,e,h1,h2,h3,RVs.ctx (C:=C) (C':={ C with dm:=false }) (fun _ h => h) _ _ h4⟩
  | row sz l =>
   obtain ⟨h0,this⟩:=this
   refine ⟨h0,?_⟩
   cases hs:σ o with
   | none => rw [hs] at this; exact this
   | some p =>
    rw [hs] at this
    obtain ⟨h1,cur,e,h2,h3,h4,h5⟩:=this
    exact ⟨h1,cur,e,h2,h3,a0a.weak _ _ _ h4,h5⟩
  | rowx sz l i el =>
   obtain ⟨hz,hmm,_⟩:=this
   rw [hm] at hmm
   cases hmm.1
 inj:=hr.inj
 base:=hr.base
 deepx:=by simp
theorem a0r.repVs (hr:o9 C σ φ h w) (hok:∀ b,C.mine b → C.ok b):∀ (as as':List AV) (ks:List Nat) (vs:List Value),a0r C.dm h as = some (as',ks) → RVs C σ h w as vs →
  ∃ fp,a0x C.dm w as' vs fp ∧ Taken C σ φ h ks fp
 | [],as',ks,vs,hc,hv => by
  simp only [a0r] at hc; cases hc; simp only [RVs] at hv
  exact ⟨[],by simp [a0x,hv],Taken.nil⟩
 | a :: as,as',ks,vs,hc,hv => by
  simp only [a0r] at hc
  cases h1:a1y C.dm h a with
  | none => simp [h1] at hc
  | some p =>
   obtain ⟨b,k1⟩:=p
   cases h2:a0r C.dm h as with
   | none => simp [h1,h2] at hc
   | some q =>
    obtain ⟨bs,k2⟩:=q
    simp only [h1,h2,Option.some.injEq,Prod.mk.injEq] at hc
    obtain ⟨rfl,rfl⟩:=hc
    simp only [RVs] at hv
    obtain ⟨v,vs',rfl,g1,g2⟩:=hv
    obtain ⟨f1,⟨cs,rfl,r1⟩,t1⟩:=a1y.rep hr hok a b k1 v h1 g1
    obtain ⟨f2,r2,t2⟩:=a0r.repVs hr hok as bs k2 vs' h2 g2
    refine ⟨f1 ++ f2,?_,t1.append hr t2⟩
    simp only [a0x]
    exact ⟨cs,vs',f1,f2,rfl,r1,r2,rfl⟩
theorem b6m (hm:C.mm = false) (hr:o9 C σ φ h w) (hok:∀ b,C.mine b → C.ok b) {as as':List AV} {ks:List Nat} {vs:List Value} (hc:a0r false h as = some (as',ks)) (hv:RVs C σ h w as vs) :
  ∃ fp,a0x false w as' vs fp ∧ (∀ b ∈ fp,C.ok b) ∧ ∀ b ∈ fp,liveAt h σ b → ∃ k ∈ ks,Owned σ φ h k b:=by
 obtain ⟨fp,h1,h3⟩:=a0r.repVs (C:={ C with dm:=false }) (hr.weak hm) hok as as' ks vs hc (RVs.ctx (C:=C) (C':={ C with dm:=false }) (fun _ h => h) _ _ hv)
 exact ⟨fp,h1,h3.ok,h3.live⟩
theorem b7t.rep (hr:o9 C σ φ h w) (hok:∀ b,C.mine b → C.ok b) {cl:AV → Option AV} (hcl:∀ a a' v,cl a = some a' → RV C σ h w a v → ∃ fp,b6h false w a' v fp ∧ ∀ b ∈ fp,C.ok b) (hcell:∀ a a',cl a = some a' → a'.isCell = a.isCell ∧ (∀ as,a = .agg as → ∃ bs,a' = .agg bs)) :
  ∀ o i f a v,b7t h cl o i f = some a → RV C σ h w (.ptr o i f) v → ∃ fp,b6h false w a v fp ∧ ∀ b ∈ fp,C.ok b:=by
 intro o i f a v hc hv
 unfold b7t at hc
 simp only [RV] at hv
 split at hc
 ·rename_i sz x ho
  rw [ho] at hv
  obtain ⟨hi,g,c,hs,rfl⟩:=hv
  obtain ⟨g',cur,e,h1,h2,h3,h4⟩:=hr.obj o _ ho
  rw [h1] at hs
  cases hs
  split at hc
  ·rename_i hel
   rw [Option.map_eq_some_iff] at hc
   obtain ⟨x',hx',rfl⟩:=hc
   have hg:C.ok g:=hok _ (hr.base o _ _ 1 ho rfl h1)
   have fin:∀ fp,Rep false w x' cur.toList fp → (∀ b ∈ fp,C.ok b) → ∃ fp,b6h false w (.iptr x' f) (.pointer (some ⟨g,f,none⟩)) fp ∧ ∀ b ∈ fp,C.ok b:=by
    intro fp q1 q2
    refine ⟨g :: fp,⟨[.pointer (some ⟨g,f,none⟩)],rfl,?_⟩,?_⟩
    ·simp only [Rep]
     refine ⟨g,0,cur.size,cur,e,(0,0),fp,by simp,h2,rfl,?_,?_⟩
     ·simp
     ·simpa [List.take_of_length_le] using q1
    ·intro b hb
     rcases List.mem_cons.1 hb with rfl | hb
     ·exact hg
     ·exact q2 b hb
   by_cases hagg:∃ as,x = .agg as
   ·obtain ⟨as,rfl⟩:=hagg
    obtain ⟨bs,rfl⟩:=(hcell _ _ hx').2 as rfl
    obtain ⟨fp,⟨cs,q0,q1⟩,q2⟩:=hcl _ _ (.agg cur) hx' (by simp only [RV]; exact ⟨cur,rfl,h4⟩)
    simp only [mkV,Value.agg.injEq] at q0
    subst q0
    exact fin fp (by simpa using q1) q2
   ·have hcells:x.cells = [x]:=by cases x <;> first | rfl | exact absurd ⟨_,rfl⟩ hagg
    have hcl1:x.isCell = true:=by cases x <;> first | rfl | exact absurd ⟨_,rfl⟩ hagg | (simp [AV.isElem] at hel)
    rw [hcells] at h4
    simp only [RVs] at h4
    obtain ⟨v0,vs',e0,k1,rfl⟩:=h4
    obtain ⟨fp,⟨cs,q0,q1⟩,q2⟩:=hcl _ _ v0 hx' k1
    obtain ⟨c0,rfl,e1⟩:=q1.cell (by rw [(hcell _ _ hx').1]; exact hcl1)
    rw [e1] at q0
    subst q0
    refine fin fp ?_ q2
    rw [e0]; exact q1
  ·cases hc
 ·rename_i sz l ho
  rw [ho] at hv
  obtain ⟨hi,g,c,hs,rfl⟩:=hv
  obtain ⟨hsz,hob⟩:=hr.obj o _ ho
  rw [hs] at hob
  obtain ⟨h1,cur,e,h2,h3,h4,h5⟩:=hob
  rw [Option.map_eq_some_iff] at hc
  obtain ⟨x,hx,rfl⟩:=hc
  obtain ⟨f1,q1,q2,q3⟩:=h4.get hx
  have q1:=Rep.weak' C.dm q1
  refine ⟨g :: f1,⟨[.pointer (some ⟨g,i * sz + f,none⟩)],rfl,?_⟩,?_⟩
  ·simp only [Rep]
   exact ⟨g,i * sz,sz,cur,e,(0,0),f1,rfl,h2,rfl,q3,q1⟩
  ·intro b hb
   rcases List.mem_cons.1 hb with rfl | hb
   ·exact hok _ (hr.base o _ _ c ho rfl hs)
   ·exact (h5 b (q2 b hb)).1
 ·cases hc
theorem c7o {p:Nat → Nat → Nat → Option AV} (hp:∀ o i f a,p o i f = some a → ∃ e g,a = .iptr e g):∀ a a',a3k h p a = some a' → a'.isCell = a.isCell ∧ (∀ as,a = .agg as → ∃ bs,a' = .agg bs):=by
 intro a a' hc
 cases a with
 | own o lo n =>
  simp only [a3k] at hc
  split at hc
  ·cases hc; exact ⟨rfl,by intro _ h; cases h⟩
  ·cases hc
 | ptr o i f => obtain ⟨e,g,rfl⟩:=hp o i f a' hc; exact ⟨rfl,by intro _ h; cases h⟩
 | agg as => simp only [a3k,Option.map_eq_some_iff] at hc; obtain ⟨bs,_,rfl⟩:=hc; exact ⟨rfl,fun _ _ => ⟨bs,rfl⟩⟩
 | tup as => simp only [a3k,Option.map_eq_some_iff] at hc; obtain ⟨bs,_,rfl⟩:=hc; exact ⟨rfl,by intro _ h; cases h⟩
 | fn f as => simp only [a3k,Option.map_eq_some_iff] at hc; obtain ⟨bs,_,rfl⟩:=hc; exact ⟨rfl,by intro _ h; cases h⟩
 | undef => cases hc
 | skip => cases hc
 | hdr _ _ _ => cases hc
 | _ => simp only [a3k] at hc; cases hc; exact ⟨rfl,by intro _ h; cases h⟩
theorem d7l {cl:AV → Option AV}:∀ o i f a,b7t h cl o i f = some a → ∃ e g,a = .iptr e g:=by
 intro o i f a hc
 unfold b7t at hc
 split at hc
 ·split at hc
  ·rw [Option.map_eq_some_iff] at hc; obtain ⟨x,_,rfl⟩:=hc; exact ⟨_,_,rfl⟩
  ·cases hc
 ·rw [Option.map_eq_some_iff] at hc; obtain ⟨x,_,rfl⟩:=hc; exact ⟨_,_,rfl⟩
 ·cases hc
theorem closes.rep (hr:o9 C σ φ h w) (hok:∀ b,C.mine b → C.ok b):∀ (as as':List AV) (vs:List Value),closes h as = some as' → RVs C σ h w as vs → ∃ fp,a0x false w as' vs fp ∧ ∀ b ∈ fp,C.ok b:=by
 have h0:∀ a a' v,e5y h a = some a' → RV C σ h w a v → ∃ fp,b6h false w a' v fp ∧ ∀ b ∈ fp,C.ok b:=fun a a' v => a3k.rep hr hok (by intro o i f a v hn; cases hn) a a' v
 have h1:∀ a a' v,e0f h a = some a' → RV C σ h w a v → ∃ fp,b6h false w a' v fp ∧ ∀ b ∈ fp,C.ok b:=fun a a' v =>
  a3k.rep hr hok (b7t.rep hr hok h0 (c7o (by intro o i f a hn; cases hn))) a a' v
 exact fun as as' vs => a3v.rep hr hok (b7t.rep hr hok h1 (c7o d7l)) as as' vs
def c3v (h:List l7):List Bool → List AV → Option (List AV × List Nat)
 | _,[] => some ([],[])
 | [],a :: as => some (a :: as,[])
 | true :: fl,a :: as => match a1y false h a,c3v h fl as with
  | some (b,k1),some (bs,k2) => some (b :: bs,k1 ++ k2)
  | _,_ => none
 | false :: fl,a :: as => match c3v h fl as with
  | some (bs,k2) => some (a :: bs,k2)
  | none => none
theorem d7m (h:List l7) (as:List AV):c3v h [] as = some (as,[]):=by cases as <;> rfl
theorem d0d (hr:o9 C σ φ h w) (ks:List Nat):o9 C σ φ (kill h ks) w ∧ Ev σ h w σ (kill h ks) w:=by
 have key:=o9.puts (σ':=σ) (φ':=φ) (w':=w) (ks:=ks) (xs:=[]) hr (fun o ho => ⟨rfl,rfl⟩) (Nat.le_refl _) (by simp) (fun b hb' _ => rfl) (by simp) (by simp) (by simp)
 simpa using key
theorem d0e (h:List l7):∀ (k1 k2:List Nat),kill h (k1 ++ k2) = kill (kill h k1) k2
 | [],k2 => rfl
 | k :: k1,k2 => by simp only [List.cons_append,kill]; exact d0e _ k1 k2
theorem e0p (hmf:C.mm = false) (hr:o9 C σ φ h w) (hok:∀ b,C.mine b → C.ok b) {a a':AV} {ks ks':List Nat} {v:Value} (hc:a1y false h a = some (a',ks)) (hv:RV C σ h w a v) (hk:∀ k ∈ ks,k ∈ ks'):RV C σ (kill h ks') w a' v:=by
 have hab:a0r false h [a] = some ([a'],ks):=by simp only [a0r,hc,List.append_nil]
 obtain ⟨fp,r1,r2,r3⟩:=b6m hmf hr hok hab (vs:=[v]) (by simp only [RVs]; exact ⟨v,[],rfl,hv,rfl⟩)
 simp only [a0x] at r1
 obtain ⟨cs,vs',f1,f2,e,k1,⟨e1,e2⟩,e3⟩:=r1
 subst e1 e2
 simp only [List.append_nil] at e3
 subst e3
 cases e
 refine Rep.rv _ _ _ k1 fun b hb => ⟨⟨r2 b hb,fun hm => by rw [hmf] at hm; cases hm⟩,?_⟩
 rintro ⟨o',x',c',e1,e2,e3⟩
 obtain ⟨m1,m2⟩:=a7x e1 e2
 obtain ⟨k,q1,q2⟩:=r3 b hb ⟨o',x',c',m1,e2,e3⟩
 rcases q2 with ⟨x,c,y1,y2,y3⟩ | ⟨y1,x',y2,y3⟩
 ·have:=hr.inj _ _ _ _ _ _ _ m1 e2 y1 y2 e3 y3
  subst this
  exact m2 (hk _ q1)
 ·exact (hr.phix y2 y3 y1).2 ⟨o',_,c',m1,e2,e3⟩
theorem d0f (hmf:C.mm = false) (hr:o9 C σ φ h w) (hok:∀ b,C.mine b → C.ok b) {ks':List Nat}:∀ (fl:List Bool) (as bs:List AV) (ks:List Nat) (vs:List Value),c3v h fl as = some (bs,ks) → (∀ k ∈ ks,k ∈ ks') → RVs C σ h w as vs → RVs C σ (kill h ks') w bs vs
 | fl,[],bs,ks,vs,hc,hk,hv => by
  simp only [c3v] at hc; cases hc; simpa only [RVs] using hv
 | [],a :: as,bs,ks,vs,hc,hk,hv => by
  simp only [c3v] at hc; cases hc
  exact (d0d hr ks').2.rvs _ _ hv
 | true :: fl,a :: as,bs,ks,vs,hc,hk,hv => by
  simp only [c3v] at hc
  split at hc
  ·rename_i b k1 bs' k2 e1 e2
   cases hc
   simp only [RVs] at hv ⊢
   obtain ⟨v,vs',rfl,g1,g2⟩:=hv
   exact ⟨v,vs',rfl,e0p hmf hr hok e1 g1 (fun k hk' => hk k (by simp [hk'])),d0f hmf hr hok fl as _ _ _ e2 (fun k hk' => hk k (by simp [hk'])) g2⟩
  ·cases hc
 | false :: fl,a :: as,bs,ks,vs,hc,hk,hv => by
  simp only [c3v] at hc
  split at hc
  ·rename_i bs' k2 e2
   cases hc
   simp only [RVs] at hv ⊢
   obtain ⟨v,vs',rfl,g1,g2⟩:=hv
   exact ⟨v,vs',rfl,(d0d hr ks').2.rv _ _ g1,d0f hmf hr hok fl as _ _ _ e2 hk g2⟩
  ·cases hc
def a1t (P:Program) (dm:Md) (f:Nat) (as:List AV) (h:List l7) (k:AV → List l7 → Prop):Prop :=
 (∃ bs bs' r,closes h as = some bs ∧ LeL bs bs' ∧ a0v P f .flat bs' r ∧ k r h) ∨
 (∃ bs bs' r,closes h as = some bs ∧ LeL bs bs' ∧ a0v P f .fresh bs' r ∧ k (a4i h.length r).1 (h ++ (a4i h.length r).2)) ∨
 (dm.m = false ∧ ∃ bs bs' ks r,a0r false h as = some (bs,ks) ∧ LeL bs bs' ∧ a0v P f .weak bs' r ∧ k r (kill h ks)) ∨
 (∃ fl cs ks js args hi r hout,(dm.m = true → fl = []) ∧ c3v h fl as = some (cs,ks) ∧ js.Nodup ∧ (∀ j ∈ js,j < h.length) ∧ LeL (a7h (a7r js) cs) args ∧ LeH (b1z (kill h ks) js) hi ∧ a3n P dm.nz f args hi r hout ∧ (c4v hi hout → k (ren (a5x h.length js) r) (b5c (kill h ks) js hout))) ∨
 (dm.m = false ∧ ∃ bs bs' r,closes h as = some bs ∧ LeL bs bs' ∧ a0v P f .fresh bs' r ∧ k r h) ∨
 (dm.m = true ∧ dm.d = true ∧ ∃ o i j z z' l l' l'' el v n n',as = [.hdr v z' l',.int .i64 n] ∧ h[o]? = some (.row z l) ∧ l[i]? = some el ∧ el.cells[j]? = some (.hdr v z' l') ∧ 0 < z' ∧
  a3n P ⟨true,true,false⟩ f [.own 0 0 l'.length,.int .i64 n] [.row z' l'] (.int .i64 n') [.row z' l''] ∧ k (.int .i64 n') (h.set o (.row z (l.set i (b7z el j (.lst z' l''))))))
theorem a1t.flat {dm:Md} {f:Nat} {as bs bs':List AV} {r:AV} {k:AV → List l7 → Prop} (hc:a0v P f .flat bs' r) (hb:closes h as = some bs) (hl:LeL bs bs') (hk:k r h):a1t P dm f as h k :=
 .inl ⟨bs,bs',r,hb,hl,hc,hk⟩
theorem a1t.fresh {dm:Md} {f:Nat} {as bs bs':List AV} {r:AV} {k:AV → List l7 → Prop} (hc:a0v P f .fresh bs' r) (hb:closes h as = some bs) (hl:LeL bs bs') (hk:k (a4i h.length r).1 (h ++ (a4i h.length r).2)):a1t P dm f as h k :=
 .inr (.inl ⟨bs,bs',r,hb,hl,hc,hk⟩)
theorem a1t.weak {dm:Md} (hm:dm.m = false) {f:Nat} {as bs bs':List AV} {ks:List Nat} {r:AV} {k:AV → List l7 → Prop} (hc:a0v P f .weak bs' r) (hb:a0r false h as = some (bs,ks)) (hl:LeL bs bs') (hk:k r (kill h ks)):a1t P dm f as h k :=
 .inr (.inr (.inl ⟨hm,bs,bs',ks,r,hb,hl,hc,hk⟩))
theorem a1t.heap {dm:Md} {f:Nat} {as args:List AV} {hi hout:List l7} {r:AV} {k:AV → List l7 → Prop} (js:List Nat) (hc:a3n P dm.nz f args hi r hout) (hn:js.Nodup) (hin:∀ j ∈ js,j < h.length) (hl:LeL (a7h (a7r js) as) args) (hh:LeH (b1z h js) hi)
  (hk:k (ren (a5x h.length js) r) (b5c h js hout)):a1t P dm f as h k :=
 .inr (.inr (.inr (.inl ⟨[],as,[],js,args,hi,r,hout,fun _ => rfl,d7m _ _,hn,hin,hl,hh,hc,fun _ => hk⟩)))
theorem a1t.heapf {dm:Md} {f:Nat} {as cs args:List AV} {hi hout:List l7} {r:AV} {k:AV → List l7 → Prop} (fl:List Bool) (ks js:List Nat) (hm:dm.m = true → fl = []) (hf:c3v h fl as = some (cs,ks)) (hc:a3n P dm.nz f args hi r hout) (hn:js.Nodup) (hin:∀ j ∈ js,j < h.length) (hl:LeL (a7h (a7r js) cs) args) (hh:LeH (b1z (kill h ks) js) hi)
  (hk:k (ren (a5x h.length js) r) (b5c (kill h ks) js hout)):a1t P dm f as h k :=
 .inr (.inr (.inr (.inl ⟨fl,cs,ks,js,args,hi,r,hout,hm,hf,hn,hin,hl,hh,hc,fun _ => hk⟩)))
theorem a1t.heapfs {dm:Md} {f:Nat} {as cs args:List AV} {hi hout:List l7} {r:AV} {k:AV → List l7 → Prop} (fl:List Bool) (ks js:List Nat) (hm:dm.m = true → fl = []) (hf:c3v h fl as = some (cs,ks)) (hc:a3n P dm.nz f args hi r hout) (hn:js.Nodup) (hin:∀ j ∈ js,j < h.length) (hl:LeL (a7h (a7r js) cs) args) (hh:LeH (b1z (kill h ks) js) hi)
  (hk:c4v hi hout → k (ren (a5x h.length js) r) (b5c (kill h ks) js hout)):a1t P dm f as h k :=
 .inr (.inr (.inr (.inl ⟨fl,cs,ks,js,args,hi,r,hout,hm,hf,hn,hin,hl,hh,hc,hk⟩)))
theorem a1t.freshc {dm:Md} (hm:dm.m = false) {f:Nat} {as bs bs':List AV} {r:AV} {k:AV → List l7 → Prop} (hc:a0v P f .fresh bs' r) (hb:closes h as = some bs) (hl:LeL bs bs') (hk:k r h):a1t P dm f as h k :=
 .inr (.inr (.inr (.inr (.inl ⟨hm,bs,bs',r,hb,hl,hc,hk⟩))))
theorem a1t.sound (hmd:C.mm = true → C.dm = true) (hr:o9 C σ φ h w) (hok:∀ b,C.mine b → C.ok b) (hb:∀ b,w.heap.size ≤ b → C.mine b) {f:Nat} {as:List AV} {vs:List Value} (hv:RVs C σ h w as vs) {k:AV → List l7 → Prop} (hs:a1t P C.md f as h k) :
  Calls P f vs.toArray w fun e w' => match e with
   | .returned v => ∃ r h' σ' φ',o9 C σ' φ' h' w' ∧ EvX C σ h w σ' h' w' ∧ RV C σ' h' w' r v ∧ Below C.base w w' ∧ k r h'
   | _ => False:=by
 rcases hs with ⟨bs,bs',r,h1,hl,h2,h3⟩ | ⟨bs,bs',r,h1,hl,h2,h3⟩ | ⟨hmf,bs,bs',ks,r,h1,hl,h2,h3⟩ | ⟨fl,cs,ks,js,args,hi,r,hout,hfm,hf,hn,hin,hl,hh,hc,h3⟩ | ⟨hmf,bs,bs',r,h1,hl,h2,h3⟩ | ⟨hmm,hdd,o,i,j,z,z',l,l',l'',el,v,n,n',rfl,ho,hel,hf,hz,hc,h3⟩
 ·obtain ⟨fp,g1,g2⟩:=closes.rep hr hok as bs vs h1 hv
  have g1:=LeL.repv hl _ _ g1
  refine (h2 w vs fp g1).mono ?_
  intro e w' he
  cases e with
  | returned v =>
   obtain ⟨k1,⟨cs,rfl,k2⟩⟩:=he
   have gr:=Below.grows k1
   exact ⟨r,h,σ,φ,gr.heap hr,gr.ev.x,Rep.rv r cs [] k2 (by simp),Below.lower k1 (hb _ (Nat.le_refl _)).1,h3⟩
  | panicked _ => exact he
  | outgrown => exact he
 ·obtain ⟨fp,g1,g2⟩:=closes.rep hr hok as bs vs h1 hv
  have g1:=LeL.repv hl _ _ g1
  refine (h2 w vs fp g1).mono ?_
  intro e w' he
  cases e with
  | returned v =>
   obtain ⟨k1,fp',⟨cs,rfl,k2⟩,k3,k4⟩:=he
   obtain ⟨σ',φ',m1,m2,m3⟩:=e0o hr hok hb k1 k2 k3 k4
   exact ⟨_,_,σ',φ',m1,m2.x,m3,Below.lower k1 (hb _ (Nat.le_refl _)).1,h3⟩
  | panicked _ => exact he
  | outgrown => exact he
 ·obtain ⟨fp,g1,g2,g3⟩:=b6m hmf hr hok h1 hv
  have g1:=LeL.repv hl _ _ g1
  have hlt:=a0x.lt _ _ _ g1
  refine (h2 w vs fp g1).mono ?_
  intro e w' he
  cases e with
  | returned v =>
   obtain ⟨k1,fp',⟨cs,rfl,k2⟩,k3⟩:=he
   have key:=o9.puts (σ':=σ) (φ':=φ) (w':=w') (ks:=ks) (xs:=[]) hr (fun o ho => ⟨rfl,rfl⟩) k1.size (by simp) (fun b hb' _ => k1.block b hb') (by simp) (by simp) (by simp)
   simp only [List.append_nil] at key
   refine ⟨r,_,σ,φ,key.1,key.2.x,Rep.rv r cs fp' k2 ?_,Below.lower k1 (hb _ (Nat.le_refl _)).1,h3⟩
   intro b hb'
   rcases k3 b hb' with hin | hge
   ·refine ⟨⟨g2 b hin,fun hm => by rw [show C.mm = false from hmf] at hm; cases hm⟩,?_⟩
    rintro ⟨o,x,c,e1,e2,e3⟩
    obtain ⟨m1,m2⟩:=a7x e1 e2
    obtain ⟨kk,q1,q2⟩:=g3 b hin ⟨o,x,c,m1,e2,e3⟩
    rcases q2 with ⟨y,c',y1,y2,y3⟩ | ⟨y1,y,y2,y3⟩
    ·have:=hr.inj o kk x y b c c' m1 e2 y1 y2 e3 y3
     subst this
     exact m2 q1
    ·exact (hr.phix y2 y3 y1).2 ⟨o,x,c,m1,e2,e3⟩
   ·refine ⟨⟨hok b (hb b hge),fun hm => by rw [show C.mm = false from hmf] at hm; cases hm⟩,fun hl => ?_⟩
    have:=hr.liveLt (b9q hl)
    omega
  | panicked _ => exact he
  | outgrown => exact he
 ·have hv':RVs C σ (kill h ks) w cs vs:=by
   cases hm:C.mm with
   | false => exact d0f hm (ks':=ks) hr hok fl as cs ks vs hf (fun _ h => h) hv
   | true =>
    have:=hfm hm
    subst this
    rw [d7m] at hf
    cases hf
    simpa only [kill] using hv
  obtain ⟨hr',ev'⟩:=d0d hr ks
  refine (a3n.sound hmd hr' hok hb hv' hn (fun j hj => by rw [a3x]; exact hin j hj) hl hh hc).mono ?_
  intro e w' he
  cases e with
  | returned v =>
   obtain ⟨σ',φ',m1,m2,m3,m4,m5⟩:=he
   rw [a3x] at m3
   have h3:=h3 m5
   exact ⟨_,_,σ',φ',m1,ev'.x.trans m2,m3,m4,h3⟩
  | panicked _ => exact he
  | outgrown => exact he
 ·obtain ⟨fp,g1,g2⟩:=closes.rep hr hok as bs vs h1 hv
  have g1:=LeL.repv hl _ _ g1
  refine (h2 w vs fp g1).mono ?_
  intro e w' he
  cases e with
  | returned v =>
   obtain ⟨k1,fp',⟨cs,rfl,k2⟩,k3,k4⟩:=he
   have gr:=Below.grows k1
   refine ⟨r,h,σ,φ,gr.heap hr,gr.ev.x,Rep.rv r cs fp' (Rep.weak _ _ _ k2) (fun b hb' => ⟨⟨hok b (hb b (k4 b hb')),fun hm => by rw [show C.mm = false from hmf] at hm; cases hm⟩,fun hl => ?_⟩),Below.lower k1 (hb _ (Nat.le_refl _)).1,h3⟩
   have h5:=hr.liveLt hl
   have h6:=k4 b hb'
   omega
  | panicked _ => exact he
  | outgrown => exact he
 ·refine (e0n hdd hmm hr hok hb hv ho hel hf hz hc).mono ?_
  intro e w' he
  cases e with
  | returned u =>
   obtain ⟨rfl,φ',m1,m2,m3⟩:=he
   exact ⟨_,_,σ,φ',m1,m2,by simp only [RV],m3,h3⟩
  | panicked _ => exact he
  | outgrown => exact he
theorem o9.refrz {F:Nat → Prop} (hr:o9 C σ φ h w) (hF:FrX C w F) (hbase:∀ o x b c,h[o]? = some x → x.isLive = true → σ o = some (b,c) → ¬ F b) (hdeep:∀ o x b,h[o]? = some x → x.rw = true → b ∈ φ o → ¬ F b):o9 (C.frz F) σ φ h w where
 obj o x ho:=by
  have:=hr.obj o x ho
  cases x with
  | dead => trivial
  | box sz v =>
   obtain ⟨g,cur,e,h1,h2,h3,h4⟩:=this
   exact ⟨g,cur,e,h1,h2,h3,RVs.ctx (C:=C) (C':=C.frz F) (fun _ hb => hF.imm hb) _ _ h4⟩
  | map m =>
   obtain ⟨g,cur,e,h1,h2,h3,h4⟩:=this
   exact ⟨g,cur,e,h1,h2,h3,RVs.ctx (C:=C) (C':=C.frz F) (fun _ hb => hF.imm hb) _ _ h4⟩
  | row sz l => exact this
  | rowx sz l i el =>
   obtain ⟨k0,k1,k2,g,c,cur,e,f1,f2,q1,q2,q3,q4,q5,q6,q7⟩:=this
   exact ⟨k0,k1,k2,g,c,cur,e,f1,f2,q1,q2,q3,q4,q5,RVs.ctx (C:=C) (C':=C.frz F) (fun _ hb => hF.imm hb) _ _ q6,q7⟩
 inj:=hr.inj
 base o x b c h1 h2 h3:=⟨(hr.base o x b c h1 h2 h3).1,hbase o x b c h1 h2 h3⟩
 deepx hdm o x ho hx:=by
  obtain ⟨d1,d2,d3⟩:=hr.deepx hdm o x ho hx
  exact ⟨d1,fun b hb => ⟨(d2 b hb).1,hdeep o x b ho hx hb⟩,d3⟩
theorem Owned.ltw (hr:o9 C σ φ h w) {k b:Nat} (hk:Owned σ φ h k b):b < w.heap.size:=by
 rcases hk with ⟨x,c,g1,g2,g3⟩ | ⟨g1,x,g2,g3⟩
 ·exact hr.lt g1 g2 g3
 ·exact hr.phiLtx g2 g3 g1
def a2b (P:Program) (dm:Md) (f:Nat) (as:List AV) (h:List l7) (k:AV → List l7 → Prop):Prop :=
 a1t P dm f as h k ∨ (dm.z = true ∧ dm.d = true ∧ ∃ bs bs' ks r,a0r true h as = some (bs,ks) ∧ LeL bs bs' ∧ a0v P f .weak bs' r ∧ k r (kill h ks))
theorem a2b.flat {dm:Md} {f:Nat} {as bs bs':List AV} {r:AV} {k:AV → List l7 → Prop} (hc:a0v P f .flat bs' r) (hb:closes h as = some bs) (hl:LeL bs bs') (hk:k r h):a2b P dm f as h k:=.inl (a1t.flat hc hb hl hk)
theorem a2b.fresh {dm:Md} {f:Nat} {as bs bs':List AV} {r:AV} {k:AV → List l7 → Prop} (hc:a0v P f .fresh bs' r) (hb:closes h as = some bs) (hl:LeL bs bs') (hk:k (a4i h.length r).1 (h ++ (a4i h.length r).2)):a2b P dm f as h k:=.inl (a1t.fresh hc hb hl hk)
theorem a2b.weak {dm:Md} (hm:dm.m = false) {f:Nat} {as bs bs':List AV} {ks:List Nat} {r:AV} {k:AV → List l7 → Prop} (hc:a0v P f .weak bs' r) (hb:a0r false h as = some (bs,ks)) (hl:LeL bs bs') (hk:k r (kill h ks)):a2b P dm f as h k:=.inl (a1t.weak hm hc hb hl hk)
theorem a2b.heapf {dm:Md} {f:Nat} {as cs args:List AV} {hi hout:List l7} {r:AV} {k:AV → List l7 → Prop} (fl:List Bool) (ks js:List Nat) (hm:dm.m = true → fl = []) (hf:c3v h fl as = some (cs,ks)) (hc:a3n P dm.nz f args hi r hout) (hn:js.Nodup) (hin:∀ j ∈ js,j < h.length) (hl:LeL (a7h (a7r js) cs) args) (hh:LeH (b1z (kill h ks) js) hi)
  (hk:k (ren (a5x h.length js) r) (b5c (kill h ks) js hout)):a2b P dm f as h k:=.inl (a1t.heapf fl ks js hm hf hc hn hin hl hh hk)
theorem a2b.heapfs {dm:Md} {f:Nat} {as cs args:List AV} {hi hout:List l7} {r:AV} {k:AV → List l7 → Prop} (fl:List Bool) (ks js:List Nat) (hm:dm.m = true → fl = []) (hf:c3v h fl as = some (cs,ks)) (hc:a3n P dm.nz f args hi r hout) (hn:js.Nodup) (hin:∀ j ∈ js,j < h.length) (hl:LeL (a7h (a7r js) cs) args) (hh:LeH (b1z (kill h ks) js) hi)
  (hk:c4v hi hout → k (ren (a5x h.length js) r) (b5c (kill h ks) js hout)):a2b P dm f as h k:=.inl (a1t.heapfs fl ks js hm hf hc hn hin hl hh hk)
theorem a2b.freshc {dm:Md} (hm:dm.m = false) {f:Nat} {as bs bs':List AV} {r:AV} {k:AV → List l7 → Prop} (hc:a0v P f .fresh bs' r) (hb:closes h as = some bs) (hl:LeL bs bs') (hk:k r h):a2b P dm f as h k:=.inl (a1t.freshc hm hc hb hl hk)
theorem a2b.sound (hmd:C.mm = true → C.dm = true) (hr:o9 C σ φ h w) (hok:∀ b,C.mine b → C.ok b) (hb:∀ b,w.heap.size ≤ b → C.mine b) {f:Nat} {as:List AV} {vs:List Value} (hv:RVs C σ h w as vs) {k:AV → List l7 → Prop} (hs:a2b P C.md f as h k) :
  Calls P f vs.toArray w fun e w' => match e with
   | .returned v => ∃ F r h' σ' φ',FrX C w' F ∧ o9 (C.frz F) σ' φ' h' w' ∧ EvX C σ h w σ' h' w' ∧ RV (C.frz F) σ' h' w' r v ∧ Below C.base w w' ∧ k r h'
   | _ => False:=by
 rcases hs with hs | ⟨hz,hdd,bs,bs',ks,r,h1,hl,h2,h3⟩
 ·refine (a1t.sound hmd hr hok hb hv hs).mono ?_
  intro e w' he
  cases e with
  | returned v =>
   obtain ⟨r,h',σ',φ',g1,g2,g3,g4,g5⟩:=he
   exact ⟨C.fr,r,h',σ',φ',FrX.refl C w',g1,g2,g3,g4,g5⟩
  | panicked _ => exact he
  | outgrown => exact he
 ·have hdd:C.dm = true:=hdd
  have hz:C.fz = true:=hz
  obtain ⟨fp,g1,g3⟩:=a0r.repVs hr hok as bs ks vs (by rw [hdd]; exact h1) hv
  have g1:=LeL.repv hl _ _ (a0x.weak _ _ _ g1)
  have hlt:=a0x.lt _ _ _ g1
  refine (h2 w vs fp g1).mono ?_
  intro e w' he
  cases e with
  | returned v =>
   obtain ⟨k1,fp',⟨cs,rfl,k2⟩,k3⟩:=he
   have key:=o9.puts (σ':=σ) (φ':=φ) (w':=w') (ks:=ks) (xs:=[]) hr (fun o ho => ⟨rfl,rfl⟩) k1.size (by simp) (fun b hb' _ => k1.block b hb') (by simp) (by simp) (by simp)
   simp only [List.append_nil] at key
   obtain ⟨F,hF⟩:∃ F:Nat → Prop,F = fun b => C.fr b ∨ (w.heap.size ≤ b ∧ b < w'.heap.size) ∨ ∃ q ∈ ks,Owned σ φ h q b:=⟨_,rfl⟩
   have hX:FrX C w' F:=by
    refine ⟨fun b hb' => by rw [hF]; exact .inl hb',fun b hb' h4 => ?_,fun hn => by rw [hz] at hn; cases hn⟩
    rw [hF] at h4
    rcases h4 with h4 | h4 | ⟨q,_,h4⟩
    ·exact h4
    ·omega
    ·have h5:=Owned.ltw hr h4
     have h6:=k1.size
     omega
   have hnF:∀ o b,o ∉ ks → Owned σ φ h o b → C.mine b → ¬ F b:=by
    intro o b ho hob hm h4
    have h5:=Owned.ltw hr hob
    rw [hF] at h4
    rcases h4 with h4 | h4 | ⟨q,hq,h4⟩
    ·exact hm.2 h4
    ·omega
    ·have:=Owned.unique hr hdd hob h4
     subst this
     exact ho hq
   have hr2:=key.1.refrz hX (fun o x b c e1 e2 e3 => by
     obtain ⟨m1,m2⟩:=a7x e1 e2
     exact hnF o b m2 (.inl ⟨x,c,m1,e2,e3⟩) (hr.base o x b c m1 e2 e3))
    (fun o x b e1 e2 e3 => by
     obtain ⟨m1,m2⟩:=a7x e1 (l7.rw_live e2)
     exact hnF o b m2 (.inr ⟨e3,x,m1,e2⟩) ((hr.deepx hdd o x m1 e2).2.1 b e3))
   refine ⟨F,r,_,σ,φ,hX,hr2,key.2.x,Rep.rv r cs fp' k2 ?_,Below.lower k1 (hb _ (Nat.le_refl _)).1,h3⟩
   intro b hb'
   rcases k3 b hb' with hin | hge
   ·obtain ⟨q,q1,q2⟩:=g3.own hdd b hin
    refine ⟨⟨g3.ok b hin,fun _ hm => hm.2 (by show F b; rw [hF]; exact .inr (.inr ⟨q,q1,q2⟩))⟩,?_⟩
    rintro ⟨o,x,c,e1,e2,e3⟩
    obtain ⟨m1,m2⟩:=a7x e1 e2
    have:=Owned.unique hr hdd q2 (.inl ⟨x,c,m1,e2,e3⟩)
    subst this
    exact m2 q1
   ·refine ⟨⟨hok b (hb b hge),fun _ hm => hm.2 (by show F b; rw [hF]; exact .inr (.inl ⟨hge,Rep.lt _ _ _ k2 b hb'⟩))⟩,fun hl => ?_⟩
    have:=hr.liveLt (b9q hl)
    omega
  | panicked _ => exact he
  | outgrown => exact he
end calls
end Go.R
end
section
set_option linter.all false
namespace Go.R
open Go Go.RowKit
section
variable {m:Bool} {w:World} {z:Nat}
theorem a0a.part:∀ {l:List AV} {cs:List Value} {fp:List Nat} {i:Nat} {a:AV},a0a m w z l cs fp → l[i]? = some a →
  ∃ f1 fm f2,fp = f1 ++ (fm ++ f2) ∧ a0a m w z (l.take i) cs f1 ∧ Rep m w a ((cs.drop (i * z)).take z) fm ∧ ((cs.drop (i * z)).take z).length = z ∧ a.isElem = true ∧ a0a m w z (l.drop (i + 1)) (cs.drop ((i + 1) * z)) f2
 | [],_,_,_,_,_,h => by simp at h
 | x :: l,cs,fp,0,a,hr,h => by
  simp at h
  subst h
  simp only [a0a] at hr
  obtain ⟨f1,f2,⟨h0,h0'⟩,h1,h2,rfl⟩:=hr
  exact ⟨[],f1,f2,by simp,by simp [a0a],by simpa using h1,by simpa using h0,h0',by simpa using h2⟩
 | x :: l,cs,fp,i + 1,a,hr,h => by
  simp only [a0a] at hr
  obtain ⟨f1,f2,h0,h1,h2,rfl⟩:=hr
  obtain ⟨g1,gm,g2,e,k1,k2,k3,k4,k5⟩:=a0a.part h2 (by simpa using h)
  have e1:cs.drop ((i + 1) * z) = (cs.drop z).drop (i * z):=by rw [List.drop_drop,Nat.add_mul,Nat.one_mul,Nat.add_comm]
  have e2:cs.drop ((i + 1 + 1) * z) = (cs.drop z).drop ((i + 1) * z):=by rw [List.drop_drop,Nat.add_mul (i + 1),Nat.one_mul,Nat.add_comm]
  refine ⟨f1 ++ g1,gm,g2,by rw [e]; simp,?_,by rw [e1]; exact k2,by rw [e1]; exact k3,k4,by rw [e2]; exact k5⟩
  simp only [List.take_succ_cons,a0a]
  exact ⟨f1,g1,h0,h1,k1,rfl⟩
theorem a0a.join:∀ {l:List AV} {cs:List Value} {f1 fm f2:List Nat} {i:Nat} {a:AV},i < l.length → a0a m w z (l.take i) cs f1 → Rep m w a ((cs.drop (i * z)).take z) fm → ((cs.drop (i * z)).take z).length = z → a.isElem = true →
  a0a m w z (l.drop (i + 1)) (cs.drop ((i + 1) * z)) f2 → a0a m w z (l.set i a) cs (f1 ++ (fm ++ f2))
 | [],_,_,_,_,_,_,hi,_,_,_,_,_ => by simp at hi
 | x :: l,cs,f1,fm,f2,0,a,hi,h1,hm,hl,he,h2 => by
  simp only [List.take_zero,a0a] at h1
  subst h1
  simp only [List.set_cons_zero,a0a]
  exact ⟨fm,f2,⟨by simpa using hl,he⟩,by simpa using hm,by simpa using h2,by simp⟩
 | x :: l,cs,f1,fm,f2,i + 1,a,hi,h1,hm,hl,he,h2 => by
  simp only [List.take_succ_cons,a0a] at h1
  obtain ⟨g1,g2,k0,k1,k2,rfl⟩:=h1
  have e1:cs.drop ((i + 1) * z) = (cs.drop z).drop (i * z):=by rw [List.drop_drop,Nat.add_mul,Nat.one_mul,Nat.add_comm]
  have e2:cs.drop ((i + 1 + 1) * z) = (cs.drop z).drop ((i + 1) * z):=by rw [List.drop_drop,Nat.add_mul (i + 1),Nat.one_mul,Nat.add_comm]
  rw [e1] at hm hl
  rw [e2] at h2
  simp only [List.set_cons_succ,a0a]
  exact ⟨g1,g2 ++ (fm ++ f2),k0,k1,a0a.join (by simpa using hi) k2 hm hl he h2,by simp⟩
end
theorem d0g:∀ (as:List AV) (n:Nat),(a8x n as).1.length = as.length
 | [],_ => rfl
 | a :: as,n => by simp only [a8x,List.length_cons,d0g as]
section
variable {C:Ctx} {σ:Sg} {φ:Nat → List Nat} {h:List l7} {w:World}
theorem e4c (hmm:C.mm = true) (hdm:C.dm = true) (hr:o9 C σ φ h w) {o i z:Nat} {l:List AV} {el el2:AV} {xs:List l7} (ho:h[o]? = some (.row z l)) (hel:l[i]? = some el) (hbs:a8x h.length el.cells = (el2.cells,xs)) :
  ∃ σ' φ',o9 C σ' φ' (h.set o (.rowx z l i el2) ++ xs) w ∧ EvX C σ h w σ' (h.set o (.rowx z l i el2) ++ xs) w:=by
 obtain ⟨hz,hob⟩:=hr.obj o _ ho
 cases hs:σ o with
 | none => rw [hs] at hob; rw [hob.1] at hel; simp at hel
 | some p =>
  obtain ⟨g,c⟩:=p
  rw [hs] at hob
  obtain ⟨hc,cur,e,h2,h3,h4,h5⟩:=hob
  rw [hdm] at h4
  obtain ⟨f1,fm,f2,hfp,r1,rm,rl,re,r2⟩:=h4.part hel
  have rc:=rm.cells1 re
  have hlen:=rc.length
  obtain ⟨s,p,hf,hrv⟩:=c6o (C:=C) (B:=0) h.length el.cells _ fm rc
  rw [hbs] at hf hrv
  simp only at hf hrv
  have hl2:el2.cells.length = z:=by
   have:=d0g el.cells h.length
   rw [hbs] at this
   simp only at this
   rw [this,← hlen,rl]
  obtain ⟨d1,d2,d3⟩:=hr.deep hdm o z l ho
  have hlt:o < h.length:=(List.getElem?_eq_some_iff.1 ho).1
  have hi:i < l.length:=(List.getElem?_eq_some_iff.1 hel).1
  have hfmφ:∀ b ∈ fm,b ∈ φ o:=fun b hb => by rw [hfp]; simp [hb]
  have hf12φ:∀ b ∈ f1 ++ f2,b ∈ φ o:=fun b hb => by rw [hfp]; rcases List.mem_append.1 hb with hb | hb <;> simp [hb]
  have hnd:(f1 ++ (fm ++ f2)).Nodup:=by rw [← hfp]; exact d1
  have hnm:fm.Nodup:=(List.nodup_append.1 (List.nodup_append.1 hnd).2.1).1
  have hn12:(f1 ++ f2).Nodup:=hnd.sublist (List.Sublist.append (List.Sublist.refl _) (List.sublist_append_right _ _))
  have hdis:∀ b ∈ f1 ++ f2,b ∉ fm:=by
   intro b hb hbm
   rcases List.mem_append.1 hb with hb | hb
   ·exact (List.nodup_append.1 hnd).2.2 b hb b (by simp [hbm]) rfl
   ·exact (List.nodup_append.1 (List.nodup_append.1 hnd).2.1).2.2 b hbm b hb rfl
  obtain ⟨X,hX⟩:∃ X,X = l7.rowx z l i el2:=⟨_,rfl⟩
  obtain ⟨h',hh'⟩:∃ h',h' = h.set o (.rowx z l i el2) ++ xs:=⟨_,rfl⟩
  rw [← hh']
  have hget:∀ k,h'[k]? = if k < h.length then (if k = o then some X else h[k]?) else xs[k - h.length]?:=by
   intro k
   rw [hh',List.getElem?_append,List.length_set]
   split
   ·rw [List.getElem?_set]
    by_cases he:o = k
    ·subst he; rw [if_pos rfl,if_pos hlt,if_pos rfl,hX]
    ·rw [if_neg he,if_neg (Ne.symm he)]
   ·rfl
  obtain ⟨σ',hσ'⟩:∃ σ':Sg,σ' = fun k => if k < h.length then σ k else (s[k - h.length]?).getD none:=⟨_,rfl⟩
  obtain ⟨φ',hφ'⟩:∃ φ':Nat → List Nat,φ' = fun k => if k = o then f1 ++ f2 else if k < h.length then φ k else (p[k - h.length]?).getD []:=⟨_,rfl⟩
  have hσ0:∀ k,k < h.length → σ' k = σ k:=fun k hk => by rw [hσ']; simp [hk]
  have hσ1:∀ j,σ' (h.length + j) = (s[j]?).getD none:=fun j => by rw [hσ']; simp only; rw [if_neg (by omega)]; simp
  have hφo:φ' o = f1 ++ f2:=by rw [hφ']; simp
  have hφ0:∀ k,k ≠ o → k < h.length → φ' k = φ k:=fun k hk hk' => by rw [hφ']; simp [hk,hk']
  have hφ1:∀ j,φ' (h.length + j) = (p[j]?).getD []:=fun j => by rw [hφ']; simp only; rw [if_neg (by omega),if_neg (by omega)]; simp
  have hsome:∀ j g c,σ' (h.length + j) = some (g,c) → s[j]? = some (some (g,c)):=by
   intro j g c hs
   rw [hσ1] at hs
   cases he:s[j]? with
   | none => rw [he] at hs; cases hs
   | some o => rw [he] at hs; simp only [Option.getD_some] at hs; rw [hs]
  have old:∀ k y,k < h.length → h'[k]? = some y → (k = o ∧ y = X) ∨ (k ≠ o ∧ h[k]? = some y):=by
   intro k y hk hy
   rw [hget,if_pos hk] at hy
   split at hy
   ·cases hy; exact .inl ⟨by assumption,rfl⟩
   ·exact .inr ⟨by assumption,hy⟩
  have new:∀ k y,¬ k < h.length → h'[k]? = some y → ∃ j,k = h.length + j ∧ xs[j]? = some y:=by
   intro k y hk hy
   rw [hget,if_neg hk] at hy
   exact ⟨k - h.length,by omega,hy⟩
  have live':∀ b,liveAt h' σ' b → liveAt h σ b ∨ b ∈ fm:=by
   rintro b ⟨k,y,cc,g1,g2,g3⟩
   by_cases hk:k < h.length
   ·rw [hσ0 k hk] at g3
    rcases old k y hk g1 with ⟨rfl,_⟩ | ⟨_,q⟩
    ·exact .inl ⟨k,_,cc,ho,rfl,g3⟩
    ·exact .inl ⟨k,y,cc,q,g2,g3⟩
   ·obtain ⟨j,rfl,q⟩:=new k y hk g1
    exact .inr (hf.sub j b cc (hsome _ _ _ g3))
  have hnl:∀ b ∈ fm,¬ liveAt h σ b:=fun b hb => (h5 b (hfmφ b hb)).2
  have ev:EvX C σ h w σ' h' w:=by
   refine ⟨?_,?_,?_,fun _ _ _ _ => rfl,Nat.le_refl _⟩
   ·intro k y hk hy
    have hkl:k < h.length:=(List.getElem?_eq_some_iff.1 hk).1
    refine .inr ⟨hσ0 k hkl,?_⟩
    by_cases he:k = o
    ·subst he
     rw [ho] at hk
     cases hk
     refine ⟨X,by rw [hget,if_pos hkl,if_pos rfl],?_⟩
     rw [hX]
     exact ⟨rfl,rfl⟩
    ·exact ⟨y,by rw [hget,if_pos hkl,if_neg he]; exact hk,sameShape.refl hy⟩
   ·intro k hk
    have hkl:k < h.length:=(List.getElem?_eq_some_iff.1 hk).1
    rw [hget,if_pos hkl,if_neg (fun he => by subst he; rw [ho] at hk; cases hk)]
    exact hk
   ·intro b hb hl
    exact (live' b hl).imp id (fun hm => ⟨hmm,d2 b (hfmφ b hm)⟩)
  have hother:∀ k y,k ≠ o → h[k]? = some y → y.rw = true → ∀ b ∈ φ k,¬ liveAt h' σ' b:=by
   intro k y hk hy hrw b hb hl
   rcases live' b hl with h1 | h1
   ·exact (hr.phix hy hrw hb).2 h1
   ·exact d3 k y hy hrw hk b (hfmφ b h1) hb
  refine ⟨σ',φ',⟨?_,?_,?_,?_⟩,ev⟩
  ·intro k y hk
   by_cases hkl:k < h.length
   ·rcases old k y hkl hk with ⟨rfl,rfl⟩ | ⟨hne,hk⟩
    ·rw [hX]
     refine ⟨hz,⟨hmm,hdm⟩,hi,g,c,cur,e,f1,f2,by rw [hσ0 k hkl]; exact hs,hc,h2,h3,by rw [hdm]; exact r1,?_,by rw [hdm]; exact r2,hl2,hφo,?_⟩
     ·refine hrv σ' h' hnm ?_ ?_
      ·intro j x hj
       rw [hσ1,hj]; rfl
      ·intro j x hj
       rw [hget,if_neg (by omega)]
       simpa using hj
     ·intro b hb
      rw [hφo] at hb
      refine ⟨(h5 b (hf12φ b hb)).1,fun hl => ?_⟩
      rcases live' b hl with h1 | h1
      ·exact (h5 b (hf12φ b hb)).2 h1
      ·exact hdis b hb h1
    ·have hob:=hr.obj k y hk
     cases y with
     | dead => trivial
     | box sz v =>
      obtain ⟨g',cur',e',q1,q2,q3,q4⟩:=hob
      exact ⟨g',cur',e',by rw [hσ0 k hkl]; exact q1,q2,q3,ev.rvs _ _ q4⟩
     | map m =>
      obtain ⟨g',cur',e',q1,q2,q3,q4⟩:=hob
      exact ⟨g',cur',e',by rw [hσ0 k hkl]; exact q1,q2,q3,ev.rvs _ _ q4⟩
     | row sz l' =>
      have hot:=hother k _ hne hk rfl
      obtain ⟨q0,hob⟩:=hob
      refine ⟨q0,?_⟩
      rw [hσ0 k hkl,hφ0 k hne hkl]
      cases hs':σ k with
      | none => rw [hs'] at hob; exact hob
      | some pp =>
       rw [hs'] at hob
       obtain ⟨q1,cur',e',q2,q3,q4,q5⟩:=hob
       exact ⟨q1,cur',e',q2,q3,q4,fun b hb => ⟨(q5 b hb).1,hot b hb⟩⟩
     | rowx sz l' i' el' =>
      have hot:=hother k _ hne hk rfl
      obtain ⟨q0,qm,qi,g',c',cur',e',p1,p2,q1,q2,q3,q4,q5,q6,q7,q7',q8,q9⟩:=hob
      exact ⟨q0,qm,qi,g',c',cur',e',p1,p2,by rw [hσ0 k hkl]; exact q1,q2,q3,q4,q5,ev.rvs _ _ q6,q7,q7',by rw [hφ0 k hne hkl]; exact q8,fun b hb => by rw [hφ0 k hne hkl] at hb; exact ⟨(q9 b hb).1,hot b hb⟩⟩
   ·obtain ⟨j,rfl,hj⟩:=new k y hkl hk
    obtain ⟨zz,ll,rfl,hzz,q,hq,hsub,hm⟩:=hf.row j y hj
    refine ⟨hzz,?_⟩
    rw [hσ1,hφ1,hq]
    cases he:s[j]? with
    | none => rw [he] at hm; exact hm.elim
    | some oo =>
     rw [he] at hm
     cases oo with
     | none => exact hm
     | some gc =>
      obtain ⟨g',c'⟩:=gc
      obtain ⟨q1,q2,cur',e',q3,q4,q5⟩:=hm
      refine ⟨q2,cur',e',q3,q4,by rw [hdm]; exact q5,?_⟩
      intro b hbq
      have hbf:=hsub.subset hbq
      refine ⟨(h5 b (hfmφ b hbf)).1,?_⟩
      rintro ⟨k',y',cc,e1,e2,e3⟩
      by_cases hk':k' < h.length
      ·rw [hσ0 k' hk'] at e3
       rcases old k' y' hk' e1 with ⟨rfl,_⟩ | ⟨_,q'⟩
       ·exact hnl b hbf ⟨k',_,cc,ho,rfl,e3⟩
       ·exact hnl b hbf ⟨k',y',cc,q',e2,e3⟩
      ·obtain ⟨j',rfl,hj'⟩:=new k' y' hk' e1
       exact hf.out hnm j' j b cc q (hsome _ _ _ e3) hq hbq
  ·intro k1 k2 y1 y2 b c1 c2 a1 a2 a3 a4 a5 a6
   have oldlive:∀ k y cc,k < h.length → h'[k]? = some y → y.isLive = true → σ' k = some (b,cc) → ∃ y0,h[k]? = some y0 ∧ y0.isLive = true ∧ σ k = some (b,cc):=by
    intro k y cc hk hy hly hs'
    rw [hσ0 k hk] at hs'
    rcases old k y hk hy with ⟨rfl,_⟩ | ⟨_,q⟩
    ·exact ⟨_,ho,rfl,hs'⟩
    ·exact ⟨y,q,hly,hs'⟩
   by_cases hk1:k1 < h.length <;> by_cases hk2:k2 < h.length
   ·obtain ⟨z1,b1,b2,b3⟩:=oldlive k1 y1 c1 hk1 a1 a2 a5
    obtain ⟨z2,b4,b5,b6⟩:=oldlive k2 y2 c2 hk2 a3 a4 a6
    exact hr.inj k1 k2 z1 z2 b c1 c2 b1 b2 b4 b5 b3 b6
   ·obtain ⟨z1,b1,b2,b3⟩:=oldlive k1 y1 c1 hk1 a1 a2 a5
    obtain ⟨j,rfl,_⟩:=new k2 y2 hk2 a3
    exact absurd ⟨k1,z1,c1,b1,b2,b3⟩ (hnl b (hf.sub j b c2 (hsome _ _ _ a6)))
   ·obtain ⟨z2,b4,b5,b6⟩:=oldlive k2 y2 c2 hk2 a3 a4 a6
    obtain ⟨j,rfl,_⟩:=new k1 y1 hk1 a1
    exact absurd ⟨k2,z2,c2,b4,b5,b6⟩ (hnl b (hf.sub j b c1 (hsome _ _ _ a5)))
   ·obtain ⟨j1,rfl,_⟩:=new k1 y1 hk1 a1
    obtain ⟨j2,rfl,_⟩:=new k2 y2 hk2 a3
    have:=hf.inj hnm j1 j2 b c1 b c2 (hsome _ _ _ a5) (hsome _ _ _ a6) rfl
    omega
  ·intro k y b cc a1 a2 a3
   by_cases hk:k < h.length
   ·rw [hσ0 k hk] at a3
    rcases old k y hk a1 with ⟨rfl,_⟩ | ⟨_,q⟩
    ·exact hr.base k _ b cc ho rfl a3
    ·exact hr.base k y b cc q a2 a3
   ·obtain ⟨j,rfl,_⟩:=new k y hk a1
    exact d2 b (hfmφ b (hf.sub j b cc (hsome _ _ _ a3)))
  ·intro _ k y a1 a2
   -- what a row leads to now lies within what it,or row 'o',led to
   have part:∀ k y,h'[k]? = some y → y.rw = true → (φ' k).Nodup ∧ ((k < h.length ∧ k ≠ o ∧ φ' k = φ k ∧ ∃ y0,h[k]? = some y0 ∧ y0.rw = true) ∨ (k = o ∧ φ' k = f1 ++ f2) ∨ ∃ j q,k = h.length + j ∧ p[j]? = some q ∧ φ' k = q ∧ ∀ b ∈ q,b ∈ fm):=by
    intro k y hk hy
    by_cases hkl:k < h.length
    ·rcases old k y hkl hk with ⟨rfl,_⟩ | ⟨hne,q⟩
     ·exact ⟨by rw [hφo]; exact hn12,.inr (.inl ⟨rfl,hφo⟩)⟩
     ·exact ⟨by rw [hφ0 k hne hkl]; exact (hr.deepx hdm k y q hy).1,.inl ⟨hkl,hne,hφ0 k hne hkl,y,q,hy⟩⟩
    ·obtain ⟨j,rfl,hj⟩:=new k y hkl hk
     obtain ⟨_,_,_,_,q,hq,hsub,_⟩:=hf.row j y hj
     have:φ' (h.length + j) = q:=by rw [hφ1,hq]; rfl
     exact ⟨by rw [this]; exact hnm.sublist hsub,.inr (.inr ⟨j,q,rfl,hq,this,fun b hb => hsub.subset hb⟩)⟩
   obtain ⟨n1,p1⟩:=part k y a1 a2
   refine ⟨n1,?_,?_⟩
   ·intro b hb
    rcases p1 with ⟨_,_,e1,y0,e2,e3⟩ | ⟨_,e1⟩ | ⟨j,q,_,_,e1,e2⟩
    ·rw [e1] at hb; exact (hr.deepx hdm k y0 e2 e3).2.1 b hb
    ·rw [e1] at hb; exact d2 b (hf12φ b hb)
    ·rw [e1] at hb; exact d2 b (hfmφ b (e2 b hb))
   ·intro k' y' a3 a4 hne b hb hb'
    obtain ⟨_,p2⟩:=part k' y' a3 a4
    rcases p1 with ⟨_,m1,e1,y0,e2,e3⟩ | ⟨m1,e1⟩ | ⟨j,q,m1,m2,e1,e2⟩
    ·rw [e1] at hb
     rcases p2 with ⟨_,_,q1,y1,q2,q3⟩ | ⟨_,q1⟩ | ⟨j',q',_,_,q1,q2⟩
     ·rw [q1] at hb'; exact (hr.deepx hdm k y0 e2 e3).2.2 k' y1 q2 q3 hne b hb hb'
     ·rw [q1] at hb'; exact d3 k y0 e2 e3 m1 b (hf12φ b hb') hb
     ·rw [q1] at hb'; exact d3 k y0 e2 e3 m1 b (hfmφ b (q2 b hb')) hb
    ·rw [e1] at hb
     rcases p2 with ⟨_,m3,q1,y1,q2,q3⟩ | ⟨m3,q1⟩ | ⟨j',q',_,_,q1,q2⟩
     ·rw [q1] at hb'; exact d3 k' y1 q2 q3 m3 b (hf12φ b hb) hb'
     ·exact hne (m3.trans m1.symm)
     ·rw [q1] at hb'; exact hdis b hb (q2 b hb')
    ·rw [e1] at hb
     rcases p2 with ⟨_,m3,q1,y1,q2,q3⟩ | ⟨m3,q1⟩ | ⟨j',q',m3,m4,q1,q2⟩
     ·rw [q1] at hb'; exact d3 k' y1 q2 q3 m3 b (hfmφ b (e2 b hb)) hb'
     ·rw [q1] at hb'; exact hdis b hb' (e2 b hb)
     ·rw [q1] at hb'
      exact hf.dis hnm j j' q q' m2 m4 (fun he => hne (by rw [m1,m3,he])) b hb hb'
theorem d5g (hr:o9 C σ φ h w) (hok:∀ b,C.mine b → C.ok b) {a a':AV} {ks:List Nat} {vs:List Value} (hc:a1y C.dm h a = some (a',ks)) (hv:RVs C σ h w a.cells vs):∃ fp,Rep C.dm w a' vs fp ∧ Taken C σ φ h ks fp:=by
 cases a with
 | agg as =>
  have hv':RV C σ h w (.agg as) (.agg vs.toArray):=by simp only [RV]; simp only [AV.cells] at hv; exact ⟨_,rfl,by simpa using hv⟩
  obtain ⟨fp,⟨cs,e,r⟩,t⟩:=a1y.rep hr hok _ a' ks _ hc hv'
  simp only [a1y] at hc
  split at hc
  ·split at hc
   ·cases hc
    simp only [mkV,Value.agg.injEq] at e
    have:cs = vs:=by have:=congrArg Array.toList e; simpa using this.symm
    subst this
    exact ⟨fp,r,t⟩
   ·cases hc
  ·cases hc
 | _ =>
  simp only [AV.cells,RVs] at hv
  obtain ⟨v,vs',rfl,h1,rfl⟩:=hv
  obtain ⟨fp,⟨cs,e,r⟩,t⟩:=a1y.rep hr hok _ a' ks _ hc h1
  have hcell:a'.isCell = true:=by
   simp only [a1y] at hc
   first
    | (cases hc; rfl)
    | (split at hc <;> first | (cases hc; rfl) | (split at hc <;> first | (cases hc; rfl) | cases hc) | cases hc)
    | cases hc
  obtain ⟨c,rfl,e2⟩:=r.cell hcell
  rw [e2] at e
  subst e
  exact ⟨fp,r,t⟩
theorem e0q (hr:o9 C σ φ h w) (hok:∀ b,C.mine b → C.ok b) {o i z:Nat} {l:List AV} {el el':AV} {ks:List Nat} (ho:h[o]? = some (.rowx z l i el)) (hab:a1y C.dm h el = some (el',ks)) (hno:o ∉ ks) (hnd:ks.Nodup) (he:el'.isElem = true) :
  ∃ φ',o9 C σ φ' ((kill h ks).set o (.row z (l.set i el'))) w ∧ Ev σ h w σ ((kill h ks).set o (.row z (l.set i el'))) w:=by
 obtain ⟨hz,⟨hmm,hdm⟩,hi,g,c,cur,e,f1,f2,k1,k2,k3,k4,k5,k6,k7,k7',k8,k9⟩:=hr.obj o _ ho
 obtain ⟨fe,re,te⟩:=d5g hr hok hab k6
 have hl:=k6.length
 rw [k7'] at hl
 have hjoin:=a0a.join hi k5 re hl he k7
 obtain ⟨d1,d2,d3⟩:=hr.deepx hdm o _ ho rfl
 have hlte:=Rep.lt _ _ _ re
 have hdis:∀ b ∈ fe,b ∉ φ o:=by
  intro b hb hbo
  obtain ⟨k,q1,q2⟩:=te.own hdm b hb
  have:=Owned.unique hr hdm q2 (.inr ⟨hbo,_,ho,rfl⟩)
  subst this
  exact hno q1
 have key:=hr.turn (w':=w) ho (x':=.row z (l.set i el')) rfl ⟨rfl,by simp⟩ k1 (ks:=ks) hno (fx:=f1 ++ (fe ++ f2)) rfl (fun _ _ => rfl) (fun ev => by
   refine ⟨hz,?_⟩
   rw [k1]
   have:upd φ o (f1 ++ (fe ++ f2)) o = f1 ++ (fe ++ f2):=by simp [upd]
   simp only [this]
   refine ⟨k2,cur,e,k3,k4,hjoin,?_⟩
   intro b hb
   have hb':b ∈ φ o ∨ b ∈ fe:=by
    rw [k8]
    simp only [List.mem_append] at hb ⊢
    rcases hb with hb | hb | hb
    ·exact .inl (.inl hb)
    ·exact .inr hb
    ·exact .inl (.inr hb)
   rcases hb' with hb | hb
   ·exact ⟨(k9 b hb).1,fun hl => (k9 b hb).2 (ev.live b (hr.phiLtx ho rfl hb) hl)⟩
   ·refine ⟨te.ok b hb,?_⟩
    rintro ⟨o',y,c',j1,j2,j3⟩
    rw [List.getElem?_set] at j1
    by_cases he':o = o'
    ·subst he'
     obtain ⟨k,q1,q2⟩:=te.own hdm b hb
     have:=Owned.unique hr hdm q2 (.inl ⟨_,c',ho,rfl,j3⟩)
     subst this
     exact hno q1
    ·rw [if_neg he'] at j1
     obtain ⟨m1,m2⟩:=a7x j1 j2
     obtain ⟨k,q1,q2⟩:=te.own hdm b hb
     have:=Owned.unique hr hdm q2 (.inl ⟨y,c',m1,j2,j3⟩)
     subst this
     exact m2 q1) (fun _ _ => by
   refine ⟨?_,?_,?_⟩
   ·rw [k8] at d1
    have hn:=te.nodup hdm hnd
    have:=d3e (A:=f1) (s1:=[]) (fv:=fe) (s3:=[]) (B:=f2) hn (by simpa using d1) (fun b hb hb' => hdis b hb (by rw [k8]; simpa using hb'))
    simpa using this
   ·intro b hb
    have hb':b ∈ φ o ∨ b ∈ fe:=by
     rw [k8]
     simp only [List.mem_append] at hb ⊢
     rcases hb with hb | hb | hb
     ·exact .inl (.inl hb)
     ·exact .inr hb
     ·exact .inl (.inr hb)
    rcases hb' with hb | hb
    ·exact d2 b hb
    ·obtain ⟨k,_,hk⟩:=te.own hdm b hb
     exact hk.base hr hdm
   ·intro o' y hy hyr hk' hne b hb hbo
    have hb':b ∈ φ o ∨ b ∈ fe:=by
     rw [k8]
     simp only [List.mem_append] at hb ⊢
     rcases hb with hb | hb | hb
     ·exact .inl (.inl hb)
     ·exact .inr hb
     ·exact .inl (.inr hb)
    rcases hb' with hb | hb
    ·exact d3 o' y hy hyr hne b hb hbo
    ·obtain ⟨k,q1,q2⟩:=te.own hdm b hb
     have:=Owned.unique hr hdm q2 (.inr ⟨hbo,y,hy,hyr⟩)
     subst this
     exact hk' q1)
 exact ⟨_,key.1,key.2⟩
end
end Go.R
end
section
set_option linter.all false
namespace Go.R
open Go Go.RowKit
def d7n (sz:Nat):List AV → Prop
 | [] => True
 | a :: as => a.cells.length = sz ∧ d7n sz as
theorem d0h {sz:Nat}:∀ {as:List AV},d7n sz as → ∀ a ∈ as,a.cells.length = sz
 | [],_,a,ha => by simp at ha
 | x :: as,h,a,ha => by
  simp only [d7n] at h
  rcases List.mem_cons.1 ha with rfl | ha
  ·exact h.1
  ·exact d0h h.2 a ha
def b9u (h:List l7):List AV → Prop
 | [] => True
 | a :: as => (a.isCell = true ∧ a6p h a) ∧ b9u h as
theorem c3w {h:List l7}:∀ {as:List AV},b9u h as → ∀ a ∈ as,a.isCell = true ∧ a6p h a
 | [],_,a,ha => by simp at ha
 | x :: as,hs,a,ha => by
  simp only [b9u] at hs
  rcases List.mem_cons.1 ha with rfl | ha
  ·exact hs.1
  ·exact c3w hs.2 a ha
def d7o (P:Program) (f:Nat):Bool:=match P.funcs[f]? with
 | some fn => fn.body.isSome && fn.name != "runtime.NumGoroutine"
 | none => false
section
variable {P:Program} {C:Ctx} {σ:Sg} {φ:Nat → List Nat} {h:List l7} {w w':World} {t:Nat → AV} {ρ:Operand → Value}
theorem d7p (hmf:C.mm = false) (hr:o9 C σ φ h w) (hok:∀ b,C.mine b → C.ok b) (hb:∀ b,w.heap.size ≤ b → C.mine b) {ty e:TypeId} {i:TypeInfo} {n:Nat} {parts:Array (Nat × Operand)} {xs:List AX} (ht:P.underlying ty = some (.slice e)) (hi:P.info? e = some i)
  (hz:i.zero.isSome = true) (hz0:0 < (i.zero.getD undef).cells.size) (h0:0 < i.size) (hle:n * i.size ≤ 2 ^ 24) (hn:n = xs.length) (hx:b6t 0 parts.toList = some xs) (he:a7u C σ h w t ρ)
  {as:List AV} {ks:List Nat} (ha:a0r false h (xs.map (AX.ev t)) = some (as,ks)) (hl:∀ a ∈ as,a.cells.length = i.size) :
  ∃ u w',(Instr.buildSlice ty n (parts.map fun (i,x) => (i,ρ x))).run P w = .ok u w' ∧ o9 C σ φ (kill h ks) w' ∧ Ev σ h w σ (kill h ks) w' ∧
   RV C σ (kill h ks) w' (.lst i.size as) u ∧ Below C.base w w':=by
 have hrv:=c6n he parts.toList 0 xs hx
 obtain ⟨fp,r1,r2,r3,r4⟩:=a0r.repS (C:={ C with dm:=false }) (hr.weak hmf) hok _ as ks _ ha (RVs.ctx (C:=C) (C':={ C with dm:=false }) (fun _ h => h) _ _ hrv) hl
 have hlt:=a0a.lt _ _ _ r1
 have hasl:as.length = n:=by
  have:∀ (l:List AV) (bs:List AV) (k:List Nat),a0r false h l = some (bs,k) → bs.length = l.length:=by
   intro l
   induction l with
   | nil => intro bs k hc; simp only [a0r] at hc; cases hc; rfl
   | cons a l ih =>
    intro bs k hc
    simp only [a0r] at hc
    split at hc
    ·rename_i b k1 bs' k2 g1 g2
     cases hc
     simp [ih _ _ g2]
    ·cases hc
  rw [this _ _ _ ha,List.length_map,hn]
 obtain ⟨z,hzz⟩:=Option.isSome_iff_exists.1 hz
 rw [hzz] at hz0
 simp only [Option.getD_some] at hz0
 have hm:n ≤ maxLen:=by
  have:n ≤ n * i.size:=Nat.le_mul_of_pos_right n h0
  simp only [maxLen]
  omega
 have hcur:((parts.toList.map fun p => ρ p.2).flatMap fun v => v.cells.toList).toArray.size = n * i.size:=by simpa [hasl] using r2
 have hmine:C.mine w.heap.size:=hb _ (Nat.le_refl _)
 refine ⟨.slice (some ⟨w.heap.size,0,none⟩) n n,w.alloc (.cells ((parts.toList.map fun p => ρ p.2).flatMap fun v => v.cells.toList).toArray e),?_,?_,?_,?_,Below.push _ _ _ hmine.1⟩
 ·have hplen:(parts.toList.map fun p => ρ p.2).length = n:=by
   rw [hrv.length,List.length_map,hn]
  have hfill:∀ z':Array Value,z'.size = n * i.size → Instr.fill (fun j => some (j * i.size,i.size)) z' (parts.toList.map fun p => (p.1,ρ p.2)) = some ((parts.toList.map fun p => ρ p.2).flatMap fun v => v.cells.toList).toArray:=by
   intro z' hz'
   rw [c3s parts.toList 0 xs hx,c3r i.size _ 0 z' r3 (by rw [Nat.zero_add,hplen,hz']; exact Nat.le_refl _)]
   simp only [Nat.zero_mul,List.take_zero,List.nil_append,Nat.zero_add,hplen]
   rw [List.drop_of_length_le (by simp [hz'])]
   simp
  have hmk:∀ z':Array Value,((Array.range (n * i.size)).map (fun x => z'[x % z'.size]!)).size = n * i.size:=by intro z'; simp
  simp only [Instr.buildSlice,Sem.run_bind,run_underlying ht,Result.andThen_ok,sizeOf,typeInfo,run_program,hi,Sem.run_pure]
  rw [if_neg (by omega)]
  by_cases hnz:n * i.size = 0
  ·simp only [hnz,if_true,Sem.run_bind,Sem.run_pure,Result.andThen_ok]
   have hf:=hfill ((Array.range 0).map (fun x => (#[]:Array Value)[x % (#[]:Array Value).size]!)) (by simp [hnz])
   simp only [Array.toList_map]
   rw [hf]
   simp [newRow]
  ·rw [if_neg hnz]
   have hf:=hfill _ (hmk z.cells)
   simp only [Sem.run_bind,zeroValue,typeInfo,run_program,hi,Result.andThen_ok,hzz,Sem.run_pure,Array.toList_map]
   rw [hf]
   simp [newRow]
 ·have key:=o9.puts (σ':=σ) (φ':=φ) (w':=w.alloc (.cells ((parts.toList.map fun p => ρ p.2).flatMap fun v => v.cells.toList).toArray e)) (ks:=ks) (xs:=[]) hr (fun o ho => ⟨rfl,rfl⟩) (by simp) (by simp) (fun b hb' _ => Below.heap_alloc _ _ _ hb') (by simp) (by simp) (by simp)
  simp only [List.append_nil] at key
  exact key.1
 ·have key:=o9.puts (σ':=σ) (φ':=φ) (w':=w.alloc (.cells ((parts.toList.map fun p => ρ p.2).flatMap fun v => v.cells.toList).toArray e)) (ks:=ks) (xs:=[]) hr (fun o ho => ⟨rfl,rfl⟩) (by simp) (by simp) (fun b hb' _ => Below.heap_alloc _ _ _ hb') (by simp) (by simp) (by simp)
  simp only [List.append_nil] at key
  exact key.2
 ·have r1':=a0a.world (w':=w.alloc (.cells ((parts.toList.map fun p => ρ p.2).flatMap fun v => v.cells.toList).toArray e)) _ _ _ (fun b hb' => Below.heap_alloc _ _ _ (hlt b hb')) r1
  have hnew:(w.alloc (.cells ((parts.toList.map fun p => ρ p.2).flatMap fun v => v.cells.toList).toArray e)).heap[w.heap.size]? = _:=heap_alloc_new w _
  refine Rep.rv (.lst i.size as) [.slice (some ⟨w.heap.size,0,none⟩) n n] (w.heap.size :: fp) ?_ ?_
  ·rw [Rep]
   exact .inr ⟨w.heap.size,0,n,_,e,(0,0),fp,by rw [hasl],by omega,hm,hnew,fun h => by simp at h,rfl,h0,by simpa using r1'⟩
  ·intro b hb'
   rcases List.mem_cons.1 hb' with rfl | hin
   ·refine ⟨⟨hok _ hmine,fun hm' => by rw [hmf] at hm'; cases hm'⟩,fun hl' => ?_⟩
    have:=hr.liveLt (b9q hl')
    omega
   ·refine ⟨⟨r4.ok b hin,fun hm' => by rw [hmf] at hm'; cases hm'⟩,?_⟩
    rintro ⟨o,x,c,e1,e2,e3⟩
    obtain ⟨m1,m2⟩:=a7x e1 e2
    obtain ⟨kk,q1,q2⟩:=r4.live b hin ⟨o,x,c,m1,e2,e3⟩
    rcases q2 with ⟨y,c',y1,y2,y3⟩ | ⟨y1,y,y2,y3⟩
    ·have:=hr.inj o kk x y b c c' m1 e2 y1 y2 e3 y3
     subst this
     exact m2 q1
    ·exact (hr.phix y2 y3 y1).2 ⟨o,x,c,m1,e2,e3⟩
end
def a6x (P:Program) (dm:Md) (o:AOp) (e:AX → AV) (h:List l7) (k:AV → List l7 → Prop):Prop :=
 match o with
 | .box sz x => (a6p h (e x) ∧ (e x).cells.length = sz) ∧ k (.ptr h.length 0 0) (h ++ [.box sz (e x)])
 | .mkslice sz bytes zero n c => match e n,e c with
  | .int _ a,.int _ b => (0 ≤ a ∧ a ≤ b ∧ b ≤ 2 ^ 30) ∧ ∃ l',LeL (List.replicate a.toNat zero) l' ∧ k (.own h.length 0 a.toNat) (h ++ [.row sz l'])
  | _,_ => False
 | .bslice sz xs => (match a0r dm.d h (xs.map e) with
  | some (as,ks) => ((dm.d = true → ks.Nodup) ∧ d7n sz as) ∧ ∃ as',LeL as as' ∧ k (.own h.length 0 as.length) (kill h ks ++ [.row sz as'])
  | none => False) ∨ (dm.m = false ∧ ∃ as ks,a0r false h (xs.map e) = some (as,ks) ∧ d7n sz as ∧ k (.lst sz as) (kill h ks))
 | .append sz bytes s x => match dm.d with
  | false => match b9r h sz (e s),b6e false h sz (e x) with
   | some (l0,n,ks0),some (l1,m,ks1) => n + m ≤ 2 ^ 30 ∧ k (.own h.length 0 (n + m)) (kill h (ks0 ++ ks1) ++ [.row sz (l0 ++ l1)])
   | _,_ => False
  | true => (∃ cons:Bool,match b9r h sz (e s),b6e cons h sz (e x) with
   | some (l0,n,ks0),some (l1,m,ks1) => ((cons = false → ∀ a ∈ l1,R.flat a = true) ∧ (∀ z l',e x = .lst z l' → ∀ a ∈ l1,R.flat a = true) ∧ (ks0 ++ ks1).Nodup ∧ n + m ≤ 2 ^ 30) ∧
     k (.own h.length 0 (n + m)) (kill h (ks0 ++ ks1) ++ [.row sz (l0 ++ l1)])
   | _,_ => False) ∨ ∃ o n lo m l,(e s = .own o 0 n ∧ e x = .own o lo m ∧ n ≤ lo ∧ h[o]? = some (.row sz l)) ∧ k (.own h.length 0 (n + m)) (kill h [o] ++ [.row sz (l.take n ++ (l.drop lo).take m)])
 | .store sz a x => match e a with
  | .ptr o i f => match h[o]? with
   | some (.box z y) => (a6p h (e x) ∧ a9h y f sz (e x) ∧ b9u h (e x).cells) ∧ k .skip (h.set o (.box z (a4f y f (e x))))
   | some (.row z l) => match l[i]?,a1y dm.d h (e x) with
    | some el,some (v',ks) => (o ∉ ks ∧ (dm.d = true → ks.Nodup) ∧ a9h el f sz v') ∧ ∃ el',Le (a4f el f v') el' ∧ k .skip ((kill h ks).set o (.row z (l.set i el')))
    | _,_ => False
   | some (.rowx z l j y) => (i = j ∧ a6p h (e x) ∧ a9h y f sz (e x) ∧ b9u h (e x).cells) ∧ k .skip (h.set o (.rowx z l j (a4f y f (e x))))
   | _ => False
  | _ => False
 | .call f args => a2b P dm f (args.map e) h k
 | .calv x args => match e x with
  | .fn f caps => d7o P f = true ∧ a2b P dm f (args.map e ++ caps) h k
  | _ => False
 | .convBS x => match b6e false h 1 (e x) with
  | some (l1,_,_) => ∃ l:List Int,l1 = l.map (AV.int .u8) ∧ k (.str (l.map fun n => UInt8.ofNat n.toNat)) h
  | none => False
 | .isnil ng x => match e x with
  | .nil => k (.bool !ng) h
  | .lst _ l => ∀ b,(b = true → l = []) → k (.bool (b != ng)) h
  | .own o _ n => match h[o]? with
   | some (.row _ _) => ∀ b,(b = true → n = 0) → k (.bool (b != ng)) h
   | _ => False
  | _ => False
 | .mkmap => False
 | .mapset .. => False
 | .mapget .. => False
 | .isnilp .. => False
 | .never => False
 | .cap x => match e x with
  | .nil => k (.int .i64 0) h
  | _ => False
 | .appz sz bytes zero s n => match e s,e n with
  | .nil,.int _ a => (0 < a ∧ a ≤ 2 ^ 30) ∧ ∃ l',LeL (List.replicate a.toNat zero) l' ∧ k (.own h.length 0 a.toNat) (h ++ [.row sz l'])
  | _,_ => False
 | .sl3 .. => False
 | .clr sz zero x => match e x with
  | .nil => k (.tup []) h
  | .own o lo n => match h[o]? with
   | some (.row z l) => z = sz ∧ ∃ zl,LeL (List.replicate n zero) zl ∧ k (.tup []) (h.set o (.row z (l.take lo ++ zl ++ l.drop (lo + n))))
   | _ => False
  | _ => False
 | o => aqQ dm.m o e h ∧ (aqF o e → k (aqV o e h) h)
theorem LeL.app:∀ {as bs as' bs':List AV},LeL as as' → LeL bs bs' → LeL (as ++ bs) (as' ++ bs')
 | _,_,_,_,.nil,h => h
 | _,_,_,_,.cons a t,h => .cons a (LeL.app t h)
section ops
variable {P:Program} {C:Ctx} {σ:Sg} {φ:Nat → List Nat} {h:List l7} {w w':World} {t:Nat → AV} {ρ:Operand → Value}
theorem d0i {o:AOp} (hq:o.quiet = true) {dm:Md} {e:AX → AV} {k:AV → List l7 → Prop} (ha:a6x P dm o e h k):aqQ dm.m o e h ∧ (aqF o e → k (aqV o e h) h):=by
 cases o <;> first | exact ha | simp [AOp.quiet] at hq
theorem c4w {f : Nat} {fn : Func} (hf : P.funcs[f]? = some fn) (hn : (fn.name != "runtime.NumGoroutine") = true) (hb : fn.body.isSome = true) (args : Array Value) : (callFunc f args).run P w = .ok (.enter f args) w := by
 have hn' : (fn.name == "runtime.NumGoroutine") = false := by simpa [bne] using hn
 have hb':fn.body.isNone = false:=by cases h:fn.body <;> simp_all
 have hn2 : ¬ fn.name = "runtime.NumGoroutine" := by simpa using hn'
 have hb2:¬ fn.body = none:=by intro h; rw [h] at hb'; simp at hb'
 simp [callFunc,hf,hn2,hb2]
def Behind (C:Ctx) (σ:Sg) (h:List l7) (w:World) (k:AV → List l7 → Prop) (K:Value → World → Prop):Prop :=
 ∀ r h' v w' σ' φ',o9 C σ' φ' h' w' → EvX C σ h w σ' h' w' → RV C σ' h' w' r v → Below C.base w w' → k r h' → K v w'
def c4x (C:Ctx) (σ:Sg) (h:List l7) (w:World) (k:AV → List l7 → Prop) (K:Value → World → Prop):Prop :=
 ∀ F r h' v w' σ' φ',FrX C w' F → o9 (C.frz F) σ' φ' h' w' → EvX C σ h w σ' h' w' → RV (C.frz F) σ' h' w' r v → Below C.base w w' → k r h' → K v w'
theorem c4x.b {k:AV → List l7 → Prop} {K:Value → World → Prop} (hk:c4x C σ h w k K):Behind C σ h w k K:=fun r h' v w' σ' φ' g1 g2 g3 g4 g5 => hk C.fr r h' v w' σ' φ' (FrX.refl C w') g1 g2 g3 g4 g5
theorem d3j (hmd:C.mm = true → C.dm = true) (hr:o9 C σ φ h w) (hok:∀ b,C.mine b → C.ok b) (hb:∀ b,w.heap.size ≤ b → C.mine b) {f:Nat} {as:List AV} {vs:List Value} (hv:RVs C σ h w as vs) {k:AV → List l7 → Prop} (hs:a2b P C.md f as h k)
  {o:Oper} {a:Act} {next:Act → World → Prop} {Q:Exit → Act → World → Prop} (hk:c4x C σ h w k fun v w' => next (a.put o.dst v) w'):o.upon P a next Q (.ok (.enter f vs.toArray) w):=by
 rw [Oper.upon_enter]
 refine (a2b.sound hmd hr hok hb hv hs).mono ?_
 intro e w' he
 cases e with
 | returned v =>
  obtain ⟨F,r,h',σ',φ',h0,h1,h2,h3,h4,h5⟩:=he
  exact hk F r h' v w' σ' φ' h0 h1 h2 h3 h4 h5
 | panicked _ => exact he.elim
 | outgrown => exact he.elim
theorem e4d {x:AV} {a:Option Addr} {m c:Nat} (hv:RV C σ h w x (.slice a m c)) {cons:Bool} {sz:Nat} {r:List AV × Nat × List Nat} (hs:b6e cons h sz x = some r):m ≤ maxLen:=by
 cases x with
 | nil => simp only [RV,Value.slice.injEq] at hv; rw [hv.2.1]; exact Nat.zero_le _
 | lst z l =>
  simp only [RV,b6h,Rep] at hv
  obtain ⟨fp,⟨cs,e3,h3⟩,_⟩:=hv
  rcases h3 with ⟨rfl,_,a,cap,rfl,_,_⟩ | ⟨b,off,cap,cur,el,fz,fps,rfl,h4,h5,_⟩
  ·simp only [mkV,Value.slice.injEq,List.headD_cons] at e3
   rw [e3.2.1]; exact Nat.zero_le _
  ·simp only [mkV,Value.slice.injEq,List.headD_cons] at e3
   rw [e3.2.1]; omega
 | own o lo n =>
  simp only [RV] at hv
  simp only [b6e] at hs
  split at hs
  ·rename_i z l eo
   simp only [eo] at hv
   obtain ⟨a',cap,e3,h4,h5,h6,_⟩:=hv
   simp only [Value.slice.injEq] at e3
   omega
  ·cases hs
 | _ => simp [b6e] at hs
theorem a0a.bytes {m:Bool}:∀ (l:List Int) (cs:List Value) (fp:List Nat),a0a m w 1 (l.map (AV.int .u8)) cs fp → cs.take l.length = l.map (Value.int .u8)
 | [],cs,fp,_ => by simp
 | n :: l,cs,fp,hr => by
  simp only [List.map_cons,a0a,Rep] at hr
  obtain ⟨f1,f2,h0,⟨h1,_⟩,h2,_⟩:=hr
  have ih:=a0a.bytes l _ _ h2
  cases cs with
  | nil => simp at h1
  | cons c cs =>
   simp only [List.take_succ_cons,List.take_zero,List.cons.injEq,and_true] at h1
   simp only [List.drop_succ_cons,List.drop_zero] at ih
   simp only [List.length_cons,List.take_succ_cons,List.map_cons,h1,ih]
theorem d0j (f:Value → ByteArray → Sem (ForInStep ByteArray)) (hf:∀ n s,f (.int .u8 n) s = pure (ForInStep.yield (s.push (UInt8.ofNat n.toNat)))):∀ (l:List Int) (s:ByteArray),(forIn (l.map (Value.int .u8)) s f).run P w = .ok (⟨s.data ++ (l.map fun n => UInt8.ofNat n.toNat).toArray⟩:ByteArray) w
 | [],s => by simp [Sem.run_pure]
 | n :: l,s => by
  rw [List.map_cons,List.forIn_cons,hf]
  simp only [Sem.run_bind,Sem.run_pure,Result.andThen_ok]
  rw [d0j f hf l]
  simp [ByteArray.push]
theorem e4e {a:Option Addr} {m c:Nat} {l:List Int} (hl:l.length = m) (hg:m = 0 ∨ ∃ g off cur e fz,a = some ⟨g,off,none⟩ ∧ w.heap[g]? = some (.cells cur e fz) ∧ off + m ≤ cur.size ∧ (cur.toList.drop off).take m = l.map (Value.int .u8)):(Conv.bytesToString (.slice a m c)).run P w = .ok (.string ⟨(l.map fun n => UInt8.ofNat n.toNat).toArray⟩) w:=by
 cases a with
 | none =>
  rcases hg with rfl | ⟨g,off,cur,e,fz,h1,_⟩
  ·have:l = []:=by simpa using hl
   subst this
   simp [Conv.bytesToString]; rfl
  ·cases h1
 | some ad =>
  have hc:(loadCells ad m).run P w = .ok ((l.map (Value.int .u8)).toArray) w:=by
   rcases hg with rfl | ⟨g,off,cur,e,fz,h1,h2,h3,h4⟩
   ·have:l = []:=by simpa using hl
    subst this
    unfold loadCells
    simp [loadCellsFrom]
   ·cases h1
    rw [run_loadCells h2 h3,h4]
  unfold Conv.bytesToString
  simp only [Sem.run_bind,hc,Result.andThen_ok,List.forIn_toArray]
  rw [d0j _ (fun _ _ => rfl)]
  simp only [Result.andThen_ok,Sem.run_pure]
  congr 3
  simp
theorem e6g (hmd:C.mm = true → C.dm = true) (hr:o9 C σ φ h w) (hok:∀ b,C.mine b → C.ok b) (hb:∀ b,w.heap.size ≤ b → C.mine b) (o:Oper) {ao:AOp} (ho:oc P o.op = some ao) (he:a7u C σ h w t ρ) {k:AV → List l7 → Prop} (hs:a6x P C.md ao (AX.ev t) h k)
    {a:Act} {next:Act → World → Prop} {Q:Exit → Act → World → Prop} (hkX:c4x C σ h w k fun v w' => next (a.put o.dst v) w'):o.upon P a next Q ((execOp ρ o).run P w):=by
  have hk:=hkX.b
  by_cases hq:ao.quiet = true
  · obtain ⟨h1,h2⟩:=d0i hq hs
    obtain ⟨v,g1,g2,g3⟩:=d4z hr o ho hq he h1.p h1.m
    rw [g1,Oper.upon_value]
    exact hk _ h v w σ φ hr (EvX.refl σ h w) g2 (Below.refl _ _) (h2 g3)
  obtain ⟨dst,op,ty,pos,after,guard⟩:=o
  simp only at ho hk hkX
  cases op with
  | box ty' x =>
    simp only [oc] at ho
    split at ho
    · rename_i n x' h1 h2
      cases ho
      obtain ⟨⟨s1,s2⟩,s3⟩:=hs
      obtain ⟨u,w',σ',φ',g1,g2,g3,g4,g5⟩:=d3d (P:=P) hr hb ty' (he _ _ h2) s1 s2
      simp only [execOp,Sem.run_bind,g1,Result.andThen_ok,Sem.run_pure,Oper.upon_value]
      exact hk _ _ u w' σ' φ' g2 g3.x g4 g5 s3
    · cases ho
  | alloc ty' =>
    simp only [oc] at ho
    split at ho
    · rename_i n z h1 h2
      split at ho
      · rename_i hl
        cases ho
        obtain ⟨⟨s1,s2⟩,s3⟩:=hs
        simp only [AX.ev] at s1 s2 s3
        obtain ⟨i,hi,hz⟩:∃ zv,(P.info? ty').bind (·.zero) = some zv ∧ a5h zv = some z:=by
          simpa [Option.bind_eq_some_iff] using h2
        obtain ⟨inf,hinf,hzz⟩:∃ inf,P.info? ty' = some inf ∧ inf.zero = some i:=by
          simpa [Option.bind_eq_some_iff] using hi
        obtain ⟨u,w',σ',φ',g1,g2,g3,g4,g5⟩:=d3d (P:=P) hr hb ty' (a5h.rv hz) s1 s2
        have hrun:(Instr.alloc ty' true (.tuple #[])).run P w = .ok u w':=by
          simpa [Instr.alloc,zeroValue,typeInfo,hinf,hzz,Instr.box] using g1
        simp only [execOp,Sem.run_bind,hrun,Result.andThen_ok,Sem.run_pure,Oper.upon_value]
        exact hk _ _ u w' σ' φ' g2 g3.x g4 g5 s3
      · cases ho
    · cases ho
  | makeSlice ty' n c =>
    simp only [oc] at ho
    split at ho
    · rename_i e n' c' h1 h2 h3
      split at ho
      · rename_i i z h4 h5
        split at ho
        · rename_i hc
          cases ho
          simp only [Bool.and_eq_true,decide_eq_true_eq] at hc
          obtain ⟨zv,hz,hzc⟩:∃ zv,i.zero = some zv ∧ a5h zv = some z:=by
            simpa [h4,Option.bind_eq_some_iff] using h5
          simp only [a6x] at hs
          have hvn:=he _ _ h2
          have hvc:=he _ _ h3
          split at hs
          · rename_i ka a1 kb b1 ea eb
            obtain ⟨⟨s1,s2,s3⟩,l',sl,s4⟩:=hs
            rw [ea] at hvn
            rw [eb] at hvc
            simp only [RV] at hvn hvc
            obtain ⟨u,w',σ',φ',g1,g2,g3,g4,g5⟩:=d2o (P:=P) hr hb h1 h4 hz hzc hc.1.1 hc.1.2 hc.2 s1 s2 s3 (kn:=ka) (kc:=kb)
            simp only [execOp,hvn,hvc,Sem.run_bind,g1,Result.andThen_ok,Sem.run_pure,Oper.upon_value]
            have hh:=LeH.last (.row (z:=i.size) sl) (h:=h)
            exact hk _ _ u w' σ' φ' (hh.heap g2) (g3.trans hh.ev).x (hh.ev.rv _ _ g4) g5 s4
          · exact hs.elim
        · cases ho
      · cases ho
    · cases ho
  | buildSlice ty' n parts =>
    simp only [oc] at ho
    split at ho
    · rename_i e xs h1 h2
      split at ho
      · rename_i i h3
        split at ho
        · rename_i hc
          cases ho
          simp only [Bool.and_eq_true,decide_eq_true_eq] at hc
          simp only [a6x] at hs
          rcases hs with hs | ⟨hm0,as,ks,ha,s2,s3⟩
          case inr =>
            obtain ⟨u,w',g1,g2,g3,g4,g5⟩:=d7p (P:=P) hm0 hr hok hb h1 h3 hc.1.1.1.1 hc.1.1.1.2 hc.1.1.2 hc.1.2 hc.2 h2 he ha (d0h s2)
            simp only [execOp,Sem.run_bind,g1,Result.andThen_ok,Sem.run_pure,Oper.upon_value]
            exact hk _ _ u w' σ φ g2 g3.x g4 g5 s3
          split at hs
          · rename_i as ks ha
            obtain ⟨⟨s1,s2⟩,l',sl,s3⟩:=hs
            obtain ⟨u,w',σ',φ',g1,g2,g3,g4,g5⟩:=d5b (P:=P) hr hok hb h1 h3 hc.1.1.1.1 hc.1.1.1.2 hc.1.1.2 hc.1.2 hc.2 h2 he ha s1 (d0h s2)
            simp only [execOp,Sem.run_bind,g1,Result.andThen_ok,Sem.run_pure,Oper.upon_value]
            have hh:=LeH.last (.row (z:=i.size) sl) (h:=kill h ks)
            exact hk _ _ u w' σ' φ' (hh.heap g2) (g3.trans hh.ev).x (hh.ev.rv _ _ g4) g5 s3
          · exact hs.elim
        · cases ho
      · cases ho
    · cases ho
  | store ty' x y =>
    simp only [oc] at ho
    split at ho
    · rename_i sz x' y' h1 h2 h3
      cases ho
      simp only [a6x] at hs
      have hvx:=he _ _ h2
      have hvy:=he _ _ h3
      split at hs
      · rename_i o i f ea
        rw [ea] at hvx
        split at hs
        · rename_i z y0 eo
          obtain ⟨⟨s1,s2,s3⟩,s4⟩:=hs
          have hvx':RV C σ h w (.ptr o 0 f) (ρ x):=by
            simp only [RV,eo] at hvx ⊢
            exact ⟨trivial,hvx.2⟩
          obtain ⟨w',φ',g1,g2,g3,g4⟩:=c9v (P:=P) hr h1 eo hvx' hvy s1 s2 (c3w s3)
          simp only [execOp,Sem.run_bind,g1,Result.andThen_ok,Sem.run_pure,Oper.upon_skip]
          exact hk _ _ undef w' σ φ' g2 g3.x (by simp [RV]) g4 s4
        · rename_i z l eo
          split at hs
          · rename_i el v' ks e1 e2
            obtain ⟨⟨s1,s2,s3⟩,l',sl,s4⟩:=hs
            obtain ⟨w',φ',g1,g2,g3,g4⟩:=c9w (P:=P) hr hok h1 eo e1 hvx hvy e2 s1 s2 s3
            simp only [execOp,Sem.run_bind,g1,Result.andThen_ok,Sem.run_pure,Oper.upon_skip]
            have hh:=LeH.setr (h:=kill h ks) (o:=o) (z:=z) (LeL.set (l:=l) (i:=i) sl)
            exact hk _ _ undef w' σ φ' (hh.heap g2) (g3.trans hh.ev).x (by simp [RV]) g4 s4
          · exact hs.elim
        · rename_i z l j y0 eo
          obtain ⟨⟨rfl,s1,s2,s3⟩,s4⟩:=hs
          obtain ⟨w',φ',g1,g2,g3,g4⟩:=c8s (P:=P) hr h1 eo hvx hvy s1 s2 (c3w s3)
          simp only [execOp,Sem.run_bind,g1,Result.andThen_ok,Sem.run_pure,Oper.upon_skip]
          exact hk _ _ undef w' σ φ' g2 g3.x (by simp [RV]) g4 s4
        · exact hs.elim
      · exact hs.elim
    · cases ho
  | call c =>
    obtain ⟨callee,args,argTypes⟩:=c
    obtain ⟨args⟩:=args
    obtain ⟨argTypes⟩:=argTypes
    cases callee with
    | invoke _ _ => simp [oc] at ho
    | value x =>
      cases x with
      | const _ => simp [oc] at ho
      | global _ => simp [oc] at ho
      | func f =>
        simp only [oc] at ho
        split at ho
        · rename_i fn hf
          split at ho
          · rename_i hc
            simp only [Bool.and_eq_true] at hc
            simp only [Option.map_eq_some_iff] at ho
            obtain ⟨xs,hx,rfl⟩:=ho
            simp only [a6x] at hs
            have hv:=he.list hx
            have hrun:(execOp ρ { dst,op:=.call { callee:=.value (.func f),args:=args.toArray,argTypes:=argTypes.toArray },type:=ty,pos,after,guard }).run P w = .ok (.enter f (args.map ρ).toArray) w:=by
              have hρ:ρ (.func f) = .func (.func f) #[] #[]:=by
                have:=he (.func f) _ rfl
                simp only [AX.ev,RV] at this
                obtain ⟨vs,e,h0⟩:=this
                simp only [RVs] at h0
                rw [e]
                congr 1
                exact Array.toList_inj.1 (by simpa using h0)
              simp [execOp,resolve,hρ,Deferred.ofValue,invoke,c4w hf hc.2 hc.1]
            rw [hrun]
            exact d3j hmd hr hok hb hv hs hkX
          · cases ho
        · cases ho
      | tmp n =>
        simp only [oc,Option.map_eq_some_iff] at ho
        obtain ⟨xs,hx,rfl⟩:=ho
        simp only [a6x,AX.ev] at hs
        have hvn:=he (.tmp n) _ rfl
        simp only [AX.ev] at hvn
        split at hs
        · rename_i f caps ef
          rw [ef] at hvn
          simp only [RV] at hvn
          obtain ⟨vs,e,hcaps⟩:=hvn
          obtain ⟨hfn,hs⟩:=hs
          unfold d7o at hfn
          split at hfn
          · rename_i fn hf
            simp only [Bool.and_eq_true] at hfn
            have hv:=(he.list hx).append hcaps
            have hrun:(execOp ρ { dst,op:=.call { callee:=.value (.tmp n),args:=args.toArray,argTypes:=argTypes.toArray },type:=ty,pos,after,guard }).run P w = .ok (.enter f (args.map ρ ++ vs.toList).toArray) w:=by
              have hargs:(args.map ρ ++ vs.toList).toArray = #[] ++ args.toArray.map ρ ++ vs:=by
                apply Array.toList_inj.1
                simp
              rw [hargs]
              simp [execOp,resolve,e,Deferred.ofValue,invoke,c4w hf hfn.2 hfn.1]
            rw [hrun]
            exact d3j hmd hr hok hb hv hs hkX
          · cases hfn
        · exact hs.elim
    | builtin b =>
      cases b with
      | len =>
        match args,argTypes,ho with
        | [x],[ty'],ho =>
          simp only [oc] at ho
          split at ho
          · simp only [Option.map_eq_some_iff] at ho
            obtain ⟨x',h2,rfl⟩:=ho
            simp [AOp.quiet] at hq
          · simp only [Option.map_eq_some_iff] at ho
            obtain ⟨x',h2,rfl⟩:=ho
            simp [AOp.quiet] at hq
          · cases ho
        | [],_,ho => simp [oc] at ho
        | _ :: _ :: _,_,ho => simp [oc] at ho
        | [_],[],ho => simp [oc] at ho
        | [_],_ :: _ :: _,ho => simp [oc] at ho
      | append =>
        match args,argTypes,ho with
        | [s,x],[ty',u],ho =>
          simp only [oc] at ho
          split at ho
          · rename_i e e' s' x' h1 h2 h3 h4
            split at ho
            · rename_i i h5
              split at ho
              · rename_i hc
                cases ho
                simp only [Bool.and_eq_true,decide_eq_true_eq] at hc
                obtain ⟨⟨⟨⟨rfl,c1⟩,c2⟩,c3⟩,c4⟩:=hc
                obtain ⟨z,hz⟩:=Option.isSome_iff_exists.1 c1
                rw [hz] at c3
                simp only [Option.getD_some] at c3
                have hvs:=he _ _ h3
                have hvx:=he _ _ h4
                have fin:∀ u w',(Builtin.append_ #[ty',ty'] ty #[ρ s,ρ x]).run P w = .ok u w' →
                    (execOp ρ { dst,op:=.call { callee:=.builtin .append,args:=[s,x].toArray,argTypes:=[ty',ty'].toArray },type:=ty,pos,after,guard }).run P w = .ok (.value u) w':=by
                  intro u w' hrun
                  simp [execOp,resolve,invoke,builtin,hrun]
                cases hdm:C.dm with
                | false =>
                  simp only [a6x,Ctx.md,hdm] at hs
                  split at hs
                  · rename_i l0 n ks0 l1 m ks1 e1 e2
                    obtain ⟨s1,s2⟩:=hs
                    obtain ⟨u,w',σ',φ',g1,g2,g3,g4,g5⟩:=c4p (P:=P) hr hb (ty':=ty) h1 h5 hz c3 c2 c4 hvs hvx e1 e2 (by simp [hdm]) (by simp [hdm]) (by simp [hdm]) s1
                    rw [fin _ _ g1,Oper.upon_value]
                    exact hk _ _ u w' σ' φ' g2 g3.x g4 g5 s2
                  · exact hs.elim
                | true =>
                  simp only [a6x,Ctx.md,hdm] at hs
                  rcases hs with ⟨cons,hs⟩ | ⟨o,n,lo,m,l,⟨q1,q2,q3,q4⟩,q5⟩
                  · split at hs
                    · rename_i l0 n ks0 l1 m ks1 e1 e2
                      obtain ⟨⟨s1,s2,s3,s4⟩,s5⟩:=hs
                      obtain ⟨u,w',σ',φ',g1,g2,g3,g4,g5⟩:=c4p (P:=P) hr hb (ty':=ty) h1 h5 hz c3 c2 c4 hvs hvx e1 e2 (fun _ => s1) (fun _ => s2) (fun _ => s3) s4
                      rw [fin _ _ g1,Oper.upon_value]
                      exact hk _ _ u w' σ' φ' g2 g3.x g4 g5 s5
                    · exact hs.elim
                  · rw [q1] at hvs
                    rw [q2] at hvx
                    obtain ⟨u,w',σ',φ',g1,g2,g3,g4,g5⟩:=d7f (P:=P) hr hb (ty':=ty) h1 h5 c2 q4 hvs hvx q3
                    rw [fin _ _ g1,Oper.upon_value]
                    exact hk _ _ u w' σ' φ' g2 g3.x g4 g5 q5
              · cases ho
            · cases ho
          · cases ho
        | [],_,ho => simp [oc] at ho
        | [_],_,ho => simp [oc] at ho
        | _ :: _ :: _ :: _,_,ho => simp [oc] at ho
        | [_,_],[],ho => simp [oc] at ho
        | [_,_],[_],ho => simp [oc] at ho
        | [_,_],_ :: _ :: _ :: _,ho => simp [oc] at ho
      | max =>
        match args,ho with
        | [x,y],ho =>
          simp only [oc] at ho
          split at ho
          · cases ho; simp [AOp.quiet] at hq
          · cases ho
        | [],ho => simp [oc] at ho
        | [_],ho => simp [oc] at ho
        | _ :: _ :: _ :: _,ho => simp [oc] at ho
      | min =>
        match args,ho with
        | [x,y],ho =>
          simp only [oc] at ho
          split at ho
          · cases ho; simp [AOp.quiet] at hq
          · cases ho
        | [],ho => simp [oc] at ho
        | [_],ho => simp [oc] at ho
        | _ :: _ :: _ :: _,ho => simp [oc] at ho
      | _ => simp [oc] at ho
  | binOp bop xt x y yt =>
    simp only [oc] at ho
    split at ho
    · rename_i x' y' h1 h2
      split at ho
      · cases ho; simp [AOp.quiet] at hq
      · cases ho; simp [AOp.quiet] at hq
      · split at ho <;> first | (cases ho; simp [AOp.quiet] at hq; done) | cases ho
      · split at ho
        · split at ho
          · split at ho <;> first | (cases ho; simp [AOp.quiet] at hq; done) | cases ho
          · cases ho
        · cases ho
      · rename_i e hu
        have hy:=he _ _ h2
        have hx:=he _ _ h1
        have key:∀ (ng:Bool) (p:Option Addr) (n c:Nat),ρ x = .slice p n c → ρ y = .slice none 0 0 →
            (execOp ρ { dst,op:=.binOp (match ng with | true => .neq | false => .eql) xt x y yt,type:=ty,pos,after,guard }).run P w = .ok (.value (.bool (p.isNone != ng))) w:=by
          intro ng p n c e1 e2
          have hq2:(Op.equal xt (.slice p n c) (.slice none 0 0)).run P w = .ok p.isNone w:=by
            have hd:∀ d,(Op.equalIn (d + 1) xt (.slice p n c) (.slice none 0 0)).run P w = .ok p.isNone w:=by
              intro d
              cases p <;> simp [Op.equalIn,run_underlying hu]
            exact hd 9999
          cases ng with
          | true => simp [execOp,e1,e2,eqGuard,binOp,hq2]
          | false => simp [execOp,e1,e2,eqGuard,binOp,hq2]
        have main:∀ ng:Bool,a6x P C.dm (.isnil ng x') (AX.ev t) h k → ρ y = .slice none 0 0 → ∃ p n c,ρ x = .slice p n c ∧ k (.bool (p.isNone != ng)) h:=by
          intro ng hs e2
          simp only [a6x] at hs
          split at hs
          · rename_i ex
            rw [ex] at hx
            simp only [RV] at hx
            exact ⟨none,0,0,hx,by simpa using hs⟩
          · rename_i z l ex
            rw [ex] at hx
            simp only [RV,b6h,Rep] at hx
            obtain ⟨fp,⟨cs,e3,h3⟩,_⟩:=hx
            rcases h3 with ⟨rfl,_,a,cap,rfl,_,_⟩ | ⟨b,off,cap,cur,el,fz,fps,rfl,_⟩
            · exact ⟨a,0,cap,by simpa [mkV] using e3,hs _ (fun _ => rfl)⟩
            · refine ⟨some ⟨b,off,none⟩,l.length,cap,by simpa [mkV] using e3,hs _ (fun hh => ?_)⟩
              simp at hh
          · rename_i o lo n ex
            rw [ex] at hx
            split at hs
            · rename_i z l eo
              simp only [RV,eo] at hx
              obtain ⟨a,cap,e3,h4,h5,h6,h7⟩:=hx
              refine ⟨a,n,cap,e3,hs _ (fun hh => ?_)⟩
              split at h7
              · omega
              · rcases h7.1 with h8 | h8
                · exact h8
                · rw [h8] at hh; simp at hh
            · exact hs.elim
          · exact hs.elim
        split at ho
        · cases ho
          have hy2:ρ y = .slice none 0 0:=by simpa only [AX.ev,RV] using hy
          obtain ⟨p,n,c,e1,hk2⟩:=main false hs hy2
          rw [show (_:Sem Next).run P w = _ from key false p n c e1 hy2,Oper.upon_value]
          exact hk _ h _ w σ φ hr (EvX.refl σ h w) (by simp [RV]) (Below.refl _ _) hk2
        · cases ho
          have hy2:ρ y = .slice none 0 0:=by simpa only [AX.ev,RV] using hy
          obtain ⟨p,n,c,e1,hk2⟩:=main true hs hy2
          rw [show (_:Sem Next).run P w = _ from key true p n c e1 hy2,Oper.upon_value]
          exact hk _ h _ w σ φ hr (EvX.refl σ h w) (by simp [RV]) (Below.refl _ _) hk2
        · cases ho
      · cases ho
    · cases ho
  | convert s' d x =>
    simp only [oc] at ho
    split at ho
    · cases ho; simp [AOp.quiet] at hq
    · rename_i u1 u2 u3
      split at ho
      · rename_i u4
        cases ho
        have hv:=he _ _ u3
        simp only [a6x] at hs
        split at hs
        · rename_i l1 m ks es
          obtain ⟨l,rfl,hs⟩:=hs
          have hfl:∀ a ∈ l.map (AV.int .u8),R.flat a = true:=by
            intro a ha
            obtain ⟨n,_,rfl⟩:=List.mem_map.1 ha
            rfl
          obtain ⟨g1,_,fp,a,c,g2,_,_,g3⟩:=d7e hr hv es (fun _ _ => hfl) (fun _ _ _ _ => hfl)
          rw [g2] at hv
          have hm:=e4d hv es
          have hlen:l.length ≤ maxLen:=by rw [← g1,List.length_map] at hm; exact hm
          have hrun:(convert s' d (ρ x)).run P w = .ok (.string ⟨(l.map fun n => UInt8.ofNat n.toNat).toArray⟩) w:=by
            rw [g2]
            unfold convert
            simp only [Sem.run_bind,run_underlying u1,run_underlying u2,Result.andThen_ok,run_underlying u4]
            refine e4e (by rw [← g1,List.length_map]) ?_
            rcases g3 with ⟨h0,_⟩ | ⟨g,off,cur,el,fz,h0,g4,g5⟩
            · exact .inl h0
            · by_cases hm0:m = 0
              · exact .inl hm0
              · have q1:=a0a.length g5
                have q2:=a0a.bytes _ _ _ g5
                have q3:l.length = m:=by rw [← g1,List.length_map]
                rw [q3] at q2
                simp only [List.length_map,List.length_drop,Nat.mul_one,Array.length_toList] at q1
                exact .inr ⟨g,off,cur,el,fz,h0,g4,by omega,q2⟩
          simp only [execOp,Sem.run_bind,hrun,Result.andThen_ok,Sem.run_pure,Oper.upon_value]
          exact hk _ h _ w σ φ hr (EvX.refl σ h w) (by simp [RV,hlen]) (Below.refl _ _) hs
        · exact hs.elim
      · cases ho
    · cases ho
  | _ =>
    exfalso
    simp only [oc] at ho
    first
      | (cases ho; done)
      | (simp only [Option.map_eq_some_iff] at ho; obtain ⟨_,_,rfl⟩:=ho; simp [AOp.quiet] at hq; done)
      | (repeat' split at ho
         all_goals first
           | contradiction
           | (cases ho; done)
           | (cases ho; simp [AOp.quiet] at hq; done)
           | (simp only [Option.map_eq_some_iff] at ho; obtain ⟨_,_,rfl⟩:=ho; simp [AOp.quiet] at hq; done))
def e0r (z:Value):Option AV:=match z with
 | .pointer none => some (.hdr (.pointer none) 0 [])
 | z => a5h z
theorem e0r.rv {z:Value} {a:AV} (hz:e0r z = some a):RV C σ h w a z:=by
 unfold e0r at hz
 split at hz
 ·cases hz; simp only [RV]
 ·exact a5h.rv hz
def ocY (P:Program) (o:Op):Option AOp:=match o with
 | .call c => match c.callee,c.args.toList,c.argTypes.toList with
  | .builtin .clear,[x],[t] => match P.underlying t,cx x with
   | some (.slice e),some x => match P.info? e,((P.info? e).bind (·.zero)).bind a5h with
    | some i,some z => if z.cells.length = i.size then some (.clr i.size z x) else none
    | _,_ => none
   | _,_ => none
  | .builtin .cap,[x],[t] => match P.underlying t,cx x with
   | some (.slice _),some x => some (.cap x)
   | _,_ => none
  | .builtin .append,[s,x],[t,u] => match P.underlying t,P.underlying u,cx s,cx x with
   | some (.slice e),some (.int _),some s,some x => match P.info? e,((P.info? e).bind (·.zero)).bind a5h with
    | some i,some z => if z.cells.length = i.size && 0 < i.size && i.bytes ≤ 65536 then some (.appz i.size i.bytes z s x) else none
    | _,_ => none
   | _,_,_,_ => none
  | _,_,_ => none
 | _ => none
def ocX (P:Program) (o:Op):Option AOp:=match o with
 | .select _ _ => none
 | _ => match ocY P o with
  | some a => some a
  | none => some .never
def oc2 (P:Program) (o:Op):Option AOp:=match oc P o with
 | some a => some a
 | none => ocX P o
theorem e6h {o:Op} {ao:AOp} (ho:ocY P o = some ao):ao.quiet = false:=by
 unfold ocY at ho
 split at ho
 ·split at ho
  ·split at ho
   ·split at ho
    ·split at ho
     ·cases ho; rfl
     ·cases ho
    ·cases ho
   ·cases ho
  ·split at ho
   ·cases ho; rfl
   ·cases ho
  ·split at ho
   ·split at ho
    ·split at ho
     ·cases ho; rfl
     ·cases ho
    ·cases ho
   ·cases ho
  ·cases ho
 ·cases ho
theorem e6i {o:Op} {ao:AOp} (ho:ocX P o = some ao):ao.quiet = false:=by
 unfold ocX at ho
 split at ho
 ·cases ho
 ·split at ho
  ·rename_i a e; cases ho; exact e6h e
  ·cases ho; rfl
theorem e0s (hr:o9 C σ φ h w) (hb:∀ b,w.heap.size ≤ b → C.mine b) {ty u e rt:TypeId} {kn:IntKind} {i:TypeInfo} (ht:P.underlying ty = some (.slice e)) (hu:P.underlying u = some (.int kn)) (hi:P.info? e = some i)
  {z:Value} (hz:i.zero = some z) {za:AV} (hza:a5h z = some za) (hzs:za.cells.length = i.size) (h0:0 < i.size) (hby:i.bytes ≤ 65536) {k:IntKind} {n:Int} (hn:0 < n) (hc:n ≤ 2 ^ 30) :
  ∃ v w' σ' φ',(Builtin.append_ #[ty,u] rt #[.slice none 0 0,.int k n]).run P w = .ok v w' ∧ o9 C σ' φ' (h ++ [.row i.size (List.replicate n.toNat za)]) w' ∧
   Ev σ h w σ' (h ++ [.row i.size (List.replicate n.toNat za)]) w' ∧ RV C σ' (h ++ [.row i.size (List.replicate n.toNat za)]) w' (.own h.length 0 n.toNat) v ∧ Below C.base w w':=by
 obtain ⟨m,rfl⟩:∃ m:Nat,n = (m:Int):=⟨n.toNat,by omega⟩
 rw [Int.toNat_natCast]
 have hm0:0 < m:=by omega
 have hf:=a5h.flat hza
 have hzc:z.cells.size = i.size:=by
  have hrv:=(a5h.rv (C:=C) (σ:=σ) (h:=h) (w:=w) hza).cells (by cases za <;> simp_all [R.flat,a6p])
  have:=hrv.length
  rw [hzs] at this
  simpa using this
 have h48:m * i.bytes ≤ 281474976710656:=by
  have:m * i.bytes ≤ 2 ^ 30 * 65536:=Nat.mul_le_mul (by omega) hby
  omega
 have hrun:=Lib.run_append_nil_zeros (P:=P) w ty u rt e i z k kn ht hu hi hz m hm0 h0 (by omega) h48
 obtain ⟨g,hg⟩:∃ g,g = grownCap w m 0 e:=⟨_,rfl⟩
 have hge:m ≤ g ∧ g ≤ maxLen:=by
  rw [hg]
  exact ⟨grownCap_ge w m 0 e,grownCap_le_maxLen w m 0 e (by simp only [maxLen]; omega)⟩
 rw [← hg] at hrun
 have hd:o9 C σ φ h w.drew:=(b5q.drew w).heap hr
 have hrep:a0a C.dm w.drew i.size (List.replicate m za) (Builtin.zeroCells z.cells m ++ Builtin.zeroCells z.cells (g - m)).toList []:=by
  have hl:z.cells.toList.length = i.size:=by simpa using hzc
  rw [← hl]
  refine b4e hf.2.1 (hf.2.2 _ _) _ _ (fun j hj => ?_)
  rw [hl,← hzc,Array.toList_append,b1y]
  have h1:(j + 1) * z.cells.size ≤ m * z.cells.size:=Nat.mul_le_mul_right _ (by omega)
  have h2:(madeCells z.cells (m * z.cells.size)).toList.length = m * z.cells.size:=by simp [size_madeCells]
  rw [Nat.add_mul,Nat.one_mul] at h1
  rw [List.drop_append_of_le_length (by omega),List.take_append_of_le_length (by rw [List.length_drop]; omega)]
  exact c9u _ (by omega) _ _ (by rw [Nat.add_mul,Nat.one_mul]; exact h1)
 have hsize:(Builtin.zeroCells z.cells m ++ Builtin.zeroCells z.cells (g - m)).size = g * i.size:=by
  rw [Array.size_append,b1y,b1y,size_madeCells,size_madeCells,hzc,← Nat.add_mul]
  congr 1; omega
 obtain ⟨σ',φ',k1,k2,k3⟩:=d5a hd hb e (ks:=[]) h0 hge.2 hsize hrep Taken.nil (fun _ => by simp)
 simp only [kill] at k1 k2
 refine ⟨_,_,σ',φ',hrun,k1,(b5q.drew w).ev.trans k2,?_,?_⟩
 ·simp only [RV,List.getElem?_append_right (Nat.le_refl _),Nat.sub_self,List.getElem?_cons_zero]
  exact ⟨_,g,rfl,by simp,hge.1,hge.2,by rw [k3]; exact ⟨.inr (by simp),fun _ => ⟨rfl,rfl⟩⟩⟩
 ·exact ⟨rfl,rfl,rfl,by simp,fun k hk => heap_alloc_old w.drew _ (by have:=(hb _ (Nat.le_refl _)).1; simp; omega)⟩
theorem e4f (hr:o9 C σ φ h w) (hb:∀ b,w.heap.size ≤ b → C.mine b) (o:Oper) {ao:AOp} (ho:ocY P o.op = some ao) (he:a7u C σ h w t ρ) {k:AV → List l7 → Prop} (hs:a6x P C.md ao (AX.ev t) h k)
  {a:Act} {next:Act → World → Prop} {Q:Exit → Act → World → Prop} (hk:Behind C σ h w k fun v w' => next (a.put o.dst v) w'):o.upon P a next Q ((execOp ρ o).run P w):=by
 obtain ⟨dst,op,ty,pos,after,guard⟩:=o
 simp only at ho hk
 unfold ocY at ho
 split at ho
 ·rename_i cl
  obtain ⟨callee,args,argTypes⟩:=cl
  obtain ⟨args⟩:=args
  obtain ⟨argTypes⟩:=argTypes
  simp only at ho
  split at ho
  ·rename_i x ty'
   split at ho
   ·rename_i e x' h1 h2
    split at ho
    ·rename_i i z h4 h5
     split at ho
     ·rename_i hc
      cases ho
      obtain ⟨zv,hz,hzc⟩:∃ zv,i.zero = some zv ∧ a5h zv = some z:=by
       simpa [h4,Option.bind_eq_some_iff] using h5
      have hvx:=he _ _ h2
      have fin:∀ u w',(Builtin.clear_ #[ty'] ty #[ρ x]).run P w = .ok u w' →
        (execOp ρ { dst,op:=.call { callee:=.builtin .clear,args:=[x].toArray,argTypes:=[ty'].toArray },type:=ty,pos,after,guard }).run P w = .ok (.value u) w':=by
       intro u w' hrun
       simp [execOp,resolve,invoke,builtin,hrun]
      simp only [a6x] at hs
      split at hs
      ·rename_i ex
       rw [ex] at hvx
       simp only [RV] at hvx
       have hrun:(Builtin.clear_ #[ty'] ty #[ρ x]).run P w = .ok (.tuple #[]) w:=by
        rw [hvx]
        simp [Builtin.clear_,run_underlying h1]
       rw [fin _ _ hrun,Oper.upon_value]
       exact hk _ h _ w σ φ hr (EvX.refl σ h w) (by simp [RV,RVs]) (Below.refl _ _) hs
      ·rename_i o lo n ex
       split at hs
       ·rename_i z0 l eo
        obtain ⟨rfl,zl,sl,s4⟩:=hs
        rw [ex] at hvx
        obtain ⟨w',φ',g1,g2,g3,g4⟩:=d7h (P:=P) (rt:=ty) hr h1 h4 hz hzc hc eo hvx
        rw [fin _ _ g1,Oper.upon_value]
        have hl:LeL (l.take lo ++ List.replicate n z ++ l.drop (lo + n)) (l.take lo ++ zl ++ l.drop (lo + n)):=LeL.app (LeL.app (.refl _) sl) (.refl _)
        have hh:=LeH.setr (h:=h) (o:=o) (z:=i.size) hl
        exact hk _ _ _ w' σ φ' (hh.heap g2) (g3.trans hh.ev).x (by simp [RV,RVs]) g4 s4
       ·exact hs.elim
      ·exact hs.elim
     ·cases ho
    ·cases ho
   ·cases ho
  ·rename_i x ty'
   split at ho
   ·rename_i e x' h1 h2
    cases ho
    have hvx:=he _ _ h2
    simp only [a6x] at hs
    split at hs
    ·rename_i ex
     rw [ex] at hvx
     simp only [RV] at hvx
     have hrun:(execOp ρ { dst,op:=.call { callee:=.builtin .cap,args:=[x].toArray,argTypes:=[ty'].toArray },type:=ty,pos,after,guard }).run P w = .ok (.value (.int .i64 0)) w:=by
      have:(Builtin.cap_ #[ty'] ty #[ρ x]).run P w = .ok (.int .i64 0) w:=by
       rw [hvx]
       simp [Builtin.cap_,run_underlying h1,goInt]
      simp [execOp,resolve,invoke,builtin,this]
     rw [hrun,Oper.upon_value]
     exact hk _ h _ w σ φ hr (EvX.refl σ h w) (by simp only [RV]) (Below.refl _ _) hs
    ·exact hs.elim
   ·cases ho
  ·rename_i s x ty' u
   split at ho
   ·rename_i e kn s' x' h1 h2 h3 h4
    split at ho
    ·rename_i i z h5 h6
     split at ho
     ·rename_i hc
      cases ho
      simp only [Bool.and_eq_true,decide_eq_true_eq] at hc
      obtain ⟨zv,hz,hzc⟩:∃ zv,i.zero = some zv ∧ a5h zv = some z:=by
       simpa [h5,Option.bind_eq_some_iff] using h6
      have hvs:=he _ _ h3
      have hvx:=he _ _ h4
      simp only [a6x] at hs
      split at hs
      ·rename_i kk a1 es ex
       obtain ⟨⟨s1,s2⟩,l',sl,s3⟩:=hs
       rw [es] at hvs
       rw [ex] at hvx
       simp only [RV] at hvs hvx
       obtain ⟨u1,w',σ',φ',g1,g2,g3,g4,g5⟩:=e0s (P:=P) (rt:=ty) hr hb h1 h2 h5 hz hzc hc.1.1 hc.1.2 hc.2 (k:=kk) s1 s2
       have hrun:(execOp ρ { dst,op:=.call { callee:=.builtin .append,args:=[s,x].toArray,argTypes:=[ty',u].toArray },type:=ty,pos,after,guard }).run P w = .ok (.value u1) w':=by
        rw [← hvs,← hvx] at g1
        simp [execOp,resolve,invoke,builtin,g1]
       rw [hrun,Oper.upon_value]
       have hh:=LeH.last (.row (z:=i.size) sl) (h:=h)
       exact hk _ _ u1 w' σ' φ' (hh.heap g2) (g3.trans hh.ev).x (hh.ev.rv _ _ g4) g5 s3
      ·exact hs.elim
     ·cases ho
    ·cases ho
   ·cases ho
  ·cases ho
 ·cases ho
theorem e4g (hr:o9 C σ φ h w) (hb:∀ b,w.heap.size ≤ b → C.mine b) (o:Oper) {ao:AOp} (ho:ocX P o.op = some ao) (he:a7u C σ h w t ρ) {k:AV → List l7 → Prop} (hs:a6x P C.md ao (AX.ev t) h k)
  {a:Act} {next:Act → World → Prop} {Q:Exit → Act → World → Prop} (hk:Behind C σ h w k fun v w' => next (a.put o.dst v) w'):o.upon P a next Q ((execOp ρ o).run P w):=by
 unfold ocX at ho
 split at ho
 ·cases ho
 ·split at ho
  ·rename_i a1 e; cases ho; exact e4f hr hb o e he hs hk
  ·cases ho; exact hs.elim
theorem e4h (hmd:C.mm = true → C.dm = true) (hr:o9 C σ φ h w) (hok:∀ b,C.mine b → C.ok b) (hb:∀ b,w.heap.size ≤ b → C.mine b) (o:Oper) {ao:AOp} (ho:oc2 P o.op = some ao) (he:a7u C σ h w t ρ) {k:AV → List l7 → Prop} (hs:a6x P C.md ao (AX.ev t) h k)
  {a:Act} {next:Act → World → Prop} {Q:Exit → Act → World → Prop} (hk:c4x C σ h w k fun v w' => next (a.put o.dst v) w'):o.upon P a next Q ((execOp ρ o).run P w):=by
 unfold oc2 at ho
 cases e:oc P o.op with
 | some a1 => rw [e] at ho; cases ho; exact e6g hmd hr hok hb o e he hs hk
 | none => rw [e] at ho; exact e4g hr hb o ho he hs hk.b
theorem d7q (hr:o9 C σ φ h w) (o:Oper) {ao:AOp} (ho:oc2 P o.op = some ao) (hq:ao.quiet = true) (he:a7u C σ h w t ρ) (hp:aqP ao (AX.ev t) h) (hmm:mmP C.mm ao (AX.ev t) h) :
  ∃ v,(execOp ρ o).run P w = .ok (.value v) w ∧ RV C σ h w (aqV ao (AX.ev t) h) v ∧ aqF ao (AX.ev t):=by
 unfold oc2 at ho
 cases e:oc P o.op with
 | some a1 => rw [e] at ho; cases ho; exact d4z hr o e hq he hp hmm
 | none => rw [e] at ho; rw [e6i ho] at hq; cases hq
end ops
end Go.R
end
section
set_option linter.all false
namespace Go.R
open Go Go.RowKit
structure a2z where
 dst:Option Nat
 guard:Option (Nat × Bool)
 op:AOp
def b7h (t:Nat → AV) (d:Option Nat) (v:AV):Nat → AV:=match d with
 | some d => upd t d v
 | none => t
def c4y (P:Program) (dm:Md) (o:a2z) (t:Nat → AV) (h:List l7) (k:AV → List l7 → Prop):Prop :=
 match o.guard with
 | none => a6x P dm o.op (AX.ev t) h k
 | some (s,b) => match t s with
  | .bool b' => (b' = b → a6x P dm o.op (AX.ev t) h k) ∧ (b' = (!b) → k .skip h)
  | .skip => k .skip h
  | _ => False
theorem b5s {t:Nat → AV} {s:Nat} {v:AV} (h:t s = v):upd t s v = t:=by
 funext m
 unfold upd
 split
 ·rename_i e; rw [e,h]
 ·rfl
def b9v (P:Program) (dm:Md) (o:a2z) (t:Nat → AV) (h:List l7) (k:(Nat → AV) → AV → List l7 → Prop):Prop :=
 match o.guard with
 | none => a6x P dm o.op (AX.ev t) h (k t)
 | some (s,b) => match t s with
  | .bool b' => if b' = b then a6x P dm o.op (AX.ev (upd t s (.bool b))) h (k (upd t s (.bool b))) else k (upd t s (.bool !b)) .skip h
  | .skip => k t .skip h
  | _ => False
theorem b9v.old {P:Program} {dm:Md} {o:a2z} {t:Nat → AV} {h:List l7} {k:(Nat → AV) → AV → List l7 → Prop} (ha:b9v P dm o t h k):c4y P dm o t h (k t):=by
 unfold b9v at ha
 unfold c4y
 cases hg:o.guard with
 | none => simpa only [hg] using ha
 | some sb =>
  obtain ⟨s,b⟩:=sb
  simp only [hg] at ha ⊢
  cases ht:t s with
  | bool b' =>
   simp only [ht] at ha ⊢
   by_cases he:b' = b
   ·subst he
    rw [if_pos rfl,b5s ht] at ha
    exact ⟨fun _ => ha,fun hn => by cases b' <;> simp at hn⟩
   ·rw [if_neg he] at ha
    have hb:(!b) = b':=by cases b <;> cases b' <;> simp_all
    rw [hb,b5s ht] at ha
    exact ⟨fun hn => absurd hn he,fun _ => ha⟩
  | skip => simpa only [ht] using ha
  | _ => simp only [ht] at ha
def again (m:Bool) (o:a2z) (t:Nat → AV) (h:List l7):Prop :=
 match o.dst with
 | none => False
 | some d => match o.guard with
  | none => aqQ m o.op (AX.ev t) h ∧ t d = aqV o.op (AX.ev t) h
  | some (s,b) => match t s with
   | .bool b' => (b' = b → aqQ m o.op (AX.ev t) h ∧ t d = aqV o.op (AX.ev t) h) ∧ (b' = (!b) → t d = .skip)
   | .skip => t d = .skip
   | _ => False
def d5h (m:Bool) (t:Nat → AV) (h:List l7):List a2z → Prop
 | [] => True
 | o :: os => again m o t h ∧ d5h m t h os
theorem d0k {m:Bool} {t:Nat → AV} {h:List l7}:∀ {os:List a2z},d5h m t h os → ∀ o ∈ os,again m o t h
 | [],_,o,ho => by simp at ho
 | x :: os,hp,o,ho => by
  simp only [d5h] at hp
  rcases List.mem_cons.1 ho with rfl | ho
  ·exact hp.1
  ·exact d0k hp.2 o ho
def b8o (m:Bool) (re:List a2z) (t:Nat → AV) (h h':List l7):Prop :=
 match re with
 | [] => True
 | r :: rs => h' = h ∨ d5h m t h' (r :: rs)
inductive a1j where
 | done
 | non
 | fail
 | q (o:a2z) (n:a1j)
 | l (o:a2z) (re:List a2z) (n other:a1j)
def kT (F:(Nat → AV) → List l7 → ((Nat → AV) → List l7 → Prop) → Prop) (d:Option Nat) (K:(Nat → AV) → List l7 → Prop) (t:Nat → AV) (v:AV) (h:List l7):Prop:=F (b7h t d v) h K
def kL (m:Bool) (re:List a2z) (F:(Nat → AV) → List l7 → ((Nat → AV) → List l7 → Prop) → Prop) (d:Option Nat) (K:(Nat → AV) → List l7 → Prop) (h0:List l7) (t:Nat → AV) (v:AV) (h:List l7):Prop :=
 b8o m re (b7h t d v) h0 h ∧ F (b7h t d v) h K
def a0l (P:Program) (dm:Md):a1j → (Nat → AV) → List l7 → ((Nat → AV) → List l7 → Prop) → Prop
 | .done,t,h,K => K t h
 | .non,_,_,_ => True
 | .fail,_,_,_ => False
 | .q o n,t,h,K => b9v P dm o t h (kT (a0l P dm n) o.dst K)
 | .l o re n other,t,h,K => b9v P dm o t h (kL dm.m re (a0l P dm n) o.dst K h) ∧ a0l P dm other t h K
def f2b (N:Nat):Option Nat → Bool
 | some d => decide (d < N)
 | none => true
def ocO (P:Program) (ops:Array Oper) (N:Nat) (o:Oper):Option a2z :=
 match oc2 P o.op with
 | none => none
 | some ao =>
  if f2b N o.dst = true then
   match o.guard with
   | none => some ⟨o.dst,none,ao⟩
   | some (j,b) => match (ops[j]?).bind (·.dst) with
    | some s => some ⟨o.dst,some (s,b),ao⟩
    | none => none
  else none
def ocs (P:Program) (ops:Array Oper) (N:Nat):List Oper → Option (List a2z)
 | [] => some []
 | o :: l => match ocO P ops N o,ocs P ops N l with
  | some a,some as => some (a :: as)
  | _,_ => none
def lin:List a2z → a1j
 | [] => .done
 | o :: l => .q o (lin l)
structure St (C:Ctx) (w0:World) (σ0:Sg) (h0:List l7) (N:Nat) (t:Nat → AV) (h:List l7) (a:Act) (w:World):Prop where
 rel:∃ F σ φ,FrX C w F ∧ o9 (C.frz F) σ φ h w ∧ EvX C σ0 h0 w0 σ h w ∧ ∀ n,RV (C.frz F) σ h w (t n) (a.tmps.getD n Go.undef)
 size:a.tmps.size = N
 defers:a.defers = []
 below:Below C.base w0 w
theorem Act.put_size (a:Act) (d:Option Nat) (v:Value):(a.put d v).tmps.size = a.tmps.size:=by cases d <;> simp [Act.put]
theorem Act.put_defs (a:Act) (d:Option Nat) (v:Value):(a.put d v).defers = a.defers:=by cases d <;> rfl
theorem Act.put_getD (a:Act) (d:Option Nat) (v:Value) (n:Nat) (hd:∀ x,d = some x → x < a.tmps.size):(a.put d v).tmps.getD n Go.undef = if d = some n then v else a.tmps.getD n Go.undef:=by
 cases d with
 | none => simp [Act.put]
 | some x =>
  have:=hd x rfl
  simp only [Act.put,Option.some.injEq]
  by_cases he:x = n
  ·subst he; simp [this]
  ·simp [he,Array.getElem?_setIfInBounds_ne he]
theorem b6w (t:Nat → AV) (d:Option Nat) (v:AV) (n:Nat):b7h t d v n = if d = some n then v else t n:=by
 cases d with
 | none => simp [b7h]
 | some x =>
  simp only [b7h,upd,Option.some.injEq]
  by_cases he:n = x
  ·simp [he]
  ·simp [he,Ne.symm he]
section
variable {P:Program} {C:Ctx} {w0:World} {σ0:Sg} {h0:List l7} {N:Nat} {t:Nat → AV} {h:List l7} {a:Act} {w:World}
theorem b4g {ops:Array Oper} {o:Oper} {r:a2z} (hc:ocO P ops N o = some r):oc2 P o.op = some r.op ∧ r.dst = o.dst ∧ (∀ x,o.dst = some x → x < N) ∧
  ((o.guard = none ∧ r.guard = none) ∨ ∃ j b s,o.guard = some (j,b) ∧ (ops[j]?).bind (·.dst) = some s ∧ r.guard = some (s,b)):=by
 unfold ocO at hc
 split at hc
 ·cases hc
 ·rename_i ao ho
  split at hc
  ·rename_i hd
   have hdd:∀ x,o.dst = some x → x < N:=by
    intro x hx
    rw [hx] at hd
    simpa [f2b] using hd
   split at hc
   ·rename_i hg
    cases hc
    exact ⟨ho,rfl,hdd,.inl ⟨hg,rfl⟩⟩
   ·rename_i j b hg
    split at hc
    ·rename_i s hs
     cases hc
     exact ⟨ho,rfl,hdd,.inr ⟨j,b,s,hg,hs,rfl⟩⟩
    ·cases hc
  ·cases hc
theorem St.env (hs:St C w0 σ0 h0 N t h a w):∃ F σ φ,FrX C w F ∧ o9 (C.frz F) σ φ h w ∧ EvX C σ0 h0 w0 σ h w ∧ (∀ n,RV (C.frz F) σ h w (t n) (a.tmps.getD n Go.undef)) ∧ a7u (C.frz F) σ h w t a.eval:=by
 obtain ⟨F,σ,φ,h0,h1,h2,h3⟩:=hs.rel
 exact ⟨F,σ,φ,h0,h1,h2,h3,a7u.of_act h3⟩
theorem c7p {σ:Sg} (ht:∀ n,RV C σ h w (t n) (a.tmps.getD n Go.undef)) (hsz:a.tmps.size = N) {ops:Array Oper} {o:Oper} {r:a2z} (hc:ocO P ops N o = some r) (hops:∀ (j:Nat) x,(ops[j]?).bind (·.dst) = some x → x < N) :
  (o.guard = none → Region.wanted o (yielded ops a.tmps) = true) ∧
  ∀ s b,r.guard = some (s,b) → (∀ b',t s = .bool b' → Region.wanted o (yielded ops a.tmps) = (b' == b)) ∧ (t s = .skip → Region.wanted o (yielded ops a.tmps) = false):=by
 obtain ⟨_,_,_,hg⟩:=b4g hc
 rcases hg with ⟨g1,g2⟩ | ⟨j,b,s,g1,g2,g3⟩
 ·refine ⟨fun _ => by simp [Region.wanted,g1],?_⟩
  intro s b hb
  rw [g2] at hb
  cases hb
 ·refine ⟨fun hn => (by rw [g1] at hn; cases hn),?_⟩
  intro s' b' hb
  rw [g3] at hb
  cases hb
  have hlt:s < a.tmps.size:=by rw [hsz]; exact hops j s g2
  have hv:=ht s
  have hget:a.tmps[s]? = some (a.tmps.getD s Go.undef):=by simp [hlt]
  constructor
  ·intro b' hb'
   rw [hb'] at hv
   simp only [RV] at hv
   have hy:yielded ops a.tmps j = some b':=by
    simp only [yielded,g2,Option.bind_some,hget,hv]
   simp only [Region.wanted,g1,hy]
   cases b' <;> cases b <;> rfl
  ·intro hb'
   rw [hb'] at hv
   simp only [RV] at hv
   have hy:yielded ops a.tmps j = none:=by
    simp only [yielded,g2,Option.bind_some,hget,hv]
    rfl
   simp only [Region.wanted,g1,hy]
   cases b <;> rfl
theorem St.next {F F':Nat → Prop} {σ σ':Sg} {φ':Nat → List Nat} {h':List l7} {w':World} {d:Option Nat} {v:Value} {r:AV} (hs:St C w0 σ0 h0 N t h a w) (hd:∀ x,d = some x → x < N) (hF:FrX C w F) (hev0:EvX C σ0 h0 w0 σ h w) (ht:∀ n,RV (C.frz F) σ h w (t n) (a.tmps.getD n Go.undef))
  (hF':FrX (C.frz F) w' F') (hr:o9 (C.frz F') σ' φ' h' w') (hev:EvX (C.frz F) σ h w σ' h' w') (hv:RV (C.frz F') σ' h' w' r v) (hb:Below C.base w w'):St C w0 σ0 h0 N (b7h t d r) h' (a.put d v) w':=by
 refine ⟨⟨F',σ',φ',hF.trans hF' hev.size,hr,hev0.trans (hF.ev hev),?_⟩,by rw [Act.put_size]; exact hs.size,by rw [Act.put_defs]; exact hs.defers,hs.below.trans hb⟩
 intro n
 rw [b6w,Act.put_getD a d v n (fun x hx => by rw [hs.size]; exact hd x hx)]
 split
 ·exact hv
 ·exact RV.ctx (C:=C.frz F) (C':=C.frz F') (fun _ hi => hF'.imm hi) _ _ (hev.rv _ _ (ht n))
theorem f0c (hs:St C w0 σ0 h0 N t h a w) (hb:∀ b,w0.heap.size ≤ b → C.mine b):∀ b,w.heap.size ≤ b → C.mine b:=fun b h => hb b (Nat.le_trans hs.below.size h)
theorem c7q (hmd:C.mm = true → C.dm = true) (hs:St C w0 σ0 h0 N t h a w) (hok:∀ b,C.mine b → C.ok b) (hb:∀ b,w0.heap.size ≤ b → C.mine b) {ops:Array Oper} (hops:∀ (j:Nat) x,(ops[j]?).bind (·.dst) = some x → x < N) {o:Oper} {r:a2z} (hc:ocO P ops N o = some r) {k:AV → List l7 → Prop} (hk:c4y P C.md r t h k)
  {b:Act} (hex:execOp b.eval o = execOp a.eval o) (hwt:Region.wanted o (yielded ops b.tmps) = Region.wanted o (yielded ops a.tmps))
  {Q:Exit → Act → World → Prop} {next:Act → World → Prop} (hn:∀ v r' h' w',St C w0 σ0 h0 N (b7h t r.dst r') h' (a.put o.dst v) w' → k r' h' → next (b.put o.dst v) w') :
  if Region.wanted o (yielded ops b.tmps) then o.wp P b w next Q ∨ (o.asks P b w ∧ LetsOut Q) else next (b.put o.dst Go.undef) w:=by
 obtain ⟨c1,c2,c3,c4⟩:=b4g hc
 obtain ⟨F,σ,φ,hF,h1,h2,h3,h4⟩:=hs.env
 obtain ⟨w1,w2⟩:=c7p h3 hs.size hc hops
 rw [hwt]
 have hgo:a6x P C.md r.op (AX.ev t) h k → o.wp P b w next Q:=by
  intro ha
  unfold Oper.wp
  rw [hex]
  refine e4h (C:=C.frz F) hmd h1 (hF.hok hok) (hF.hb (f0c hs hb)) o c1 h4 ha ?_
  intro F' r' h' v w' σ' φ' g0 g1 g2 g3 g4 g5
  refine hn v r' h' w' ?_ g5
  rw [c2]
  exact hs.next c3 hF h2 h3 g0 g1 g2 g3 g4
 have hskip:k .skip h → next (b.put o.dst Go.undef) w:=by
  intro ha
  refine hn _ .skip h w ?_ ha
  rw [c2]
  exact hs.next c3 hF h2 h3 (FrX.refl (C.frz F) w) h1 (EvX.refl _ _ _) (by simp only [RV]) (Below.refl _ _)
 unfold c4y at hk
 split at hk
 ·rename_i hg
  have:o.guard = none:=by
   rcases c4 with ⟨g1,_⟩ | ⟨j,b,s,g1,g2,g3⟩
   ·exact g1
   ·rw [hg] at g3; cases g3
  rw [if_pos (w1 this)]
  exact .inl (hgo hk)
 ·rename_i s b hg
  split at hk
  ·rename_i b' hb'
   rw [(w2 s b hg).1 b' hb']
   by_cases he:b' = b
   ·subst he
    simp only [beq_self_eq_true,if_true]
    exact .inl (hgo (hk.1 rfl))
   ·have:(b' == b) = false:=by simpa using he
    rw [this]
    simp only [Bool.false_eq_true,if_false]
    exact hskip (hk.2 (by cases b' <;> cases b <;> simp_all))
  ·rename_i hb'
   rw [(w2 s b hg).2 hb']
   simp only [Bool.false_eq_true,if_false]
   exact hskip hk
  ·exact hk.elim
theorem e0t (hmd:C.mm = true → C.dm = true) (hs:St C w0 σ0 h0 N t h a w) (hok:∀ b,C.mine b → C.ok b) (hb:∀ b,w0.heap.size ≤ b → C.mine b) {ops:Array Oper} (hops:∀ (j:Nat) x,(ops[j]?).bind (·.dst) = some x → x < N) {o:Oper} {r:a2z} (hc:ocO P ops N o = some r) {k:AV → List l7 → Prop} (hk:c4y P C.md r t h k)
  {Q:Exit → Act → World → Prop} {next:Act → World → Prop} (hn:∀ v r' h' w',St C w0 σ0 h0 N (b7h t r.dst r') h' (a.put o.dst v) w' → k r' h' → next (a.put o.dst v) w') :
  if Region.wanted o (yielded ops a.tmps) then o.wp P a w next Q ∨ (o.asks P a w ∧ LetsOut Q) else next (a.put o.dst Go.undef) w :=
 c7q hmd hs hok hb hops hc hk rfl rfl hn
theorem d3k (hmd:C.mm = true → C.dm = true) (hok:∀ b,C.mine b → C.ok b) (hb:∀ b,w0.heap.size ≤ b → C.mine b) {ops:Array Oper} (hops:∀ (j:Nat) x,(ops[j]?).bind (·.dst) = some x → x < N) {Q:Exit → Act → World → Prop} {K:(Nat → AV) → List l7 → Prop}
  (hQ:∀ t h a w,St C w0 σ0 h0 N t h a w → K t h → Q .normal a w) :
  ∀ (l:List Oper) (rs:List a2z) (t:Nat → AV) (h:List l7) (a:Act) (w:World),ocs P ops N l = some rs → St C w0 σ0 h0 N t h a w → a0l P C.md (lin rs) t h K → wpList P ops Q l a w
 | [],rs,t,h,a,w,hc,hs,hk => by
  simp only [ocs] at hc
  cases hc
  exact hQ t h a w hs hk
 | o :: l,rs,t,h,a,w,hc,hs,hk => by
  simp only [ocs] at hc
  cases h1:ocO P ops N o with
  | none => simp [h1] at hc
  | some r =>
   cases h2:ocs P ops N l with
   | none => simp [h1,h2] at hc
   | some rs' =>
    simp only [h1,h2,Option.some.injEq] at hc
    subst hc
    simp only [lin,a0l] at hk
    unfold wpList
    refine e0t hmd hs hok hb hops h1 hk.old ?_
    intro v r' h' w' hs' hk'
    exact d3k hmd hok hb hops hQ l rs' _ h' _ w' h2 hs' hk'
end
end Go.R
end
section
set_option linter.all false
namespace Go.R
open Go Go.RowKit
def AX.o (x:Option AX):List AX:=match x with
 | some x => [x]
 | none => []
def AOp.uses:AOp → List AX
 | .mov x => [x]
 | .pick c a b => [c,a,b]
 | .load _ _ a => [a]
 | .faddr _ a => [a]
 | .field _ _ _ x => [x]
 | .iaddr _ x i => [x,i]
 | .idxs x i => [x,i]
 | .slice _ x lo hi => x :: (AX.o lo ++ AX.o hi)
 | .sliceS x lo hi => x :: (AX.o lo ++ AX.o hi)
 | .bin _ x y => [x,y]
 | .eqB _ x y => [x,y]
 | .eqs _ _ x y => [x,y]
 | .not x => [x]
 | .neg x => [x]
 | .len x => [x]
 | .lenS x => [x]
 | .mnmx _ x y => [x,y]
 | .extract _ x => [x]
 | .mkfn _ caps => caps
 | .nilck x => [x]
 | .convI _ x => [x]
 | .build _ parts => parts.map (·.2.2)
 | .box _ x => [x]
 | .mkslice _ _ _ n c => [n,c]
 | .bslice _ xs => xs
 | .append _ _ s x => [s,x]
 | .store _ a x => [a,x]
 | .call _ args => args
 | .calv x args => x :: args
 | .convBS x => [x]
 | .isnil _ x => [x]
 | .clr _ _ x => [x]
 | .sl3 x a b c => [x,a,b,c]
 | .cap x => [x]
 | .appz _ _ _ s n => [s,n]
 | .mkmap => []
 | .mapset m k x => [m,k,x]
 | .mapget _ m k => [m,k]
 | .isnilp _ x => [x]
 | .never => []
theorem d0l {e e':AX → AV}:∀ (parts:List (Nat × Nat × AX)) (zero:List AV),(∀ p ∈ parts,e p.2.2 = e' p.2.2) → c2k zero e parts = c2k zero e' parts
 | [],_,_ => rfl
 | (off,sz,x) :: rest,zero,h => by
  have h1:=h _ (List.mem_cons_self ..)
  simp only at h1
  simp only [c2k,h1]
  exact d0l rest _ (fun p hp => h p (List.mem_cons_of_mem _ hp))
theorem c7r {h:List l7} {n:Nat} {e e':AX → AV}:∀ (parts:List (Nat × Nat × AX)),(∀ p ∈ parts,e p.2.2 = e' p.2.2) → c9m h n e parts = c9m h n e' parts
 | [],_ => rfl
 | (off,sz,x) :: rest,hp => by
  have h1:=hp _ (List.mem_cons_self ..)
  simp only at h1
  simp only [c9m,h1,c7r rest (fun p hq => hp p (List.mem_cons_of_mem _ hq))]
theorem e6j {o:AOp} {h:List l7} {e e':AX → AV} (he:∀ x ∈ o.uses,e x = e' x):aqP o e h = aqP o e' h ∧ aqV o e h = aqV o e' h:=by
 cases o
 case mkfn f caps =>
  refine ⟨rfl,?_⟩
  simp only [aqV]
  congr 1
  exact List.map_congr_left (fun x hx => he x hx)
 case build zero parts =>
  have:∀ p ∈ parts,e p.2.2 = e' p.2.2:=fun p hp => he _ (List.mem_map.2 ⟨p,hp,rfl⟩)
  exact ⟨by simp only [aqP,c7r parts this],by simp only [aqV,d0l parts zero this]⟩
 case slice sz x lo hi =>
  have h1:=he x (by simp [AOp.uses])
  have h2:lo.map e = lo.map e':=by
   cases lo with
   | none => rfl
   | some y => simp [he y (by simp [AOp.uses,AX.o])]
  have h3:hi.map e = hi.map e':=by
   cases hi with
   | none => rfl
   | some y => simp [he y (by simp [AOp.uses,AX.o])]
  simp only [aqP,aqV,h1,h2,h3,and_self]
 case sliceS x lo hi =>
  have h1:=he x (by simp [AOp.uses])
  have h2:lo.map e = lo.map e':=by
   cases lo with
   | none => rfl
   | some y => simp [he y (by simp [AOp.uses,AX.o])]
  have h3:hi.map e = hi.map e':=by
   cases hi with
   | none => rfl
   | some y => simp [he y (by simp [AOp.uses,AX.o])]
  simp only [aqP,aqV,h1,h2,h3,and_self]
 all_goals (simp only [AOp.uses,List.mem_cons,List.not_mem_nil,or_false,forall_eq_or_imp,forall_eq] at he; first | simp only [aqP,aqV,he,and_self] | exact ⟨rfl,rfl⟩)
theorem e6k {o:AOp} {h:List l7} {e e':AX → AV} (he:∀ x ∈ o.uses,e x = e' x):mmT o e h = mmT o e' h:=by
 cases o
 case load sz ag a => simp only [mmT,he a (by simp [AOp.uses])]
 all_goals rfl
theorem d3l {m:Bool} {o:AOp} {h:List l7} {e e':AX → AV} (he:∀ x ∈ o.uses,e x = e' x):aqQ m o e h = aqQ m o e' h ∧ aqV o e h = aqV o e' h:=by
 obtain ⟨h1,h2⟩:=e6j (h:=h) he
 refine ⟨?_,h2⟩
 cases m
 ·exact h1
 ·simp only [aqQ,h1,e6k he]
def AOp.deepQ:AOp → Bool
 | .mov _ => false
 | .pick .. => false
 | .field .. => false
 | .idxs .. => false
 | .sliceS .. => false
 | .bin .. => false
 | .eqB .. => false
 | .eqs .. => false
 | .not _ => false
 | .neg _ => false
 | .lenS _ => false
 | .mnmx .. => false
 | .extract .. => false
 | .mkfn .. => false
 | .convI .. => false
 | _ => true
theorem f0d {o:AOp} (hd:o.deepQ = false) {h h':List l7} {e:AX → AV}:aqP o e h = aqP o e h' ∧ aqV o e h = aqV o e h':=by
 cases o <;> first | exact ⟨rfl,rfl⟩ | simp [AOp.deepQ] at hd
theorem e6l {m:Bool} {o:AOp} (hd:o.deepQ = false) {h h':List l7} {e:AX → AV}:aqQ m o e h = aqQ m o e h' ∧ aqV o e h = aqV o e h':=by
 obtain ⟨h1,h2⟩:=f0d hd (h:=h) (h':=h') (e:=e)
 refine ⟨?_,h2⟩
 cases m
 ·exact h1
 ·have h3:mmT o e h = mmT o e h':=by cases o <;> first | rfl | simp [AOp.deepQ] at hd
  simp only [aqQ,h1,h3]
def b9w (r:a2z):List Nat :=
 (r.op.uses.filterMap fun | .t n => some n | .c _ => none) ++ (match r.guard with | some (s,_) => [s] | none => [])
theorem d7r {r:a2z} {t t':Nat → AV} (hs:∀ s ∈ b9w r,t s = t' s):∀ x ∈ r.op.uses,AX.ev t x = AX.ev t' x:=by
 intro x hx
 cases x with
 | c v => rfl
 | t n =>
  simp only [AX.ev]
  refine hs n ?_
  unfold b9w
  exact List.mem_append_left _ (List.mem_filterMap.2 ⟨_,hx,rfl⟩)
theorem c7s {m:Bool} {r:a2z} {t t':Nat → AV} {h:List l7} (hs:∀ s ∈ b9w r,t s = t' s) (hd:∀ d,r.dst = some d → t d = t' d) (ha:again m r t h):again m r t' h:=by
 have hq:=d3l (m:=m) (h:=h) (d7r hs)
 unfold again at ha ⊢
 cases hdst:r.dst with
 | none => rw [hdst] at ha; exact ha
 | some d =>
  rw [hdst] at ha
  have hdd:=hd d hdst
  cases hg:r.guard with
  | none =>
   rw [hg] at ha
   simp only at ha ⊢
   rw [← hq.1,← hq.2,← hdd]
   exact ha
  | some sb =>
   obtain ⟨s,b⟩:=sb
   rw [hg] at ha
   have hss:t s = t' s:=hs s (by simp [b9w,hg])
   simp only at ha ⊢
   rw [← hq.1,← hq.2,← hdd,← hss]
   exact ha
theorem e0u {m:Bool} {r:a2z} {t:Nat → AV} {h h':List l7} (hd:r.op.deepQ = false) (ha:again m r t h):again m r t h':=by
 have hq:=e6l (m:=m) hd (h:=h) (h':=h') (e:=AX.ev t)
 unfold again at ha ⊢
 rw [← hq.1,← hq.2]
 exact ha
def a6n (ops:Array Oper) (i:Nat):List Nat:=match ops[i]? with
 | some o => (o.after.toList.filter (Region.binds .any)).map (·.on)
 | none => []
def c2n (ops:Array Oper) (i:Nat):Option Nat:=(ops[i]?).bind (·.dst)
def slotsOf (ops:Array Oper) (rs:List a2z) (i:Nat):List Nat :=
 (match ops[i]? with | some o => o.looksAt ops | none => []) ++ (match rs[i]? with | some r => b9w r | none => [])
def d7s (ops:Array Oper) (rs:List a2z) (i:Nat):Bool:=match c2n ops i with
 | some s => (List.range ops.size).all fun j => !(slotsOf ops rs j).contains s || (a6n ops j).contains i
 | none => false
def f3e (ops:Array Oper) (i:Nat):Nat → List Nat → List Nat
 | 0,S => S
 | f + 1,S => match ((a6n ops i ++ S.flatMap (a6n ops)).filter fun x => !S.contains x).eraseDups with
  | [] => S
  | new => f3e ops i f (new ++ S)
def just (ops:Array Oper) (i:Nat):List Nat → Bool
 | [] => true
 | a :: S => just ops i S && ((a6n ops i).contains a || S.any fun b => (a6n ops b).contains a)
def d0m (ops:Array Oper) (i:Nat):List Nat:=match just ops i (f3e ops i ops.size []) with
 | true => f3e ops i ops.size []
 | false => []
def chk (ops:Array Oper) (rs:List a2z):Bool:=(List.range ops.size).all fun i => match c2n ops i with
 | none => true
 | some s => !(slotsOf ops rs i).contains s && (List.range ops.size).all fun j => j == i || (c2n ops j != some s && (!(slotsOf ops rs j).contains s || (a6n ops j).contains i || (d0m ops i).contains j))
def isQ (ops:Array Oper) (rs:List a2z) (i:Nat):Bool:=match rs[i]? with
 | some r => r.op.quiet && d7s ops rs i
 | none => false
def rdy (ops:Array Oper) (D:List Nat):List Nat:=(List.range ops.size).filter fun i => !D.contains i && (a6n ops i).all fun d => D.contains d
def e6m (ops:Array Oper) (rs:List a2z) (D:List Nat) (k:Nat):List a2z :=
 (D.filter fun j => isQ ops rs j && !(d0m ops k).contains j).filterMap fun j => match rs[j]? with
  | some r => match r.op.deepQ with
   | true => some r
   | false => none
  | none => none
def alts (rs:List a2z) (re:Nat → List a2z) (mk:Nat → a1j):List Nat → a1j
 | [] => .non
 | k :: ks => match rs[k]? with
  | some r => .l r (re k) (mk k) (alts rs re mk ks)
  | none => .fail
def mkT (ops:Array Oper) (rs:List a2z):Nat → List Nat → a1j
 | 0,_ => .fail
 | f + 1,D => match (rdy ops D).find? (isQ ops rs) with
  | some i => match rs[i]? with
   | some r => .q r (mkT ops rs f (i :: D))
   | none => .fail
  | none => match rdy ops D with
   | [] => match (List.range ops.size).all fun i => D.contains i with
    | true => .done
    | false => .fail
   | k :: ks => alts rs (e6m ops rs D) (fun k => mkT ops rs f (k :: D)) (k :: ks)
def b8p (ops:Array Oper):List Nat → Prop
 | [] => True
 | i :: D => b8p ops D ∧ i ∉ D ∧ i < ops.size ∧ ∀ d ∈ a6n ops i,d ∈ D
theorem c8y {ops:Array Oper} {D:List Nat} {i:Nat}:i ∈ rdy ops D ↔ i < ops.size ∧ i ∉ D ∧ ∀ d ∈ a6n ops i,d ∈ D:=by
 simp [rdy,List.mem_filter]
def LT (L:Array Bool) (i:Nat):Prop:=L.getD i false = true
theorem LT.set {L:Array Bool} {i j:Nat} (h:LT L j):LT (L.setIfInBounds i true) j:=getD_set_true h
theorem LT.of_set {L:Array Bool} {i j:Nat} (h:LT (L.setIfInBounds i true) j):j = i ∨ LT L j:=by
 by_cases he:i = j
 ·exact .inl he.symm
 ·right; unfold LT at *; rwa [getD_set_ne false he] at h
theorem LT.self {L:Array Bool} {i:Nat} (h:i < L.size):LT (L.setIfInBounds i true) i:=by
 unfold LT; simp [h]
theorem d7t {ops:Array Oper} {i:Nat} {o:Oper} (ho:ops[i]? = some o) {d:Nat}:d ∈ a6n ops i ↔ ∃ e ∈ o.after,Region.binds .any e = true ∧ e.on = d:=by
 simp only [a6n,ho,List.mem_map,List.mem_filter,Array.mem_toList_iff]
 constructor
 ·rintro ⟨e,⟨h1,h2⟩,h3⟩; exact ⟨e,h1,h2,h3⟩
 ·rintro ⟨e,h1,h2,h3⟩; exact ⟨e,⟨h1,h2⟩,h3⟩
theorem c1q {ops:Array Oper} {L:Array Bool} (hL:L.size = ops.size) {i:Nat}:i ∈ Region.ready .any ops L ↔ i < ops.size ∧ ¬ LT L i ∧ ∀ d ∈ a6n ops i,LT L d:=by
 rw [mem_ready]
 constructor
 ·rintro ⟨h0,o,ho,hall⟩
  have hlt:=(Array.getElem?_eq_some_iff.1 ho).1
  refine ⟨hlt,?_,?_⟩
  ·intro h; unfold LT at h
   have:i < L.size:=by omega
   simp [this] at h h0
   rw [h] at h0; cases h0
  ·intro d hd
   obtain ⟨e,h1,h2,rfl⟩:=(d7t ho).1 hd
   exact hall e h1 h2
 ·rintro ⟨hlt,hn,hall⟩
  refine ⟨?_,ops[i],by simp [hlt],?_⟩
  ·have:i < L.size:=by omega
   unfold LT at hn
   simp [this] at hn ⊢
   exact hn
  ·intro e he hb
   exact hall e.on ((d7t (by simp [hlt])).2 ⟨e,he,hb,rfl⟩)
theorem e2t {ops:Array Oper} {L:Array Bool} {i:Nat} (hclo:∀ j,LT L j → ∀ d ∈ a6n ops j,LT L d) (hi:∀ d ∈ a6n ops i,LT L d):∀ S,just ops i S = true → ∀ a ∈ S,LT L a
 | [],_,a,ha => by simp at ha
 | b :: S,hj,a,ha => by
  simp only [just,Bool.and_eq_true,Bool.or_eq_true,List.contains_iff_mem,List.any_eq_true] at hj
  have ih:=e2t hclo hi S hj.1
  rcases List.mem_cons.1 ha with rfl | ha
  ·rcases hj.2 with h | ⟨c,hc,h⟩
   ·exact hi a h
   ·exact hclo c (ih c hc) a h
  ·exact ih a ha
theorem f3f {ops:Array Oper} {L:Array Bool} {i:Nat} (hclo:∀ j,LT L j → ∀ d ∈ a6n ops j,LT L d) (hi:∀ d ∈ a6n ops i,LT L d):∀ a ∈ d0m ops i,LT L a:=by
 intro a ha
 unfold d0m at ha
 split at ha
 ·rename_i hj; exact e2t hclo hi _ hj a ha
 ·simp at ha
end Go.R
end
section
set_option linter.all false
namespace Go.R
open Go Go.RowKit
theorem d5i {P:Program} {ops:Array Oper} {N:Nat}:∀ {l:List Oper} {rs:List a2z},ocs P ops N l = some rs → rs.length = l.length ∧ ∀ (i:Nat) o,l[i]? = some o → ∃ r,rs[i]? = some r ∧ ocO P ops N o = some r
 | [],rs,h => by simp only [ocs] at h; cases h; simp
 | o :: l,rs,h => by
  simp only [ocs] at h
  cases h1:ocO P ops N o with
  | none => simp [h1] at h
  | some r =>
   cases h2:ocs P ops N l with
   | none => simp [h1,h2] at h
   | some rs' =>
    simp only [h1,h2,Option.some.injEq] at h
    subst h
    obtain ⟨g1,g2⟩:=d5i h2
    refine ⟨by simp [g1],?_⟩
    intro i o' ho
    cases i with
    | zero => simp at ho; subst ho; exact ⟨r,rfl,h1⟩
    | succ i => simpa using g2 i o' (by simpa using ho)
section
variable {P:Program} {C:Ctx} {w0:World} {σ0:Sg} {h0:List l7} {N:Nat} {ops:Array Oper} {rs:List a2z}
structure Inv (C:Ctx) (w0:World) (σ0:Sg) (h0:List l7) (N:Nat) (ops:Array Oper) (rs:List a2z) (L:Array Bool) (D:List Nat) (t:Nat → AV) (h:List l7) (b a:Act) (w:World):Prop where
 size:L.size = ops.size
 sub:∀ i,LT L i → i ∈ D
 pend:∀ i ∈ D,¬ LT L i → isQ ops rs i = true ∧ ∃ r,rs[i]? = some r ∧ again C.mm r t h
 clo:∀ i,LT L i → ∀ d ∈ a6n ops i,LT L d
 top:b8p ops D
 st:St C w0 σ0 h0 N t h b w
 sz:a.tmps.size = N
 df:a.defers = []
 agree:∀ s,(∀ j ∈ D,¬ LT L j → c2n ops j ≠ some s) → a.tmps.getD s Go.undef = b.tmps.getD s Go.undef
theorem b8p.lt:∀ {D:List Nat},b8p ops D → ∀ i ∈ D,i < ops.size
 | [],_,i,hi => by simp at hi
 | j :: D,h,i,hi => by
  rcases List.mem_cons.1 hi with rfl | hi
  ·exact h.2.2.1
  ·exact b8p.lt h.1 i hi
theorem b8p.deps:∀ {D:List Nat},b8p ops D → ∀ i ∈ D,∀ d ∈ a6n ops i,d ∈ D
 | [],_,i,hi => by simp at hi
 | j :: D,h,i,hi => by
  intro d hd
  rcases List.mem_cons.1 hi with rfl | hi
  ·exact List.mem_cons_of_mem _ (h.2.2.2 d hd)
  ·exact List.mem_cons_of_mem _ (b8p.deps h.1 i hi d hd)
theorem b8p.first {L:Array Bool}:∀ {D:List Nat},b8p ops D → (∃ i ∈ D,¬ LT L i) → ∃ i ∈ D,¬ LT L i ∧ ∀ d ∈ a6n ops i,LT L d
 | [],_,⟨i,hi,_⟩ => by simp at hi
 | j :: D,h,⟨i,hi,hn⟩ => by
  by_cases hex:∃ i ∈ D,¬ LT L i
  ·obtain ⟨i',h1,h2,h3⟩:=b8p.first h.1 hex
   exact ⟨i',List.mem_cons_of_mem _ h1,h2,h3⟩
  ·have hall:∀ d ∈ D,LT L d:=fun d hd => Classical.byContradiction fun hc => hex ⟨d,hd,hc⟩
   rcases List.mem_cons.1 hi with rfl | hi
   ·exact ⟨i,List.mem_cons_self ..,hn,fun d hd => hall d (h.2.2.2 d hd)⟩
   ·exact absurd (hall i hi) hn
theorem d0n (hc:chk ops rs = true) {i:Nat} {s:Nat} (hi:i < ops.size) (hd:c2n ops i = some s) :
  s ∉ slotsOf ops rs i ∧ ∀ j,j < ops.size → j ≠ i → c2n ops j ≠ some s ∧ (s ∈ slotsOf ops rs j → i ∈ a6n ops j ∨ j ∈ d0m ops i):=by
 unfold chk at hc
 rw [List.all_eq_true] at hc
 have h1:=hc i (List.mem_range.2 hi)
 rw [hd] at h1
 simp only [Bool.and_eq_true,Bool.not_eq_true',List.all_eq_true,List.mem_range,Bool.or_eq_true,beq_iff_eq,bne_iff_ne,ne_eq] at h1
 refine ⟨fun hs => ?_,fun j hj hne => ?_⟩
 ·have:=h1.1
  rw [List.contains_iff_mem.2 hs] at this
  cases this
 ·rcases h1.2 j hj with h | ⟨h2,h3⟩
  ·exact absurd h hne
  ·refine ⟨h2,fun hs => ?_⟩
   rcases h3 with (h3 | h3) | h3
   ·rw [List.contains_iff_mem.2 hs] at h3; cases h3
   ·exact .inl (List.contains_iff_mem.1 h3)
   ·exact .inr (List.contains_iff_mem.1 h3)
theorem free_spec {i s:Nat} (hf:d7s ops rs i = true) (hd:c2n ops i = some s) {j:Nat} (hj:j < ops.size) (hs:s ∈ slotsOf ops rs j):i ∈ a6n ops j:=by
 unfold d7s at hf
 rw [hd] at hf
 simp only [List.all_eq_true,List.mem_range,Bool.or_eq_true,Bool.not_eq_true'] at hf
 rcases hf j hj with h | h
 ·rw [List.contains_iff_mem.2 hs] at h; cases h
 ·exact List.contains_iff_mem.1 h
theorem d0o {i:Nat} (h:isQ ops rs i = true):∃ r,rs[i]? = some r ∧ r.op.quiet = true ∧ d7s ops rs i = true ∧ ∃ s,c2n ops i = some s:=by
 unfold isQ at h
 split at h
 ·rename_i r hr
  simp only [Bool.and_eq_true] at h
  refine ⟨r,hr,h.1,h.2,?_⟩
  have:=h.2
  unfold d7s at this
  split at this
  ·rename_i s hs; exact ⟨s,hs⟩
  ·cases this
 ·cases h
theorem dst_at {i:Nat} {o:Oper} (ho:ops[i]? = some o):c2n ops i = o.dst:=by simp [c2n,ho]
theorem e0v {i:Nat} {o:Oper} (ho:ops[i]? = some o) {s:Nat} (hs:s ∈ o.looksAt ops):s ∈ slotsOf ops rs i:=by
 unfold slotsOf; rw [ho]; exact List.mem_append_left _ hs
theorem c9a {i:Nat} {r:a2z} (hr:rs[i]? = some r) {s:Nat} (hs:s ∈ b9w r):s ∈ slotsOf ops rs i:=by
 unfold slotsOf; rw [hr]; exact List.mem_append_right _ hs
variable (hrs:ocs P ops N ops.toList = some rs) (hchk:chk ops rs = true)
include hrs
theorem f2d {i:Nat} {o:Oper} (ho:ops[i]? = some o):∃ r,rs[i]? = some r ∧ ocO P ops N o = some r:=(d5i hrs).2 i o (by simpa using ho)
theorem d7u {i:Nat} {r:a2z} (hr:rs[i]? = some r):∃ o,ops[i]? = some o ∧ ocO P ops N o = some r:=by
 have hl:=(d5i hrs).1
 have hlt:i < ops.size:=by
  have:=(List.getElem?_eq_some_iff.1 hr).1
  simpa [hl] using this
 obtain ⟨r',h1,h2⟩:=f2d hrs (i:=i) (o:=ops[i]) (by simp [hlt])
 rw [hr] at h1
 cases h1
 exact ⟨ops[i],by simp [hlt],h2⟩
theorem d5j:∀ (j:Nat) x,(ops[j]?).bind (·.dst) = some x → x < N:=by
 intro j x hx
 rw [Option.bind_eq_some_iff] at hx
 obtain ⟨o,ho,hd⟩:=hx
 obtain ⟨r,_,hr⟩:=f2d hrs ho
 exact (b4g hr).2.2.1 x hd
theorem e0w {L:Array Bool} {D:List Nat} {t:Nat → AV} {h:List l7} {b a:Act} {w:World} (inv:Inv C w0 σ0 h0 N ops rs L D t h b a w) {k:Nat} (hk:k < ops.size) (hdk:∀ d ∈ a6n ops k,LT L d) {s:Nat} (hs:s ∈ slotsOf ops rs k) :
  a.tmps.getD s Go.undef = b.tmps.getD s Go.undef:=by
 refine inv.agree s fun j hj hnl hd => ?_
 obtain ⟨hq,_⟩:=inv.pend j hj hnl
 obtain ⟨r,_,_,hf,_⟩:=d0o hq
 exact hnl (hdk j (free_spec hf hd hk hs))
theorem d0p {L:Array Bool} {D:List Nat} {t:Nat → AV} {h:List l7} {b a:Act} {w:World} (inv:Inv C w0 σ0 h0 N ops rs L D t h b a w) {k:Nat} {o:Oper} {r:a2z} (ho:ops[k]? = some o) (hr:ocO P ops N o = some r) (hdk:∀ d ∈ a6n ops k,LT L d) :
  execOp a.eval o = execOp b.eval o ∧ Region.wanted o (yielded ops a.tmps) = Region.wanted o (yielded ops b.tmps):=by
 have hk:=(Array.getElem?_eq_some_iff.1 ho).1
 have hag:∀ s ∈ o.looksAt ops,a.tmps.getD s Go.undef = b.tmps.getD s Go.undef:=fun s hs => e0w hrs inv hk hdk (e0v ho hs)
 constructor
 ·refine execOp_congr o ?_ ?_
  ·intro cs bb he
   have:=(b4g hr).1
   rw [he] at this
   simp [oc2,oc,ocX] at this
  ·intro x hx
   cases x with
   | tmp n =>
    have:=hag n (by unfold Oper.looksAt; exact List.mem_append_left _ (List.mem_filterMap.2 ⟨.tmp n,by simpa using hx,rfl⟩))
    simpa [Act.eval] using this
   | const v => rfl
   | func f => rfl
   | global g => rfl
 ·unfold Region.wanted
  cases hg:o.guard with
  | none => rfl
  | some gw =>
   obtain ⟨g,want⟩:=gw
   simp only
   have hy:yielded ops a.tmps g = yielded ops b.tmps g:=by
    unfold yielded
    cases ht:(ops[g]?).bind (·.dst) with
    | none => rfl
    | some s =>
     have hs:=hag s (by simp [Oper.looksAt,hg,ht])
     have hlt:s < N:=d5j hrs g s ht
     have h1:s < a.tmps.size:=by rw [inv.sz]; exact hlt
     have h2:s < b.tmps.size:=by rw [inv.st.size]; exact hlt
     simp [h1,h2] at hs
     simp [h1,h2,hs]
   rw [hy]
include hchk
theorem ahead {L:Array Bool} {D:List Nat} {t:Nat → AV} {h:List l7} {b a:Act} {w:World} (inv:Inv C w0 σ0 h0 N ops rs L D t h b a w) {i:Nat} {r:a2z} (hr:rs[i]? = some r) (hq:isQ ops rs i = true) (hi:i ∈ rdy ops D)
  {k:AV → List l7 → Prop} (hk:c4y P C.md r t h k):∃ v b',k v h ∧ Inv C w0 σ0 h0 N ops rs L (i :: D) (b7h t r.dst v) h b' a w:=by
 obtain ⟨hlt,hnD,hdeps⟩:=c8y.1 hi
 obtain ⟨o,ho,hoc⟩:=d7u hrs hr
 obtain ⟨c1,c2,c3,c4⟩:=b4g hoc
 obtain ⟨r',hr',hqq,hfree,s,hds⟩:=d0o hq
 rw [hr] at hr'
 cases hr'
 rw [dst_at ho] at hds
 obtain ⟨k1,k2⟩:=d0n hchk hlt (by rw [dst_at ho]; exact hds)
 obtain ⟨F,σ,φ,g0,g1,g2,g3,g4⟩:=inv.st.env
 have hnL:¬ LT L i:=fun hl => hnD (inv.sub i hl)
 have hmem:∀ j,j ∈ D → j ≠ i:=fun j hj he => hnD (he ▸ hj)
 -- what is left to show once the value is known
 have fin:∀ (v:AV) (u:Value),RV (C.frz F) σ h w v u → again C.mm r (b7h t r.dst v) h → Inv C w0 σ0 h0 N ops rs L (i :: D) (b7h t r.dst v) h (b.put o.dst u) a w:=by
  intro v u hv hag
  refine ⟨inv.size,fun j hj => List.mem_cons_of_mem _ (inv.sub j hj),?_,inv.clo,⟨inv.top,hnD,hlt,hdeps⟩,?_,inv.sz,inv.df,?_⟩
  ·intro j hj hnl
   rcases List.mem_cons.1 hj with rfl | hj
   ·exact ⟨hq,r,hr,hag⟩
   ·obtain ⟨p1,rj,p2,p3⟩:=inv.pend j hj hnl
    refine ⟨p1,rj,p2,?_⟩
    have hjlt:=b8p.lt inv.top j hj
    have hdj:=(k2 j hjlt (hmem j hj)).1
    obtain ⟨oj,hoj,hocj⟩:=d7u hrs p2
    have hdstj:rj.dst = oj.dst:=(b4g hocj).2.1
    refine c7s ?_ ?_ p3
    ·intro s' hs'
     rw [b6w,c2,hds,if_neg]
     intro he
     cases he
     rcases (k2 j hjlt (hmem j hj)).2 (c9a p2 hs') with hd | hd
     ·exact hnD (b8p.deps inv.top j hj i hd)
     ·have:=free_spec hfree (by rw [dst_at ho]; exact hds) hjlt (c9a p2 hs')
      exact hnD (b8p.deps inv.top j hj i this)
    ·intro d hd
     rw [b6w,c2,hds,if_neg]
     intro he
     cases he
     rw [dst_at hoj,← hdstj] at hdj
     exact hdj hd
  ·rw [c2]
   exact inv.st.next c3 g0 g2 g3 (FrX.refl (C.frz F) w) g1 (EvX.refl _ _ _) hv (Below.refl _ _)
  ·intro s' hs'
   have h1:s ≠ s':=fun he => hs' i (List.mem_cons_self ..) hnL (by rw [dst_at ho,hds,he])
   rw [Act.put_getD b o.dst u s' (fun x hx => by rw [inv.st.size]; exact c3 x hx),hds,if_neg (by simpa using h1)]
   exact inv.agree s' fun j hj => hs' j (List.mem_cons_of_mem _ hj)
 have slot_same:∀ v,∀ s' ∈ b9w r,t s' = b7h t r.dst v s':=by
  intro v s' hs'
  rw [b6w,c2,hds,if_neg]
  intro he
  cases he
  exact k1 (c9a hr hs')
 have hself:∀ v,b7h t r.dst v s = v:=by intro v; rw [b6w,c2,hds]; simp
 have hdst:r.dst = some s:=by rw [c2]; exact hds
 -- the operation is done
 have doit:a6x P C.md r.op (AX.ev t) h k → ∃ v u,k v h ∧ RV (C.frz F) σ h w v u ∧ aqQ C.mm r.op (AX.ev (b7h t r.dst v)) h ∧ v = aqV r.op (AX.ev (b7h t r.dst v)) h:=by
  intro ha
  obtain ⟨p1,p2⟩:=d0i hqq ha
  obtain ⟨u,q1,q2,q3⟩:=d7q (P:=P) g1 o c1 hqq g4 p1.p p1.m
  have hc:=d3l (m:=C.mm) (h:=h) (d7r (slot_same (aqV r.op (AX.ev t) h)))
  exact ⟨_,u,p2 q3,q2,by rw [← hc.1]; exact p1,hc.2⟩
 have skipit:k .skip h → ∃ v u,k v h ∧ RV (C.frz F) σ h w v u ∧ v = .skip:=fun hk => ⟨.skip,undef,hk,by simp only [RV],rfl⟩
 unfold c4y at hk
 split at hk
 ·rename_i hg
  obtain ⟨v,u,p1,p2,p3,p4⟩:=doit hk
  refine ⟨v,_,p1,fin v u p2 ?_⟩
  unfold again
  rw [hdst,hg]
  simp only
  have e:=hself v
  rw [hdst] at e p3 p4
  exact ⟨p3,e.trans p4⟩
 ·rename_i s1 b1 hg
  have hs1:∀ v,b7h t r.dst v s1 = t s1:=fun v => (slot_same v s1 (by simp [b9w,hg])).symm
  split at hk
  ·rename_i b' hb'
   by_cases he:b' = b1
   ·obtain ⟨v,u,p1,p2,p3,p4⟩:=doit (hk.1 he)
    refine ⟨v,_,p1,fin v u p2 ?_⟩
    have e0:=hs1 v
    have e:=hself v
    unfold again
    rw [hdst] at e0 e p3 p4 ⊢
    rw [hg]
    simp only [e0,hb']
    exact ⟨fun _ => ⟨p3,e.trans p4⟩,fun hn => by subst he; cases b' <;> simp at hn⟩
   ·obtain ⟨v,u,p1,p2,rfl⟩:=skipit (hk.2 (by cases b' <;> cases b1 <;> simp_all))
    refine ⟨.skip,_,p1,fin .skip u p2 ?_⟩
    have e0:=hs1 .skip
    have e:=hself .skip
    unfold again
    rw [hdst] at e0 e ⊢
    rw [hg]
    simp only [e0,hb']
    exact ⟨fun hn => absurd hn he,fun _ => e⟩
  ·rename_i hb'
   obtain ⟨v,u,p1,p2,rfl⟩:=skipit hk
   refine ⟨.skip,_,p1,fin .skip u p2 ?_⟩
   have e0:=hs1 .skip
   have e:=hself .skip
   unfold again
   rw [hdst] at e0 e ⊢
   rw [hg]
   simp only [e0,hb']
   exact e
  ·exact hk.elim
theorem c6p {L:Array Bool} {a:Act} {w:World} {h:List l7} {K:(Nat → AV) → List l7 → Prop}:∀ (f:Nat) (D:List Nat) (t:Nat → AV) (b:Act),Inv C w0 σ0 h0 N ops rs L D t h b a w → a0l P C.md (mkT ops rs f D) t h K →
  ∃ f' D' t' b',Inv C w0 σ0 h0 N ops rs L D' t' h b' a w ∧ (rdy ops D').find? (isQ ops rs) = none ∧ a0l P C.md (mkT ops rs (f' + 1) D') t' h K
 | 0,D,t,b,inv,hk => by simp [mkT,a0l] at hk
 | f + 1,D,t,b,inv,hk => by
  cases hf:(rdy ops D).find? (isQ ops rs) with
  | none => exact ⟨f,D,t,b,inv,hf,hk⟩
  | some i =>
   simp only [mkT,hf] at hk
   have hq:=List.find?_some hf
   have hi:=List.mem_of_find?_eq_some hf
   cases hr:rs[i]? with
   | none => rw [hr] at hk; exact hk.elim
   | some r =>
    rw [hr] at hk
    simp only [a0l] at hk
    obtain ⟨v,b',hk',inv'⟩:=ahead hrs hchk inv hr hq hi hk.old
    exact c6p f (i :: D) _ b' inv' hk'
theorem d7v {t:Nat → AV} {h:List l7} {K:(Nat → AV) → List l7 → Prop} {re:Nat → List a2z} {mk:Nat → a1j}:∀ (ks:List Nat),a0l P C.md (alts rs re mk ks) t h K → ∀ k ∈ ks,∃ r,rs[k]? = some r ∧
  c4y P C.md r t h fun v h' => b8o C.mm (re k) (b7h t r.dst v) h h' ∧ a0l P C.md (mk k) (b7h t r.dst v) h' K
 | [],_,k,hk => by simp at hk
 | k0 :: ks,ha,k,hk => by
  simp only [alts] at ha
  cases hr:rs[k0]? with
  | none => rw [hr] at ha; exact ha.elim
  | some r =>
   rw [hr] at ha
   simp only [a0l] at ha
   rcases List.mem_cons.1 hk with rfl | hk
   ·exact ⟨r,hr,ha.1.old⟩
   ·exact d7v ks ha.2 k hk
theorem f0e {L:Array Bool} {i:Nat} {U:List Nat} {n:Nat} (hL:L.size = ops.size) (hU:U.Nodup) (hm:∀ i,i ∈ U ↔ i < ops.size ∧ ¬ LT L i) (hl:U.length = n + 1) (hi:i < ops.size) (hn:¬ LT L i) :
  (U.erase i).Nodup ∧ (∀ j,j ∈ U.erase i ↔ j < ops.size ∧ ¬ LT (L.setIfInBounds i true) j) ∧ (U.erase i).length = n:=by
 refine ⟨hU.erase i,fun j => ?_,?_⟩
 ·rw [hU.mem_erase_iff,hm]
  constructor
  ·rintro ⟨h1,h2,h3⟩
   exact ⟨h2,fun hl => (LT.of_set hl).elim h1 h3⟩
  ·rintro ⟨h2,h3⟩
   exact ⟨fun he => h3 (by rw [he]; exact LT.self (by rw [hL]; exact hi)),h2,fun hl => h3 hl.set⟩
 ·rw [List.length_erase_of_mem ((hm i).2 ⟨hi,hn⟩),hl]; rfl
theorem e0x (hok:∀ b,C.mine b → C.ok b) (hb:∀ b,w0.heap.size ≤ b → C.mine b) {L:Array Bool} {D:List Nat} {t:Nat → AV} {h:List l7} {b a:Act} {w:World} (inv:Inv C w0 σ0 h0 N ops rs L D t h b a w) {i:Nat} (hiD:i ∈ D) (hnl:¬ LT L i) (hdi:∀ d ∈ a6n ops i,LT L d)
  {Q:Exit → Act → World → Prop} {K:Act → World → Prop} (hK:∀ b' a',Inv C w0 σ0 h0 N ops rs (L.setIfInBounds i true) D t h b' a' w → K a' w):wpOp P ops Q i K a w:=by
 obtain ⟨hq,r,hr,hag⟩:=inv.pend i hiD hnl
 obtain ⟨r',hr',hqq,hfree,s,hds⟩:=d0o hq
 rw [hr] at hr'
 cases hr'
 obtain ⟨o,ho,hoc⟩:=d7u hrs hr
 obtain ⟨c1,c2,c3,c4⟩:=b4g hoc
 rw [dst_at ho] at hds
 have hlt:=(Array.getElem?_eq_some_iff.1 ho).1
 obtain ⟨hex,hwt⟩:=d0p hrs inv ho hoc hdi
 obtain ⟨F,σ,φ,g0,g1,g2,g3,g4⟩:=inv.st.env
 obtain ⟨w1,w2⟩:=c7p g3 inv.st.size hoc (d5j hrs)
 have hdst:r.dst = some s:=by rw [c2]; exact hds
 have hsN:s < N:=c3 s hds
 -- a value that the slot's abstract one stands for
 have fin:∀ u,RV (C.frz F) σ h w (t s) u → K (a.put o.dst u) w:=by
  intro u hu
  refine hK (b.put o.dst u) _ ⟨by simpa using inv.size,?_,?_,?_,inv.top,?_,?_,?_,?_⟩
  ·intro j hj
   rcases LT.of_set hj with rfl | hj
   ·exact hiD
   ·exact inv.sub j hj
  ·intro j hj hn
   exact inv.pend j hj (fun hl => hn hl.set)
  ·intro j hj d hd
   rcases LT.of_set hj with rfl | hj
   ·exact (hdi d hd).set
   ·exact (inv.clo j hj d hd).set
  ·refine ⟨⟨F,σ,φ,g0,g1,g2,fun n => ?_⟩,by rw [Act.put_size]; exact inv.st.size,by rw [Act.put_defs]; exact inv.st.defers,inv.st.below⟩
   rw [Act.put_getD b o.dst u n (fun x hx => by rw [inv.st.size]; exact c3 x hx),hds]
   split
   ·rename_i he
    cases he
    exact hu
   ·exact g3 n
  ·rw [Act.put_size]; exact inv.sz
  ·rw [Act.put_defs]; exact inv.df
  ·intro s' hs'
   rw [Act.put_getD b o.dst u s' (fun x hx => by rw [inv.st.size]; exact c3 x hx),Act.put_getD a o.dst u s' (fun x hx => by rw [inv.sz]; exact c3 x hx)]
   split
   ·rfl
   ·rename_i hne
    refine inv.agree s' fun j hj hn hd => ?_
    by_cases hji:j = i
    ·subst hji
     rw [dst_at ho] at hd
     exact hne hd
    ·exact hs' j hj (fun hl => (LT.of_set hl).elim hji hn) hd
 have doit:aqQ C.mm r.op (AX.ev t) h ∧ t s = aqV r.op (AX.ev t) h → o.wp P a w K Q:=by
  rintro ⟨p1,p2⟩
  obtain ⟨u,q1,q2,_⟩:=d7q (P:=P) g1 o c1 hqq g4 p1.p p1.m
  unfold Oper.wp
  rw [hex,q1,Oper.upon_value]
  exact fin u (by rw [p2]; exact q2)
 have skipit:t s = .skip → K (a.put o.dst Go.undef) w:=by
  intro he
  exact fin Go.undef (by rw [he]; simp only [RV])
 unfold wpOp
 simp only [ho]
 rw [hwt]
 unfold again at hag
 rw [hdst] at hag
 cases hg:r.guard with
 | none =>
  rw [hg] at hag
  have:o.guard = none:=by
   rcases c4 with ⟨h1,_⟩ | ⟨j,b,s,h1,h2,h3⟩
   ·exact h1
   ·rw [hg] at h3; cases h3
  rw [if_pos (w1 this)]
  exact .inl (doit hag)
 | some sb =>
  obtain ⟨s1,b1⟩:=sb
  rw [hg] at hag
  simp only at hag
  split at hag
  ·rename_i b' hb'
   rw [(w2 s1 b1 hg).1 b' hb']
   by_cases he:b' = b1
   ·subst he
    simp only [beq_self_eq_true,if_true]
    exact .inl (doit (hag.1 rfl))
   ·have:(b' == b1) = false:=by simpa using he
    rw [this]
    simp only [Bool.false_eq_true,if_false]
    exact skipit (hag.2 (by cases b' <;> cases b1 <;> simp_all))
  ·rename_i hb'
   rw [(w2 s1 b1 hg).2 hb']
   simp only [Bool.false_eq_true,if_false]
   exact skipit hag
  ·exact hag.elim
theorem f0f (hmd:C.mm = true → C.dm = true) (hok:∀ b,C.mine b → C.ok b) (hb:∀ b,w0.heap.size ≤ b → C.mine b) {L:Array Bool} {D:List Nat} {t:Nat → AV} {h:List l7} {b a:Act} {w:World} (inv:Inv C w0 σ0 h0 N ops rs L D t h b a w) {i:Nat} (hlt:i < ops.size) (hiD:i ∉ D) (hdi:∀ d ∈ a6n ops i,LT L d)
  {r:a2z} (hr:rs[i]? = some r) {F:AV → List l7 → Prop} (hk:c4y P C.md r t h fun v h' => b8o C.mm (e6m ops rs D i) (b7h t r.dst v) h h' ∧ F v h')
  {Q:Exit → Act → World → Prop} {K:Act → World → Prop} (hK:∀ v h' b' a' w',Inv C w0 σ0 h0 N ops rs (L.setIfInBounds i true) (i :: D) (b7h t r.dst v) h' b' a' w' → F v h' → K a' w'):wpOp P ops Q i K a w:=by
 obtain ⟨o,ho,hoc⟩:=d7u hrs hr
 obtain ⟨c1,c2,c3,c4⟩:=b4g hoc
 obtain ⟨hex,hwt⟩:=d0p hrs inv ho hoc hdi
 have hnL:¬ LT L i:=fun hl => hiD (inv.sub i hl)
 have hmem:∀ j,j ∈ D → j ≠ i:=fun j hj he => hiD (he ▸ hj)
 unfold wpOp
 simp only [ho]
 refine c7q hmd inv.st hok hb (d5j hrs) hoc hk hex hwt ?_
 intro v r' h' w' hst ⟨hre,hF⟩
 refine hK r' h' (b.put o.dst v) _ w' ⟨by simpa using inv.size,?_,?_,?_,⟨inv.top,hiD,hlt,fun d hd => inv.sub d (hdi d hd)⟩,hst,?_,?_,?_⟩ hF
 ·intro j hj
  rcases LT.of_set hj with rfl | hj
  ·exact List.mem_cons_self ..
  ·exact List.mem_cons_of_mem _ (inv.sub j hj)
 ·intro j hj hn
  rcases List.mem_cons.1 hj with rfl | hj
  ·exact absurd (LT.self (by rw [inv.size]; exact hlt)) hn
  ·have hnl:¬ LT L j:=fun hl => hn hl.set
   obtain ⟨p1,rj,p2,p3⟩:=inv.pend j hj hnl
   refine ⟨p1,rj,p2,?_⟩
   have hjlt:=b8p.lt inv.top j hj
   obtain ⟨oj,hoj,hocj⟩:=d7u hrs p2
   have hdstj:rj.dst = oj.dst:=(b4g hocj).2.1
   have hanc:j ∉ d0m ops i:=fun ha => hnl (f3f inv.clo hdi j ha)
   have h1:again C.mm rj (b7h t r.dst r') h:=by
    refine c7s ?_ ?_ p3
    ·intro s' hs'
     rw [b6w]
     split
     ·rename_i he
      rw [c2,← dst_at ho] at he
      exfalso
      rcases ((d0n hchk hlt he).2 j hjlt (hmem j hj)).2 (c9a p2 hs') with hd | hd
      ·exact hiD (b8p.deps inv.top j hj i hd)
      ·exact hanc hd
     ·rfl
    ·intro d hd
     rw [b6w]
     split
     ·rename_i he
      rw [c2,← dst_at ho] at he
      exfalso
      have:=((d0n hchk hlt he).2 j hjlt (hmem j hj)).1
      rw [dst_at hoj,← hdstj] at this
      exact this hd
     ·rfl
   cases hdeep:rj.op.deepQ with
   | false => exact e0u hdeep h1
   | true =>
    have hin:rj ∈ e6m ops rs D i:=by
     unfold e6m
     refine List.mem_filterMap.2 ⟨j,?_,by rw [p2]; simp only [hdeep]⟩
     refine List.mem_filter.2 ⟨hj,?_⟩
     simp only [p1,Bool.true_and,Bool.not_eq_true']
     cases hcc:(d0m ops i).contains j with
     | false => rfl
     | true => exact absurd (List.contains_iff_mem.1 hcc) hanc
    cases hrr:e6m ops rs D i with
    | nil => rw [hrr] at hin; simp at hin
    | cons x xs =>
     rw [hrr] at hre hin
     simp only [b8o] at hre
     rcases hre with rfl | hre
     ·exact h1
     ·exact d0k hre rj hin
 ·intro j hj d hd
  rcases LT.of_set hj with rfl | hj
  ·exact (hdi d hd).set
  ·exact (inv.clo j hj d hd).set
 ·rw [Act.put_size]; exact inv.sz
 ·rw [Act.put_defs]; exact inv.df
 ·intro s' hs'
  rw [Act.put_getD b o.dst v s' (fun x hx => by rw [inv.st.size]; exact c3 x hx),Act.put_getD a o.dst v s' (fun x hx => by rw [inv.sz]; exact c3 x hx)]
  split
  ·rfl
  ·refine inv.agree s' fun j hj hn hd => ?_
   exact hs' j (List.mem_cons_of_mem _ hj) (fun hl => (LT.of_set hl).elim (hmem j hj) hn) hd
omit hrs hchk in
theorem f0g {a b:Act} (h1:a.tmps.size = b.tmps.size) (h2:∀ s,a.tmps.getD s Go.undef = b.tmps.getD s Go.undef) (h3:a.defers = b.defers):a = b:=by
 obtain ⟨ta,da⟩:=a
 obtain ⟨tb,db⟩:=b
 simp only at h1 h2 h3
 subst h3
 congr 1
 apply Array.ext h1
 intro i hi1 hi2
 have:=h2 i
 simpa [hi1,hi2] using this
theorem e0y (hmd:C.mm = true → C.dm = true) (hok:∀ b,C.mine b → C.ok b) (hb:∀ b,w0.heap.size ≤ b → C.mine b) {Q:Exit → Act → World → Prop} {K:(Nat → AV) → List l7 → Prop} (hQ:∀ t h a w,St C w0 σ0 h0 N t h a w → K t h → Q .normal a w) :
  ∀ (n:Nat) (L:Array Bool) (U:List Nat) (f:Nat) (D:List Nat) (t:Nat → AV) (h:List l7) (b a:Act) (w:World),U.Nodup → (∀ i,i ∈ U ↔ i < ops.size ∧ ¬ LT L i) → U.length = n →
   Inv C w0 σ0 h0 N ops rs L D t h b a w → a0l P C.md (mkT ops rs f D) t h K → wpAny P .any ops Q n L a w:=by
 intro n
 induction n with
 | zero =>
  intro L U f D t h b a w hU hm hl inv hk
  have hall:∀ i,i < ops.size → LT L i:=fun i hi => Classical.byContradiction fun hc => by
   have:=(hm i).2 ⟨hi,hc⟩
   rw [List.eq_nil_of_length_eq_zero hl] at this
   simp at this
  obtain ⟨f',D',t',b',inv',hno,hk'⟩:=c6p hrs hchk f D t b inv hk
  have hready:Region.ready .any ops L = []:=by
   apply List.eq_nil_iff_forall_not_mem.2
   intro i hi
   obtain ⟨h1,h2,_⟩:=(c1q inv.size).1 hi
   exact h2 (hall i h1)
  refine ⟨hready,?_⟩
  have hrd:rdy ops D' = []:=by
   apply List.eq_nil_iff_forall_not_mem.2
   intro i hi
   obtain ⟨h1,h2,_⟩:=c8y.1 hi
   exact h2 (inv'.sub i (hall i h1))
  simp only [mkT,hno] at hk'
  rw [hrd] at hk'
  simp only at hk'
  have hK:K t' h:=by
   split at hk'
   ·exact hk'
   ·exact hk'.elim
  have hab:a = b':=f0g (by rw [inv'.sz,inv'.st.size]) (fun s => inv'.agree s fun j hj hnl => absurd (hall j (b8p.lt inv'.top j hj)) hnl) (by rw [inv'.df,inv'.st.defers])
  rw [hab]
  exact hQ _ _ _ _ inv'.st hK
 | succ n ih =>
  intro L U f D t h b a w hU hm hl inv hk
  obtain ⟨f',D',t',b',inv',hno,hk'⟩:=c6p hrs hchk f D t b inv hk
  have hmore:∃ i,i ∈ Region.ready .any ops L:=by
   by_cases hp:∃ i ∈ D',¬ LT L i
   ·obtain ⟨i,h1,h2,h3⟩:=b8p.first inv'.top hp
    exact ⟨i,(c1q inv.size).2 ⟨b8p.lt inv'.top i h1,h2,h3⟩⟩
   ·have hall:∀ d ∈ D',LT L d:=fun d hd => Classical.byContradiction fun hc => hp ⟨d,hd,hc⟩
    cases hrd:rdy ops D' with
    | nil =>
     simp only [mkT,hno] at hk'
     rw [hrd] at hk'
     simp only at hk'
     split at hk'
     ·rename_i hfull
      exfalso
      obtain ⟨u,hu⟩:∃ u,u ∈ U:=by
       cases U with
       | nil => simp at hl
       | cons u _ => exact ⟨u,List.mem_cons_self ..⟩
      obtain ⟨h1,h2⟩:=(hm u).1 hu
      rw [List.all_eq_true] at hfull
      exact h2 (hall u (List.contains_iff_mem.1 (hfull u (List.mem_range.2 h1))))
     ·exact hk'.elim
    | cons k ks =>
     have:k ∈ rdy ops D':=by rw [hrd]; exact List.mem_cons_self ..
     obtain ⟨h1,h2,h3⟩:=c8y.1 this
     exact ⟨k,(c1q inv.size).2 ⟨h1,fun hl => h2 (inv'.sub k hl),fun d hd => hall d (h3 d hd)⟩⟩
  refine ⟨fun h0 => ?_,fun i hi => ?_⟩
  ·obtain ⟨i,hi⟩:=hmore
   rw [h0] at hi
   simp at hi
  ·obtain ⟨h1,h2,h3⟩:=(c1q inv.size).1 hi
   obtain ⟨u1,u2,u3⟩:=f0e hrs hchk inv.size hU hm hl h1 h2
   by_cases hiD:i ∈ D'
   ·refine e0x hrs hchk hok hb inv' hiD h2 h3 ?_
    intro b'' a'' inv''
    exact ih _ _ (f' + 1) D' t' h b'' a'' w u1 u2 u3 inv'' hk'
   ·have hird:i ∈ rdy ops D':=c8y.2 ⟨h1,hiD,fun d hd => inv'.sub d (h3 d hd)⟩
    cases hrd:rdy ops D' with
    | nil => rw [hrd] at hird; simp at hird
    | cons k ks =>
     have hk0:=hk'
     simp only [mkT,hno] at hk'
     rw [hrd] at hk' hird
     simp only at hk'
     obtain ⟨r,hr,hkr⟩:=d7v hrs hchk (k :: ks) hk' i hird
     refine f0f hrs hchk hmd hok hb inv' h1 hiD h3 hr hkr ?_
     intro v h' b'' a'' w' inv'' hF
     exact ih _ _ f' _ _ h' b'' a'' w' u1 u2 u3 inv'' hF
end
end Go.R
end
section
set_option linter.all false
namespace Go.R
open Go Go.RowKit
section
variable {C:Ctx} {σ:Sg} {φ:Nat → List Nat} {h:List l7} {w:World}
theorem c1r (hr:o9 C σ φ h w) (o:Nat):o9 C σ φ (h.set o .dead) w ∧ Ev σ h w σ (h.set o .dead) w:=by
 have key:=o9.puts (σ':=σ) (φ':=φ) (w':=w) (ks:=[o]) (xs:=[]) hr (fun _ _ => ⟨rfl,rfl⟩) (Nat.le_refl _) (by simp) (fun _ _ _ => rfl) (by simp) (by simp) (by simp)
 simpa [kill] using key
theorem c4z (hr:o9 C σ φ h w) (z:Nat):o9 C (upd σ h.length none) (upd φ h.length []) (h ++ [.row (z + 1) []]) w ∧ Ev σ h w (upd σ h.length none) (h ++ [.row (z + 1) []]) w:=by
 have hσ:∀ o,o < h.length → (upd σ h.length none) o = σ o ∧ (upd φ h.length []) o = φ o:=by
  intro o ho
  have:o ≠ h.length:=by omega
  simp [upd,this]
 have hz:∀ j,j < 1 → h.length + j = h.length:=by omega
 have key:=o9.puts (σ':=upd σ h.length none) (φ':=upd φ h.length []) (w':=w) (ks:=[]) (xs:=[.row (z + 1) []]) hr hσ (Nat.le_refl _)
  (by
   intro j x hj g c hs
   have:j < 1:=(List.getElem?_eq_some_iff.1 hj).1
   rw [hz j this] at hs
   simp [upd] at hs)
  (fun _ _ _ => rfl)
  (by
   intro _ j x hj
   have hj1:j < 1:=(List.getElem?_eq_some_iff.1 hj).1
   have:j = 0:=by omega
   subst this
   simp at hj
   subst hj
   simp [b5a,upd])
  (by
   intro j j' g c c' h1 h2
   simp at h1 h2
   omega)
  (by
   intro _ j x hj _
   have hj1:j < 1:=(List.getElem?_eq_some_iff.1 hj).1
   rw [hz j hj1]
   simp [upd])
 simpa [kill] using key
theorem c9c (hr:o9 C σ φ h w) (z:Nat) {v:Value} (hv:v = .slice none 0 0):RV C (upd σ h.length none) (h ++ [.row (z + 1) []]) w (.own h.length 0 0) v:=by
 subst hv
 simp only [RV]
 simp only [List.getElem?_append_right (Nat.le_refl _),Nat.sub_self,List.getElem?_cons_zero]
 exact ⟨none,0,rfl,by simp,by simp,by simp [maxLen],by simp [upd]⟩
theorem d7w (hr:o9 C σ φ h w) {o n:Nat} {v v':AV} (ho:h[o]? = some (.box n v)) (hv:∀ vs,RVs C σ h w v.cells vs → RVs C σ h w v'.cells vs) :
  o9 C σ (upd φ o (φ o)) (h.set o (.box n v')) w ∧ Ev σ h w σ (h.set o (.box n v')) w:=by
 obtain ⟨g,cur,e,h1,h2,h3,h4⟩:=hr.obj o _ ho
 have key:=hr.turn (w':=w) ho (x':=.box n v') rfl rfl h1 (ks:=[]) (by simp) (fx:=φ o) rfl (fun _ _ => rfl) (fun ev => ⟨g,cur,e,h1,h2,h3,ev.rvs _ _ (hv _ h4)⟩) (by intro _ e; cases e)
 simpa [kill] using key
theorem f0h (hr:o9 C σ φ h w) {o z:Nat} {l:List AV} (ho:h[o]? = some (.row z l)) :
  o9 C (upd σ h.length (σ o)) (upd φ h.length (φ o)) ((h.set o .dead).map (a5w (mvF o h.length)) ++ [.row z l]) w ∧ Ev σ h w (upd σ h.length (σ o)) ((h.set o .dead).map (a5w (mvF o h.length)) ++ [.row z l]) w ∧
   ∀ a v,RV C σ h w a v → RV C (upd σ h.length (σ o)) ((h.set o .dead).map (a5w (mvF o h.length)) ++ [.row z l]) w (ren (mvF o h.length) a) v:=by
 have hlt:o < h.length:=(List.getElem?_eq_some_iff.1 ho).1
 obtain ⟨f,hf⟩:∃ f,f = mvF o h.length:=⟨_,rfl⟩
 obtain ⟨h',hh'⟩:∃ h',h' = (h.set o .dead).map (a5w f) ++ [.row z l]:=⟨_,rfl⟩
 rw [← hf,← hh']
 have hlen:h'.length = h.length + 1:=by rw [hh']; simp
 have hget:∀ k,h'[k]? = if k = h.length then some (.row z l) else if k = o then some .dead else (h[k]?).map (a5w f):=by
  intro k
  rw [hh']
  by_cases hk:k = h.length
  ·subst hk
   rw [if_pos rfl,List.getElem?_append_right (by simp)]
   simp
  ·rw [if_neg hk]
   by_cases hkl:k < h.length
   ·rw [List.getElem?_append_left (by simpa using hkl),List.getElem?_map,List.getElem?_set]
    by_cases he:o = k
    ·subst he; simp [hlt,a5w]
    ·rw [if_neg he,if_neg (Ne.symm he)]
   ·have h1:h[k]? = none:=List.getElem?_eq_none (by omega)
    have h2:((h.set o .dead).map (a5w f) ++ [l7.row z l])[k]? = none:=List.getElem?_eq_none (by simp; omega)
    rw [h2,if_neg (by omega),h1]
    rfl
 have hσ:∀ k,upd σ h.length (σ o) k = if k = h.length then σ o else σ k:=fun k => rfl
 have hφ:∀ k,upd φ h.length (φ o) k = if k = h.length then φ o else φ k:=fun k => rfl
 -- where a live object was
 have back:∀ k y,h'[k]? = some y → y.isLive = true → ∃ (k0:Nat) (y0:l7),h[k0]? = some y0 ∧ y0.isLive = true ∧ upd σ h.length (σ o) k = σ k0 ∧ upd φ h.length (φ o) k = φ k0 ∧ y = a5w f y0 ∧ (k0 = if k = h.length then o else k) ∧ (k ≠ h.length → k ≠ o):=by
  intro k y hk hy
  rw [hget] at hk
  rw [hσ,hφ]
  split at hk
  ·rename_i e
   cases hk
   exact ⟨o,_,ho,rfl,by simp [e],by simp [e],rfl,by simp [e],fun hne => absurd e hne⟩
  ·rename_i hne
   split at hk
   ·cases hk; simp [l7.isLive] at hy
   ·rename_i hne2
    rw [Option.map_eq_some_iff] at hk
    obtain ⟨y0,h1,rfl⟩:=hk
    rw [a5m] at hy
    exact ⟨k,y0,h1,hy,by simp [hne],by simp [hne],rfl,by simp [hne],fun _ => hne2⟩
 have hlive:∀ b,liveAt h' (upd σ h.length (σ o)) b ↔ liveAt h σ b:=by
  intro b
  constructor
  ·rintro ⟨k,y,c,h1,h2,h3⟩
   obtain ⟨k0,y0,g1,g2,g3,_⟩:=back k y h1 h2
   exact ⟨k0,y0,c,g1,g2,by rw [← g3]; exact h3⟩
  ·rintro ⟨k,y,c,h1,h2,h3⟩
   by_cases he:k = o
   ·subst he
    exact ⟨h.length,.row z l,c,by rw [hget]; simp,rfl,by rw [hσ]; simp [h3]⟩
   ·have hkl:k < h.length:=(List.getElem?_eq_some_iff.1 h1).1
    refine ⟨k,a5w f y,c,?_,by rw [a5m]; exact h2,?_⟩
    ·rw [hget,if_neg (by omega),if_neg he,h1]; rfl
    ·rw [hσ,if_neg (by omega)]; exact h3
 have hren:d3i f σ h (upd σ h.length (σ o)) h':=by
  intro a k x h1 h2
  rw [hf] at h1
  have hal:a < h.length:=(List.getElem?_eq_some_iff.1 h2).1
  unfold mvF at h1
  split at h1
  ·rename_i e
   subst e
   cases h1
   rw [ho] at h2
   cases h2
   exact ⟨by rw [hget]; simp [a5w],by rw [hσ]; simp⟩
  ·rename_i hne
   cases h1
   refine ⟨?_,by rw [hσ,if_neg (by omega)]⟩
   rw [hget,if_neg (by omega),if_neg hne,h2]; rfl
 have hok:∀ b,C.imm b → ¬ liveAt h σ b → C.imm b ∧ ¬ liveAt h' (upd σ h.length (σ o)) b:=fun b h1 h2 => ⟨h1,fun hl => h2 ((hlive b).1 hl)⟩
 have ev:Ev σ h w (upd σ h.length (σ o)) h' w:=by
  refine ⟨?_,?_,fun b _ hl => (hlive b).1 hl,fun _ _ _ => rfl,Nat.le_refl _⟩
  ·intro k x hk hx
   have hkl:k < h.length:=(List.getElem?_eq_some_iff.1 hk).1
   by_cases he:k = o
   ·exact .inl (by rw [hget,if_neg (by omega),if_pos he])
   ·refine .inr ⟨by rw [hσ,if_neg (by omega)],a5w f x,by rw [hget,if_neg (by omega),if_neg he,hk]; rfl,?_⟩
    cases x <;> simp_all [sameShape,a5w,l7.isLive]
  ·intro k hk
   have hkl:k < h.length:=(List.getElem?_eq_some_iff.1 hk).1
   rw [hget,if_neg (by omega),hk]
   split <;> rfl
 refine ⟨⟨?_,?_,?_,?_⟩,ev,fun a v hv => d0b hren hok a v hv⟩
 ·intro k y hk
  by_cases hy:y.isLive = true
  ·obtain ⟨k0,y0,g1,g2,g3,g4,rfl,_⟩:=back k y hk hy
   have hob:=hr.obj k0 y0 g1
   cases y0 with
   | dead => trivial
   | box sz v =>
    obtain ⟨g,cur,e,q1,q2,q3,q4⟩:=hob
    exact ⟨g,cur,e,by rw [g3]; exact q1,q2,q3,b2a hren hok _ _ q4⟩
   | map m =>
    obtain ⟨g,cur,e,q1,q2,q3,q4⟩:=hob
    exact ⟨g,cur,e,by rw [g3]; exact q1,q2,q3.ren _,by rw [c4q]; exact b5k hren hok _ _ q4⟩
   | row sz l0 =>
    obtain ⟨q0,hob⟩:=hob
    refine ⟨q0,?_⟩
    rw [g3,g4]
    cases hs:σ k0 with
    | none => rw [hs] at hob; exact hob
    | some p =>
     rw [hs] at hob
     obtain ⟨q1,cur,e,q2,q3,q4,q5⟩:=hob
     exact ⟨q1,cur,e,q2,q3,q4,fun b hb => ⟨(q5 b hb).1,fun hl => (q5 b hb).2 ((hlive b).1 hl)⟩⟩
   | rowx sz l0 i el =>
    obtain ⟨hz,hmm,hi,g,c,cur,e,f1,f2,q1,q2,q3,q4,q5,q6,q7,q7',q8,q9⟩:=hob
    exact ⟨hz,hmm,hi,g,c,cur,e,f1,f2,by rw [g3]; exact q1,q2,q3,q4,q5,b2a hren hok _ _ q6,q7,by rw [b5j]; exact q7',by rw [g4]; exact q8,fun b hb => by rw [g4] at hb; exact ⟨(q9 b hb).1,fun hl => (q9 b hb).2 ((hlive b).1 hl)⟩⟩
  ·cases y with
   | dead => trivial
   | box _ _ => simp [l7.isLive] at hy
   | map _ => simp [l7.isLive] at hy
   | rowx _ _ _ _ => simp [l7.isLive] at hy
   | row _ _ => simp [l7.isLive] at hy
 ·intro k k' y y' b c c' h1 h2 h3 h4 h5 h6
  obtain ⟨k0,y0,g1,g2,g3,_,_,g6,g7⟩:=back k y h1 h2
  obtain ⟨k1,y1,e1,e2,e3,_,_,e6,e7⟩:=back k' y' h3 h4
  have:=hr.inj k0 k1 y0 y1 b c c' g1 g2 e1 e2 (by rw [← g3]; exact h5) (by rw [← e3]; exact h6)
  rw [g6,e6] at this
  by_cases ha:k = h.length <;> by_cases hb:k' = h.length
  ·omega
  ·rw [if_pos ha,if_neg hb] at this; exact absurd this.symm (e7 hb)
  ·rw [if_neg ha,if_pos hb] at this; exact absurd this (g7 ha)
  ·rw [if_neg ha,if_neg hb] at this; exact this
 ·intro k y b c h1 h2 h3
  obtain ⟨k0,y0,g1,g2,g3,_⟩:=back k y h1 h2
  exact hr.base k0 y0 b c g1 g2 (by rw [← g3]; exact h3)
 ·intro hdm k y h1 hy
  obtain ⟨k0,y0,g1,g2,g3,g4,rfl,g6,g7⟩:=back k _ h1 (l7.rw_live hy)
  rw [b6k] at hy
  obtain ⟨d1,d2,d3⟩:=hr.deepx hdm k0 y0 g1 hy
  rw [g4]
  refine ⟨d1,d2,?_⟩
  intro k' y' h2 hy' hne b hb
  obtain ⟨k1,y1,e1,e2,e3,e4,rfl,e6,e7⟩:=back k' _ h2 (l7.rw_live hy')
  rw [b6k] at hy'
  rw [e4]
  refine d3 k1 y1 e1 hy' (fun he => hne ?_) b hb
  rw [g6,e6] at he
  by_cases ha:k = h.length <;> by_cases hb:k' = h.length
  ·omega
  ·rw [if_pos ha,if_neg hb] at he; exact absurd he (e7 hb)
  ·rw [if_neg ha,if_pos hb] at he; exact absurd he.symm (g7 ha)
  ·rw [if_neg ha,if_neg hb] at he; exact he
theorem e4j (hr:o9 C σ φ h w) (hok:∀ b,C.mine b → C.ok b) {o n z:Nat} {l:List AV} {v:Value} (ho:h[o]? = some (.row z l)) (hv:b9i σ o 0 n z l.length v) :
  ∃ σ' φ',o9 C σ' φ' (h.set o .dead ++ [.row z (l.take n)]) w ∧ Ev σ h w σ' (h.set o .dead ++ [.row z (l.take n)]) w ∧ b9i σ' h.length 0 n z (l.take n).length v:=by
 obtain ⟨hsz,hob⟩:=hr.obj o _ ho
 obtain ⟨a,cap,rfl,hl,hn,hm,hσ⟩:=hv
 have hks:kill h [o] = h.set o .dead:=rfl
 have hln:(l.take n).length = n:=by rw [List.length_take]; omega
 cases hs:σ o with
 | none =>
  rw [hs] at hσ hob
  obtain ⟨rfl,rfl⟩:=hσ
  have hn0:n = 0:=by omega
  subst hn0
  obtain ⟨k1,k2⟩:=c9t hr [o] hsz
  rw [hks] at k1 k2
  rw [List.take_zero]
  exact ⟨_,_,k1,k2,none,0,rfl,by simp,by simp,hm,by simp [upd]⟩
 | some p =>
  obtain ⟨g,c⟩:=p
  rw [hs] at hσ hob
  obtain ⟨hc,cur,e,h2,h3,h4,h5⟩:=hob
  have hown:Owned σ φ h o g:=.inl ⟨_,c,ho,rfl,hs⟩
  obtain ⟨f1,f2,hf,h6⟩:=h4.take n
  have hsub:List.Sublist f1 (φ o):=by rw [hf]; exact List.sublist_append_left f1 f2
  have taken:Taken C σ φ h [o] f1:=by
   refine ⟨fun b hb => (h5 b (hsub.subset hb)).1,fun b hb hlv => absurd hlv (h5 b (hsub.subset hb)).2,fun hdm b hb => ⟨o,by simp,.inr ⟨hsub.subset hb,_,ho,rfl⟩⟩,fun hdm _ => (hr.deep hdm o z l ho).1.sublist hsub⟩
  obtain ⟨k1,k2⟩:=c8w hr (w':=w) (Nat.le_refl _) (ks:=[o]) (as:=l.take n) ⟨hr.base o _ g c ho rfl hs,.inr ⟨o,by simp,_,c,ho,rfl,hs⟩⟩ (fun _ _ _ => rfl) h2 hsz hc h3 h6 taken
   (fun b hb => a0a.lt _ _ _ h4 b (hsub.subset hb)) (fun b hb => (h5 b (hsub.subset hb)).2) (fun _ => by simp)
  rw [hks] at k1 k2
  refine ⟨_,_,k1,k2,a,cap,rfl,by omega,hn,hm,?_⟩
  have e1:upd σ h.length (some (g,c)) h.length = some (g,c):=by simp [upd]
  rw [e1]
  exact hσ
theorem RVs.set {σ:Sg} {h:List l7} {a b:AV}:∀ {as:List AV} {vs:List Value} {i:Nat},RVs C σ h w as vs → as[i]? = some a → (∀ v,RV C σ h w a v → RV C σ h w b v) → RVs C σ h w (as.set i b) vs
 | [],_,_,_,hi,_ => by simp at hi
 | x :: as,vs,0,hr,hi,hb => by
  simp at hi; subst hi
  simp only [RVs,List.set_cons_zero] at hr ⊢
  obtain ⟨v,vs',e,h1,h2⟩:=hr
  exact ⟨v,vs',e,hb v h1,h2⟩
 | x :: as,vs,i + 1,hr,hi,hb => by
  simp only [RVs,List.set_cons_succ] at hr ⊢
  obtain ⟨v,vs',e,h1,h2⟩:=hr
  exact ⟨v,vs',e,h1,RVs.set h2 (by simpa using hi) hb⟩
theorem e0z (hmf:C.mm = false) (hr:o9 C σ φ h w) (hok:∀ b,C.mine b → C.ok b) {o lo n z:Nat} {l:List AV} {v:Value} (ho:h[o]? = some (.row z l)) (hv:RV C σ h w (.own o lo n) v) :
  RV C σ (h.set o .dead) w (.lst z ((l.drop lo).take n)) v:=by
 have hab:a0r false h [.own o lo n] = some ([.lst z ((l.drop lo).take n)],[o]):=by simp only [a0r,a1y,ho]; rfl
 obtain ⟨fp,r1,r2,r3⟩:=b6m hmf hr hok hab (vs:=[v]) (by simp only [RVs]; exact ⟨v,[],rfl,hv,rfl⟩)
 simp only [a0x] at r1
 obtain ⟨cs,vs',f1,f2,e,k1,⟨e1,e2⟩,e3⟩:=r1
 subst e1 e2
 simp only [List.append_nil] at e3
 subst e3
 cases e
 refine Rep.rv _ _ _ k1 fun b hb => ⟨⟨r2 b hb,fun hm => by rw [hmf] at hm; cases hm⟩,?_⟩
 rintro ⟨o',x',c',e1,e2,e3⟩
 have hks:kill h [o] = h.set o .dead:=rfl
 rw [← hks] at e1
 obtain ⟨m1,m2⟩:=a7x e1 e2
 obtain ⟨k,q1,q2⟩:=r3 b hb ⟨o',x',c',m1,e2,e3⟩
 have hk:k = o:=by simpa using q1
 subst hk
 rcases q2 with ⟨x,c,y1,y2,y3⟩ | ⟨y1,x',y2,y3⟩
 ·have:=hr.inj _ _ _ _ _ _ _ m1 e2 y1 y2 e3 y3
  subst this
  exact m2 q1
 ·exact (hr.phix y2 y3 y1).2 ⟨o',_,c',m1,e2,e3⟩
end
section
variable {C:Ctx} {w0:World} {σ0:Sg} {h0:List l7} {N:Nat}
theorem St.turn {t t':Nat → AV} {h h':List l7} {a:Act} {w:World} (hs:St C w0 σ0 h0 N t h a w)
  (hk:∀ F,FrX C w F → ∀ σ φ,o9 (C.frz F) σ φ h w → (∀ n,RV (C.frz F) σ h w (t n) (a.tmps.getD n Go.undef)) → ∃ σ' φ',o9 (C.frz F) σ' φ' h' w ∧ EvX (C.frz F) σ h w σ' h' w ∧ ∀ n,RV (C.frz F) σ' h' w (t' n) (a.tmps.getD n Go.undef)) :
  St C w0 σ0 h0 N t' h' a w:=by
 obtain ⟨F,σ,φ,hF,h1,h2,h3⟩:=hs.rel
 obtain ⟨σ',φ',g1,g2,g3⟩:=hk F hF σ φ h1 h3
 exact ⟨⟨F,σ',φ',hF,g1,h2.trans (hF.ev g2),g3⟩,hs.size,hs.defers,hs.below⟩
theorem e6o {C:Ctx} (hok:∀ b,C.mine b → C.ok b) {g:Gh} (hf:g.frzs = true → C.mm = false) {t t':Nat → AV} {h h':List l7} {a:Act} {w:World} (hg:gh1 t h g = some (t',h')) {σ:Sg} {φ:Nat → List Nat} (hr:o9 C σ φ h w) (ht:∀ n,RV C σ h w (t n) (a.tmps.getD n Go.undef)) :
  ∃ σ' φ',o9 C σ' φ' h' w ∧ EvX C σ h w σ' h' w ∧ ∀ n,RV C σ' h' w (t' n) (a.tmps.getD n Go.undef):=by
 cases g with
 | kill o =>
  simp only [gh1,Option.some.injEq,Prod.mk.injEq] at hg
  obtain ⟨rfl,rfl⟩:=hg
  obtain ⟨h1,h2⟩:=c1r hr o
  exact ⟨_,_,h1,h2.x,fun n => h2.rv _ _ (ht n)⟩
 | nilT s z =>
  simp only [gh1] at hg
  split at hg
  ·rename_i z' he
   cases hg
   obtain ⟨h1,h2⟩:=c4z hr z'
   refine ⟨_,_,h1,h2.x,fun n => ?_⟩
   unfold upd
   split
   ·rename_i hn
    subst hn
    have:=ht n
    rw [he] at this
    simp only [RV] at this
    exact c9c hr z' this
   ·exact h2.rv _ _ (ht n)
  ·cases hg
 | nilC o i z =>
  simp only [gh1] at hg
  split at hg
  ·rename_i n cs z' ho
   split at hg
   ·rename_i hc
    cases hg
    obtain ⟨h1,h2⟩:=c4z hr z'
    have ho':(h ++ [l7.row (z' + 1) []])[o]? = some (.box n (.agg cs)):=by
     rw [List.getElem?_append_left (List.getElem?_eq_some_iff.1 ho).1]; exact ho
    obtain ⟨k1,k2⟩:=d7w h1 ho' (v':=.agg (cs.set i (.own h.length 0 0))) (fun vs hvs => RVs.set hvs hc (fun v hv => by
     simp only [RV] at hv
     exact c9c hr z' hv))
    have e:(h ++ [l7.row (z' + 1) []]).set o (.box n (.agg (cs.set i (.own h.length 0 0)))) = h.set o (.box n (.agg (cs.set i (.own h.length 0 0)))) ++ [l7.row (z' + 1) []]:=by
     rw [List.set_append_left _ _ (List.getElem?_eq_some_iff.1 ho).1]
    rw [e] at k1 k2
    exact ⟨_,_,k1,(h2.trans k2).x,fun n => (h2.trans k2).rv _ _ (ht n)⟩
   ·cases hg
  ·rename_i n z' ho
   cases hg
   obtain ⟨h1,h2⟩:=c4z hr z'
   have ho':(h ++ [l7.row (z' + 1) []])[o]? = some (.box n .nil):=by
    rw [List.getElem?_append_left (List.getElem?_eq_some_iff.1 ho).1]; exact ho
   obtain ⟨k1,k2⟩:=d7w h1 ho' (v':=.own h.length 0 0) (fun vs hvs => by
    simp only [AV.cells,RVs] at hvs ⊢
    obtain ⟨v,vs',e,h3,h4⟩:=hvs
    simp only [RV] at h3
    exact ⟨v,vs',e,c9c hr z' h3,h4⟩)
   have e:(h ++ [l7.row (z' + 1) []]).set o (.box n (.own h.length 0 0)) = h.set o (.box n (.own h.length 0 0)) ++ [l7.row (z' + 1) []]:=by
    rw [List.set_append_left _ _ (List.getElem?_eq_some_iff.1 ho).1]
   rw [e] at k1 k2
   exact ⟨_,_,k1,(h2.trans k2).x,fun n => (h2.trans k2).rv _ _ (ht n)⟩
  ·cases hg
 | frz s =>
  have hmf:=hf rfl
  simp only [gh1] at hg
  split at hg
  ·rename_i o lo n he
   split at hg
   ·rename_i z l ho
    cases hg
    obtain ⟨h1,h2⟩:=c1r hr o
    refine ⟨_,_,h1,h2.x,fun m => ?_⟩
    unfold upd
    split
    ·rename_i hn
     subst hn
     have:=ht m
     rw [he] at this
     exact e0z hmf hr hok ho this
    ·exact h2.rv _ _ (ht m)
   ·cases hg
  ·cases hg
 | frzC o i =>
  have hmf:=hf rfl
  simp only [gh1] at hg
  split at hg
  ·rename_i m cs ho
   split at hg
   ·rename_i q lo n hc
    split at hg
    ·rename_i z l hq
     cases hg
     obtain ⟨h1,h2⟩:=c1r hr q
     have hne:q ≠ o:=by intro he; subst he; rw [ho] at hq; cases hq
     have ho':(h.set q .dead)[o]? = some (.box m (.agg cs)):=by
      rw [List.getElem?_set_ne hne]; exact ho
     obtain ⟨g,cur,e,q1,q2,q3,q4⟩:=hr.obj o _ ho
     have hcs:RVs C σ (h.set q .dead) w (cs.set i (.lst z ((l.drop lo).take n))) cur.toList:=by
      have hq4:RVs C σ h w cs cur.toList:=q4
      have:=h2.rvs _ _ hq4
      have key:∀ {as:List AV} {vs:List Value} {i:Nat},RVs C σ h w as vs → as[i]? = some (.own q lo n) → RVs C σ (h.set q .dead) w (as.set i (.lst z ((l.drop lo).take n))) vs:=by
       intro as
       induction as with
       | nil => intro vs i _ hi; simp at hi
       | cons x as ih =>
        intro vs i hr' hi
        cases i with
        | zero =>
         simp at hi; subst hi
         simp only [RVs,List.set_cons_zero] at hr' ⊢
         obtain ⟨v,vs',e,k1,k2⟩:=hr'
         exact ⟨v,vs',e,e0z hmf hr hok hq k1,h2.rvs _ _ k2⟩
        | succ i =>
         simp only [RVs,List.set_cons_succ] at hr' ⊢
         obtain ⟨v,vs',e,k1,k2⟩:=hr'
         exact ⟨v,vs',e,h2.rv _ _ k1,ih k2 (by simpa using hi)⟩
      exact key hq4 hc
     have key:=h1.turn (w':=w) ho' (x':=.box m (.agg (cs.set i (.lst z ((l.drop lo).take n))))) rfl rfl q1 (ks:=[]) (by simp) (fx:=φ o) rfl (fun _ _ => rfl) (fun ev => ⟨g,cur,e,q1,q2,q3,ev.rvs _ _ hcs⟩) (by intro _ e; cases e)
     simp only [kill] at key
     exact ⟨_,_,key.1,(h2.trans key.2).x,fun n => (h2.trans key.2).rv _ _ (ht n)⟩
    ·cases hg
   ·cases hg
  ·cases hg
 | nilS s i z =>
  simp only [gh1] at hg
  split at hg
  ·rename_i cs z' he
   split at hg
   ·rename_i hc
    cases hg
    obtain ⟨h1,h2⟩:=c4z hr z'
    refine ⟨_,_,h1,h2.x,fun n => ?_⟩
    unfold upd
    split
    ·rename_i hn
     subst hn
     have:=ht n
     rw [he] at this
     simp only [RV] at this ⊢
     obtain ⟨arr,e,hv⟩:=this
     exact ⟨arr,e,RVs.set (h2.rvs _ _ hv) hc (fun v hv => by simp only [RV] at hv; exact c9c hr z' hv)⟩
    ·exact h2.rv _ _ (ht n)
   ·cases hg
  ·cases hg
 | mv o =>
  simp only [gh1] at hg
  split at hg
  ·rename_i z l ho
   cases hg
   obtain ⟨h1,h2,h3⟩:=f0h hr ho
   exact ⟨_,_,h1,h2.x,fun n => h3 _ _ (ht n)⟩
  ·cases hg
 | trim s =>
  simp only [gh1] at hg
  split at hg
  ·rename_i o n he
   split at hg
   ·rename_i z l ho
    cases hg
    have hv:=ht s
    rw [he] at hv
    simp only [RV,ho] at hv
    obtain ⟨σ',φ',h1,h2,h3⟩:=e4j hr hok ho hv
    refine ⟨_,_,h1,h2.x,fun m => ?_⟩
    unfold upd
    split
    ·rename_i hn
     subst hn
     simp only [RV,List.getElem?_append_right (Nat.le_refl _),List.length_set,Nat.sub_self,List.getElem?_cons_zero]
     rw [List.getElem?_append_right (by simp)]
     obtain ⟨_,_,_,q1,_⟩:=hv
     have hln:(l.take n).length = n:=by rw [List.length_take]; omega
     rw [hln] at h3 ⊢
     simpa [hln] using h3
    ·exact h2.rv _ _ (ht m)
   ·cases hg
  ·cases hg
 | cls o =>
  simp only [gh1] at hg
  split at hg
  ·rename_i z l i el ho
   split at hg
   ·rename_i el' ks hab
    split at hg
    ·rename_i hc
     cases hg
     simp only [Bool.and_eq_true] at hc
     have hdm:C.dm = true:=(hr.obj o _ ho).2.1.2
     obtain ⟨φ',h1,h2⟩:=e0q hr hok ho (by rw [hdm]; exact hab) (d5d hc.1.1) (e2q hc.1.2) hc.2
     exact ⟨_,_,h1,h2.x,fun n => h2.rv _ _ (ht n)⟩
    ·cases hg
   ·cases hg
  ·cases hg
 | frzS s i =>
  have hmf:=hf rfl
  simp only [gh1] at hg
  split at hg
  ·rename_i cs he
   split at hg
   ·rename_i q lo n hc
    split at hg
    ·rename_i z l hq
     cases hg
     obtain ⟨h1,h2⟩:=c1r hr q
     refine ⟨_,_,h1,h2.x,fun m => ?_⟩
     unfold upd
     split
     ·rename_i hn
      subst hn
      have:=ht m
      rw [he] at this
      simp only [RV] at this ⊢
      obtain ⟨arr,e,hv⟩:=this
      refine ⟨arr,e,?_⟩
      have key:∀ {as:List AV} {vs:List Value} {i:Nat},RVs C σ h w as vs → as[i]? = some (.own q lo n) → RVs C σ (h.set q .dead) w (as.set i (.lst z ((l.drop lo).take n))) vs:=by
       intro as
       induction as with
       | nil => intro vs i _ hi; simp at hi
       | cons x as ih =>
        intro vs i hr' hi
        cases i with
        | zero =>
         simp at hi; subst hi
         simp only [RVs,List.set_cons_zero] at hr' ⊢
         obtain ⟨v,vs',e,k1,k2⟩:=hr'
         exact ⟨v,vs',e,e0z hmf hr hok hq k1,h2.rvs _ _ k2⟩
        | succ i =>
         simp only [RVs,List.set_cons_succ] at hr' ⊢
         obtain ⟨v,vs',e,k1,k2⟩:=hr'
         exact ⟨v,vs',e,h2.rv _ _ k1,ih k2 (by simpa using hi)⟩
      exact key hv hc
     ·exact h2.rv _ _ (ht m)
    ·cases hg
   ·cases hg
  ·cases hg
theorem e6p (hok:∀ b,C.mine b → C.ok b) {g:Gh} (hf:g.frzs = true → C.mm = false) {t t':Nat → AV} {h h':List l7} {a:Act} {w:World} (hs:St C w0 σ0 h0 N t h a w) (hg:gh1 t h g = some (t',h')):St C w0 σ0 h0 N t' h' a w :=
 hs.turn fun F hF σ φ hr ht => e6o (C:=C.frz F) (hF.hok hok) hf hg hr ht
theorem f0i (hok:∀ b,C.mine b → C.ok b) {t t':Nat → AV} {h h':List l7} {a:Act} {w:World} {g:Gh} (hs:St C w0 σ0 h0 N t h a w) (hg:f3c C.mm t h g = some (t',h')):St C w0 σ0 h0 N t' h' a w:=by
 unfold f3c at hg
 cases hm:C.mm with
 | false =>
  rw [hm] at hg
  exact e6p hok (fun _ => hm) hs hg
 | true =>
  rw [hm] at hg
  cases hf:g.frzs with
  | true => simp only [hf] at hg; cases hg
  | false =>
   simp only [hf] at hg
   exact e6p hok (fun h => by rw [hf] at h; cases h) hs hg
theorem d5k (hok:∀ b,C.mine b → C.ok b) {a:Act} {w:World}:∀ {gs:List Gh} {t t':Nat → AV} {h h':List l7},St C w0 σ0 h0 N t h a w → ghs C.mm t h gs = some (t',h') → St C w0 σ0 h0 N t' h' a w
 | [],t,t',h,h',hs,hg => by simp only [ghs,Option.some.injEq,Prod.mk.injEq] at hg; obtain ⟨rfl,rfl⟩:=hg; exact hs
 | g :: gs,t,t',h,h',hs,hg => by
  simp only [ghs] at hg
  split at hg
  ·rename_i t1 h1 e
   exact d5k hok (f0i hok hs e) hg
  ·cases hg
end
end Go.R
end
section
set_option linter.all false
namespace Go.R
open Go Go.RowKit
def d7x:Nat → Nat → List Nat → Bool
 | 0,_,_ => true
 | n + 1,i,j :: js => Nat.beq j i && d7x n (i + 1) js
 | _ + 1,_,[] => false
def e2u (x:Nat):List Nat → Bool
 | [] => true
 | y :: ys => !(Nat.beq x y) && e2u x ys
def f0j:List Nat → Bool
 | [] => true
 | x :: xs => e2u x xs && f0j xs
def f0k (len:Nat):List Nat → Bool
 | [] => true
 | x :: xs => Nat.ble (x + 1) len && f0k len xs
def b2b (n0 len:Nat) (js:List Nat):Bool:=d7x n0 0 js && f0j js && f0k len js
theorem d3m:∀ (n i:Nat) (js:List Nat),d7x n i js = true → js.take n = List.range' i n ∧ n ≤ js.length
 | 0,i,js,_ => by simp
 | n + 1,i,[],h => by simp [d7x] at h
 | n + 1,i,j :: js,h => by
  simp only [d7x,Bool.and_eq_true] at h
  obtain ⟨h1,h2⟩:=d3m n (i + 1) js h.2
  have:j = i:=Nat.eq_of_beq_eq_true h.1
  subst this
  simp [h1,h2,List.range'_succ]
theorem d3n {x:Nat}:∀ {ys:List Nat},e2u x ys = true → x ∉ ys
 | [],_ => by simp
 | y :: ys,h => by
  simp only [e2u,Bool.and_eq_true,Bool.not_eq_true'] at h
  have h1:=d3n h.2
  have h2:x ≠ y:=Nat.ne_of_beq_eq_false h.1
  simp [h1,h2]
theorem d7y:∀ {js:List Nat},f0j js = true → js.Nodup
 | [],_ => by simp
 | j :: js,h => by
  simp only [f0j,Bool.and_eq_true] at h
  exact List.nodup_cons.2 ⟨d3n h.1,d7y h.2⟩
theorem d7z {len:Nat}:∀ {js:List Nat},f0k len js = true → ∀ j ∈ js,j < len
 | [],_ => by simp
 | x :: js,h => by
  simp only [f0k,Bool.and_eq_true] at h
  intro j hj
  rcases List.mem_cons.1 hj with rfl | hj
  ·exact Nat.le_of_ble_eq_true h.1
  ·exact d7z h.2 j hj
section
variable {C:Ctx} {σ:Sg} {φ:Nat → List Nat} {h:List l7} {w:World} {js:List Nat}
theorem b8q {K:Nat → Prop} (hn:js.Nodup) (hin:∀ j ∈ js,j < h.length) (b:Nat) (h1:K b) (h2:¬ liveAt h σ b):K b ∧ ¬ liveAt (b1z h js) (b5y σ js) b :=
 ⟨h1,fun hl => h2 (b0m hn hin hl)⟩
theorem d3o (hn:js.Nodup) (hin:∀ j ∈ js,j < h.length) (hr:o9 C σ φ h w):o9 C (b5y σ js) (c4t φ js) (b1z h js) w where
 obj k y hk:=by
  obtain ⟨o,x,g1,g2,rfl⟩:=(a4x hin).1 hk
  have hob:=hr.obj o x g2
  have e1:b5y σ js k = σ o:=by simp only [b5y,g1]
  have e2:c4t φ js k = φ o:=by simp only [c4t,g1]
  cases x with
  | dead => trivial
  | box sz v =>
   obtain ⟨g,cur,e,h1,h2,h3,h4⟩:=hob
   exact ⟨g,cur,e,by rw [e1]; exact h1,h2,h3,b2a (b6l hn hin) (b8q hn hin) _ _ h4⟩
  | map m =>
   obtain ⟨g,cur,e,h1,h2,h3,h4⟩:=hob
   exact ⟨g,cur,e,by rw [e1]; exact h1,h2,h3.ren _,by rw [c4q]; exact b5k (b6l hn hin) (b8q hn hin) _ _ h4⟩
  | row sz l =>
   obtain ⟨h0,hob⟩:=hob
   refine ⟨h0,?_⟩
   rw [e1,e2]
   cases hs:σ o with
   | none => rw [hs] at hob; exact hob
   | some p =>
    rw [hs] at hob
    obtain ⟨h1,cur,e,h2,h3,h4,h5⟩:=hob
    exact ⟨h1,cur,e,h2,h3,h4,fun b hb => b8q hn hin b (h5 b hb).1 (h5 b hb).2⟩
  | rowx sz l i el =>
   obtain ⟨hz,hmm,hi,g,c,cur,e,f1,f2,k1,k2,k3,k4,k5,k6,k7,k7',k8,k9⟩:=hob
   exact ⟨hz,hmm,hi,g,c,cur,e,f1,f2,by rw [e1]; exact k1,k2,k3,k4,k5,b2a (b6l hn hin) (b8q hn hin) _ _ k6,k7,by rw [b5j]; exact k7',by rw [e2]; exact k8,fun b hb => by rw [e2] at hb; exact b8q hn hin b (k9 b hb).1 (k9 b hb).2⟩
 inj k k' y y' b c c' hk hy hk' hy' hs hs':=by
  obtain ⟨o,x,g1,g2,rfl⟩:=(a4x hin).1 hk
  obtain ⟨o',x',g1',g2',rfl⟩:=(a4x hin).1 hk'
  rw [a5m] at hy hy'
  simp only [b5y,g1] at hs
  simp only [b5y,g1'] at hs'
  have:=hr.inj o o' x x' b c c' g2 hy g2' hy' hs hs'
  subst this
  have e1:=(a5e hn).2 g1
  have e2:=(a5e hn).2 g1'
  rw [e1] at e2
  exact Option.some.inj e2
 base k y b c hk hy hs:=by
  obtain ⟨o,x,g1,g2,rfl⟩:=(a4x hin).1 hk
  rw [a5m] at hy
  simp only [b5y,g1] at hs
  exact hr.base o x b c g2 hy hs
 deepx hdm k y hk hy:=by
  obtain ⟨o,x,g1,g2,rfl⟩:=(a4x hin).1 hk
  rw [b6k] at hy
  have e2:c4t φ js k = φ o:=by simp only [c4t,g1]
  obtain ⟨d1,d2,d3⟩:=hr.deepx hdm o x g2 hy
  rw [e2]
  refine ⟨d1,d2,?_⟩
  intro k' y' hk' hy' hne b hb
  obtain ⟨o',x',g1',g2',rfl⟩:=(a4x hin).1 hk'
  rw [b6k] at hy'
  have e2':c4t φ js k' = φ o':=by simp only [c4t,g1']
  rw [e2']
  refine d3 o' x' g2' hy' (fun he => ?_) b hb
  subst he
  have e1:=(a5e hn).2 g1
  have e3:=(a5e hn).2 g1'
  rw [e1] at e3
  exact hne (Option.some.inj e3).symm
theorem e2v {n0:Nat} {σ0:Sg} {h0:List l7} {w0:World} (hn:js.Nodup) (hin:∀ j ∈ js,j < h.length) (hp:js.take n0 = List.range n0) (hle:n0 ≤ js.length) (h0n:h0.length ≤ n0) (ev:EvX C σ0 h0 w0 σ h w):EvX C σ0 h0 w0 (b5y σ js) (b1z h js) w where
 obj o x ho hx:=by
  have hlt:o < n0:=by have:=(List.getElem?_eq_some_iff.1 ho).1; omega
  have hj:js[o]? = some o:=by
   have:(js.take n0)[o]? = some o:=by rw [hp]; simp [hlt]
   rw [List.getElem?_take_of_lt hlt] at this
   exact this
  have key:∀ y,h[o]? = some y → (b1z h js)[o]? = some (a5w (a7r js) y) ∧ b5y σ js o = σ o:=fun y hy => ⟨(a4x hin).2 ⟨o,y,hj,hy,rfl⟩,by simp only [b5y,hj]⟩
  rcases ev.obj o x ho hx with hd | ⟨e,x',hx',hs⟩
  ·exact .inl (key _ hd).1
  ·obtain ⟨k1,k2⟩:=key _ hx'
   refine .inr ⟨k2.trans e,_,k1,?_⟩
   cases x <;> cases x' <;> simp_all [sameShape,a5w]
 gone o ho:=by
  have hlt:o < n0:=by have:=(List.getElem?_eq_some_iff.1 ho).1; omega
  have hj:js[o]? = some o:=by
   have:(js.take n0)[o]? = some o:=by rw [hp]; simp [hlt]
   rw [List.getElem?_take_of_lt hlt] at this
   exact this
  exact (a4x hin).2 ⟨o,.dead,hj,ev.gone o ho,rfl⟩
 live b hb hl:=ev.live b hb (b0m hn hin hl)
 blk:=ev.blk
 size:=ev.size
end
def c8t (f:Nat → Option Nat) (t:Nat → AV):List (Nat × AV) → Prop
 | [] => True
 | (k,v) :: r => Le (ren f (t k)) v ∧ c8t f t r
theorem d8a {f:Nat → Option Nat} {t:Nat → AV}:∀ {bs:List (Nat × AV)},c8t f t bs → ∀ p ∈ bs,Le (ren f (t p.1)) p.2
 | [],_,p,hp => by simp at hp
 | (k,v) :: r,hf,p,hp => by
  simp only [c8t] at hf
  rcases List.mem_cons.1 hp with rfl | hp
  ·exact hf.1
  ·exact d8a hf.2 p hp
def a3e (m:Bool) (n0:Nat) (t:Nat → AV) (h:List l7) (s:List (Nat × AV) × List l7):Prop :=
 ∃ gs js t' h',ghs m t h gs = some (t',h') ∧ b2b n0 h'.length js = true ∧ c8t (a7r js) t' s.1 ∧ LeH (b1z h' js) s.2
section
variable {C:Ctx} {w0:World} {σ0:Sg} {h0:List l7} {N n0:Nat}
theorem b8r {len:Nat} {js:List Nat} (h:b2b n0 len js = true):js.take n0 = List.range n0 ∧ n0 ≤ js.length ∧ js.Nodup ∧ ∀ j ∈ js,j < len:=by
 simp only [b2b,Bool.and_eq_true] at h
 obtain ⟨h1,h2⟩:=d3m _ _ _ h.1.1
 exact ⟨by rw [h1,List.range_eq_range'],h2,d7y h.1.2,d7z h.2⟩
theorem a3e.rel {t:Nat → AV} {h:List l7} {a:Act} {w:World} {s:List (Nat × AV) × List l7} (hok:∀ b,C.mine b → C.ok b) (hn:h0.length ≤ n0) (hs:St C w0 σ0 h0 N t h a w) (hf:a3e C.mm n0 t h s) :
  ∃ F σ φ,FrX C w F ∧ o9 (C.frz F) σ φ s.2 w ∧ EvX C σ0 h0 w0 σ s.2 w ∧ ∀ p ∈ s.1,RV (C.frz F) σ s.2 w p.2 (a.tmps.getD p.1 Go.undef):=by
 obtain ⟨gs,js,t',h',h1,h2,f1,f2⟩:=hf
 obtain ⟨k1,k2,k3,k4⟩:=b8r h2
 have hs':=d5k hok hs h1
 obtain ⟨F,σ,φ,g0,g1,g2,g3⟩:=hs'.rel
 refine ⟨F,_,_,g0,f2.heap (d3o k3 k4 g1),(e2v k3 k4 k1 k2 hn g2).trans f2.ev.x,fun p hp => ?_⟩
 exact f2.ev.rv _ _ (Le.rv (d8a f1 p hp) _ (d0b (b6l k3 k4) (b8q k3 k4) _ _ (g3 p.1)))
end
end Go.R
end
section
set_option linter.all false
namespace Go.R
open Go Go.RowKit
inductive a0m where
 | skip
 | reg (T:a1j)
 | seq (a b:a0m)
 | cond (c:AX) (a b:a0m)
 | block (id:Nat) (c:a0m)
 | loop (c:a0m)
 | exit (id:Nat)
 | ret
 | cut (c:a0m)
 | rev (c:a0m)
def a0m.erase:a0m → a0m
 | .skip => .skip
 | .reg T => .reg T
 | .seq a b => .seq a.erase b.erase
 | .cond c a b => .cond c a.erase b.erase
 | .block id c => .block id c.erase
 | .loop c => .loop c.erase
 | .exit id => .exit id
 | .ret => .ret
 | .cut c => c.erase
 | .rev c => c.erase
inductive c5a where
 | norm
 | exit (id:Nat)
 | ret
def ofL:List (Nat × AV) → Nat → AV
 | [],_ => .undef
 | (k,v) :: r,n => if n = k then v else ofL r n
abbrev AQ:=c5a → (Nat → AV) → List l7 → Prop
def kN (Q:AQ) (t:Nat → AV) (h:List l7):Prop:=Q .norm t h
def b3v (F:(Nat → AV) → List l7 → AQ → Prop) (Q:AQ):c5a → (Nat → AV) → List l7 → Prop
 | .norm,t,h => F t h Q
 | .exit i,t,h => Q (.exit i) t h
 | .ret,t,h => Q .ret t h
def a2s (id:Nat) (Q:AQ):c5a → (Nat → AV) → List l7 → Prop
 | .norm,t,h => Q .norm t h
 | .exit i,t,h => if i = id then Q .norm t h else Q (.exit i) t h
 | .ret,t,h => Q .ret t h
def b9x {X:Type} (m:Bool) (n0:Nat) (S:X → List (Nat × AV) × List l7) (μ:X → Nat) (x:X) (Q:AQ):c5a → (Nat → AV) → List l7 → Prop
 | .norm,t,h => ∃ y,μ y < μ x ∧ a3e m n0 t h (S y)
 | .exit i,t,h => Q (.exit i) t h
 | .ret,t,h => Q .ret t h
def f3g (c:AX) (b:Bool) (t:Nat → AV):Nat → AV:=match c with
 | .t n => upd t n (.bool b)
 | .c _ => t
def e6q (m:Bool) (n0:Nat) (F:(Nat → AV) → List l7 → AQ → Prop) (t:Nat → AV) (h:List l7) (Q:AQ):Prop :=
 ∃ (X:Type) (S:X → List (Nat × AV) × List l7) (μ:X → Nat) (x0:X),a3e m n0 t h (S x0) ∧ ∀ x,F (ofL (S x).1) (S x).2 (b9x m n0 S μ x Q)
def f0l (m:Bool) (n0:Nat) (F:(Nat → AV) → List l7 → AQ → Prop) (t:Nat → AV) (h:List l7) (Q:AQ):Prop :=
 ∃ s,a3e m n0 t h s ∧ F (ofL s.1) s.2 Q
def b3q (dm:Md) (t:Nat → AV) (h:List l7) (F:(Nat → AV) → List l7 → Prop):Prop :=
 (∃ (o i f z:Nat) (l:List AV) (el:AV) (z':Nat) (l':List AV),h[o]? = some (.row z l) ∧ l[i]? = some el ∧ el.cells[f]? = some (.lst z' l') ∧ ∀ v,F t (h.set o (.row z (l.set i (b7z el f (.hdr v z' l')))))) ∨
 ((dm.m = true ∧ dm.d = true) ∧ ∃ (o i z:Nat) (l:List AV) (el el2:AV) (xs:List l7),h[o]? = some (.row z l) ∧ l[i]? = some el ∧ a8x h.length el.cells = (el2.cells,xs) ∧ F t (h.set o (.rowx z l i el2) ++ xs)) ∨
 ∃ gs t' h' h'',ghs dm.m t h gs = some (t',h') ∧ LeH h' h'' ∧ F t' h''
def awp (P:Program) (dm:Md) (n0:Nat):a0m → (Nat → AV) → List l7 → AQ → Prop
 | .skip,t,h,Q => Q .norm t h
 | .reg T,t,h,Q => a0l P dm T t h (kN Q)
 | .seq a b,t,h,Q => awp P dm n0 a t h (b3v (awp P dm n0 b) Q)
 | .cond c a b,t,h,Q => match c.ev t with
  | .bool v => if v = true then awp P dm n0 a (f3g c true t) h Q else awp P dm n0 b (f3g c false t) h Q
  | _ => False
 | .block id c,t,h,Q => awp P dm n0 c t h (a2s id Q)
 | .loop c,t,h,Q => e6q dm.m n0 (awp P dm n0 c) t h Q
 | .exit i,t,h,Q => Q (.exit i) t h
 | .ret,t,h,Q => Q .ret t h
 | .cut c,t,h,Q => f0l dm.m n0 (awp P dm n0 c) t h Q
 | .rev c,t,h,Q => b3q dm t h fun t' h' => awp P dm n0 c t' h' Q
theorem d3p {c:AX} {b:Bool} {t:Nat → AV} (h:c.ev t = .bool b):f3g c b t = t:=by
 cases c with
 | t n => exact b5s h
 | c v => rfl
def a7s (P:Program) (N:Nat):Code → Option a0m
 | .skip => some .skip
 | .label _ => some .skip
 | .region _ ops draw => match ocs P ops N ops.toList with
  | none => none
  | some rs => match draw with
   | false => some (.reg (lin rs))
   | true => match chk ops rs with
    | true => some (.reg (mkT ops rs (ops.size + 1) []))
    | false => none
 | .seq a b => match a7s P N a,a7s P N b with
  | some a,some b => some (.seq a b)
  | _,_ => none
 | .cond c a b => match cx c,a7s P N a,a7s P N b with
  | some c,some a,some b => some (.cond c a b)
  | _,_,_ => none
 | .block id c => match a7s P N c with
  | some c => some (.block id c)
  | none => none
 | .loop c => match a7s P N c with
  | some c => some (.loop c)
  | none => none
 | .scope c => a7s P N c
 | .exit i => some (.exit i)
 | .ret => some .ret
 | _ => none
section
variable {P:Program} {C:Ctx} {w0:World} {σ0:Sg} {h0:List l7} {N n0:Nat}
theorem e6r {σ:Sg} {h:List l7} {w:World} {g:Nat → Value}:∀ (bs:List (Nat × AV)),(∀ p ∈ bs,RV C σ h w p.2 (g p.1)) → ∀ n,RV C σ h w (ofL bs n) (g n)
 | [],_,n => by simp only [ofL,RV]
 | (k,v) :: r,hb,n => by
  simp only [ofL]
  split
  ·rename_i he; subst he; exact hb (n,v) (List.mem_cons_self ..)
  ·exact e6r r (fun p hp => hb p (List.mem_cons_of_mem _ hp)) n
theorem a3e.st {t:Nat → AV} {h:List l7} {a:Act} {w:World} {s:List (Nat × AV) × List l7} (hok:∀ b,C.mine b → C.ok b) (hn:h0.length ≤ n0) (hs:St C w0 σ0 h0 N t h a w) (hf:a3e C.mm n0 t h s):St C w0 σ0 h0 N (ofL s.1) s.2 a w:=by
 obtain ⟨F,σ,φ,h0',h1,h2,h3⟩:=hf.rel hok hn hs
 exact ⟨⟨F,σ,φ,h0',h1,h2,e6r (g:=fun n => a.tmps.getD n Go.undef) s.1 h3⟩,hs.size,hs.defers,hs.below⟩
theorem b3q.st (hok:∀ b,C.mine b → C.ok b) {t:Nat → AV} {h:List l7} {a:Act} {w:World} {F:(Nat → AV) → List l7 → Prop} (hs:St C w0 σ0 h0 N t h a w) (hk:b3q C.md t h F):∃ t' h',St C w0 σ0 h0 N t' h' a w ∧ F t' h':=by
 rcases hk with ⟨o,i,f,z,l,el,z',l',h1,h2,h3,h4⟩ | ⟨⟨hmm,hdm⟩,o,i,z,l,el,el2,xs,h1,h2,h3,h4⟩ | ⟨gs,t',h',h'',h1,h2,h3⟩
 ·obtain ⟨F,σ,φ,g0,g1,g2,g3⟩:=hs.rel
  obtain ⟨v,φ',k1,k2⟩:=d5f g1 h1 h2 h3
  exact ⟨t,_,⟨⟨F,σ,φ',g0,k1,g2.trans k2.x,fun n => k2.rv _ _ (g3 n)⟩,hs.size,hs.defers,hs.below⟩,h4 v⟩
 ·obtain ⟨F,σ,φ,g0,g1,g2,g3⟩:=hs.rel
  obtain ⟨σ',φ',k1,k2⟩:=e4c (C:=C.frz F) hmm hdm g1 h1 h2 h3
  exact ⟨t,_,⟨⟨F,σ',φ',g0,k1,g2.trans (g0.ev k2),fun n => k2.rv _ _ (g3 n)⟩,hs.size,hs.defers,hs.below⟩,h4⟩
 ·have hs':=d5k hok hs h1
  obtain ⟨F,σ,φ,g0,g1,g2,g3⟩:=hs'.rel
  exact ⟨t',h'',⟨⟨F,σ,φ,g0,h2.heap g1,g2.trans h2.ev.x,fun n => h2.ev.rv _ _ (g3 n)⟩,hs'.size,hs'.defers,hs'.below⟩,h3⟩
theorem c3x {p:Nat → Prop} (h:∃ n,p n):∃ n,p n ∧ ∀ m,p m → n ≤ m:=by
 obtain ⟨n,hn⟩:=h
 induction n using Nat.strongRecOn with
 | _ n ih =>
  by_cases hm:∃ m,m < n ∧ p m
  ·obtain ⟨m,h1,h2⟩:=hm
   exact ih m h1 h2
  ·exact ⟨n,hn,fun m hm' => Nat.le_of_not_lt fun hlt => hm ⟨m,hlt,hm'⟩⟩
inductive c5b (Q:Exit → Act → World → Prop):c5a → Act → World → Prop
 | norm {a w}:Q .normal a w → c5b Q .norm a w
 | exit {i a w}:Q (.exit i) a w → c5b Q (.exit i) a w
 | ret {a w}:Q .ret a w → c5b Q .ret a w
theorem St.drew {t:Nat → AV} {h:List l7} {a:Act} {w:World} (hs:St C w0 σ0 h0 N t h a w):St C w0 σ0 h0 N t h a { w with drawn:=w.drawn + 1 }:=by
 obtain ⟨F,σ,φ,h0',h1,h2,h3⟩:=hs.rel
 have g:b5q w { w with drawn:=w.drawn + 1 }:=b5q.drew w
 exact ⟨⟨F,σ,φ,h0'.grow (Nat.le_refl _),g.heap h1,h2.trans g.ev.x,fun n => g.ev.rv _ _ (h3 n)⟩,hs.size,hs.defers,hs.below.trans ⟨rfl,rfl,rfl,Nat.le_refl _,fun _ _ => rfl⟩⟩
theorem a1w (hmd:C.mm = true → C.dm = true) (hm:P.follows .mixedOrders = true) (hok:∀ b,C.mine b → C.ok b) (hb:∀ b,w0.heap.size ≤ b → C.mine b) (hn:h0.length ≤ n0) (ac:a0m) (code:Code) (hc:a7s P N code = some ac.erase)
  (t:Nat → AV) (h:List l7) (a:Act) (w:World) (Q:c5a → (Nat → AV) → List l7 → Prop) (Q':Exit → Act → World → Prop)
   (hs:St C w0 σ0 h0 N t h a w) (hk:awp P C.md n0 ac t h Q) (hQ:∀ e t h a w,St C w0 σ0 h0 N t h a w → Q e t h → c5b Q' e a w):code.wp P Q' a w:=by
 cases code with
 | scope x =>
  simp only [a7s] at hc
  refine wp_scope_straight (a1w hmd hm hok hb hn ac x hc t h a w Q _ hs hk ?_)
  intro e t' h' a' w' hs' hk'
  cases hQ _ _ _ _ _ hs' hk' with
  | norm hq => exact .norm hq
  | exit hq => exact .exit hq
  | ret hq => exact .ret hq
 | skip =>
  cases ac with
  | cut c =>
   obtain ⟨s,h1,h2⟩:=hk
   exact a1w hmd hm hok hb hn c .skip hc _ _ a w Q Q' (h1.st hok hn hs) h2 hQ
  | rev c =>
   obtain ⟨t',h',h1,h2⟩:=b3q.st hok hs hk
   exact a1w hmd hm hok hb hn c .skip hc _ _ a w Q Q' h1 h2 hQ
  | skip =>
   cases hQ _ _ _ _ _ hs hk with
   | norm hq => exact wp_skip hq
  | _ => simp [a7s,a0m.erase] at hc
 | label l =>
  cases ac with
  | cut c =>
   obtain ⟨s,h1,h2⟩:=hk
   exact a1w hmd hm hok hb hn c (.label l) hc _ _ a w Q Q' (h1.st hok hn hs) h2 hQ
  | rev c =>
   obtain ⟨t',h',h1,h2⟩:=b3q.st hok hs hk
   exact a1w hmd hm hok hb hn c (.label l) hc _ _ a w Q Q' h1 h2 hQ
  | skip =>
   cases hQ _ _ _ _ _ hs hk with
   | norm hq => exact wp_label hq
  | _ => simp [a7s,a0m.erase] at hc
 | exit i =>
  cases ac with
  | cut c =>
   obtain ⟨s,h1,h2⟩:=hk
   exact a1w hmd hm hok hb hn c (.exit i) hc _ _ a w Q Q' (h1.st hok hn hs) h2 hQ
  | rev c =>
   obtain ⟨t',h',h1,h2⟩:=b3q.st hok hs hk
   exact a1w hmd hm hok hb hn c (.exit i) hc _ _ a w Q Q' h1 h2 hQ
  | exit j =>
   simp only [a7s,a0m.erase,Option.some.injEq,a0m.exit.injEq] at hc
   subst hc
   cases hQ _ _ _ _ _ hs hk with
   | exit hq => exact wp_exit hq
  | _ => simp [a7s,a0m.erase] at hc
 | ret =>
  cases ac with
  | cut c =>
   obtain ⟨s,h1,h2⟩:=hk
   exact a1w hmd hm hok hb hn c .ret hc _ _ a w Q Q' (h1.st hok hn hs) h2 hQ
  | rev c =>
   obtain ⟨t',h',h1,h2⟩:=b3q.st hok hs hk
   exact a1w hmd hm hok hb hn c .ret hc _ _ a w Q Q' h1 h2 hQ
  | ret =>
   cases hQ _ _ _ _ _ hs hk with
   | ret hq => exact wp_ret hq
  | _ => simp [a7s,a0m.erase] at hc
 | region id ops draw =>
  cases ac with
  | cut c =>
   obtain ⟨s,h1,h2⟩:=hk
   exact a1w hmd hm hok hb hn c (.region id ops draw) hc _ _ a w Q Q' (h1.st hok hn hs) h2 hQ
  | rev c =>
   obtain ⟨t',h',h1,h2⟩:=b3q.st hok hs hk
   exact a1w hmd hm hok hb hn c (.region id ops draw) hc _ _ a w Q Q' h1 h2 hQ
  | reg T =>
   simp only [a7s,a0m.erase] at hc
   simp only [awp] at hk
   cases hrs:ocs P ops N ops.toList with
   | none => rw [hrs] at hc; cases hc
   | some rs =>
    rw [hrs] at hc
    simp only at hc
    have hq:∀ t h a w,St C w0 σ0 h0 N t h a w → Q .norm t h → Q' .normal a w:=by
     intro t h a w hs hk
     cases hQ _ _ _ _ _ hs hk with
     | norm hq => exact hq
    cases draw with
    | false =>
     simp only at hc
     cases hc
     exact wp_region_list (d3k hmd hok hb (d5j hrs) hq _ rs t h a w hrs hs hk)
    | true =>
     simp only at hc
     split at hc
     ·rename_i hch
      cases hc
      refine wp_region_any hm ?_
      have hnl:∀ i,¬ LT (Array.replicate ops.size false) i:=by
       intro i hl
       unfold LT at hl
       rcases Nat.lt_or_ge i ops.size with h | h
       ·simp [h] at hl
       ·simp [h] at hl
      refine e0y hrs hch hmd hok hb hq ops.size _ (List.range ops.size) (ops.size + 1) [] t h a a _ (List.nodup_range) ?_ (by simp) ⟨by simp,fun i hl => absurd hl (hnl i),by simp,fun i hl => absurd hl (hnl i),trivial,hs.drew,hs.size,hs.defers,fun _ _ => rfl⟩ hk
      intro i
      rw [List.mem_range]
      exact ⟨fun hi => ⟨hi,hnl i⟩,fun hi => hi.1⟩
     ·cases hc
  | _ =>
   simp only [a7s,a0m.erase] at hc
   split at hc
   ·cases hc
   ·split at hc
    ·cases hc
    ·split at hc <;> cases hc
 | seq x y =>
  cases ac with
  | cut c =>
   obtain ⟨s,h1,h2⟩:=hk
   exact a1w hmd hm hok hb hn c (.seq x y) hc _ _ a w Q Q' (h1.st hok hn hs) h2 hQ
  | rev c =>
   obtain ⟨t',h',h1,h2⟩:=b3q.st hok hs hk
   exact a1w hmd hm hok hb hn c (.seq x y) hc _ _ a w Q Q' h1 h2 hQ
  | seq ax ay =>
   simp only [a7s,a0m.erase] at hc
   split at hc
   ·rename_i e1 e2
    simp only [Option.some.injEq,a0m.seq.injEq] at hc
    obtain ⟨rfl,rfl⟩:=hc
    simp only [awp] at hk
    refine wp_seq (a1w hmd hm hok hb hn ax x e1 t h a w _ _ hs hk ?_)
    intro e t' h' a' w' hs' hk'
    cases e with
    | norm => exact .norm (a1w hmd hm hok hb hn ay y e2 t' h' a' w' Q Q' hs' hk' hQ)
    | exit i =>
     cases hQ _ _ _ _ _ hs' hk' with
     | exit hq => exact .exit hq
    | ret =>
     cases hQ _ _ _ _ _ hs' hk' with
     | ret hq => exact .ret hq
   ·cases hc
  | _ =>
   simp only [a7s,a0m.erase] at hc
   split at hc <;> cases hc
 | cond c x y =>
  cases ac with
  | cut c' =>
   obtain ⟨s,h1,h2⟩:=hk
   exact a1w hmd hm hok hb hn c' (.cond c x y) hc _ _ a w Q Q' (h1.st hok hn hs) h2 hQ
  | rev c' =>
   obtain ⟨t',h',h1,h2⟩:=b3q.st hok hs hk
   exact a1w hmd hm hok hb hn c' (.cond c x y) hc _ _ a w Q Q' h1 h2 hQ
  | cond ca ax ay =>
   simp only [a7s,a0m.erase] at hc
   split at hc
   ·rename_i e0 e1 e2
    simp only [Option.some.injEq,a0m.cond.injEq] at hc
    obtain ⟨rfl,rfl,rfl⟩:=hc
    simp only [awp] at hk
    obtain ⟨F,σ,φ,g0,g1,g2,g3,g4⟩:=hs.env
    have hv:=g4 c _ e0
    split at hk
    ·rename_i v hv'
     rw [hv'] at hv
     simp only [RV] at hv
     refine wp_cond_split hv (fun hvt => ?_) (fun hvf => ?_)
     ·subst hvt
      rw [if_pos rfl,d3p hv'] at hk
      exact a1w hmd hm hok hb hn ax x e1 t h a w Q Q' hs hk hQ
     ·subst hvf
      rw [if_neg (by simp),d3p hv'] at hk
      exact a1w hmd hm hok hb hn ay y e2 t h a w Q Q' hs hk hQ
    ·exact hk.elim
   ·cases hc
  | _ =>
   simp only [a7s,a0m.erase] at hc
   split at hc <;> cases hc
 | block id x =>
  cases ac with
  | cut c =>
   obtain ⟨s,h1,h2⟩:=hk
   exact a1w hmd hm hok hb hn c (.block id x) hc _ _ a w Q Q' (h1.st hok hn hs) h2 hQ
  | rev c =>
   obtain ⟨t',h',h1,h2⟩:=b3q.st hok hs hk
   exact a1w hmd hm hok hb hn c (.block id x) hc _ _ a w Q Q' h1 h2 hQ
  | block id' ax =>
   simp only [a7s,a0m.erase] at hc
   split at hc
   ·rename_i e1
    simp only [Option.some.injEq,a0m.block.injEq] at hc
    obtain ⟨rfl,rfl⟩:=hc
    simp only [awp] at hk
    refine wp_block (a1w hmd hm hok hb hn ax x e1 t h a w _ _ hs hk ?_)
    intro e t' h' a' w' hs' hk'
    cases e with
    | norm =>
     cases hQ _ _ _ _ _ hs' hk' with
     | norm hq => exact .norm hq
    | exit i =>
     refine .exit ?_
     simp only [Exit.inBlock]
     by_cases he:i = id
     ·rw [if_pos he]
      simp only [a2s,if_pos he] at hk'
      cases hQ _ _ _ _ _ hs' hk' with
      | norm hq => exact hq
     ·rw [if_neg he]
      simp only [a2s,if_neg he] at hk'
      cases hQ _ _ _ _ _ hs' hk' with
      | exit hq => exact hq
    | ret =>
     cases hQ _ _ _ _ _ hs' hk' with
     | ret hq => exact .ret hq
   ·cases hc
  | _ =>
   simp only [a7s,a0m.erase] at hc
   split at hc <;> cases hc
 | loop x =>
  cases ac with
  | cut c =>
   obtain ⟨s,h1,h2⟩:=hk
   exact a1w hmd hm hok hb hn c (.loop x) hc _ _ a w Q Q' (h1.st hok hn hs) h2 hQ
  | rev c =>
   obtain ⟨t',h',h1,h2⟩:=b3q.st hok hs hk
   exact a1w hmd hm hok hb hn c (.loop x) hc _ _ a w Q Q' h1 h2 hQ
  | loop ax =>
   simp only [a7s,a0m.erase] at hc
   split at hc
   ·rename_i e1
    simp only [Option.some.injEq,a0m.loop.injEq] at hc
    subst hc
    simp only [awp] at hk
    obtain ⟨X,S,μ,x0,hf,hround⟩:=hk
    have hmin:∀ a w,(∃ x,St C w0 σ0 h0 N (ofL (S x).1) (S x).2 a w) → ∃ n,∃ x,μ x = n ∧ St C w0 σ0 h0 N (ofL (S x).1) (S x).2 a w:=fun a w ⟨x,hx⟩ => ⟨μ x,x,rfl,hx⟩
    classical
    let M:Act → World → Nat:=fun a w => if he:∃ n,∃ x,μ x = n ∧ St C w0 σ0 h0 N (ofL (S x).1) (S x).2 a w then Classical.choose (c3x he) else 0
    refine wp_loop (fun a w => ∃ x,St C w0 σ0 h0 N (ofL (S x).1) (S x).2 a w) M ⟨x0,hf.st hok hn hs⟩ ?_
    intro a1 w1 hI
    have he:=hmin a1 w1 hI
    obtain ⟨x1,hx1,hs1⟩:=(Classical.choose_spec (c3x he)).1
    have hM:M a1 w1 = μ x1:=by simp only [M]; rw [dif_pos he,hx1]
    refine a1w hmd hm hok hb hn ax x e1 _ _ a1 w1 _ _ hs1 (hround x1) ?_
    intro e t' h' a' w' hs' hk'
    cases e with
    | norm =>
     obtain ⟨y,hy,hfy⟩:=hk'
     have hs2:=hfy.st hok hn hs'
     refine .norm ⟨⟨y,hs2⟩,?_⟩
     have he2:∃ n,∃ x,μ x = n ∧ St C w0 σ0 h0 N (ofL (S x).1) (S x).2 a' w':=⟨μ y,y,rfl,hs2⟩
     have:M a' w' ≤ μ y:=by simp only [M]; rw [dif_pos he2]; exact (Classical.choose_spec (c3x he2)).2 _ ⟨y,rfl,hs2⟩
     omega
    | exit i =>
     cases hQ _ _ _ _ _ hs' hk' with
     | exit hq => exact .exit hq
    | ret =>
     cases hQ _ _ _ _ _ hs' hk' with
     | ret hq => exact .ret hq
   ·cases hc
  | _ =>
   simp only [a7s,a0m.erase] at hc
   split at hc <;> cases hc
 | rangeFunc a b c d => simp [a7s] at hc
 | goto _ => simp [a7s] at hc
 | refuse _ => simp [a7s] at hc
termination_by SizeOf.sizeOf ac + SizeOf.sizeOf code
end
end Go.R
end
section
set_option linter.all false
namespace Go.R
open Go Go.RowKit
def d2q (P:Program):List ResultVar → Option (List AOp)
 | [] => some []
 | .tmp s :: r => match d2q P r with
  | some l => some (.mov (.t s) :: l)
  | none => none
 | .cell s ty :: r => match d2q P r,isz P ty,iag P ty with
  | some l,some (n + 1),some ag => some (.load (n + 1) ag (.t s) :: l)
  | _,_,_ => none
def b8a (P:Program) (fn:Func):Option (a0m × List AOp × Nat):=match fn.body,d2q P fn.results.toList with
 | some c,some s => match a7s P fn.ntmps c with
  | some a => some (a,s,fn.ntmps)
  | none => none
 | _,_ => none
def pack:List AV → AV
 | [x] => x
 | xs => .tup xs
def cmD:CM → Bool
 | .fresh => true
 | _ => false
def rflat:AV → Bool
 | .agg as => b9f as && as.all AV.isCell
 | .tup _ => false
 | a => R.flat a && a.isCell
def rflats:List AV → Bool
 | [] => true
 | a :: as => rflat a && rflats as
def Ret (cm:CM) (h:List l7) (vs:List AV) (r:AV):Prop:=match cm with
 | .flat => rflats vs = true ∧ r = pack vs
 | .weak => match a0r false h vs with
  | some (bs,_) => r = pack bs
  | none => False
 | .fresh => match a0r true h vs with
  | some (bs,ks) => ks.Nodup ∧ r = pack bs
  | none => False
def d5l (args:List AV) (n:Nat):AV:=args.getD n .undef
def b6f (m:Bool) (t:Nat → AV) (h:List l7):List AOp → Prop
 | [] => True
 | o :: os => aqQ m o (AX.ev t) h ∧ b6f m t h os
def b4h (t:Nat → AV) (h:List l7):List AOp → List AV
 | [] => []
 | o :: os => aqV o (AX.ev t) h :: b4h t h os
theorem c6q {m:Bool} {t:Nat → AV} {h:List l7}:∀ {os:List AOp},b6f m t h os → ∀ o ∈ os,aqQ m o (AX.ev t) h
 | [],_,o,ho => by simp at ho
 | x :: os,hp,o,ho => by
  simp only [b6f] at hp
  rcases List.mem_cons.1 ho with rfl | ho
  ·exact hp.1
  ·exact c6q hp.2 o ho
theorem c6r {t:Nat → AV} {h:List l7}:∀ {os:List AOp},b4h t h os = os.map fun o => aqV o (AX.ev t) h
 | [] => rfl
 | o :: os => by simp only [b4h,List.map_cons,c6r]
def f3h (m:Bool) (cm:CM) (os:List AOp) (t:Nat → AV) (h:List l7) (r:AV):Prop:=b6f m t h os ∧ ∃ r',Ret cm h (b4h t h os) r' ∧ Le r' r
def d0q (m:Bool) (cm:CM) (os:List AOp) (r:AV):c5a → (Nat → AV) → List l7 → Prop
 | .exit _,_,_ => False
 | .norm,t,h => f3h m cm os t h r
 | .ret,t,h => f3h m cm os t h r
section
variable {P:Program} {C:Ctx} {σ:Sg} {φ:Nat → List Nat} {h:List l7} {w:World}
theorem d2r (hr:o9 C σ φ h w) {t:Nat → AV} {ρ:Operand → Value} (he:a7u C σ h w t ρ) {s n:Nat} {ty:TypeId} {ag:Bool} (h1:isz P ty = some (n + 1)) (h2:iag P ty = some ag) (hp:aqP (.load (n + 1) ag (.t s)) (AX.ev t) h) (hmm:mmP C.mm (.load (n + 1) ag (.t s)) (AX.ev t) h) :
  ∃ v,(asAddr (ρ (.tmp s)) >>= fun a => loadVar ty a).run P w = .ok v w ∧ RV C σ h w (aqV (.load (n + 1) ag (.t s)) (AX.ev t) h) v:=by
 obtain ⟨v, q1, q2, _⟩ := d4z (P := P) hr { dst := none, op := .load ty (.tmp s), type := 0, pos := "", after := #[], guard := none } (ao := .load (n + 1) ag (.t s)) (by simp only [oc, h1, h2, cx]) rfl he hp hmm
 refine ⟨v,?_,q2⟩
 have hv:=he (.tmp s) _ rfl
 simp only [AX.ev] at hv
 have hshape:∃ a,ρ (.tmp s) = .pointer (some a):=by
  simp only [aqP,AX.ev] at hp
  cases ht:t s with
  | iptr el f =>
   rw [ht] at hv
   simp only [RV] at hv
   obtain ⟨fp,⟨cs,e,hr'⟩,_⟩:=hv
   obtain ⟨c,rfl,e2⟩:=hr'.cell rfl
   simp only [Rep] at hr'
   obtain ⟨b,off,sz,cur,el',fz,fps,h3,_⟩:=hr'
   cases h3
   exact ⟨_,e.trans e2⟩
  | ptr o i f =>
   rw [ht] at hv hp
   simp only [RV] at hv
   cases ho:h[o]? with
   | none => rw [ho] at hv; exact hv.elim
   | some x =>
    rw [ho] at hv
    cases x with
    | dead => simp only [ho] at hp
    | map _ => simp only [ho] at hp
    | box _ _ => obtain ⟨_,g,c,_,e⟩:=hv; exact ⟨_,e⟩
    | row _ _ => obtain ⟨_,g,c,_,e⟩:=hv; exact ⟨_,e⟩
    | rowx _ _ _ _ => obtain ⟨_,g,c,_,e⟩:=hv; exact ⟨_,e⟩
  | _ => simp only [ht] at hp
 obtain ⟨a,ha⟩:=hshape
 simp only [execOp,ha,Instr.loadAt,Instr.sureAddr,Sem.run_bind,Sem.run_pure,Result.andThen_ok] at q1
 rw [ha]
 simp only [asAddr,Sem.run_bind,Sem.run_pure,Result.andThen_ok]
 cases hrun:(loadVar ty a).run P w with
 | ok u w' =>
  rw [hrun] at q1
  simp only [Result.andThen_ok,Result.ok.injEq,Next.value.injEq] at q1
  rw [q1.1,q1.2]
 | halt x w' => rw [hrun] at q1; cases q1
theorem c7t (hr:o9 C σ φ h w) {t:Nat → AV} {a:Act} (ht:∀ n,RV C σ h w (t n) (a.tmps.getD n Go.undef)) {fn:Func} {os:List AOp} (hs:d2q P fn.results.toList = some os) (hp:∀ o ∈ os,aqQ C.mm o (AX.ev t) h) :
  ∃ vs,RVs C σ h w (os.map fun o => aqV o (AX.ev t) h) vs ∧ (results fn a.tmps).run P w = .ok (if hh:vs.length = 1 then vs[0]'(by omega) else .tuple vs.toArray) w:=by
 have he:=a7u.of_act ht
 have key:∀ (g:ResultVar → Sem Value),(∀ t,g (.tmp t) = pure (a.tmps.getD t undef)) → (∀ s ty,g (.cell s ty) = (asAddr (a.eval (.tmp s)) >>= fun a => loadVar ty a)) → ∀ (l:List ResultVar) (os:List AOp),d2q P l = some os → (∀ o ∈ os,aqQ C.mm o (AX.ev t) h) →
   ∃ vs,(l.mapM g).run P w = .ok vs w ∧ RVs C σ h w (os.map fun o => aqV o (AX.ev t) h) vs:=by
  intro g hg hg2 l
  induction l with
  | nil => intro os hs _; simp only [d2q] at hs; cases hs; exact ⟨[],by simp [List.mapM_nil],by simp [RVs]⟩
  | cons x l ih =>
   intro os hs hp
   cases x with
   | cell s ty =>
    simp only [d2q] at hs
    split at hs
    ·rename_i l' n ag h1 h2 h3
     cases hs
     obtain ⟨vs,g1,g2⟩:=ih l' h1 (fun o ho => hp o (List.mem_cons_of_mem _ ho))
     obtain ⟨v,k1,k2⟩:=d2r (P:=P) hr he h2 h3 (hp _ (List.mem_cons_self ..)).p (hp _ (List.mem_cons_self ..)).m
     refine ⟨v :: vs,?_,by simp only [List.map_cons,RVs]; exact ⟨_,_,rfl,k2,g2⟩⟩
     rw [List.mapM_cons,hg2]
     simp only [Sem.run_bind] at k1 ⊢
     rw [k1]
     simp only [Sem.run_bind,Sem.run_pure,Result.andThen_ok,g1]
    ·cases hs
   | tmp s =>
    simp only [d2q] at hs
    cases h1:d2q P l with
    | none => simp [h1] at hs
    | some l' =>
     simp only [h1,Option.some.injEq] at hs
     subst hs
     obtain ⟨vs,g1,g2⟩:=ih l' h1 (fun o ho => hp o (List.mem_cons_of_mem _ ho))
     refine ⟨a.tmps.getD s undef :: vs,?_,by simp only [List.map_cons,RVs]; exact ⟨_,_,rfl,ht s,g2⟩⟩
     rw [List.mapM_cons,hg]
     simp only [Sem.run_bind,Sem.run_pure,Result.andThen_ok,g1]
 unfold results
 obtain ⟨vs,k1,k2⟩:=key (fun
  | .tmp t => pure (a.tmps.getD t undef)
  | .cell b t => do loadVar t (← asAddr (a.tmps.getD b undef))) (fun _ => rfl) (fun _ _ => rfl) _ _ hs hp
 refine ⟨vs,k2,?_⟩
 rw [← Array.toArray_toList (xs:=fn.results),List.mapM_toArray]
 simp only [map_eq_pure_bind,bind_assoc,pure_bind]
 rw [Sem.run_bind]
 have k1':=k1
 simp only [Sem.run_pure] at k1' ⊢
 erw [k1]
 simp only [Result.andThen_ok,Sem.run_pure,List.size_toArray]
 rfl
theorem RV.flatCell {m:Bool} {a:AV} {v:Value} (hf:R.flat a = true) (hc:a.isCell = true) (hr:RV C σ h w a v):Rep m w a [v] []:=by
 cases a with
 | int k n => simp only [RV] at hr; subst hr; simp [Rep]
 | bool n => simp only [RV] at hr; subst hr; simp [Rep]
 | str n => simp only [RV] at hr; obtain ⟨rfl,h2⟩:=hr; simp [Rep,h2]
 | nil => simp only [RV] at hr; subst hr; simp [Rep]
 | agg _ => simp [AV.isCell] at hc
 | _ => simp [R.flat] at hf
theorem RVs.flatCells {m:Bool}:∀ (as:List AV) (vs:List Value),b9f as = true → as.all AV.isCell = true → RVs C σ h w as vs → a0b m w as vs []
 | [],vs,_,_,hr => by simp only [RVs] at hr; subst hr; simp [a0b]
 | a :: as,vs,hf,hc,hr => by
  simp only [b9f,Bool.and_eq_true] at hf
  simp only [List.all_cons,Bool.and_eq_true] at hc
  simp only [RVs] at hr
  obtain ⟨v,vs',rfl,h1,h2⟩:=hr
  simp only [a0b]
  exact ⟨v,vs',[],[],rfl,hc.1,RV.flatCell hf.1 hc.1 h1,RVs.flatCells as vs' hf.2 hc.2 h2,rfl⟩
theorem RV.rflat {m:Bool} {a:AV} {v:Value} (hf:R.rflat a = true) (hr:RV C σ h w a v):∃ cs,v = mkV a cs ∧ Rep m w a cs []:=by
 by_cases hc:a.isCell = true
 ·have hf':R.flat a = true:=by
   cases a <;> first | (simp [AV.isCell] at hc; done) | (simp only [R.rflat,Bool.and_eq_true] at hf; exact hf.1)
  have:=RV.flatCell (m:=m) hf' hc hr
  obtain ⟨c,e1,e2⟩:=this.cell hc
  cases e1
  exact ⟨[v],e2.symm,this⟩
 ·cases a with
  | agg as =>
   simp only [R.rflat,Bool.and_eq_true] at hf
   simp only [RV] at hr
   obtain ⟨vs,rfl,hr⟩:=hr
   exact ⟨vs.toList,by simp [mkV],by simp only [Rep]; exact RVs.flatCells as _ hf.1 hf.2 hr⟩
  | tup _ => simp [R.rflat] at hf
  | _ => simp [AV.isCell] at hc
theorem RVs.rflats {m:Bool}:∀ (as:List AV) (vs:List Value),R.rflats as = true → RVs C σ h w as vs → a0x m w as vs []
 | [],vs,_,hr => by simp only [RVs] at hr; subst hr; simp [a0x]
 | a :: as,vs,hf,hr => by
  simp only [R.rflats,Bool.and_eq_true] at hf
  simp only [RVs] at hr
  obtain ⟨v,vs',rfl,h1,h2⟩:=hr
  obtain ⟨cs,e,g1⟩:=RV.rflat (m:=m) hf.1 h1
  simp only [a0x]
  exact ⟨cs,vs',[],[],by rw [e],g1,RVs.rflats as vs' hf.2 h2,rfl⟩
theorem a0x.pack {m:Bool} {as:List AV} {vs:List Value} {fp:List Nat} (hr:a0x m w as vs fp):b6h m w (R.pack as) (if hh:vs.length = 1 then vs[0]'(by omega) else .tuple vs.toArray) fp:=by
 have hl:=hr.length
 cases as with
 | nil =>
  have:vs = []:=List.eq_nil_of_length_eq_zero hl
  subst this
  exact ⟨[],by simp [R.pack,mkV],by simpa only [R.pack,Rep] using hr⟩
 | cons a as =>
  cases as with
  | nil =>
   simp only [a0x] at hr
   obtain ⟨cs,vs',f1,f2,rfl,h1,⟨rfl,rfl⟩,rfl⟩:=hr
   exact ⟨cs,by simp [R.pack],by simpa [R.pack] using h1⟩
  | cons b as =>
   have hne:¬ vs.length = 1:=by rw [hl]; simp
   rw [dif_neg hne]
   exact ⟨vs,by simp [R.pack,mkV],by simpa only [R.pack,Rep] using hr⟩
theorem a0v.of_awp' {md:Md} {f:Nat} {cm:CM} {args:List AV} {r:AV} {fn:Func} {ac:a0m} {slots:List AOp} {N:Nat} (hmd:md.m = true → md.d = true) (hcm:cm = .fresh → md.d = true) (hcw:cm = .weak → md.d = false) (hm:P.follows .mixedOrders = true) (hf:P.funcs[f]? = some fn) (hc:b8a P fn = some (ac.erase,slots,N)) (hl:args.length ≤ N)
  (hk:awp P md 0 ac (d5l args) [] (d0q md.m cm slots r)):a0v P f cm args r:=by
 intro w vals fps hargs
 unfold b8a at hc
 split at hc
 ·rename_i c s hb hs
  split at hc
  ·rename_i ac' hac
   simp only [Option.some.injEq,Prod.mk.injEq] at hc
   obtain ⟨rfl,rfl,rfl⟩:=hc
   let C:Ctx:={ base:=w.heap.size,ok:=fun b => b ∈ fps ∨ w.heap.size ≤ b,dm:=md.d,fr:=fun _ => False,mm:=md.m,fz:=md.z }
   have hok:∀ b,C.mine b → C.ok b:=fun b hb => .inr hb.1
   have hbb:∀ b,w.heap.size ≤ b → C.mine b:=fun b hb => ⟨hb,fun h => h⟩
   have hr0:o9 C (fun _ => none) (fun _ => []) [] w:=⟨by simp,by simp,by simp,by simp⟩
   have hnl:∀ b,¬ liveAt ([]:List l7) (fun _ => none) b:=by rintro b ⟨o,x,c,h1,_⟩; simp at h1
   have hrv:RVs C (fun _ => none) [] w args vals:=a0x.rvs args vals fps hargs (fun b hb => ⟨⟨.inl hb,fun _ hm => by have h1:=hargs.lt _ _ _ b hb; have h2:=hm.1; have h3:w.heap.size ≤ b:=h2; omega⟩,hnl b⟩)
   have hvl:=hargs.length
   have hst:St C w (fun _ => none) [] fn.ntmps (d5l args) [] { tmps:=vals.toArray ++ Array.replicate (fn.ntmps - vals.toArray.size) undef,defers:=[] } w:=by
    refine ⟨⟨C.fr,_,_,FrX.refl _ _,hr0,EvX.refl _ _ _,fun n => ?_⟩,by simp; omega,rfl,Below.refl _ _⟩
    unfold d5l
    by_cases hn:n < args.length
    ·have:=(hrv.get hn).1
     have e:(vals.toArray ++ Array.replicate (fn.ntmps - vals.toArray.size) undef).getD n undef = vals.getD n undef:=by
      have:n < vals.length:=by omega
      simp [this,Array.getElem?_append]
     rw [e]
     exact this
    ·have:args.getD n .undef = .undef:=by simp [List.getElem?_eq_none (Nat.le_of_not_lt hn)]
     rw [this]
     simp only [RV]
   refine calls_of_wp hf hb ?_
   refine a1w (C:=C) (w0:=w) (σ0:=fun _ => none) (h0:=[]) hmd hm hok hbb (n0:=0) (by simp) ac c hac _ _ _ _ _ _ hst hk ?_
   intro e t h a w' hst' hret
   have fin:f3h md.m cm s t h r → a.defers = [] ∧ ∃ v,(results fn a.tmps).run P w' = .ok v w' ∧ Below w.heap.size w w' ∧ f5h cm w w' fps r v:=by
    rintro ⟨hread,r',hret,hle⟩
    have hread:=c6q hread
    rw [c6r] at hret
    obtain ⟨F,σ,φ,g0,g1,g2,g3⟩:=hst'.rel
    obtain ⟨vs,hvs,hrun⟩:=c7t (P:=P) g1 g3 hs hread
    refine ⟨hst'.defers,_,hrun,hst'.below,?_⟩
    have hleV:∀ {m:Bool} {v:Value} {fp:List Nat},b6h m w' r' v fp → b6h m w' r v fp:=by
     rintro m v fp ⟨cs,e,hrep⟩
     exact ⟨cs,by rw [hle.mkV]; exact e,Le.rep hle _ _ hrep⟩
    cases cm with
    | flat =>
     obtain ⟨r1,rfl⟩:=hret
     exact hleV (RVs.rflats _ _ r1 hvs).pack
    | weak =>
     simp only [Ret] at hret
     split at hret
     ·rename_i bs ks hab
      subst hret
      obtain ⟨fp,r1,r2,_⟩:=b6m (C:=C.frz F) (show C.mm = false by have h1:=hcw rfl; cases h2:md.m with | false => exact h2 | true => have:=hmd h2; rw [h1] at this; cases this) g1 (g0.hok hok) hab hvs
      exact ⟨fp,hleV r1.pack,r2⟩
     ·exact hret.elim
    | fresh =>
     simp only [Ret] at hret
     split at hret
     ·rename_i bs ks hab
      obtain ⟨hnd,rfl⟩:=hret
      obtain ⟨fp,r1,r2⟩:=a0r.repVs g1 (g0.hok hok) _ bs ks _ (by rw [show (C.frz F).dm = true from hcm rfl]; exact hab) hvs
      rw [show (C.frz F).dm = true from hcm rfl] at r1
      refine ⟨fp,hleV r1.pack,r2.nodup (hcm rfl) hnd,fun b hb => ?_⟩
      obtain ⟨k,_,hk⟩:=r2.own (hcm rfl) b hb
      exact (hk.base g1 (hcm rfl)).1
     ·exact hret.elim
   cases e with
   | norm =>
    obtain ⟨h1,v,h2,h3⟩:=fin hret
    exact .norm ⟨h1,v,h2,h3⟩
   | ret =>
    obtain ⟨h1,v,h2,h3⟩:=fin hret
    exact .ret ⟨h1,v,h2,h3⟩
   | exit i => exact hret.elim
  ·cases hc
 ·cases hc
theorem a0v.of_awp {f:Nat} {cm:CM} {args:List AV} {r:AV} {fn:Func} {ac:a0m} {slots:List AOp} {N:Nat} (hm:P.follows .mixedOrders = true) (hf:P.funcs[f]? = some fn) (hc:b8a P fn = some (ac.erase,slots,N)) (hl:args.length ≤ N)
  (hk:awp P (cmD cm:Bool) 0 ac (d5l args) [] (d0q false cm slots r)):a0v P f cm args r:=by
 cases cm
 ·exact a0v.of_awp' (md:=(false:Bool)) (by intro h; cases h) (by intro h; cases h) (by intro h; cases h) hm hf hc hl hk
 ·exact a0v.of_awp' (md:=(true:Bool)) (by intro h; cases h) (by intro _; rfl) (by intro h; cases h) hm hf hc hl hk
 ·exact a0v.of_awp' (md:=(false:Bool)) (by intro h; cases h) (by intro h; cases h) (by intro _; rfl) hm hf hc hl hk
theorem RVs.pack {as:List AV} {vs:List Value} (hr:RVs C σ h w as vs):RV C σ h w (R.pack as) (if hh:vs.length = 1 then vs[0]'(by omega) else .tuple vs.toArray):=by
 have hl:=hr.length
 cases as with
 | nil =>
  have:vs = []:=List.eq_nil_of_length_eq_zero (by rw [hl]; rfl)
  subst this
  simp only [R.pack,RV]
  exact ⟨#[],by simp,by simp [RVs]⟩
 | cons a as =>
  cases as with
  | nil =>
   simp only [RVs] at hr
   obtain ⟨v,vs',rfl,h1,rfl⟩:=hr
   simpa [R.pack] using h1
  | cons b as =>
   have hne:¬ vs.length = 1:=by rw [hl]; simp
   rw [dif_neg hne]
   simp only [R.pack,RV]
   exact ⟨vs.toArray,rfl,by simpa using hr⟩
def e6s (m:Bool) (n0:Nat) (os:List AOp) (t:Nat → AV) (h:List l7) (r:AV) (hout:List l7):Prop :=
 ∃ gs js t' h',ghs m t h gs = some (t',h') ∧ b6f m t' h' os ∧ b2b n0 h'.length js = true ∧ LeH (b1z h' js) hout ∧ Le (ren (a7r js) (R.pack (b4h t' h' os))) r
def c7u (m:Bool) (n0:Nat) (os:List AOp) (r:AV) (hout:List l7):c5a → (Nat → AV) → List l7 → Prop
 | .exit _,_,_ => False
 | .norm,t,h => e6s m n0 os t h r hout
 | .ret,t,h => e6s m n0 os t h r hout
theorem a3n.of_awp {dm:Md} {f:Nat} {args:List AV} {hin hout:List l7} {r:AV} {fn:Func} {ac:a0m} {slots:List AOp} {N:Nat} (hm:P.follows .mixedOrders = true) (hf:P.funcs[f]? = some fn) (hc:b8a P fn = some (ac.erase,slots,N)) (hl:args.length ≤ N)
  (hk:awp P dm hin.length ac (d5l args) hin (c7u dm.m hin.length slots r hout)) (hz:dm.z = false:=by rfl):a3n P dm f args hin r hout:=by
 intro C σ φ w vals hdm hmd hok hbb hr0 hrv
 subst hdm
 unfold b8a at hc
 split at hc
 ·rename_i c s hb hs
  split at hc
  ·rename_i ac' hac
   simp only [Option.some.injEq,Prod.mk.injEq] at hc
   obtain ⟨rfl,rfl,rfl⟩:=hc
   have hvl:=hrv.length
   have hst:St C w σ hin fn.ntmps (d5l args) hin { tmps:=vals.toArray ++ Array.replicate (fn.ntmps - vals.toArray.size) undef,defers:=[] } w:=by
    refine ⟨⟨C.fr,_,_,FrX.refl _ _,hr0,EvX.refl _ _ _,fun n => ?_⟩,by simp; omega,rfl,Below.refl _ _⟩
    unfold d5l
    by_cases hn:n < args.length
    ·have:=(hrv.get hn).1
     have e:(vals.toArray ++ Array.replicate (fn.ntmps - vals.toArray.size) undef).getD n undef = vals.getD n undef:=by
      have:n < vals.length:=by omega
      simp [this,Array.getElem?_append]
     rw [e]
     exact this
    ·have:args.getD n .undef = .undef:=by simp [List.getElem?_eq_none (Nat.le_of_not_lt hn)]
     rw [this]
     simp only [RV]
   refine calls_of_wp hf hb ?_
   refine a1w (C:=C) (w0:=w) (σ0:=σ) (h0:=hin) hmd hm hok hbb (n0:=hin.length) (Nat.le_refl _) ac c hac _ _ _ _ _ _ hst hk ?_
   intro e t h a w' hst' hret
   have fin:e6s C.mm hin.length s t h r hout → a.defers = [] ∧ ∃ v,(results fn a.tmps).run P w' = .ok v w' ∧ ∃ σ' φ',o9 C σ' φ' hout w' ∧ EvX C σ hin w σ' hout w' ∧ RV C σ' hout w' r v ∧ Below C.base w w':=by
    rintro ⟨gs,js,t',h',hg,hread,hjs,hlh,hle⟩
    obtain ⟨j1,j2,j3,j4⟩:=b8r hjs
    have hst2:=d5k hok hst' hg
    have hread:=c6q hread
    rw [c6r] at hle
    obtain ⟨F,σ1,φ1,g0,g1,g2,g3⟩:=hst2.rel
    rw [g0.none hz] at g1 g3
    obtain ⟨vs,hvs,hrun⟩:=c7t (P:=P) g1 g3 hs hread
    refine ⟨hst'.defers,_,hrun,_,_,hlh.heap (d3o j3 j4 g1),(e2v j3 j4 j1 j2 (Nat.le_refl _) g2).trans hlh.ev.x,?_,hst'.below⟩
    exact hlh.ev.rv _ _ (Le.rv hle _ (d0b (b6l j3 j4) (b8q j3 j4) _ _ hvs.pack))
   cases e with
   | norm =>
    obtain ⟨h1,v,h2,h3⟩:=fin hret
    exact .norm ⟨h1,v,h2,h3⟩
   | ret =>
    obtain ⟨h1,v,h2,h3⟩:=fin hret
    exact .ret ⟨h1,v,h2,h3⟩
   | exit i => exact hret.elim
  ·cases hc
 ·cases hc
end
end Go.R
end
section
set_option linter.all false
namespace Go.R
open Go Go.RowKit
theorem AV.elem_of_cell {a:AV} (h:a.isCell = true):a.isElem = true:=by cases a <;> first | rfl | (simp [AV.isCell] at h; done)
def e6t (P:Program):Nat → List Field → Nat → Prop
  | off,[],n => off = n
  | off,f :: fs,n => f.offset = off ∧ e6t P (off + P.cellsOf f.type) fs n
def Fa (T:TypeId → List AV → Prop):List Field → List (List AV) → Prop
  | [],[] => True
  | f :: fs,a :: as => T f.type a ∧ Fa T fs as
  | _,_ => False
def e6u (P:Program) (T:TypeId → List AV → Prop) (D:TypeId → Prop) (t:TypeId):Prop:=match P.underlying t with
  | some .bool => ∀ b,T t [.bool b]
  | some (.int k) => ∀ n,(Lit.int k n).wf = true → T t [.int k n]
  | some .string => ∀ s,s.length ≤ maxLen → T t [.str s]
  | some (.slice e) => D e ∧ ∃ ag,iag P e = some ag ∧ 0 < P.cellsOf e ∧ (ag = true ∨ P.cellsOf e = 1) ∧ ∀ l:List AV,l.length ≤ maxLen → (∀ x ∈ l,(ag = true ∧ ∃ as,x = .agg as ∧ T e as) ∨ (ag = false ∧ T e [x])) → T t [.lst (P.cellsOf e) l]
  | some (.struct fs) => e6t P 0 fs.toList (P.cellsOf t) ∧ (∀ f ∈ fs.toList,D f.type) ∧ ∀ ass,Fa T fs.toList ass → T t ass.flatten
  | _ => False
structure Clo (P:Program) (T:TypeId → List AV → Prop) (D:TypeId → Prop) (t:TypeId):Prop where
  h:e6u P T D t
section
variable {H:Type} {enc:TypeId × Value → H} {P:Program} {w:World}
theorem e2w {m:Bool} {sz:Nat}:∀ (n:Nat) (cs:List Value) (Q:AV → Prop),(∀ i,i < n → ((cs.drop (i * sz)).take sz).length = sz ∧ ∃ a fp,Rep m w a ((cs.drop (i * sz)).take sz) fp ∧ a.isElem = true ∧ Q a) →
    ∃ l fp,a0a m w sz l cs fp ∧ l.length = n ∧ ∀ a ∈ l,Q a
  | 0,cs,Q,h => ⟨[],[],by simp [a0a],rfl,by simp⟩
  | n + 1,cs,Q,h => by
    obtain ⟨h1,a,f,h2,h3,h4⟩:=h 0 (by omega)
    simp only [Nat.zero_mul,List.drop_zero] at h1 h2
    obtain ⟨l,fp,g1,g2,g3⟩:=e2w n (cs.drop sz) Q (fun i hi => by
      have:=h (i + 1) (by omega)
      rw [Nat.add_mul,Nat.one_mul,Nat.add_comm] at this
      rwa [List.drop_drop])
    refine ⟨a :: l,f ++ fp,?_,by simp [g2],?_⟩
    · simp only [a0a]
      exact ⟨f,fp,⟨h1,h3⟩,h2,g1,rfl⟩
    · intro x hx
      rcases List.mem_cons.1 hx with rfl | hx
      · exact h4
      · exact g3 x hx
theorem bridge {T:TypeId → List AV → Prop} {D:TypeId → Prop} (hD:∀ t,D t → Clo P T D t):∀ (fuel:Nat) (t:TypeId) (cs:List Value) (x:DataW H × List MemPlace),D t → DataW.trod enc P w 0 (fun _ => true) true fuel t cs = some x →
    ∃ as fp,a0b false w as cs fp ∧ T t as:=by
  intro fuel
  induction fuel using Nat.strongRecOn with
  | _ fuel ihs =>
    intro t cs x hdt h
    have hs:=(hD t hdt).h
    cases fuel with
    | zero => simp [DataW.trod] at h
    | succ fuel =>
    have ih:=ihs fuel (Nat.lt_succ_self _)
    · unfold e6u at hs
      split at hs
      · rename_i ht
        obtain ⟨b,rfl,_⟩:=DataW.trod_bool ht h
        exact ⟨[.bool b],[],by simp [a0b,Rep,AV.isCell],hs b⟩
      · rename_i k ht
        obtain ⟨n,rfl,_,hw⟩:=DataW.trod_int ht h
        exact ⟨[.int k n],[],by simp [a0b,Rep,AV.isCell],hs n hw⟩
      · rename_i ht
        obtain ⟨s,rfl,_,hl⟩:=DataW.trod_string ht h
        obtain ⟨⟨l⟩⟩:=s
        have hl':l.length ≤ maxLen:=hl
        exact ⟨[.str l],[],by simp [a0b,Rep,AV.isCell,hl'],hs l hl'⟩
      · rename_i e ht
        obtain ⟨h1,ag,h2,hc,hc2,hT⟩:=hs
        · · replace hc:0 < P.cellsOf e ∧ (ag = true ∨ P.cellsOf e = 1):=⟨hc,hc2⟩
            rcases DataW.trod_slice ht h with ⟨rfl,_⟩ | ⟨a,len,cap,elems,rest,n,hn,rfl,_,_,hlc,hcm,hlen,hel,_,_⟩
            · exact ⟨[.lst (P.cellsOf e) []],[],by simp only [a0b,Rep]; exact ⟨_,[],[],[],rfl,rfl,.inl ⟨trivial,rfl,none,0,rfl,by simp [maxLen],by simp⟩,⟨rfl,rfl⟩,rfl⟩,hT [] (by simp [maxLen]) (by simp)⟩
            · by_cases hl0:len = 0
              · subst hl0
                exact ⟨[.lst (P.cellsOf e) []],[],by simp only [a0b,Rep]; exact ⟨_,[],[],[],rfl,rfl,.inl ⟨trivial,rfl,_,cap,rfl,hcm,by simp⟩,⟨rfl,rfl⟩,rfl⟩,hT [] (by simp [maxLen]) (by simp)⟩
              · have hnf:n = fuel:=by omega
                subst hnf
                have hel':∀ i,i < len → ∃ cs' y,w.cells? 0 ((a.add (i * P.cellsOf e))) (P.cellsOf e) = some cs' ∧ DataW.trod enc P w 0 (fun _ => true) true n e cs' = some y:=by
                  intro i hi
                  have h9:=hel i hi
                  rw [List.getElem?_eq_getElem (by omega),Option.bind_eq_some_iff] at h9
                  obtain ⟨cs',k1,k2⟩:=h9
                  exact ⟨cs',_,k1,k2⟩
                obtain ⟨cs0,_,h30,_⟩:=hel' 0 (by omega)
                obtain ⟨_,hc0,hc1⟩:=World.cells?_some h30
                have hfirst:=hc1 0 hc.1
                have hex:∃ v,w.cell? (a.add 0) = some v:=by
                  rw [Nat.zero_mul] at hfirst
                  have hlt:0 < cs0.length:=by omega
                  refine ⟨cs0[0],?_⟩
                  have:(a.add 0).add 0 = a.add 0:=by unfold Addr.add; split <;> simp_all
                  rw [← this,hfirst]
                  simp [hlt]
                obtain ⟨v0,hv0⟩:=hex
                have hsp:a.spot = none:=by
                  have:=World.cell?_spot hv0
                  unfold Addr.add at this
                  split at this <;> simp_all
                obtain ⟨b,off,sp⟩:=a
                simp only at hsp
                subst hsp
                have hadd:∀ k,(⟨b,off,none⟩:Addr).add k = ⟨b,off + k,none⟩:=fun k => by unfold Addr.add; split <;> simp_all
                have hadd2:∀ k j,(⟨b,off + k,none⟩:Addr).add j = ⟨b,off + k + j,none⟩:=fun k j => by unfold Addr.add; split <;> simp_all
                obtain ⟨cur,el,fz,hg⟩:∃ cur el fz,w.heap[b]? = some (.cells cur el fz):=by
                  rw [hadd] at hv0
                  unfold World.cell? at hv0
                  simp only at hv0
                  split at hv0
                  · rename_i c1 c2 c3 hh; exact ⟨c1,c2,c3,hh⟩
                  · cases hv0
                have hseg:∀ i,i < len → ∃ cs',cs' = ((cur.toList.drop off).drop (i * P.cellsOf e)).take (P.cellsOf e) ∧ cs'.length = P.cellsOf e ∧ ∃ y,DataW.trod enc P w 0 (fun _ => true) true n e cs' = some y:=by
                  intro i hi
                  obtain ⟨cs',y,k1,k2⟩:=hel' i hi
                  obtain ⟨_,k3,k4⟩:=World.cells?_some k1
                  refine ⟨cs',?_,k3,y,k2⟩
                  apply List.ext_getElem?
                  intro j
                  by_cases hj:j < P.cellsOf e
                  · have:=k4 j hj
                    rw [hadd,hadd2,b7j hg] at this
                    rw [← this,List.getElem?_take,if_pos hj,List.getElem?_drop,List.getElem?_drop,Array.getElem?_toList,Nat.add_assoc]
                  · rw [List.getElem?_eq_none (by omega),List.getElem?_eq_none (by rw [List.length_take]; omega)]
                obtain ⟨l,fp,g1,g2,g3⟩:=e2w (m:=false) (w:=w) len (cur.toList.drop off) (fun x => (ag = true ∧ ∃ as,x = .agg as ∧ T e as) ∨ (ag = false ∧ T e [x])) (fun i hi => by
                  obtain ⟨cs',rfl,k1,y,k2⟩:=hseg i hi
                  refine ⟨k1,?_⟩
                  obtain ⟨as,fp,q1,q2⟩:=ih e _ _ h1 k2
                  cases ag with
                  | true => exact ⟨.agg as,fp,by simpa only [Rep] using q1,rfl,.inl ⟨rfl,as,rfl,q2⟩⟩
                  | false =>
                    have hz:P.cellsOf e = 1:=by rcases hc.2 with h | h; cases h; exact h
                    have hl1:=q1.length
                    rw [k1,hz] at hl1
                    match as,hl1 with
                    | [a1],_ =>
                      simp only [a0b] at q1
                      obtain ⟨c,cs',f1,f2,e1,e2,e3,⟨rfl,rfl⟩,rfl⟩:=q1
                      rw [e1]
                      exact ⟨a1,f1,e3,AV.elem_of_cell e2,.inr ⟨rfl,q2⟩⟩)
                refine ⟨[.lst (P.cellsOf e) l],b :: fp,?_,hT l (by omega) g3⟩
                simp only [a0b,Rep]
                exact ⟨_,[],b :: fp,[],rfl,rfl,.inr ⟨b,off,cap,cur,el,fz,fp,by rw [g2],by omega,hcm,hg,by simp,rfl,hc.1,g1⟩,⟨rfl,rfl⟩,by simp⟩
      · rename_i fs ht
        obtain ⟨ho,hDf,hT⟩:=hs
        obtain ⟨xs,n,hn,_,hlen,hxl,hf⟩:=DataW.trod_struct ht h
        have hn':n = fuel:=by omega
        subst hn'
        have key:∀ (rest:List Field) (off i0:Nat),fs.toList.drop i0 = rest → e6t P off rest (P.cellsOf t) → ∃ ass fp,a0b false w ass.flatten (cs.drop off) fp ∧ Fa T rest ass:=by
          intro rest
          induction rest with
          | nil =>
            intro off i0 _ ho
            simp only [e6t] at ho
            refine ⟨[],[],?_,by simp [Fa]⟩
            rw [List.drop_of_length_le (by omega)]
            simp [a0b]
          | cons f rest ihr =>
            intro off i0 hd ho
            simp only [e6t] at ho
            obtain ⟨ho,ho2⟩:=ho
            have hi0:i0 < fs.toList.length:=by
              rcases Nat.lt_or_ge i0 fs.toList.length with h | h
              · exact h
              · rw [List.drop_of_length_le h] at hd; cases hd
            have hget:fs.toList[i0]? = some f:=by
              have:=congrArg List.head? hd
              rw [List.head?_drop] at this
              simpa using this
            have hfi:=hf i0 f (by rw [← Array.getElem?_toList]; exact hget)
            have hx:∃ y,xs[i0]? = some y:=⟨xs[i0]'(by rw [hxl]; simpa using hi0),by rw [List.getElem?_eq_getElem]⟩
            obtain ⟨y,hy⟩:=hx
            rw [hy,ho] at hfi
            obtain ⟨as,fp,q1,q2⟩:=ih f.type _ _ (hDf f (List.mem_of_getElem? hget)) hfi
            obtain ⟨bs,gp,q3,q4⟩:=ihr (off + P.cellsOf f.type) (i0 + 1) (by rw [← List.drop_drop,hd]; rfl) ho2
            refine ⟨as :: bs,fp ++ gp,?_,⟨q2,q4⟩⟩
            have hsplit:cs.drop off = (cs.drop off).take (P.cellsOf f.type) ++ cs.drop (off + P.cellsOf f.type):=by
              rw [← List.drop_drop,List.take_append_drop]
            rw [hsplit]
            exact q1.append q3
        obtain ⟨ass,fp,q1,q2⟩:=key fs.toList 0 0 rfl ho
        exact ⟨ass.flatten,fp,by simpa using q1,hT ass q2⟩
      · exact hs.elim
end
theorem e6v {α:Type} {enc:α → AV} {Q:α → Prop}:∀ (l:List AV),(∀ x ∈ l,∃ y,x = enc y ∧ Q y) → ∃ ys:List α,l = ys.map enc ∧ ∀ y ∈ ys,Q y
  | [],_ => ⟨[],rfl,by simp⟩
  | a :: l,h => by
    obtain ⟨y,rfl,hy⟩:=h a (by simp)
    obtain ⟨ys,rfl,hys⟩:=e6v l (fun x hx => h x (by simp [hx]))
    exact ⟨y :: ys,rfl,by simpa [hy] using hys⟩
end Go.R
end
section
set_option linter.all false
namespace Go.R
open Go Go.RowKit Go.ChangeShapes Go.WideShapes
def okI (k:IntKind) (n:Int):Prop:=(Lit.int k n).wf = true
def okS (s:List UInt8):Prop:=s.length ≤ maxLen
def okL {α:Type} (p:α → Prop) (l:List α):Prop:=l.length ≤ maxLen ∧ ∀ x ∈ l,p x
section
variable {H:Type} {enc:TypeId × Value → H} {P:Program} {w:World} {T:TypeId → List AV → Prop} {D:TypeId → Prop}
theorem f5q (hD:∀ t,D t → Clo P T D t) {r:Reach} {b0:Nat} {t:TypeId} (ht:∀ fs,P.underlying t ≠ some (.struct fs)) (hdt:D t) {v:Value} {d:DataW H} {p:List MemPlace} (ho:Value.okWide P w r b0 t v)
  (h:DataW.Trod enc P w 0 (fun _ => true) true t v d p):∃ a fp,b6h false w a v fp ∧ T t [a]:=by
 have hv:v.cells.toList = [v]:=by
  have hc:=(hD t hdt).h
  unfold e6u at hc
  split at hc
  ·rename_i hu; obtain ⟨b,rfl⟩:=okWide_bool hu ho; rfl
  ·rename_i k hu; obtain ⟨b,rfl⟩:=okWide_int hu ho; rfl
  ·rename_i hu; obtain ⟨b,rfl⟩:=okWide_string hu ho; rfl
  ·rename_i e hu; obtain ⟨a,b,c,rfl⟩:=okWide_slice hu ho; rfl
  ·rename_i fs hu; exact absurd hu (ht fs)
  ·exact hc.elim
 obtain ⟨fuel,hf⟩:=h
 obtain ⟨as,fp,h1,h2⟩:=bridge hD _ _ _ _ hdt hf
 rw [hv] at h1
 cases as with
 | nil => simp [a0b] at h1
 | cons a as =>
  simp only [a0b] at h1
  obtain ⟨c,cs',f1,f2,e,hc,h3,h4,rfl⟩:=h1
  cases e
  cases as with
  | cons b as => simp [a0b] at h4
  | nil =>
   simp only [a0b] at h4
   obtain ⟨_,rfl⟩:=h4
   obtain ⟨c',e1,e2⟩:=h3.cell hc
   cases e1
   exact ⟨a,f1 ++ [],⟨[v],e2.symm,by simpa using h3⟩,h2⟩
theorem a0x.cons {a:AV} {v:Value} {fp:List Nat} {as:List AV} {vs:List Value} {fq:List Nat} (h:b6h false w a v fp) (t:a0x false w as vs fq):a0x false w (a :: as) (v :: vs) (fp ++ fq):=by
 obtain ⟨cs,e,h⟩:=h
 simp only [a0x]
 exact ⟨cs,vs,fp,fq,by rw [e],h,t,rfl⟩
theorem a0x.nil:a0x false w [] [] []:=by simp [a0x]
theorem e4k {f:Nat} {args:List AV} (hc:a0v P f .flat args (.bool true)) {vals:List Value} {fps:List Nat} (hr:a0x false w args vals fps) :
  Calls P f vals.toArray w fun e w' => e = .returned (.bool true) ∧ Below w.heap.size w w':=by
 refine (hc w vals fps hr).mono ?_
 intro e w' he
 cases e with
 | returned v =>
  obtain ⟨h1,cs,rfl,h2⟩:=he
  simp only [Rep] at h2
  obtain ⟨rfl,_⟩:=h2
  exact ⟨rfl,h1⟩
 | panicked _ => exact he.elim
 | outgrown => exact he.elim
end
end Go.R
end
section
set_option linter.all false
namespace Go.R
open Go Go.RowKit
section
variable {P:Program} {dm:Md} {n0:Nat}
theorem a1t.mono {f:Nat} {as:List AV} {h:List l7} {k k':AV → List l7 → Prop} (hk:∀ r h,k r h → k' r h) (hc:a1t P dm f as h k):a1t P dm f as h k':=by
 rcases hc with ⟨bs,bs',r,h1,hl,h2,h3⟩ | ⟨bs,bs',r,h1,hl,h2,h3⟩ | ⟨hm,bs,bs',ks,r,h1,hl,h2,h3⟩ | ⟨fl,cs,ks,js,args,hi,r,hout,hm,hf,hn,hin,hl,hh,hc,h3⟩ | ⟨hm,bs,bs',r,h1,hl,h2,h3⟩ | ⟨hm,hd,o,i,j,z,z',l,l',l'',el,v,n,n',rfl,ho,hel,hf,hz,hc,h3⟩
 ·exact .inl ⟨bs,bs',r,h1,hl,h2,hk _ _ h3⟩
 ·exact .inr (.inl ⟨bs,bs',r,h1,hl,h2,hk _ _ h3⟩)
 ·exact .inr (.inr (.inl ⟨hm,bs,bs',ks,r,h1,hl,h2,hk _ _ h3⟩))
 ·exact .inr (.inr (.inr (.inl ⟨fl,cs,ks,js,args,hi,r,hout,hm,hf,hn,hin,hl,hh,hc,fun hs => hk _ _ (h3 hs)⟩)))
 ·exact .inr (.inr (.inr (.inr (.inl ⟨hm,bs,bs',r,h1,hl,h2,hk _ _ h3⟩))))
 ·exact .inr (.inr (.inr (.inr (.inr ⟨hm,hd,o,i,j,z,z',l,l',l'',el,v,n,n',rfl,ho,hel,hf,hz,hc,hk _ _ h3⟩))))
theorem a2b.mono {f:Nat} {as:List AV} {h:List l7} {k k':AV → List l7 → Prop} (hk:∀ r h,k r h → k' r h) (hc:a2b P dm f as h k):a2b P dm f as h k':=by
 rcases hc with hc | ⟨hz,hd,bs,bs',ks,r,h1,hl,h2,h3⟩
 ·exact .inl (a1t.mono hk hc)
 ·exact .inr ⟨hz,hd,bs,bs',ks,r,h1,hl,h2,hk _ _ h3⟩
theorem d3q {o:AOp} {e:AX → AV} {h:List l7} {k k':AV → List l7 → Prop} (hk:∀ r h,k r h → k' r h) (ha:a6x P dm o e h k):a6x P dm o e h k':=by
 cases o with
 | box sz x => exact ⟨ha.1,hk _ _ ha.2⟩
 | mkslice sz bytes zero n c =>
  simp only [a6x] at ha ⊢
  split at ha
  ·obtain ⟨h1,l,h2,h3⟩:=ha; exact ⟨h1,l,h2,hk _ _ h3⟩
  ·exact ha.elim
 | bslice sz xs =>
  simp only [a6x] at ha ⊢
  rcases ha with ha | ⟨h0,as,ks,h1,h2,h3⟩
  ·refine .inl ?_
   split at ha
   ·obtain ⟨h1,l,h2,h3⟩:=ha; exact ⟨h1,l,h2,hk _ _ h3⟩
   ·exact ha.elim
  ·exact .inr ⟨h0,as,ks,h1,h2,hk _ _ h3⟩
 | append sz bytes s x =>
  simp only [a6x] at ha ⊢
  cases hd:dm.d with
  | false =>
   simp only [hd] at ha ⊢
   split at ha
   ·exact ⟨ha.1,hk _ _ ha.2⟩
   ·exact ha.elim
  | true =>
   simp only [hd] at ha ⊢
   rcases ha with ⟨c,ha⟩ | ⟨o,n,lo,m,l,h1,h2⟩
   ·refine .inl ⟨c,?_⟩
    split at ha
    ·exact ⟨ha.1,hk _ _ ha.2⟩
    ·exact ha.elim
   ·exact .inr ⟨o,n,lo,m,l,h1,hk _ _ h2⟩
 | store sz a x =>
  simp only [a6x] at ha ⊢
  split at ha
  ·split at ha
   ·exact ⟨ha.1,hk _ _ ha.2⟩
   ·split at ha
    ·obtain ⟨h1,l,h2,h3⟩:=ha; exact ⟨h1,l,h2,hk _ _ h3⟩
    ·exact ha.elim
   ·exact ⟨ha.1,hk _ _ ha.2⟩
   ·exact ha.elim
  ·exact ha.elim
 | call f args => exact a2b.mono hk ha
 | calv x args =>
  simp only [a6x] at ha ⊢
  split at ha
  ·exact ⟨ha.1,a2b.mono hk ha.2⟩
  ·exact ha.elim
 | convBS x =>
  simp only [a6x] at ha ⊢
  split at ha
  ·obtain ⟨l,h1,h2⟩:=ha; exact ⟨l,h1,hk _ _ h2⟩
  ·exact ha.elim
 | isnil ng x =>
  simp only [a6x] at ha ⊢
  split at ha
  ·exact hk _ _ ha
  ·exact fun b hb => hk _ _ (ha b hb)
  ·split at ha
   ·exact fun b hb => hk _ _ (ha b hb)
   ·exact ha.elim
  ·exact ha.elim
 | mkmap => exact ha.elim
 | mapset m kk x => exact ha.elim
 | mapget z m kk => exact ha.elim
 | isnilp ng x => exact ha.elim
 | never => exact ha.elim
 | cap x =>
  simp only [a6x] at ha ⊢
  split at ha
  ·exact hk _ _ ha
  ·exact ha.elim
 | appz sz bytes zero s n =>
  simp only [a6x] at ha ⊢
  split at ha
  ·obtain ⟨h1,l,h2,h3⟩:=ha; exact ⟨h1,l,h2,hk _ _ h3⟩
  ·exact ha.elim
 | sl3 x lo hi mx => exact ha.elim
 | clr sz zero x =>
  simp only [a6x] at ha ⊢
  split at ha
  ·exact hk _ _ ha
  ·split at ha
   ·obtain ⟨h1,zl,h2,h3⟩:=ha; exact ⟨h1,zl,h2,hk _ _ h3⟩
   ·exact ha.elim
  ·exact ha.elim
 | _ => exact ⟨ha.1,fun hf => hk _ _ (ha.2 hf)⟩
theorem d3r {o:a2z} {t:Nat → AV} {h:List l7} {k k':(Nat → AV) → AV → List l7 → Prop} (hk:∀ t r h,k t r h → k' t r h) (ha:b9v P dm o t h k):b9v P dm o t h k':=by
 unfold b9v at ha ⊢
 split at ha
 ·exact d3q (fun r h => hk _ r h) ha
 ·split at ha
  ·split at ha
   ·rename_i hc; simp only [if_pos hc]; exact d3q (fun r h => hk _ r h) ha
   ·rename_i hc; simp only [if_neg hc]; exact hk _ _ _ ha
  ·exact hk _ _ _ ha
  ·exact ha
theorem c1s:∀ (T:a1j) {t:Nat → AV} {h:List l7} {K K':(Nat → AV) → List l7 → Prop},(∀ t h,K t h → K' t h) → a0l P dm T t h K → a0l P dm T t h K'
 | .done,t,h,K,K',hk,ha => hk _ _ ha
 | .non,_,_,_,_,_,_ => trivial
 | .fail,_,_,_,_,_,ha => ha.elim
 | .q o n,t,h,K,K',hk,ha => d3r (fun t r h => c1s n hk) ha
 | .l o re n other,t,h,K,K',hk,ha => ⟨d3r (fun t r h hh => ⟨hh.1,c1s n hk hh.2⟩) ha.1,c1s other hk ha.2⟩
theorem a8d:∀ (c:a0m) {t:Nat → AV} {h:List l7} {Q Q':AQ},(∀ e t h,Q e t h → Q' e t h) → awp P dm n0 c t h Q → awp P dm n0 c t h Q'
 | .skip,t,h,Q,Q',hq,ha => hq _ _ _ ha
 | .reg T,t,h,Q,Q',hq,ha => c1s T (fun t h => hq _ t h) ha
 | .seq a b,t,h,Q,Q',hq,ha => by
  refine a8d a (fun e t h => ?_) ha
  cases e with
  | norm => exact a8d b hq
  | exit i => exact hq _ _ _
  | ret => exact hq _ _ _
 | .cond c a b,t,h,Q,Q',hq,ha => by
  simp only [awp] at ha ⊢
  split at ha
  ·split at ha
   ·rename_i hc; simp only [if_pos hc]; exact a8d a hq ha
   ·rename_i hc; simp only [if_neg hc]; exact a8d b hq ha
  ·exact ha
 | .block id c,t,h,Q,Q',hq,ha => by
  refine a8d c (fun e t h => ?_) ha
  cases e with
  | norm => exact hq _ _ _
  | exit i =>
   simp only [a2s]
   split
   ·exact hq _ _ _
   ·exact hq _ _ _
  | ret => exact hq _ _ _
 | .loop c,t,h,Q,Q',hq,ha => by
  obtain ⟨X,S,μ,x0,h1,h2⟩:=ha
  refine ⟨X,S,μ,x0,h1,fun x => a8d c (fun e t h => ?_) (h2 x)⟩
  cases e with
  | norm => exact id
  | exit i => exact hq _ _ _
  | ret => exact hq _ _ _
 | .exit i,t,h,Q,Q',hq,ha => hq _ _ _ ha
 | .ret,t,h,Q,Q',hq,ha => hq _ _ _ ha
 | .cut c,t,h,Q,Q',hq,ha => by
  obtain ⟨s,h1,h2⟩:=ha
  exact ⟨s,h1,a8d c hq h2⟩
 | .rev c,t,h,Q,Q',hq,ha => by
  rcases ha with ⟨o,i,f,z,l,el,z',l',h1,h2,h3,h4⟩ | ⟨hm,o,i,z,l,el,el2,xs,h1,h2,h3,h4⟩ | ⟨gs,t',h',h'',h1,h2,h3⟩
  ·exact .inl ⟨o,i,f,z,l,el,z',l',h1,h2,h3,fun v => a8d c hq (h4 v)⟩
  ·exact .inr (.inl ⟨hm,o,i,z,l,el,el2,xs,h1,h2,h3,a8d c hq h4⟩)
  ·exact .inr (.inr ⟨gs,t',h',h'',h1,h2,a8d c hq h3⟩)
def d8b (m:Bool) (n0:Nat) (s:List (Nat × AV) × List l7) (Q:AQ):AQ
 | .norm,t,h => a3e m n0 t h s
 | .exit i,t,h => Q (.exit i) t h
 | .ret,t,h => Q .ret t h
theorem b0n {a b:a0m} {t:Nat → AV} {h:List l7} {Q:AQ} (s:List (Nat × AV) × List l7) (h1:awp P dm n0 a t h (d8b dm.m n0 s Q)) (h2:awp P dm n0 b (ofL s.1) s.2 Q):awp P dm n0 a t h (b3v (awp P dm n0 (.cut b)) Q):=by
 refine a8d a (fun e t h hh => ?_) h1
 cases e with
 | norm => exact ⟨s,hh,h2⟩
 | exit i => exact hh
 | ret => exact hh
def c2o {X:Type} (m:Bool) (n0:Nat) (S:X → List (Nat × AV) × List l7) (Q:AQ):AQ
 | .norm,t,h => ∃ x,a3e m n0 t h (S x)
 | .exit i,t,h => Q (.exit i) t h
 | .ret,t,h => Q .ret t h
theorem b8b {a b:a0m} {t:Nat → AV} {h:List l7} {Q:AQ} {X:Type} (S:X → List (Nat × AV) × List l7) (h1:awp P dm n0 a t h (c2o dm.m n0 S Q)) (h2:∀ x,awp P dm n0 b (ofL (S x).1) (S x).2 Q):awp P dm n0 a t h (b3v (awp P dm n0 (.cut b)) Q):=by
 refine a8d a (fun e t h hh => ?_) h1
 cases e with
 | norm => obtain ⟨x,hx⟩:=hh; exact ⟨_,hx,h2 x⟩
 | exit i => exact hh
 | ret => exact hh
theorem d3s (id:Nat) (Q Q':AQ) (h:∀ e t h,Q e t h → Q' e t h):∀ e t h,a2s id Q e t h → a2s id Q' e t h:=by
 intro e t g hh
 cases e with
 | norm => exact h _ _ _ hh
 | exit i =>
  simp only [a2s] at hh ⊢
  split <;> rename_i hc
  ·rw [if_pos hc] at hh; exact h _ _ _ hh
  ·rw [if_neg hc] at hh; exact h _ _ _ hh
 | ret => exact h _ _ _ hh
theorem d0r {id:Nat} {a b:a0m} {t:Nat → AV} {h:List l7} {Q:AQ} (s:List (Nat × AV) × List l7) (h1:awp P dm n0 a t h (a2s id (d8b dm.m n0 s Q))) (h2:awp P dm n0 b (ofL s.1) s.2 Q):awp P dm n0 a t h (a2s id (b3v (awp P dm n0 (.cut b)) Q)):=by
 refine a8d a (d3s id _ _ fun e t h hh => ?_) h1
 cases e with
 | norm => exact ⟨s,hh,h2⟩
 | exit i => exact hh
 | ret => exact hh
theorem c1t {id:Nat} {a b:a0m} {t:Nat → AV} {h:List l7} {Q:AQ} {X:Type} (S:X → List (Nat × AV) × List l7) (h1:awp P dm n0 a t h (a2s id (c2o dm.m n0 S Q))) (h2:∀ x,awp P dm n0 b (ofL (S x).1) (S x).2 Q):awp P dm n0 a t h (a2s id (b3v (awp P dm n0 (.cut b)) Q)):=by
 refine a8d a (d3s id _ _ fun e t h hh => ?_) h1
 cases e with
 | norm => obtain ⟨x,hx⟩:=hh; exact ⟨_,hx,h2 x⟩
 | exit i => exact hh
 | ret => exact hh
theorem a0q {a b:a0m} {t:Nat → AV} {h:List l7} {Q:AQ} (h1:awp P dm n0 a t h (b3v (awp P dm n0 b) Q)):awp P dm n0 (.seq a b) t h Q:=h1
theorem b5t {body:a0m} {id:Nat} {t:Nat → AV} {h:List l7} {Q:AQ} {X:Type} (S:X → List (Nat × AV) × List l7) (μ:X → Nat) (x0:X) (h0:a3e dm.m n0 t h (S x0)) (h1:∀ x,awp P dm n0 body (ofL (S x).1) (S x).2 (b9x dm.m n0 S μ x (a2s id Q))) :
  awp P dm n0 (.block id (.loop body)) t h Q:=⟨X,S,μ,x0,h0,h1⟩
end
theorem og {p:Prop} {_:Decidable p} {α:Type} {x:Option α} {r:α} (h:(if p then x else none) = some r):p ∧ x = some r:=by
 split at h
 ·exact ⟨‹_›,h⟩
 ·cases h
theorem oi {p:Prop} {_:Decidable p} {α:Type} {x y:Option α} {r:α} (h:(if p then x else y) = some r):(p ∧ x = some r) ∨ (¬ p ∧ y = some r):=by
 split at h
 ·exact .inl ⟨‹_›,h⟩
 ·exact .inr ⟨‹_›,h⟩
theorem ob {α β:Type} {x:Option α} {f:α → Option β} {r:β} (h:x.bind f = some r):∃ v,x = some v ∧ f v = some r:=by
 cases x with
 | none => cases h
 | some v => exact ⟨v,rfl,h⟩
theorem c7v {α:Type} (l:List α) (i:Nat):(l.length ≤ i ∧ l.drop i = []) ∨ (i < l.length ∧ ∃ x,l[i]? = some x ∧ l.drop i = x :: l.drop (i + 1)):=by
 rcases Nat.lt_or_ge i l.length with h1 | h1
 ·exact .inr ⟨h1,l[i],by simp [h1],List.drop_eq_getElem_cons h1⟩
 ·exact .inl ⟨h1,by simp [h1]⟩
theorem os {α:Type} {a b:α} (h:some a = some b):a = b:=Option.some.inj h
theorem bf {b:Bool} (h:¬ b = true):b = false:=by cases b <;> simp_all
def idx {α:Type} (l:List α) (n:Int):Option α:=if 0 ≤ n then l[n.toNat]? else none
theorem d2s {α:Type} {l:List α} {n:Int} {x:α} (h:idx l n = some x):0 ≤ n:=(og h).1
theorem d5m {α:Type} {l:List α} {n:Int} {x:α} (h:idx l n = some x):l[n.toNat]? = some x:=(og h).2
theorem mul {i n:Nat} (h:i < n):n - (i + 1) < n - i:=by omega
theorem dlt {i n:Nat} (h:i < n):decide ((i:Int) < (n:Int)) = true:=decide_eq_true (by omega)
theorem dlf {i n:Nat} (h:n ≤ i):decide ((i:Int) < (n:Int)) = false:=decide_eq_false (by omega)
inductive Fl (R S:Type) where
 | ret (r:R)
 | go (s:S)
def w64 (n:Int):Int:=IntKind.i64.wrap n
theorem e6w {n:Int} (h0:-9223372036854775808 ≤ n) (h1:n < 9223372036854775808):w64 n = n:=by
 unfold w64
 rw [IntKind.wrap_i64]
 omega
theorem b2c {i n:Nat} (h:i < n) (hn:n ≤ maxLen):w64 ((i:Int) + 1) = ((i + 1:Nat):Int):=by
 rw [e6w (by omega) (by simp only [maxLen] at hn; omega)]
 rfl
section
variable {P:Program} {dm:Md} {bs:List (Nat × AV)} {h:List l7} {n:a1j} {K:(Nat → AV) → List l7 → Prop} {d:Nat}
theorem s_q {op:AOp} (v:AV) (hq:op.quiet = true) (hp:aqQ dm.m op (AX.ev (ofL bs)) h) (hv:aqV op (AX.ev (ofL bs)) h = v) (hn:a0l P dm n (ofL ((d,v) :: bs)) h K):a0l P dm (.q ⟨some d,none,op⟩ n) (ofL bs) h K:=by
 subst hv
 show a6x P dm op _ h _
 cases op <;> first | (exact ⟨hp,fun _ => hn⟩) | (cases hq)
theorem a2t {x:AX} (v:AV) (hv:x.ev (ofL bs) = v) (hn:a0l P dm n (ofL ((d,v) :: bs)) h K):a0l P dm (.q ⟨some d,none,.mov x⟩ n) (ofL bs) h K :=
 s_q v rfl (.of trivial trivial) hv hn
end
end Go.R
end
