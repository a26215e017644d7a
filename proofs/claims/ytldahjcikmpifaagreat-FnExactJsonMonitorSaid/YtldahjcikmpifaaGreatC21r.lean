import Derived.Test.YtldahjcikmpifaaGreatC21
set_option linter.all false
namespace Go.R
open Go Go.RowKit
def a8n (js:List Nat):Nat → Option Nat:=c6c js 0
def b3e (h:List y9) (js:List Nat):List y9:=js.map fun i => a6o (a8n js) (h.getD i .dead)
def a7y (n:Nat) (js:List Nat) (k:Nat):Option Nat:=if k < js.length then js[k]? else some (n + (k - js.length))
def b5z:List y9 → List Nat → List y9 → List y9
 | h,j :: js,x :: xs => b5z (h.set j x) js xs
 | h,_,_ => h
def b2r (h:List y9) (js:List Nat) (hout:List y9):List y9 :=
 b5z h js (hout.map (a6o (a7y h.length js))) ++ (hout.drop js.length).map (a6o (a7y h.length js))
def a0z (P:Program) (dm:Md) (f:Nat) (args:List AV) (hin:List y9) (r:AV) (hout:List y9):Prop :=
 ∀ (C:Ctx) (σ:Sg) (φ:Nat → List Nat) (w:World) (vals:List Value),C.md = dm → (C.mm = true → C.dm = true) → (∀ b,C.mine b → C.ok b) → (∀ b,w.heap.size ≤ b → C.mine b) → a0b C σ φ hin w → RVs C σ hin w args vals →
  Calls P f vals.toArray w fun e w' => match e with
   | .returned v => ∃ σ' φ',a0b C σ' φ' hout w' ∧ EvX C σ hin w σ' hout w' ∧ RV C σ' hout w' r v ∧ Below C.base w w'
   | _ => False
theorem a5o {js:List Nat} (hn:js.Nodup) {o k:Nat}:a8n js o = some k ↔ js[k]? = some o:=by
 unfold a8n
 rw [b9v _ _ _ _ hn]
 simp
theorem b0w {js:List Nat} (hn:js.Nodup) {o:Nat}:a8n js o = none ↔ o ∉ js:=by
 constructor
 ·intro h hm
  obtain ⟨k,hk⟩:=List.mem_iff_getElem?.1 hm
  rw [(a5o hn).2 hk] at h
  cases h
 ·intro h
  cases hs:a8n js o with
  | none => rfl
  | some k => exact absurd (List.mem_of_getElem? ((a5o hn).1 hs)) h
theorem a5k {h:List y9} {js:List Nat} {k:Nat} {y:y9} (hin:∀ j ∈ js,j < h.length):(b3e h js)[k]? = some y ↔ ∃ o x,js[k]? = some o ∧ h[o]? = some x ∧ y = a6o (a8n js) x:=by
 unfold b3e
 rw [List.getElem?_map,Option.map_eq_some_iff]
 constructor
 ·rintro ⟨o,h1,rfl⟩
  have:=hin o (List.mem_of_getElem? h1)
  exact ⟨o,h[o],h1,by simp [this],by simp [this]⟩
 ·rintro ⟨o,x,h1,h2,rfl⟩
  exact ⟨o,h1,by simp [h2]⟩
theorem c6d:∀ (js:List Nat) (h:List y9) (xs:List y9) (o:Nat),js.Nodup → js.length ≤ xs.length → (∀ j ∈ js,j < h.length) →
  (b5z h js xs)[o]? = match a8n js o with
   | some k => xs[k]?
   | none => h[o]?
 | [],h,xs,o,_,_,_ => by cases xs <;> simp [b5z,a8n,c6c]
 | j :: js,h,[],o,_,hl,_ => by simp at hl
 | j :: js,h,x :: xs,o,hn,hl,hin => by
  have hn':=hn
  rw [List.nodup_cons] at hn
  simp only [b5z]
  rw [c6d js (h.set j x) xs o hn.2 (by simpa using hl) (fun i hi => by simpa using hin i (by simp [hi]))]
  by_cases he:o = j
  ·subst he
   have h1:a8n js o = none:=(b0w hn.2).2 hn.1
   have h2:a8n (o :: js) o = some 0:=(a5o hn').2 (by simp)
   have:=hin o (by simp)
   rw [h1,h2]
   simp [this]
  ·cases h1:a8n js o with
   | none =>
    have h2:a8n (j :: js) o = none:=(b0w hn').2 (by rw [List.mem_cons]; rintro (h | h); exact he h; exact (b0w hn.2).1 h1 h)
    rw [h2]
    simp only
    rw [List.getElem?_set_ne (Ne.symm he)]
   | some k =>
    have h2:a8n (j :: js) o = some (k + 1):=(a5o hn').2 (by simpa using (a5o hn.2).1 h1)
    rw [h2]
    simp
theorem b9b:∀ (js:List Nat) (h:List y9) (xs:List y9),(b5z h js xs).length = h.length
 | [],h,xs => by cases xs <;> simp [b5z]
 | j :: js,h,[] => by simp [b5z]
 | j :: js,h,x :: xs => by simp only [b5z]; rw [b9b js]; simp
theorem c6e {h:List y9} {js:List Nat} {hout:List y9} (hn:js.Nodup) (hin:∀ j ∈ js,j < h.length) (hl:js.length ≤ hout.length) (o:Nat) :
  (b2r h js hout)[o]? = match a8n js o with
   | some k => (hout[k]?).map (a6o (a7y h.length js))
   | none => if o < h.length then h[o]? else (hout[js.length + (o - h.length)]?).map (a6o (a7y h.length js)):=by
 unfold b2r
 rw [List.getElem?_append,b9b]
 by_cases ho:o < h.length
 ·rw [if_pos ho,c6d js h _ o hn (by simpa using hl) hin]
  cases hs:a8n js o with
  | none => simp [ho]
  | some k => simp
 ·rw [if_neg ho]
  have:a8n js o = none:=(b0w hn).2 fun hm => ho (hin o hm)
  rw [this]
  simp only [if_neg ho,List.getElem?_map,List.getElem?_drop]
section
variable {C C':Ctx} {σ σ':Sg} {φ:Nat → List Nat} {h h':List y9} {w:World} {f:Nat → Option Nat}
def c9s (f:Nat → Option Nat) (σ:Sg) (h:List y9) (σ':Sg) (h':List y9):Prop :=
 ∀ o k x,f o = some k → h[o]? = some x → h'[k]? = some (a6o f x) ∧ σ' k = σ o
mutual
theorem c6f (hf:c9s f σ h σ' h') (hok:∀ b,C.imm b → ¬ liveAt h σ b → C'.imm b ∧ ¬ liveAt h' σ' b):∀ (a:AV) (v:Value),RV C σ h w a v → RV C' σ' h' w (ren f a) v
 | .undef,_,_ => by simp only [ren,RV]
 | .skip,_,hr => by simpa only [ren,RV] using hr
 | .hdr _ _ _,_,hr => by simpa only [ren,RV] using hr
 | .int _ _,_,hr => by simpa only [ren,RV] using hr
 | .bool _,_,hr => by simpa only [ren,RV] using hr
 | .str _,_,hr => by simpa only [ren,RV] using hr
 | .nil,_,hr => by simpa only [ren,RV] using hr
 | .lst z l,v,hr => by
  simp only [ren,RV] at hr ⊢
  obtain ⟨fp,h1,h2⟩:=hr
  exact ⟨fp,h1,fun b hb => hok b (h2 b hb).1 (h2 b hb).2⟩
 | .iptr l f,v,hr => by
  simp only [ren,RV] at hr ⊢
  obtain ⟨fp,h1,h2⟩:=hr
  exact ⟨fp,h1,fun b hb => hok b (h2 b hb).1 (h2 b hb).2⟩
 | .own o lo n,v,hr => by
  simp only [ren]
  cases hfo:f o with
  | none => simp only [RV]
  | some k =>
   simp only [RV] at hr ⊢
   cases ho:h[o]? with
   | none => rw [ho] at hr; exact hr.elim
   | some x =>
    rw [ho] at hr
    obtain ⟨hg,hσ⟩:=hf o k x hfo ho
    rw [hg]
    cases x with
    | dead => simp only [a6o]
    | map _ => exact hr.elim
    | box _ _ => exact hr.elim
    | row sz l =>
     simp only [a6o]
     unfold b6x at hr ⊢
     rw [hσ]
     exact hr
    | rowx sz l i el =>
     simp only [a6o]
     unfold b6x at hr ⊢
     rw [hσ]
     exact hr
 | .ptr o i g,v,hr => by
  simp only [ren]
  cases hfo:f o with
  | none => simp only [RV]
  | some k =>
   simp only [RV] at hr ⊢
   cases ho:h[o]? with
   | none => rw [ho] at hr; exact hr.elim
   | some x =>
    rw [ho] at hr
    obtain ⟨hg,hσ⟩:=hf o k x hfo ho
    rw [hg]
    cases x with
    | dead => simp only [a6o]
    | map _ => simp only [a6o]; rw [hσ]; exact hr
    | box _ _ => simp only [a6o]; rw [hσ]; exact hr
    | row sz l => simp only [a6o]; rw [hσ]; exact hr
    | rowx sz l j el => simp only [a6o]; rw [hσ]; exact hr
 | .agg as,v,hr => by
  simp only [ren,RV] at hr ⊢
  obtain ⟨vs,e,h1⟩:=hr
  exact ⟨vs,e,b2g hf hok as _ h1⟩
 | .tup as,v,hr => by
  simp only [ren,RV] at hr ⊢
  obtain ⟨vs,e,h1⟩:=hr
  exact ⟨vs,e,b2g hf hok as _ h1⟩
 | .fn g as,v,hr => by
  simp only [ren,RV] at hr ⊢
  obtain ⟨vs,e,h1⟩:=hr
  exact ⟨vs,e,b2g hf hok as _ h1⟩
theorem b2g (hf:c9s f σ h σ' h') (hok:∀ b,C.imm b → ¬ liveAt h σ b → C'.imm b ∧ ¬ liveAt h' σ' b):∀ (as:List AV) (vs:List Value),RVs C σ h w as vs → RVs C' σ' h' w (a7m f as) vs
 | [],_,hr => by simpa only [a7m,RVs] using hr
 | a :: as,vs,hr => by
  simp only [a7m,RVs] at hr ⊢
  obtain ⟨v,vs',e,h1,h2⟩:=hr
  exact ⟨v,vs',e,c6f hf hok a v h1,b2g hf hok as vs' h2⟩
end
theorem a9l (hf:c9s f σ h σ' h') (hok:∀ b,C.imm b → ¬ liveAt h σ b → C'.imm b ∧ ¬ liveAt h' σ' b) (a:AV) (vs:List Value) (hr:RVs C σ h w a.cells vs):RVs C' σ' h' w (ren f a).cells vs:=by
 have h1:=b2g hf hok a.cells vs hr
 rcases c9r (f:=f) a with h2 | ⟨o,h2,h3⟩
 ·rw [h2]; exact h1
 ·have hc:a.cells = [a]:=by
   cases a <;> simp [ren] at h3 <;> rfl
  rw [hc] at h1
  simpa only [a7m,h3,AV.cells] using h1
end
section
variable {P:Program} {C:Ctx} {σ:Sg} {φ:Nat → List Nat} {h:List y9} {w:World} {js:List Nat}
def Kept (σ:Sg) (φ:Nat → List Nat) (h:List y9) (js:List Nat) (b:Nat):Prop :=
 (∃ o x c,h[o]? = some x ∧ x.isLive = true ∧ o ∉ js ∧ σ o = some (b,c)) ∨ ∃ o x,h[o]? = some x ∧ x.rw = true ∧ o ∉ js ∧ b ∈ φ o
def c6g (C:Ctx) (σ:Sg) (φ:Nat → List Nat) (h:List y9) (js:List Nat):Ctx :=
 { C with ok:=fun b => (C.ok b ∧ ∀ o x c,h[o]? = some x → x.isLive = true → o ∉ js → σ o ≠ some (b,c)) ∧ (C.mm = true → C.mine b → ¬ ((∃ o x c,h[o]? = some x ∧ x.isLive = true ∧ o ∉ js ∧ σ o = some (b,c)) ∨ (C.dm = true ∧ ∃ o x,h[o]? = some x ∧ x.rw = true ∧ o ∉ js ∧ b ∈ φ o))),fr:=fun b => C.fr b ∨ (∃ o x c,h[o]? = some x ∧ x.isLive = true ∧ o ∉ js ∧ σ o = some (b,c)) ∨ (C.dm = true ∧ ∃ o x,h[o]? = some x ∧ x.rw = true ∧ o ∉ js ∧ b ∈ φ o),fz:=false }
def b3f (σ:Sg) (js:List Nat):Sg:=fun k => match js[k]? with
 | some o => σ o
 | none => none
def c0x (φ:Nat → List Nat) (js:List Nat):Nat → List Nat:=fun k => match js[k]? with
 | some o => φ o
 | none => []
theorem a0b.phiLt (hr:a0b C σ φ h w) {o sz:Nat} {l:List AV} (ho:h[o]? = some (.row sz l)) {b:Nat} (hb:b ∈ φ o):b < w.heap.size:=by
 obtain ⟨_,hob⟩:=hr.obj o _ ho
 cases hs:σ o with
 | none => rw [hs] at hob; rw [hob.2] at hb; simp at hb
 | some p =>
  rw [hs] at hob
  obtain ⟨_,cur,e,_,_,h4,_⟩:=hob
  exact a0n.lt _ _ _ h4 b hb
theorem a0b.phiLtx (hr:a0b C σ φ h w) {o:Nat} {x:y9} (ho:h[o]? = some x) (hx:x.rw = true) {b:Nat} (hb:b ∈ φ o):b < w.heap.size:=by
 cases x with
 | dead => cases hx
 | box _ _ => cases hx
 | map _ => cases hx
 | row sz l => exact hr.phiLt ho hb
 | rowx sz l i el =>
  obtain ⟨hz,hmm,hi,g,c,cur,e,f1,f2,k1,k2,k3,k4,k5,k6,k7,k7',k8,k9⟩:=hr.obj o _ ho
  rw [k8] at hb
  rcases List.mem_append.1 hb with hb | hb
  ·exact a0n.lt _ _ _ k5 b hb
  ·exact a0n.lt _ _ _ k7 b hb
theorem d2w (hn:js.Nodup) (hin:∀ j ∈ js,j < h.length) {b:Nat} (hl:liveAt (b3e h js) (b3f σ js) b):∃ o x c,h[o]? = some x ∧ x.isLive = true ∧ o ∈ js ∧ σ o = some (b,c):=by
 obtain ⟨k,y,c,h1,h2,h3⟩:=hl
 obtain ⟨o,x,g1,g2,rfl⟩:=(a5k hin).1 h1
 rw [a5x] at h2
 simp only [b3f,g1] at h3
 exact ⟨o,x,c,g2,h2,List.mem_of_getElem? g1,h3⟩
theorem a8k (hn:js.Nodup) (hin:∀ j ∈ js,j < h.length) {b:Nat} (hl:liveAt (b3e h js) (b3f σ js) b):liveAt h σ b:=by
 obtain ⟨o,x,c,h1,h2,_,h3⟩:=d2w hn hin hl
 exact ⟨o,x,c,h1,h2,h3⟩
theorem b3n (hn:js.Nodup) (hin:∀ j ∈ js,j < h.length):c9s (a8n js) σ h (b3f σ js) (b3e h js):=by
 intro o k x h1 h2
 have hk:=(a5o hn).1 h1
 exact ⟨(a5k hin).2 ⟨o,x,hk,h2,rfl⟩,by simp only [b3f,hk]⟩
theorem b5h {b:Nat} (hm:(c6g C σ φ h js).mine b):C.mine b:=⟨hm.1,fun hf => hm.2 (.inl hf)⟩
theorem d1b (hn:js.Nodup) (hin:∀ j ∈ js,j < h.length) (b:Nat) (h1:C.imm b) (h2:¬ liveAt h σ b):(c6g C σ φ h js).imm b ∧ ¬ liveAt (b3e h js) (b3f σ js) b :=
 ⟨⟨⟨⟨h1.1,fun o x c g1 g2 _ g3 => h2 ⟨o,x,c,g1,g2,g3⟩⟩,fun hm hmine => absurd hmine (h1.2 hm)⟩,fun hm hmine => h1.2 hm (b5h hmine)⟩,fun hl => h2 (a8k hn hin hl)⟩
theorem d6q (hn:js.Nodup) (hin:∀ j ∈ js,j < h.length) (hr:a0b C σ φ h w) {o:Nat} {x:y9} (ho:h[o]? = some x) (hx:x.rw = true) (hj:o ∈ js) (b:Nat) (hb:b ∈ φ o) (h1:C.ok b) (h2:¬ liveAt h σ b):(c6g C σ φ h js).ok b ∧ ¬ liveAt (b3e h js) (b3f σ js) b:=by
 refine ⟨⟨⟨h1,fun o x c g1 g2 _ g3 => h2 ⟨o,x,c,g1,g2,g3⟩⟩,fun _ _ => ?_⟩,fun hl => h2 (a8k hn hin hl)⟩
 rintro (⟨o',x',c',k1,k2,k3,k4⟩ | ⟨hdm,o',x',k1,k1',k2,k3⟩)
 ·exact h2 ⟨o',x',c',k1,k2,k4⟩
 ·exact (hr.deepx hdm o x ho hx).2.2 o' x' k1 k1' (fun he => by subst he; exact k2 hj) b hb k3
theorem d9u (hn:js.Nodup) (hin:∀ j ∈ js,j < h.length) (hr:a0b C σ φ h w):a0b (c6g C σ φ h js) (b3f σ js) (c0x φ js) (b3e h js) w where
 obj k y hk:=by
  obtain ⟨o,x,g1,g2,rfl⟩:=(a5k hin).1 hk
  have hob:=hr.obj o x g2
  have e1:b3f σ js k = σ o:=by simp only [b3f,g1]
  have e2:c0x φ js k = φ o:=by simp only [c0x,g1]
  cases x with
  | dead => trivial
  | box sz v =>
   obtain ⟨g,cur,e,h1,h2,h3,h4⟩:=hob
   exact ⟨g,cur,e,by rw [e1]; exact h1,h2,h3,a9l (b3n hn hin) (d1b hn hin) _ _ h4⟩
  | map m =>
   obtain ⟨g,cur,e,h1,h2,h3,h4⟩:=hob
   exact ⟨g,cur,e,by rw [e1]; exact h1,h2,h3.ren _,by rw [c0t]; exact b2g (b3n hn hin) (d1b hn hin) _ _ h4⟩
  | row sz l =>
   obtain ⟨h0,hob⟩:=hob
   refine ⟨h0,?_⟩
   rw [e1,e2]
   cases hs:σ o with
   | none => rw [hs] at hob; exact hob
   | some p =>
    rw [hs] at hob
    obtain ⟨h1,cur,e,h2,h3,h4,h5⟩:=hob
    exact ⟨h1,cur,e,h2,h3,h4,fun b hb => d6q hn hin hr g2 rfl (List.mem_of_getElem? g1) b hb (h5 b hb).1 (h5 b hb).2⟩
  | rowx sz l i el =>
   obtain ⟨hz,hmm,hi,g,c,cur,e,f1,f2,k1,k2,k3,k4,k5,k6,k7,k7',k8,k9⟩:=hob
   exact ⟨hz,hmm,hi,g,c,cur,e,f1,f2,by rw [e1]; exact k1,k2,k3,k4,k5,a9l (b3n hn hin) (d1b hn hin) _ _ k6,k7,by rw [b2f]; exact k7',by rw [e2]; exact k8,fun b hb => by rw [e2] at hb; exact d6q hn hin hr g2 rfl (List.mem_of_getElem? g1) b hb (k9 b hb).1 (k9 b hb).2⟩
 inj k k' y y' b c c' hk hy hk' hy' hs hs':=by
  obtain ⟨o,x,g1,g2,rfl⟩:=(a5k hin).1 hk
  obtain ⟨o',x',g1',g2',rfl⟩:=(a5k hin).1 hk'
  rw [a5x] at hy hy'
  simp only [b3f,g1] at hs
  simp only [b3f,g1'] at hs'
  have:=hr.inj o o' x x' b c c' g2 hy g2' hy' hs hs'
  subst this
  have e1:=(a5o hn).2 g1
  have e2:=(a5o hn).2 g1'
  rw [e1] at e2
  exact Option.some.inj e2
 base k y b c hk hy hs:=by
  obtain ⟨o,x,g1,g2,rfl⟩:=(a5k hin).1 hk
  rw [a5x] at hy
  simp only [b3f,g1] at hs
  have hm:=hr.base o x b c g2 hy hs
  refine ⟨hm.1,?_⟩
  rintro (hf | ⟨o',x',c',k1,k2,k3,k4⟩ | ⟨_,o',x',k1,k1',k2,k3⟩)
  ·exact hm.2 hf
  ·have:=hr.inj o o' x x' b c c' g2 hy k1 k2 hs k4
   subst this
   exact k3 (List.mem_of_getElem? g1)
  ·exact (hr.phix k1 k1' k3).2 ⟨o,x,c,g2,hy,hs⟩
 deepx hdm k y hk hy:=by
  obtain ⟨o,x,g1,g2,rfl⟩:=(a5k hin).1 hk
  rw [b3m] at hy
  have e2:c0x φ js k = φ o:=by simp only [c0x,g1]
  obtain ⟨d1,d2,d3⟩:=hr.deepx hdm o x g2 hy
  rw [e2]
  refine ⟨d1,fun b hb => ⟨(d2 b hb).1,?_⟩,?_⟩
  ·rintro (hf | ⟨o',x',c',k1,k2,k3,k4⟩ | ⟨_,o',x',k1,k1',k2,k3⟩)
   ·exact (d2 b hb).2 hf
   ·exact (hr.phix g2 hy hb).2 ⟨o',x',c',k1,k2,k4⟩
   ·exact d3 o' x' k1 k1' (fun he => by subst he; exact k2 (List.mem_of_getElem? g1)) b hb k3
  ·intro k' y' hk' hy' hne b hb
   obtain ⟨o',x',g1',g2',rfl⟩:=(a5k hin).1 hk'
   rw [b3m] at hy'
   have e2':c0x φ js k' = φ o':=by simp only [c0x,g1']
   rw [e2']
   refine d3 o' x' g2' hy' (fun he => ?_) b hb
   subst he
   have e1:=(a5o hn).2 g1
   have e3:=(a5o hn).2 g1'
   rw [e1] at e3
   exact hne (Option.some.inj e3).symm
def b6a (σ σ1:Sg) (h:List y9) (js:List Nat):Sg:=fun o => match a8n js o with
 | some k => σ1 k
 | none => if o < h.length then σ o else σ1 (js.length + (o - h.length))
def d8g (φ φ1:Nat → List Nat) (h:List y9) (js:List Nat):Nat → List Nat:=fun o => match a8n js o with
 | some k => φ1 k
 | none => if o < h.length then φ o else φ1 (js.length + (o - h.length))
theorem a9z (hn:js.Nodup) (hin:∀ j ∈ js,j < h.length) {hout:List y9} (hl:js.length ≤ hout.length) {σ1:Sg} {φ1:Nat → List Nat} {o:Nat} {y:y9} (ho:(b2r h js hout)[o]? = some y) :
  (o ∉ js ∧ h[o]? = some y ∧ b6a σ σ1 h js o = σ o ∧ d8g φ φ1 h js o = φ o) ∨
  (∃ k x,hout[k]? = some x ∧ a7y h.length js k = some o ∧ y = a6o (a7y h.length js) x ∧ b6a σ σ1 h js o = σ1 k ∧ d8g φ φ1 h js o = φ1 k):=by
 rw [c6e hn hin hl] at ho
 cases hs:a8n js o with
 | some k =>
  rw [hs] at ho
  simp only [Option.map_eq_some_iff] at ho
  obtain ⟨x,h1,rfl⟩:=ho
  have hk:=(a5o hn).1 hs
  have hlt:=(List.getElem?_eq_some_iff.1 hk).1
  exact .inr ⟨k,x,h1,by unfold a7y; rw [if_pos hlt]; exact hk,rfl,by simp only [b6a,hs],by simp only [d8g,hs]⟩
 | none =>
  rw [hs] at ho
  simp only at ho
  by_cases hlt:o < h.length
  ·rw [if_pos hlt] at ho
   exact .inl ⟨(b0w hn).1 hs,ho,by simp only [b6a,hs,if_pos hlt],by simp only [d8g,hs,if_pos hlt]⟩
  ·rw [if_neg hlt] at ho
   simp only [Option.map_eq_some_iff] at ho
   obtain ⟨x,h1,rfl⟩:=ho
   refine .inr ⟨js.length + (o - h.length),x,h1,?_,rfl,by simp only [b6a,hs,if_neg hlt],by simp only [d8g,hs,if_neg hlt]⟩
   unfold a7y
   rw [if_neg (by omega)]
   congr 1
   omega
theorem c0y (hn:js.Nodup) (hin:∀ j ∈ js,j < h.length) {hout:List y9} (hl:js.length ≤ hout.length) {σ1:Sg} {k o:Nat} {x:y9} (hk:a7y h.length js k = some o) (hx:hout[k]? = some x) :
  (b2r h js hout)[o]? = some (a6o (a7y h.length js) x) ∧ b6a σ σ1 h js o = σ1 k:=by
 rw [c6e hn hin hl]
 unfold a7y at hk
 split at hk
 ·have hs:=(a5o hn).2 hk
  rw [hs]
  simp only [b6a,hs,hx,Option.map_some,and_self]
 ·rename_i hlt
  simp only [Option.some.injEq] at hk
  have hs:a8n js o = none:=(b0w hn).2 fun hm => by have:=hin o hm; omega
  rw [hs]
  have h1:¬ o < h.length:=by omega
  have h2:js.length + (o - h.length) = k:=by omega
  simp only [b6a,hs,if_neg h1,h2,hx,Option.map_some,and_self]
theorem d2x (hn:js.Nodup) (hin:∀ j ∈ js,j < h.length) {hout:List y9} (hl:js.length ≤ hout.length) {σ1:Sg} {o:Nat} {x:y9} (ho:h[o]? = some x) (hj:o ∉ js) :
  (b2r h js hout)[o]? = some x ∧ b6a σ σ1 h js o = σ o:=by
 have hlt:=(List.getElem?_eq_some_iff.1 ho).1
 rw [c6e hn hin hl,(b0w hn).2 hj]
 simp only [if_pos hlt,b6a,(b0w hn).2 hj,ho,and_self]
theorem d9v (hmd:C.mm = true → C.dm = true) (hn:js.Nodup) (hin:∀ j ∈ js,j < h.length) (hr:a0b C σ φ h w) {hout:List y9} {w':World} {σ1:Sg} {φ1:Nat → List Nat}
  (h1:a0b (c6g C σ φ h js) σ1 φ1 hout w') (ev1:EvX (c6g C σ φ h js) (b3f σ js) (b3e h js) w σ1 hout w') :
  a0b C (b6a σ σ1 h js) (d8g φ φ1 h js) (b2r h js hout) w' ∧ EvX C σ h w (b6a σ σ1 h js) (b2r h js hout) w' ∧
   ∀ r v,RV (c6g C σ φ h js) σ1 hout w' r v → RV C (b6a σ σ1 h js) (b2r h js hout) w' (ren (a7y h.length js) r) v:=by
 have hl:js.length ≤ hout.length:=by
  by_cases h0:js.length = 0
  ·omega
  ·have hk:js.length - 1 < js.length:=by omega
   have g1:js[js.length - 1]? = some js[js.length - 1]:=by simp [hk]
   have hlt:=hin _ (List.mem_of_getElem? g1)
   have hs:=(a5k hin).2 ⟨_,h[js[js.length - 1]],g1,by simp [hlt],rfl⟩
   have:∃ y,hout[js.length - 1]? = some y:=by
    by_cases hlive:(a6o (a8n js) h[js[js.length - 1]]).isLive = true
    ·rcases ev1.obj _ _ hs hlive with hd | ⟨_,x',hx',_⟩
     ·exact ⟨_,hd⟩
     ·exact ⟨_,hx'⟩
    ·have:a6o (a8n js) h[js[js.length - 1]] = .dead:=by
      cases hh:h[js[js.length - 1]] <;> simp [hh,a6o,y9.isLive] at hlive ⊢
     rw [this] at hs
     exact ⟨_,ev1.gone _ hs⟩
   obtain ⟨y,hy⟩:=this
   have:=(List.getElem?_eq_some_iff.1 hy).1
   omega
 -- an untouched live block is no block of what came back
 have apart:∀ o x b c k y c',h[o]? = some x → x.isLive = true → o ∉ js → σ o = some (b,c) → hout[k]? = some y → y.isLive = true → σ1 k = some (b,c') → False:=by
  intro o x b c k y c' g1 g2 g3 g4 g5 g6 g7
  exact (h1.base k y b c' g5 g6 g7).2 (.inr (.inl ⟨o,x,c,g1,g2,g3,g4⟩))
 have live':∀ b,liveAt (b2r h js hout) (b6a σ σ1 h js) b → (∃ o x c,h[o]? = some x ∧ x.isLive = true ∧ o ∉ js ∧ σ o = some (b,c)) ∨ liveAt hout σ1 b:=by
  rintro b ⟨o,y,c,g1,g2,g3⟩
  rcases a9z (σ:=σ) (φ:=φ) (σ1:=σ1) (φ1:=φ1) hn hin hl g1 with ⟨k1,k2,k3,_⟩ | ⟨k,x,k1,k2,rfl,k4,_⟩
  ·rw [k3] at g3
   exact .inl ⟨o,y,c,k2,g2,k1,g3⟩
  ·rw [a5x] at g2
   rw [k4] at g3
   exact .inr ⟨k,x,c,k1,g2,g3⟩
 have ev:EvX C σ h w (b6a σ σ1 h js) (b2r h js hout) w':=by
  refine ⟨?_,?_,?_,?_,ev1.size⟩
  ·intro o x ho hx
   by_cases hj:o ∈ js
   ·obtain ⟨k,hk⟩:=List.mem_iff_getElem?.1 hj
    have hs:=(a5k hin).2 ⟨o,x,hk,ho,rfl⟩
    have hkl:=(List.getElem?_eq_some_iff.1 hk).1
    have hb:a7y h.length js k = some o:=by unfold a7y; rw [if_pos hkl]; exact hk
    rcases ev1.obj k _ hs (by rw [a5x]; exact hx) with hd | ⟨e,x',hx',hsh⟩
    ·exact .inl (c0y (σ:=σ) (σ1:=σ1) hn hin hl hb hd).1
    ·obtain ⟨q1,q2⟩:=c0y (σ:=σ) (σ1:=σ1) hn hin hl hb hx'
     refine .inr ⟨by rw [q2,e]; simp only [b3f,hk],_,q1,?_⟩
     cases x <;> cases x' <;> simp_all [sameShape,a6o]
   ·obtain ⟨q1,q2⟩:=d2x (σ:=σ) (σ1:=σ1) hn hin hl ho hj
    exact .inr ⟨q2,x,q1,sameShape.refl hx⟩
  ·intro o ho
   by_cases hj:o ∈ js
   ·obtain ⟨k,hk⟩:=List.mem_iff_getElem?.1 hj
    have hs:=(a5k hin).2 ⟨o,_,hk,ho,rfl⟩
    have hkl:=(List.getElem?_eq_some_iff.1 hk).1
    have hb:a7y h.length js k = some o:=by unfold a7y; rw [if_pos hkl]; exact hk
    exact (c0y (σ:=σ) (σ1:=σ1) hn hin hl hb (ev1.gone k hs)).1
   ·exact (d2x (σ:=σ) (σ1:=σ1) hn hin hl ho hj).1
  ·intro b hb hlv
   rcases live' b hlv with ⟨o,x,c,g1,g2,_,g3⟩ | g
   ·exact .inl ⟨o,x,c,g1,g2,g3⟩
   ·exact (ev1.live b hb g).imp (a8k hn hin) (fun h => ⟨h.1,b5h h.2⟩)
  ·intro b hb hlv hm
   exact ev1.blk b hb (fun hl' => hlv (a8k hn hin hl')) fun h1 h2 => hm h1 (b5h h2)
 have hkeep:∀ o x,o ∉ js → h[o]? = some x → x.rw = true → ∀ b ∈ φ o,¬ liveAt (b2r h js hout) (b6a σ σ1 h js) b:=by
  intro o x hj ho hx b hb hlv
  have hphi:=hr.phix ho hx hb
  rcases live' b hlv with ⟨o',x',c,g1,g2,_,g3⟩ | g
  ·exact hphi.2 ⟨o',x',c,g1,g2,g3⟩
  ·rcases ev1.live b (hr.phiLtx ho hx hb) g with h1 | ⟨h1,h2⟩
   ·exact hphi.2 (a8k hn hin h1)
   ·exact h2.2 (.inr (.inr ⟨hmd h1,o,x,ho,hx,hj,hb⟩))
 have hok0:∀ b,(c6g C σ φ h js).ok b → ¬ liveAt hout σ1 b → C.ok b ∧ ¬ liveAt (b2r h js hout) (b6a σ σ1 h js) b:=by
  rintro b ⟨⟨g1,g2⟩,_⟩ g3
  refine ⟨g1,fun hlv => ?_⟩
  rcases live' b hlv with ⟨o,x,c,k1,k2,k3,k4⟩ | k
  ·exact g2 o x c k1 k2 k3 k4
  ·exact g3 k
 have hok':∀ b,(c6g C σ φ h js).imm b → ¬ liveAt hout σ1 b → C.imm b ∧ ¬ liveAt (b2r h js hout) (b6a σ σ1 h js) b:=by
  intro b h1 h2
  obtain ⟨g1,g2⟩:=hok0 b h1.1 h2
  refine ⟨⟨g1,fun hm hmine => ?_⟩,g2⟩
  refine h1.2 hm ⟨hmine.1,?_⟩
  rintro (hf | hf)
  ·exact hmine.2 hf
  ·exact h1.1.2 hm hmine hf
 have hren:c9s (a7y h.length js) σ1 hout (b6a σ σ1 h js) (b2r h js hout):=fun k o x hk hx => c0y hn hin hl hk hx
 refine ⟨?_,ev,fun r v hv => c6f hren hok' r v hv⟩
 refine ⟨?_,?_,?_,?_⟩
 ·intro o y ho
  rcases a9z (σ:=σ) (φ:=φ) (σ1:=σ1) (φ1:=φ1) hn hin hl ho with ⟨k1,k2,k3,k4⟩ | ⟨k,x,k1,k2,rfl,k4,k5⟩
  ·have hob:=hr.obj o y k2
   have hsame:∀ g c,σ o = some (g,c) → y.isLive = true → w'.heap[g]? = w.heap[g]?:=by
    intro g c hs hy
    refine ev1.blk g (hr.lt k2 hy hs) (fun hlv => ?_) fun _ hmine => hmine.2 (.inr (.inl ⟨o,y,c,k2,hy,k1,hs⟩))
    obtain ⟨o',x',c',q1,q2,q3,q4⟩:=d2w hn hin hlv
    have:=hr.inj o o' y x' g c c' k2 hy q1 q2 hs q4
    subst this
    exact k1 q3
   cases y with
   | dead => trivial
   | box sz v =>
    obtain ⟨g,cur,e,g1,g2,g3,g4⟩:=hob
    exact ⟨g,cur,e,by rw [k3]; exact g1,by rw [hsame g 1 g1 rfl]; exact g2,g3,ev.rvs _ _ g4⟩
   | map m =>
    obtain ⟨g,cur,e,g1,g2,g3,g4⟩:=hob
    exact ⟨g,cur,e,by rw [k3]; exact g1,by rw [hsame g 1 g1 rfl]; exact g2,g3,ev.rvs _ _ g4⟩
   | row sz l =>
    have hphi:=fun b (hb:b ∈ φ o) => hr.phi k2 hb
    have hplt:=fun b (hb:b ∈ φ o) => hr.phiLt k2 hb
    obtain ⟨g0,hob⟩:=hob
    refine ⟨g0,?_⟩
    rw [k3,k4]
    cases hs:σ o with
    | none => rw [hs] at hob; exact hob
    | some p =>
     obtain ⟨g,c⟩:=p
     rw [hs] at hob
     obtain ⟨g1,cur,e,g2,g3,g4,g5⟩:=hob
     refine ⟨g1,cur,e,by rw [hsame g c hs rfl]; exact g2,g3,?_,fun b hb => ⟨(g5 b hb).1,hkeep o _ k1 k2 rfl b hb⟩⟩
     exact a0n.world _ _ _ (fun b hb => ev1.blk b (hplt b hb) (fun hlv => (hphi b hb).2 (a8k hn hin hlv)) fun hm hmine => hmine.2 (.inr (.inr ⟨hmd hm,o,_,k2,rfl,k1,hb⟩))) g4
   | rowx sz l i el =>
    have hphi:=fun b (hb:b ∈ φ o) => hr.phix k2 rfl hb
    have hplt:=fun b (hb:b ∈ φ o) => hr.phiLtx k2 rfl hb
    obtain ⟨hz,hmm,hi,g,c,cur,e,f1,f2,q1,q2,q3,q4,q5,q6,q7,q7',q8,q9⟩:=hob
    have hwb:∀ b ∈ φ o,w'.heap[b]? = w.heap[b]?:=fun b hb => ev1.blk b (hplt b hb) (fun hlv => (hphi b hb).2 (a8k hn hin hlv)) fun hm hmine => hmine.2 (.inr (.inr ⟨hmd hm,o,_,k2,rfl,k1,hb⟩))
    exact ⟨hz,hmm,hi,g,c,cur,e,f1,f2,by rw [k3]; exact q1,q2,by rw [hsame g c q1 rfl]; exact q3,q4,a0n.world _ _ _ (fun b hb => hwb b (by rw [q8]; simp [hb])) q5,ev.rvs _ _ q6,
     a0n.world _ _ _ (fun b hb => hwb b (by rw [q8]; simp [hb])) q7,q7',by rw [k4]; exact q8,fun b hb => by rw [k4] at hb; exact ⟨(q9 b hb).1,hkeep o _ k1 k2 rfl b hb⟩⟩
  ·have hob:=h1.obj k x k1
   cases x with
   | dead => trivial
   | box sz v =>
    obtain ⟨g,cur,e,g1,g2,g3,g4⟩:=hob
    exact ⟨g,cur,e,by rw [k4]; exact g1,g2,g3,a9l hren hok' _ _ g4⟩
   | map m =>
    obtain ⟨g,cur,e,g1,g2,g3,g4⟩:=hob
    exact ⟨g,cur,e,by rw [k4]; exact g1,g2,g3.ren _,by rw [c0t]; exact b2g hren hok' _ _ g4⟩
   | row sz l =>
    obtain ⟨g0,hob⟩:=hob
    refine ⟨g0,?_⟩
    rw [k4,k5]
    cases hs:σ1 k with
    | none => rw [hs] at hob; exact hob
    | some p =>
     obtain ⟨g,c⟩:=p
     rw [hs] at hob
     obtain ⟨g1,cur,e,g2,g3,g4,g5⟩:=hob
     exact ⟨g1,cur,e,g2,g3,g4,fun b hb => hok0 b (g5 b hb).1 (g5 b hb).2⟩
   | rowx sz l i el =>
    obtain ⟨hz,hmm,hi,g,c,cur,e,f1,f2,q1,q2,q3,q4,q5,q6,q7,q7',q8,q9⟩:=hob
    exact ⟨hz,hmm,hi,g,c,cur,e,f1,f2,by rw [k4]; exact q1,q2,q3,q4,q5,a9l hren hok' _ _ q6,q7,by rw [b2f]; exact q7',by rw [k5]; exact q8,fun b hb => by rw [k5] at hb; exact hok0 b (q9 b hb).1 (q9 b hb).2⟩
 ·intro o o' y y' b c c' ho hy ho' hy' hs hs'
  rcases a9z (σ:=σ) (φ:=φ) (σ1:=σ1) (φ1:=φ1) hn hin hl ho with ⟨k1,k2,k3,k4⟩ | ⟨k,x,k1,k2,rfl,k4,k5⟩
  ·rw [k3] at hs
   rcases a9z (σ:=σ) (φ:=φ) (σ1:=σ1) (φ1:=φ1) hn hin hl ho' with ⟨q1,q2,q3,q4⟩ | ⟨q,x',q1,q2,rfl,q4,q5⟩
   ·rw [q3] at hs'
    exact hr.inj o o' y y' b c c' k2 hy q2 hy' hs hs'
   ·rw [q4] at hs'
    rw [a5x] at hy'
    exact (apart o y b c q x' c' k2 hy k1 hs q1 hy' hs').elim
  ·rw [k4] at hs
   rw [a5x] at hy
   rcases a9z (σ:=σ) (φ:=φ) (σ1:=σ1) (φ1:=φ1) hn hin hl ho' with ⟨q1,q2,q3,q4⟩ | ⟨q,x',q1,q2,rfl,q4,q5⟩
   ·rw [q3] at hs'
    exact (apart o' y' b c' k x c q2 hy' q1 hs' k1 hy hs).elim
   ·rw [q4] at hs'
    rw [a5x] at hy'
    have:=h1.inj k q x x' b c c' k1 hy q1 hy' hs hs'
    subst this
    rw [k2] at q2
    exact Option.some.inj q2
 ·intro o y b c ho hy hs
  rcases a9z (σ:=σ) (φ:=φ) (σ1:=σ1) (φ1:=φ1) hn hin hl ho with ⟨k1,k2,k3,k4⟩ | ⟨k,x,k1,k2,rfl,k4,k5⟩
  ·rw [k3] at hs
   exact hr.base o y b c k2 hy hs
  ·rw [k4] at hs
   rw [a5x] at hy
   exact b5h (h1.base k x b c k1 hy hs)
 ·intro hdm o y ho hy
  rcases a9z (σ:=σ) (φ:=φ) (σ1:=σ1) (φ1:=φ1) hn hin hl ho with ⟨k1,k2,k3,k4⟩ | ⟨k,x,k1,k2,rfl,k4,k5⟩
  ·obtain ⟨d1,d2,d3⟩:=hr.deepx hdm o y k2 hy
   rw [k4]
   refine ⟨d1,d2,?_⟩
   intro o' y' ho' hy' hne b hb hb'
   rcases a9z (σ:=σ) (φ:=φ) (σ1:=σ1) (φ1:=φ1) hn hin hl ho' with ⟨q1,q2,q3,q4⟩ | ⟨q,x',q1,q2,rfl,q4,q5⟩
   ·rw [q4] at hb'
    exact d3 o' y' q2 hy' hne b hb hb'
   ·rw [b3m] at hy'
    rw [q5] at hb'
    exact ((h1.deepx hdm q x' q1 hy').2.1 b hb').2 (.inr (.inr ⟨hdm,o,y,k2,hy,k1,hb⟩))
  ·rw [b3m] at hy
   obtain ⟨d1,d2,d3⟩:=h1.deepx hdm k x k1 hy
   rw [k5]
   refine ⟨d1,fun b hb => b5h (d2 b hb),?_⟩
   intro o' y' ho' hy' hne b hb hb'
   rcases a9z (σ:=σ) (φ:=φ) (σ1:=σ1) (φ1:=φ1) hn hin hl ho' with ⟨q1,q2,q3,q4⟩ | ⟨q,x',q1,q2,rfl,q4,q5⟩
   ·rw [q4] at hb'
    exact (d2 b hb).2 (.inr (.inr ⟨hdm,o',y',q2,hy',q1,hb'⟩))
   ·rw [b3m] at hy'
    rw [q5] at hb'
    refine d3 q x' q1 hy' (fun he => ?_) b hb hb'
    subst he
    rw [k2] at q2
    exact hne (Option.some.inj q2).symm
def b8j (hi hout:List y9):Prop:=∀ (i z:Nat) (l:List AV) (z':Nat) (l':List AV),hi[i]? = some (.row z l) → hout[i]? = some (.row z' l') → l'.length = l.length
theorem EvX.shapes {σ1 σ2:Sg} {hi hout:List y9} {w1 w2:World} (ev:EvX C σ1 hi w1 σ2 hout w2):b8j hi hout:=by
 intro i z l z' l' h1 h2
 rcases ev.obj i _ h1 rfl with hd | ⟨_,x',hx',hs⟩
 ·rw [hd] at h2; cases h2
 ·rw [h2] at hx'
  cases hx'
  exact hs.2.symm
theorem a0z.sound (hmd:C.mm = true → C.dm = true) (hr:a0b C σ φ h w) (hok:∀ b,C.mine b → C.ok b) (hb:∀ b,w.heap.size ≤ b → C.mine b) {f:Nat} {as:List AV} {vs:List Value} (hv:RVs C σ h w as vs)
  {args:List AV} {hi hout:List y9} {r:AV} (hn:js.Nodup) (hin:∀ j ∈ js,j < h.length) (ha:LeL (a7m (a8n js) as) args) (hh:LeH (b3e h js) hi) (hc:a0z P C.md.nz f args hi r hout) :
  Calls P f vs.toArray w fun e w' => match e with
   | .returned v => ∃ σ' φ',a0b C σ' φ' (b2r h js hout) w' ∧ EvX C σ h w σ' (b2r h js hout) w' ∧ RV C σ' (b2r h js hout) w' (ren (a7y h.length js) r) v ∧ Below C.base w w' ∧ b8j hi hout
   | _ => False:=by
 have h1:=d9u hn hin hr
 have h2:=hh.heap h1
 have hvs:=b2g (C':=c6g C σ φ h js) (b3n hn hin) (d1b hn hin) as vs hv
 have hvs2:=LeL.rvs ha _ ((LeH.ev hh).rvs _ _ hvs)
 refine (hc (c6g C σ φ h js) _ _ w vs rfl hmd ?_ ?_ h2 hvs2).mono ?_
 ·intro b hm
  refine ⟨⟨hok b (b5h hm),fun o x c g1 g2 g3 g4 => hm.2 (.inr (.inl ⟨o,x,c,g1,g2,g3,g4⟩))⟩,fun _ _ hf => hm.2 (.inr hf)⟩
 ·intro b hge
  have hm:=hb b hge
  refine ⟨hm.1,?_⟩
  rintro (hf | ⟨o,x,c,g1,g2,g3,g4⟩ | ⟨_,o,x,g1,g1',g2,g3⟩)
  ·exact hm.2 hf
  ·have:=hr.lt g1 g2 g4; omega
  ·have:=hr.phiLtx g1 g1' g3; omega
 ·intro e w' he
  cases e with
  | returned v =>
   obtain ⟨σ1,φ1,k1,k2,k3,k4⟩:=he
   obtain ⟨m1,m2,m3⟩:=d9v hmd hn hin hr k1 ((LeH.ev hh).x.trans k2)
   exact ⟨_,_,m1,m2,m3 r v k3,k4,k2.shapes⟩
  | panicked _ => exact he
  | outgrown => exact he
end
end Go.R
