/- A part of the call's own heap is handed to a callee, and comes back. -/
import Derived.Test.YtldahjcikmpifaaGreatC21
set_option linter.all false
namespace Go.R
open Go Go.RowKit
set_option linter.unusedVariables false
set_option linter.unusedSimpArgs false

def a8g (js:List Nat):Nat → Option Nat:=c3r js 0
def b1y (h:List o9) (js:List Nat):List o9:=js.map fun i => a6a (a8g js) (h.getD i .dead)
def a7h (n:Nat) (js:List Nat) (k:Nat):Option Nat:=if k < js.length then js[k]? else some (n + (k - js.length))
def b4o:List o9 → List Nat → List o9 → List o9
  | h,j :: js,x :: xs => b4o (h.set j x) js xs
  | h,_,_ => h
def b1p (h:List o9) (js:List Nat) (hout:List o9):List o9 :=
  b4o h js (hout.map (a6a (a7h h.length js))) ++ (hout.drop js.length).map (a6a (a7h h.length js))

def a0j (P:Program) (dm:Md) (f:Nat) (args:List AV) (hin:List o9) (r:AV) (hout:List o9):Prop :=
  ∀ (C:Ctx) (σ:Sg) (φ:Nat → List Nat) (w:World) (vals:List Value),C.md = dm → (C.mm = true → C.dm = true) → (∀ b,C.mine b → C.ok b) → (∀ b,w.heap.size ≤ b → C.mine b) → y5 C σ φ hin w → RVs C σ hin w args vals →
    Calls P f vals.toArray w fun e w' => match e with
      | .returned v => ∃ σ' φ',y5 C σ' φ' hout w' ∧ EvX C σ hin w σ' hout w' ∧ RV C σ' hout w' r v ∧ Below C.base w w'
      | _ => False

theorem a5i {js:List Nat} (hn:js.Nodup) {o k:Nat}:a8g js o = some k ↔ js[k]? = some o:=by
  unfold a8g
  rw [b7t _ _ _ _ hn]
  simp
theorem a9x {js:List Nat} (hn:js.Nodup) {o:Nat}:a8g js o = none ↔ o ∉ js:=by
  constructor
  · intro h hm
    obtain ⟨k,hk⟩:=List.mem_iff_getElem?.1 hm
    rw [(a5i hn).2 hk] at h
    cases h
  · intro h
    cases hs:a8g js o with
    | none => rfl
    | some k => exact absurd (List.mem_of_getElem? ((a5i hn).1 hs)) h

theorem a4y {h:List o9} {js:List Nat} {k:Nat} {y:o9} (hin:∀ j ∈ js,j < h.length):(b1y h js)[k]? = some y ↔ ∃ o x,js[k]? = some o ∧ h[o]? = some x ∧ y = a6a (a8g js) x:=by
  unfold b1y
  rw [List.getElem?_map,Option.map_eq_some_iff]
  constructor
  · rintro ⟨o,h1,rfl⟩
    have:=hin o (List.mem_of_getElem? h1)
    exact ⟨o,h[o],h1,by simp [this],by simp [this]⟩
  · rintro ⟨o,x,h1,h2,rfl⟩
    exact ⟨o,h1,by simp [h2]⟩

theorem c3s:∀ (js:List Nat) (h:List o9) (xs:List o9) (o:Nat),js.Nodup → js.length ≤ xs.length → (∀ j ∈ js,j < h.length) →
    (b4o h js xs)[o]? = match a8g js o with
      | some k => xs[k]?
      | none => h[o]?
  | [],h,xs,o,_,_,_ => by cases xs <;> simp [b4o,a8g,c3r]
  | j :: js,h,[],o,_,hl,_ => by simp at hl
  | j :: js,h,x :: xs,o,hn,hl,hin => by
    have hn':=hn
    rw [List.nodup_cons] at hn
    simp only [b4o]
    rw [c3s js (h.set j x) xs o hn.2 (by simpa using hl) (fun i hi => by simpa using hin i (by simp [hi]))]
    by_cases he:o = j
    · subst he
      have h1:a8g js o = none:=(a9x hn.2).2 hn.1
      have h2:a8g (o :: js) o = some 0:=(a5i hn').2 (by simp)
      have:=hin o (by simp)
      rw [h1,h2]
      simp [this]
    · cases h1:a8g js o with
      | none =>
        have h2:a8g (j :: js) o = none:=(a9x hn').2 (by rw [List.mem_cons]; rintro (h | h); exact he h; exact (a9x hn.2).1 h1 h)
        rw [h2]
        simp only
        rw [List.getElem?_set_ne (Ne.symm he)]
      | some k =>
        have h2:a8g (j :: js) o = some (k + 1):=(a5i hn').2 (by simpa using (a5i hn.2).1 h1)
        rw [h2]
        simp
theorem b7f:∀ (js:List Nat) (h:List o9) (xs:List o9),(b4o h js xs).length = h.length
  | [],h,xs => by cases xs <;> simp [b4o]
  | j :: js,h,[] => by simp [b4o]
  | j :: js,h,x :: xs => by simp only [b4o]; rw [b7f js]; simp

theorem c3t {h:List o9} {js:List Nat} {hout:List o9} (hn:js.Nodup) (hin:∀ j ∈ js,j < h.length) (hl:js.length ≤ hout.length) (o:Nat) :
    (b1p h js hout)[o]? = match a8g js o with
      | some k => (hout[k]?).map (a6a (a7h h.length js))
      | none => if o < h.length then h[o]? else (hout[js.length + (o - h.length)]?).map (a6a (a7h h.length js)):=by
  unfold b1p
  rw [List.getElem?_append,b7f]
  by_cases ho:o < h.length
  · rw [if_pos ho,c3s js h _ o hn (by simpa using hl) hin]
    cases hs:a8g js o with
    | none => simp [ho]
    | some k => simp
  · rw [if_neg ho]
    have:a8g js o = none:=(a9x hn).2 fun hm => ho (hin o hm)
    rw [this]
    simp only [if_neg ho,List.getElem?_map,List.getElem?_drop]

section
variable {C C':Ctx} {σ σ':Sg} {φ:Nat → List Nat} {h h':List o9} {w:World} {f:Nat → Option Nat}

def c6o (f:Nat → Option Nat) (σ:Sg) (h:List o9) (σ':Sg) (h':List o9):Prop :=
  ∀ o k x,f o = some k → h[o]? = some x → h'[k]? = some (a6a f x) ∧ σ' k = σ o

mutual
theorem c3u (hf:c6o f σ h σ' h') (hok:∀ b,C.imm b → ¬ liveAt h σ b → C'.imm b ∧ ¬ liveAt h' σ' b):∀ (a:AV) (v:Value),RV C σ h w a v → RV C' σ' h' w (ren f a) v
  | .undef,_,_ => by simp only [ren,RV]
  | .skip,_,hr => by simpa only [ren,RV] using hr
  | .hdr _ _ _,_,hr => by simpa only [ren,RV] using hr
  | .int _ _,_,hr => by simpa only [ren,RV] using hr
  | .bool _,_,hr => by simpa only [ren,RV] using hr
  | .str _,_,hr => by simpa only [ren,RV] using hr
  | .nil,_,hr => by simpa only [ren,RV] using hr
  | .lst z l,v,hr => by
    simp only [ren,RV] at hr ⊢
    obtain ⟨fp,h1,h2⟩:=hr
    exact ⟨fp,h1,fun b hb => hok b (h2 b hb).1 (h2 b hb).2⟩
  | .iptr l f,v,hr => by
    simp only [ren,RV] at hr ⊢
    obtain ⟨fp,h1,h2⟩:=hr
    exact ⟨fp,h1,fun b hb => hok b (h2 b hb).1 (h2 b hb).2⟩
  | .own o lo n,v,hr => by
    simp only [ren]
    cases hfo:f o with
    | none => simp only [RV]
    | some k =>
      simp only [RV] at hr ⊢
      cases ho:h[o]? with
      | none => rw [ho] at hr; exact hr.elim
      | some x =>
        rw [ho] at hr
        obtain ⟨hg,hσ⟩:=hf o k x hfo ho
        rw [hg]
        cases x with
        | dead => simp only [a6a]
        | map _ => exact hr.elim
        | box _ _ => exact hr.elim
        | row sz l =>
          simp only [a6a]
          unfold b5m at hr ⊢
          rw [hσ]
          exact hr
        | rowx sz l i el =>
          simp only [a6a]
          unfold b5m at hr ⊢
          rw [hσ]
          exact hr
  | .ptr o i g,v,hr => by
    simp only [ren]
    cases hfo:f o with
    | none => simp only [RV]
    | some k =>
      simp only [RV] at hr ⊢
      cases ho:h[o]? with
      | none => rw [ho] at hr; exact hr.elim
      | some x =>
        rw [ho] at hr
        obtain ⟨hg,hσ⟩:=hf o k x hfo ho
        rw [hg]
        cases x with
        | dead => simp only [a6a]
        | map _ => simp only [a6a]; rw [hσ]; exact hr
        | box _ _ => simp only [a6a]; rw [hσ]; exact hr
        | row sz l => simp only [a6a]; rw [hσ]; exact hr
        | rowx sz l j el => simp only [a6a]; rw [hσ]; exact hr
  | .agg as,v,hr => by
    simp only [ren,RV] at hr ⊢
    obtain ⟨vs,e,h1⟩:=hr
    exact ⟨vs,e,b1f hf hok as _ h1⟩
  | .tup as,v,hr => by
    simp only [ren,RV] at hr ⊢
    obtain ⟨vs,e,h1⟩:=hr
    exact ⟨vs,e,b1f hf hok as _ h1⟩
  | .fn g as,v,hr => by
    simp only [ren,RV] at hr ⊢
    obtain ⟨vs,e,h1⟩:=hr
    exact ⟨vs,e,b1f hf hok as _ h1⟩
theorem b1f (hf:c6o f σ h σ' h') (hok:∀ b,C.imm b → ¬ liveAt h σ b → C'.imm b ∧ ¬ liveAt h' σ' b):∀ (as:List AV) (vs:List Value),RVs C σ h w as vs → RVs C' σ' h' w (a6w f as) vs
  | [],_,hr => by simpa only [a6w,RVs] using hr
  | a :: as,vs,hr => by
    simp only [a6w,RVs] at hr ⊢
    obtain ⟨v,vs',e,h1,h2⟩:=hr
    exact ⟨v,vs',e,c3u hf hok a v h1,b1f hf hok as vs' h2⟩
end

theorem a8m (hf:c6o f σ h σ' h') (hok:∀ b,C.imm b → ¬ liveAt h σ b → C'.imm b ∧ ¬ liveAt h' σ' b) (a:AV) (vs:List Value) (hr:RVs C σ h w a.cells vs):RVs C' σ' h' w (ren f a).cells vs:=by
  have h1:=b1f hf hok a.cells vs hr
  rcases c6n (f:=f) a with h2 | ⟨o,h2,h3⟩
  · rw [h2]; exact h1
  · have hc:a.cells = [a]:=by
      cases a <;> simp [ren] at h3 <;> rfl
    rw [hc] at h1
    simpa only [a6w,h3,AV.cells] using h1
end

section
variable {P:Program} {C:Ctx} {σ:Sg} {φ:Nat → List Nat} {h:List o9} {w:World} {js:List Nat}

def Kept (σ:Sg) (φ:Nat → List Nat) (h:List o9) (js:List Nat) (b:Nat):Prop :=
  (∃ o x c,h[o]? = some x ∧ x.isLive = true ∧ o ∉ js ∧ σ o = some (b,c)) ∨ ∃ o x,h[o]? = some x ∧ x.rw = true ∧ o ∉ js ∧ b ∈ φ o
def c3v (C:Ctx) (σ:Sg) (φ:Nat → List Nat) (h:List o9) (js:List Nat):Ctx :=
  { C with ok:=fun b => (C.ok b ∧ ∀ o x c,h[o]? = some x → x.isLive = true → o ∉ js → σ o ≠ some (b,c)) ∧ (C.mm = true → C.mine b → ¬ ((∃ o x c,h[o]? = some x ∧ x.isLive = true ∧ o ∉ js ∧ σ o = some (b,c)) ∨ (C.dm = true ∧ ∃ o x,h[o]? = some x ∧ x.rw = true ∧ o ∉ js ∧ b ∈ φ o))),fr:=fun b => C.fr b ∨ (∃ o x c,h[o]? = some x ∧ x.isLive = true ∧ o ∉ js ∧ σ o = some (b,c)) ∨ (C.dm = true ∧ ∃ o x,h[o]? = some x ∧ x.rw = true ∧ o ∉ js ∧ b ∈ φ o),fz:=false }
def b1z (σ:Sg) (js:List Nat):Sg:=fun k => match js[k]? with
  | some o => σ o
  | none => none
def b8p (φ:Nat → List Nat) (js:List Nat):Nat → List Nat:=fun k => match js[k]? with
  | some o => φ o
  | none => []

theorem y5.phiLt (hr:y5 C σ φ h w) {o sz:Nat} {l:List AV} (ho:h[o]? = some (.row sz l)) {b:Nat} (hb:b ∈ φ o):b < w.heap.size:=by
  obtain ⟨_,hob⟩:=hr.obj o _ ho
  cases hs:σ o with
  | none => rw [hs] at hob; rw [hob.2] at hb; simp at hb
  | some p =>
    rw [hs] at hob
    obtain ⟨_,cur,e,_,_,h4,_⟩:=hob
    exact a0k.lt _ _ _ h4 b hb

theorem y5.phiLtx (hr:y5 C σ φ h w) {o:Nat} {x:o9} (ho:h[o]? = some x) (hx:x.rw = true) {b:Nat} (hb:b ∈ φ o):b < w.heap.size:=by
  cases x with
  | dead => cases hx
  | box _ _ => cases hx
  | map _ => cases hx
  | row sz l => exact hr.phiLt ho hb
  | rowx sz l i el =>
    obtain ⟨hz,hmm,hi,g,c,cur,e,f1,f2,k1,k2,k3,k4,k5,k6,k7,k7',k8,k9⟩:=hr.obj o _ ho
    rw [k8] at hb
    rcases List.mem_append.1 hb with hb | hb
    · exact a0k.lt _ _ _ k5 b hb
    · exact a0k.lt _ _ _ k7 b hb
theorem d0b (hn:js.Nodup) (hin:∀ j ∈ js,j < h.length) {b:Nat} (hl:liveAt (b1y h js) (b1z σ js) b):∃ o x c,h[o]? = some x ∧ x.isLive = true ∧ o ∈ js ∧ σ o = some (b,c):=by
  obtain ⟨k,y,c,h1,h2,h3⟩:=hl
  obtain ⟨o,x,g1,g2,rfl⟩:=(a4y hin).1 h1
  rw [a5n] at h2
  simp only [b1z,g1] at h3
  exact ⟨o,x,c,g2,h2,List.mem_of_getElem? g1,h3⟩
theorem a7q (hn:js.Nodup) (hin:∀ j ∈ js,j < h.length) {b:Nat} (hl:liveAt (b1y h js) (b1z σ js) b):liveAt h σ b:=by
  obtain ⟨o,x,c,h1,h2,_,h3⟩:=d0b hn hin hl
  exact ⟨o,x,c,h1,h2,h3⟩

theorem b2j (hn:js.Nodup) (hin:∀ j ∈ js,j < h.length):c6o (a8g js) σ h (b1z σ js) (b1y h js):=by
  intro o k x h1 h2
  have hk:=(a5i hn).1 h1
  exact ⟨(a4y hin).2 ⟨o,x,hk,h2,rfl⟩,by simp only [b1z,hk]⟩
theorem b3z {b:Nat} (hm:(c3v C σ φ h js).mine b):C.mine b:=⟨hm.1,fun hf => hm.2 (.inl hf)⟩
theorem c8j (hn:js.Nodup) (hin:∀ j ∈ js,j < h.length) (b:Nat) (h1:C.imm b) (h2:¬ liveAt h σ b):(c3v C σ φ h js).imm b ∧ ¬ liveAt (b1y h js) (b1z σ js) b :=
  ⟨⟨⟨⟨h1.1,fun o x c g1 g2 _ g3 => h2 ⟨o,x,c,g1,g2,g3⟩⟩,fun hm hmine => absurd hmine (h1.2 hm)⟩,fun hm hmine => h1.2 hm (b3z hmine)⟩,fun hl => h2 (a7q hn hin hl)⟩
theorem d3e (hn:js.Nodup) (hin:∀ j ∈ js,j < h.length) (hr:y5 C σ φ h w) {o:Nat} {x:o9} (ho:h[o]? = some x) (hx:x.rw = true) (hj:o ∈ js) (b:Nat) (hb:b ∈ φ o) (h1:C.ok b) (h2:¬ liveAt h σ b):(c3v C σ φ h js).ok b ∧ ¬ liveAt (b1y h js) (b1z σ js) b:=by
  refine ⟨⟨⟨h1,fun o x c g1 g2 _ g3 => h2 ⟨o,x,c,g1,g2,g3⟩⟩,fun _ _ => ?_⟩,fun hl => h2 (a7q hn hin hl)⟩
  rintro (⟨o',x',c',k1,k2,k3,k4⟩ | ⟨hdm,o',x',k1,k1',k2,k3⟩)
  · exact h2 ⟨o',x',c',k1,k2,k4⟩
  · exact (hr.deepx hdm o x ho hx).2.2 o' x' k1 k1' (fun he => by subst he; exact k2 hj) b hb k3

theorem d6g (hn:js.Nodup) (hin:∀ j ∈ js,j < h.length) (hr:y5 C σ φ h w):y5 (c3v C σ φ h js) (b1z σ js) (b8p φ js) (b1y h js) w where
  obj k y hk:=by
    obtain ⟨o,x,g1,g2,rfl⟩:=(a4y hin).1 hk
    have hob:=hr.obj o x g2
    have e1:b1z σ js k = σ o:=by simp only [b1z,g1]
    have e2:b8p φ js k = φ o:=by simp only [b8p,g1]
    cases x with
    | dead => trivial
    | box sz v =>
      obtain ⟨g,cur,e,h1,h2,h3,h4⟩:=hob
      exact ⟨g,cur,e,by rw [e1]; exact h1,h2,h3,a8m (b2j hn hin) (c8j hn hin) _ _ h4⟩
    | map m =>
      obtain ⟨g,cur,e,h1,h2,h3,h4⟩:=hob
      exact ⟨g,cur,e,by rw [e1]; exact h1,h2,h3.ren _,by rw [b8m]; exact b1f (b2j hn hin) (c8j hn hin) _ _ h4⟩
    | row sz l =>
      obtain ⟨h0,hob⟩:=hob
      refine ⟨h0,?_⟩
      rw [e1,e2]
      cases hs:σ o with
      | none => rw [hs] at hob; exact hob
      | some p =>
        rw [hs] at hob
        obtain ⟨h1,cur,e,h2,h3,h4,h5⟩:=hob
        exact ⟨h1,cur,e,h2,h3,h4,fun b hb => d3e hn hin hr g2 rfl (List.mem_of_getElem? g1) b hb (h5 b hb).1 (h5 b hb).2⟩
    | rowx sz l i el =>
      obtain ⟨hz,hmm,hi,g,c,cur,e,f1,f2,k1,k2,k3,k4,k5,k6,k7,k7',k8,k9⟩:=hob
      exact ⟨hz,hmm,hi,g,c,cur,e,f1,f2,by rw [e1]; exact k1,k2,k3,k4,k5,a8m (b2j hn hin) (c8j hn hin) _ _ k6,k7,by rw [b1e]; exact k7',by rw [e2]; exact k8,fun b hb => by rw [e2] at hb; exact d3e hn hin hr g2 rfl (List.mem_of_getElem? g1) b hb (k9 b hb).1 (k9 b hb).2⟩
  inj k k' y y' b c c' hk hy hk' hy' hs hs':=by
    obtain ⟨o,x,g1,g2,rfl⟩:=(a4y hin).1 hk
    obtain ⟨o',x',g1',g2',rfl⟩:=(a4y hin).1 hk'
    rw [a5n] at hy hy'
    simp only [b1z,g1] at hs
    simp only [b1z,g1'] at hs'
    have:=hr.inj o o' x x' b c c' g2 hy g2' hy' hs hs'
    subst this
    have e1:=(a5i hn).2 g1
    have e2:=(a5i hn).2 g1'
    rw [e1] at e2
    exact Option.some.inj e2
  base k y b c hk hy hs:=by
    obtain ⟨o,x,g1,g2,rfl⟩:=(a4y hin).1 hk
    rw [a5n] at hy
    simp only [b1z,g1] at hs
    have hm:=hr.base o x b c g2 hy hs
    refine ⟨hm.1,?_⟩
    rintro (hf | ⟨o',x',c',k1,k2,k3,k4⟩ | ⟨_,o',x',k1,k1',k2,k3⟩)
    · exact hm.2 hf
    · have:=hr.inj o o' x x' b c c' g2 hy k1 k2 hs k4
      subst this
      exact k3 (List.mem_of_getElem? g1)
    · exact (hr.phix k1 k1' k3).2 ⟨o,x,c,g2,hy,hs⟩
  deepx hdm k y hk hy:=by
    obtain ⟨o,x,g1,g2,rfl⟩:=(a4y hin).1 hk
    rw [b2i] at hy
    have e2:b8p φ js k = φ o:=by simp only [b8p,g1]
    obtain ⟨d1,d2,d3⟩:=hr.deepx hdm o x g2 hy
    rw [e2]
    refine ⟨d1,fun b hb => ⟨(d2 b hb).1,?_⟩,?_⟩
    · rintro (hf | ⟨o',x',c',k1,k2,k3,k4⟩ | ⟨_,o',x',k1,k1',k2,k3⟩)
      · exact (d2 b hb).2 hf
      · exact (hr.phix g2 hy hb).2 ⟨o',x',c',k1,k2,k4⟩
      · exact d3 o' x' k1 k1' (fun he => by subst he; exact k2 (List.mem_of_getElem? g1)) b hb k3
    · intro k' y' hk' hy' hne b hb
      obtain ⟨o',x',g1',g2',rfl⟩:=(a4y hin).1 hk'
      rw [b2i] at hy'
      have e2':b8p φ js k' = φ o':=by simp only [b8p,g1']
      rw [e2']
      refine d3 o' x' g2' hy' (fun he => ?_) b hb
      subst he
      have e1:=(a5i hn).2 g1
      have e3:=(a5i hn).2 g1'
      rw [e1] at e3
      exact hne (Option.some.inj e3).symm

def b4p (σ σ1:Sg) (h:List o9) (js:List Nat):Sg:=fun o => match a8g js o with
  | some k => σ1 k
  | none => if o < h.length then σ o else σ1 (js.length + (o - h.length))
def d4v (φ φ1:Nat → List Nat) (h:List o9) (js:List Nat):Nat → List Nat:=fun o => match a8g js o with
  | some k => φ1 k
  | none => if o < h.length then φ o else φ1 (js.length + (o - h.length))

theorem a8w (hn:js.Nodup) (hin:∀ j ∈ js,j < h.length) {hout:List o9} (hl:js.length ≤ hout.length) {σ1:Sg} {φ1:Nat → List Nat} {o:Nat} {y:o9} (ho:(b1p h js hout)[o]? = some y) :
    (o ∉ js ∧ h[o]? = some y ∧ b4p σ σ1 h js o = σ o ∧ d4v φ φ1 h js o = φ o) ∨
    (∃ k x,hout[k]? = some x ∧ a7h h.length js k = some o ∧ y = a6a (a7h h.length js) x ∧ b4p σ σ1 h js o = σ1 k ∧ d4v φ φ1 h js o = φ1 k):=by
  rw [c3t hn hin hl] at ho
  cases hs:a8g js o with
  | some k =>
    rw [hs] at ho
    simp only [Option.map_eq_some_iff] at ho
    obtain ⟨x,h1,rfl⟩:=ho
    have hk:=(a5i hn).1 hs
    have hlt:=(List.getElem?_eq_some_iff.1 hk).1
    exact .inr ⟨k,x,h1,by unfold a7h; rw [if_pos hlt]; exact hk,rfl,by simp only [b4p,hs],by simp only [d4v,hs]⟩
  | none =>
    rw [hs] at ho
    simp only at ho
    by_cases hlt:o < h.length
    · rw [if_pos hlt] at ho
      exact .inl ⟨(a9x hn).1 hs,ho,by simp only [b4p,hs,if_pos hlt],by simp only [d4v,hs,if_pos hlt]⟩
    · rw [if_neg hlt] at ho
      simp only [Option.map_eq_some_iff] at ho
      obtain ⟨x,h1,rfl⟩:=ho
      refine .inr ⟨js.length + (o - h.length),x,h1,?_,rfl,by simp only [b4p,hs,if_neg hlt],by simp only [d4v,hs,if_neg hlt]⟩
      unfold a7h
      rw [if_neg (by omega)]
      congr 1
      omega
theorem b8q (hn:js.Nodup) (hin:∀ j ∈ js,j < h.length) {hout:List o9} (hl:js.length ≤ hout.length) {σ1:Sg} {k o:Nat} {x:o9} (hk:a7h h.length js k = some o) (hx:hout[k]? = some x) :
    (b1p h js hout)[o]? = some (a6a (a7h h.length js) x) ∧ b4p σ σ1 h js o = σ1 k:=by
  rw [c3t hn hin hl]
  unfold a7h at hk
  split at hk
  · have hs:=(a5i hn).2 hk
    rw [hs]
    simp only [b4p,hs,hx,Option.map_some,and_self]
  · rename_i hlt
    simp only [Option.some.injEq] at hk
    have hs:a8g js o = none:=(a9x hn).2 fun hm => by have:=hin o hm; omega
    rw [hs]
    have h1:¬ o < h.length:=by omega
    have h2:js.length + (o - h.length) = k:=by omega
    simp only [b4p,hs,if_neg h1,h2,hx,Option.map_some,and_self]
theorem d0c (hn:js.Nodup) (hin:∀ j ∈ js,j < h.length) {hout:List o9} (hl:js.length ≤ hout.length) {σ1:Sg} {o:Nat} {x:o9} (ho:h[o]? = some x) (hj:o ∉ js) :
    (b1p h js hout)[o]? = some x ∧ b4p σ σ1 h js o = σ o:=by
  have hlt:=(List.getElem?_eq_some_iff.1 ho).1
  rw [c3t hn hin hl,(a9x hn).2 hj]
  simp only [if_pos hlt,b4p,(a9x hn).2 hj,ho,and_self]

theorem d6h (hmd:C.mm = true → C.dm = true) (hn:js.Nodup) (hin:∀ j ∈ js,j < h.length) (hr:y5 C σ φ h w) {hout:List o9} {w':World} {σ1:Sg} {φ1:Nat → List Nat}
    (h1:y5 (c3v C σ φ h js) σ1 φ1 hout w') (ev1:EvX (c3v C σ φ h js) (b1z σ js) (b1y h js) w σ1 hout w') :
    y5 C (b4p σ σ1 h js) (d4v φ φ1 h js) (b1p h js hout) w' ∧ EvX C σ h w (b4p σ σ1 h js) (b1p h js hout) w' ∧
      ∀ r v,RV (c3v C σ φ h js) σ1 hout w' r v → RV C (b4p σ σ1 h js) (b1p h js hout) w' (ren (a7h h.length js) r) v:=by
  have hl:js.length ≤ hout.length:=by
    by_cases h0:js.length = 0
    · omega
    · have hk:js.length - 1 < js.length:=by omega
      have g1:js[js.length - 1]? = some js[js.length - 1]:=by simp [hk]
      have hlt:=hin _ (List.mem_of_getElem? g1)
      have hs:=(a4y hin).2 ⟨_,h[js[js.length - 1]],g1,by simp [hlt],rfl⟩
      have:∃ y,hout[js.length - 1]? = some y:=by
        by_cases hlive:(a6a (a8g js) h[js[js.length - 1]]).isLive = true
        · rcases ev1.obj _ _ hs hlive with hd | ⟨_,x',hx',_⟩
          · exact ⟨_,hd⟩
          · exact ⟨_,hx'⟩
        · have:a6a (a8g js) h[js[js.length - 1]] = .dead:=by
            cases hh:h[js[js.length - 1]] <;> simp [hh,a6a,o9.isLive] at hlive ⊢
          rw [this] at hs
          exact ⟨_,ev1.gone _ hs⟩
      obtain ⟨y,hy⟩:=this
      have:=(List.getElem?_eq_some_iff.1 hy).1
      omega
  -- an untouched live block is no block of what came back
  have apart:∀ o x b c k y c',h[o]? = some x → x.isLive = true → o ∉ js → σ o = some (b,c) → hout[k]? = some y → y.isLive = true → σ1 k = some (b,c') → False:=by
    intro o x b c k y c' g1 g2 g3 g4 g5 g6 g7
    exact (h1.base k y b c' g5 g6 g7).2 (.inr (.inl ⟨o,x,c,g1,g2,g3,g4⟩))
  have live':∀ b,liveAt (b1p h js hout) (b4p σ σ1 h js) b → (∃ o x c,h[o]? = some x ∧ x.isLive = true ∧ o ∉ js ∧ σ o = some (b,c)) ∨ liveAt hout σ1 b:=by
    rintro b ⟨o,y,c,g1,g2,g3⟩
    rcases a8w (σ:=σ) (φ:=φ) (σ1:=σ1) (φ1:=φ1) hn hin hl g1 with ⟨k1,k2,k3,_⟩ | ⟨k,x,k1,k2,rfl,k4,_⟩
    · rw [k3] at g3
      exact .inl ⟨o,y,c,k2,g2,k1,g3⟩
    · rw [a5n] at g2
      rw [k4] at g3
      exact .inr ⟨k,x,c,k1,g2,g3⟩
  have ev:EvX C σ h w (b4p σ σ1 h js) (b1p h js hout) w':=by
    refine ⟨?_,?_,?_,?_,ev1.size⟩
    · intro o x ho hx
      by_cases hj:o ∈ js
      · obtain ⟨k,hk⟩:=List.mem_iff_getElem?.1 hj
        have hs:=(a4y hin).2 ⟨o,x,hk,ho,rfl⟩
        have hkl:=(List.getElem?_eq_some_iff.1 hk).1
        have hb:a7h h.length js k = some o:=by unfold a7h; rw [if_pos hkl]; exact hk
        rcases ev1.obj k _ hs (by rw [a5n]; exact hx) with hd | ⟨e,x',hx',hsh⟩
        · exact .inl (b8q (σ:=σ) (σ1:=σ1) hn hin hl hb hd).1
        · obtain ⟨q1,q2⟩:=b8q (σ:=σ) (σ1:=σ1) hn hin hl hb hx'
          refine .inr ⟨by rw [q2,e]; simp only [b1z,hk],_,q1,?_⟩
          cases x <;> cases x' <;> simp_all [sameShape,a6a]
      · obtain ⟨q1,q2⟩:=d0c (σ:=σ) (σ1:=σ1) hn hin hl ho hj
        exact .inr ⟨q2,x,q1,sameShape.refl hx⟩
    · intro o ho
      by_cases hj:o ∈ js
      · obtain ⟨k,hk⟩:=List.mem_iff_getElem?.1 hj
        have hs:=(a4y hin).2 ⟨o,_,hk,ho,rfl⟩
        have hkl:=(List.getElem?_eq_some_iff.1 hk).1
        have hb:a7h h.length js k = some o:=by unfold a7h; rw [if_pos hkl]; exact hk
        exact (b8q (σ:=σ) (σ1:=σ1) hn hin hl hb (ev1.gone k hs)).1
      · exact (d0c (σ:=σ) (σ1:=σ1) hn hin hl ho hj).1
    · intro b hb hlv
      rcases live' b hlv with ⟨o,x,c,g1,g2,_,g3⟩ | g
      · exact .inl ⟨o,x,c,g1,g2,g3⟩
      · exact (ev1.live b hb g).imp (a7q hn hin) (fun h => ⟨h.1,b3z h.2⟩)
    · intro b hb hlv hm
      exact ev1.blk b hb (fun hl' => hlv (a7q hn hin hl')) fun h1 h2 => hm h1 (b3z h2)
  have hkeep:∀ o x,o ∉ js → h[o]? = some x → x.rw = true → ∀ b ∈ φ o,¬ liveAt (b1p h js hout) (b4p σ σ1 h js) b:=by
    intro o x hj ho hx b hb hlv
    have hphi:=hr.phix ho hx hb
    rcases live' b hlv with ⟨o',x',c,g1,g2,_,g3⟩ | g
    · exact hphi.2 ⟨o',x',c,g1,g2,g3⟩
    · rcases ev1.live b (hr.phiLtx ho hx hb) g with h1 | ⟨h1,h2⟩
      · exact hphi.2 (a7q hn hin h1)
      · exact h2.2 (.inr (.inr ⟨hmd h1,o,x,ho,hx,hj,hb⟩))
  have hok0:∀ b,(c3v C σ φ h js).ok b → ¬ liveAt hout σ1 b → C.ok b ∧ ¬ liveAt (b1p h js hout) (b4p σ σ1 h js) b:=by
    rintro b ⟨⟨g1,g2⟩,_⟩ g3
    refine ⟨g1,fun hlv => ?_⟩
    rcases live' b hlv with ⟨o,x,c,k1,k2,k3,k4⟩ | k
    · exact g2 o x c k1 k2 k3 k4
    · exact g3 k
  have hok':∀ b,(c3v C σ φ h js).imm b → ¬ liveAt hout σ1 b → C.imm b ∧ ¬ liveAt (b1p h js hout) (b4p σ σ1 h js) b:=by
    intro b h1 h2
    obtain ⟨g1,g2⟩:=hok0 b h1.1 h2
    refine ⟨⟨g1,fun hm hmine => ?_⟩,g2⟩
    refine h1.2 hm ⟨hmine.1,?_⟩
    rintro (hf | hf)
    · exact hmine.2 hf
    · exact h1.1.2 hm hmine hf
  have hren:c6o (a7h h.length js) σ1 hout (b4p σ σ1 h js) (b1p h js hout):=fun k o x hk hx => b8q hn hin hl hk hx
  refine ⟨?_,ev,fun r v hv => c3u hren hok' r v hv⟩
  refine ⟨?_,?_,?_,?_⟩
  · intro o y ho
    rcases a8w (σ:=σ) (φ:=φ) (σ1:=σ1) (φ1:=φ1) hn hin hl ho with ⟨k1,k2,k3,k4⟩ | ⟨k,x,k1,k2,rfl,k4,k5⟩
    · have hob:=hr.obj o y k2
      have hsame:∀ g c,σ o = some (g,c) → y.isLive = true → w'.heap[g]? = w.heap[g]?:=by
        intro g c hs hy
        refine ev1.blk g (hr.lt k2 hy hs) (fun hlv => ?_) fun _ hmine => hmine.2 (.inr (.inl ⟨o,y,c,k2,hy,k1,hs⟩))
        obtain ⟨o',x',c',q1,q2,q3,q4⟩:=d0b hn hin hlv
        have:=hr.inj o o' y x' g c c' k2 hy q1 q2 hs q4
        subst this
        exact k1 q3
      cases y with
      | dead => trivial
      | box sz v =>
        obtain ⟨g,cur,e,g1,g2,g3,g4⟩:=hob
        exact ⟨g,cur,e,by rw [k3]; exact g1,by rw [hsame g 1 g1 rfl]; exact g2,g3,ev.rvs _ _ g4⟩
      | map m =>
        obtain ⟨g,cur,e,g1,g2,g3,g4⟩:=hob
        exact ⟨g,cur,e,by rw [k3]; exact g1,by rw [hsame g 1 g1 rfl]; exact g2,g3,ev.rvs _ _ g4⟩
      | row sz l =>
        have hphi:=fun b (hb:b ∈ φ o) => hr.phi k2 hb
        have hplt:=fun b (hb:b ∈ φ o) => hr.phiLt k2 hb
        obtain ⟨g0,hob⟩:=hob
        refine ⟨g0,?_⟩
        rw [k3,k4]
        cases hs:σ o with
        | none => rw [hs] at hob; exact hob
        | some p =>
          obtain ⟨g,c⟩:=p
          rw [hs] at hob
          obtain ⟨g1,cur,e,g2,g3,g4,g5⟩:=hob
          refine ⟨g1,cur,e,by rw [hsame g c hs rfl]; exact g2,g3,?_,fun b hb => ⟨(g5 b hb).1,hkeep o _ k1 k2 rfl b hb⟩⟩
          exact a0k.world _ _ _ (fun b hb => ev1.blk b (hplt b hb) (fun hlv => (hphi b hb).2 (a7q hn hin hlv)) fun hm hmine => hmine.2 (.inr (.inr ⟨hmd hm,o,_,k2,rfl,k1,hb⟩))) g4
      | rowx sz l i el =>
        have hphi:=fun b (hb:b ∈ φ o) => hr.phix k2 rfl hb
        have hplt:=fun b (hb:b ∈ φ o) => hr.phiLtx k2 rfl hb
        obtain ⟨hz,hmm,hi,g,c,cur,e,f1,f2,q1,q2,q3,q4,q5,q6,q7,q7',q8,q9⟩:=hob
        have hwb:∀ b ∈ φ o,w'.heap[b]? = w.heap[b]?:=fun b hb => ev1.blk b (hplt b hb) (fun hlv => (hphi b hb).2 (a7q hn hin hlv)) fun hm hmine => hmine.2 (.inr (.inr ⟨hmd hm,o,_,k2,rfl,k1,hb⟩))
        exact ⟨hz,hmm,hi,g,c,cur,e,f1,f2,by rw [k3]; exact q1,q2,by rw [hsame g c q1 rfl]; exact q3,q4,a0k.world _ _ _ (fun b hb => hwb b (by rw [q8]; simp [hb])) q5,ev.rvs _ _ q6,
          a0k.world _ _ _ (fun b hb => hwb b (by rw [q8]; simp [hb])) q7,q7',by rw [k4]; exact q8,fun b hb => by rw [k4] at hb; exact ⟨(q9 b hb).1,hkeep o _ k1 k2 rfl b hb⟩⟩
    · have hob:=h1.obj k x k1
      cases x with
      | dead => trivial
      | box sz v =>
        obtain ⟨g,cur,e,g1,g2,g3,g4⟩:=hob
        exact ⟨g,cur,e,by rw [k4]; exact g1,g2,g3,a8m hren hok' _ _ g4⟩
      | map m =>
        obtain ⟨g,cur,e,g1,g2,g3,g4⟩:=hob
        exact ⟨g,cur,e,by rw [k4]; exact g1,g2,g3.ren _,by rw [b8m]; exact b1f hren hok' _ _ g4⟩
      | row sz l =>
        obtain ⟨g0,hob⟩:=hob
        refine ⟨g0,?_⟩
        rw [k4,k5]
        cases hs:σ1 k with
        | none => rw [hs] at hob; exact hob
        | some p =>
          obtain ⟨g,c⟩:=p
          rw [hs] at hob
          obtain ⟨g1,cur,e,g2,g3,g4,g5⟩:=hob
          exact ⟨g1,cur,e,g2,g3,g4,fun b hb => hok0 b (g5 b hb).1 (g5 b hb).2⟩
      | rowx sz l i el =>
        obtain ⟨hz,hmm,hi,g,c,cur,e,f1,f2,q1,q2,q3,q4,q5,q6,q7,q7',q8,q9⟩:=hob
        exact ⟨hz,hmm,hi,g,c,cur,e,f1,f2,by rw [k4]; exact q1,q2,q3,q4,q5,a8m hren hok' _ _ q6,q7,by rw [b1e]; exact q7',by rw [k5]; exact q8,fun b hb => by rw [k5] at hb; exact hok0 b (q9 b hb).1 (q9 b hb).2⟩
  · intro o o' y y' b c c' ho hy ho' hy' hs hs'
    rcases a8w (σ:=σ) (φ:=φ) (σ1:=σ1) (φ1:=φ1) hn hin hl ho with ⟨k1,k2,k3,k4⟩ | ⟨k,x,k1,k2,rfl,k4,k5⟩
    · rw [k3] at hs
      rcases a8w (σ:=σ) (φ:=φ) (σ1:=σ1) (φ1:=φ1) hn hin hl ho' with ⟨q1,q2,q3,q4⟩ | ⟨q,x',q1,q2,rfl,q4,q5⟩
      · rw [q3] at hs'
        exact hr.inj o o' y y' b c c' k2 hy q2 hy' hs hs'
      · rw [q4] at hs'
        rw [a5n] at hy'
        exact (apart o y b c q x' c' k2 hy k1 hs q1 hy' hs').elim
    · rw [k4] at hs
      rw [a5n] at hy
      rcases a8w (σ:=σ) (φ:=φ) (σ1:=σ1) (φ1:=φ1) hn hin hl ho' with ⟨q1,q2,q3,q4⟩ | ⟨q,x',q1,q2,rfl,q4,q5⟩
      · rw [q3] at hs'
        exact (apart o' y' b c' k x c q2 hy' q1 hs' k1 hy hs).elim
      · rw [q4] at hs'
        rw [a5n] at hy'
        have:=h1.inj k q x x' b c c' k1 hy q1 hy' hs hs'
        subst this
        rw [k2] at q2
        exact Option.some.inj q2
  · intro o y b c ho hy hs
    rcases a8w (σ:=σ) (φ:=φ) (σ1:=σ1) (φ1:=φ1) hn hin hl ho with ⟨k1,k2,k3,k4⟩ | ⟨k,x,k1,k2,rfl,k4,k5⟩
    · rw [k3] at hs
      exact hr.base o y b c k2 hy hs
    · rw [k4] at hs
      rw [a5n] at hy
      exact b3z (h1.base k x b c k1 hy hs)
  · intro hdm o y ho hy
    rcases a8w (σ:=σ) (φ:=φ) (σ1:=σ1) (φ1:=φ1) hn hin hl ho with ⟨k1,k2,k3,k4⟩ | ⟨k,x,k1,k2,rfl,k4,k5⟩
    · obtain ⟨d1,d2,d3⟩:=hr.deepx hdm o y k2 hy
      rw [k4]
      refine ⟨d1,d2,?_⟩
      intro o' y' ho' hy' hne b hb hb'
      rcases a8w (σ:=σ) (φ:=φ) (σ1:=σ1) (φ1:=φ1) hn hin hl ho' with ⟨q1,q2,q3,q4⟩ | ⟨q,x',q1,q2,rfl,q4,q5⟩
      · rw [q4] at hb'
        exact d3 o' y' q2 hy' hne b hb hb'
      · rw [b2i] at hy'
        rw [q5] at hb'
        exact ((h1.deepx hdm q x' q1 hy').2.1 b hb').2 (.inr (.inr ⟨hdm,o,y,k2,hy,k1,hb⟩))
    · rw [b2i] at hy
      obtain ⟨d1,d2,d3⟩:=h1.deepx hdm k x k1 hy
      rw [k5]
      refine ⟨d1,fun b hb => b3z (d2 b hb),?_⟩
      intro o' y' ho' hy' hne b hb hb'
      rcases a8w (σ:=σ) (φ:=φ) (σ1:=σ1) (φ1:=φ1) hn hin hl ho' with ⟨q1,q2,q3,q4⟩ | ⟨q,x',q1,q2,rfl,q4,q5⟩
      · rw [q4] at hb'
        exact (d2 b hb).2 (.inr (.inr ⟨hdm,o',y',q2,hy',q1,hb'⟩))
      · rw [b2i] at hy'
        rw [q5] at hb'
        refine d3 q x' q1 hy' (fun he => ?_) b hb hb'
        subst he
        rw [k2] at q2
        exact hne (Option.some.inj q2).symm

def b6q (hi hout:List o9):Prop:=∀ (i z:Nat) (l:List AV) (z':Nat) (l':List AV),hi[i]? = some (.row z l) → hout[i]? = some (.row z' l') → l'.length = l.length
theorem EvX.shapes {σ1 σ2:Sg} {hi hout:List o9} {w1 w2:World} (ev:EvX C σ1 hi w1 σ2 hout w2):b6q hi hout:=by
  intro i z l z' l' h1 h2
  rcases ev.obj i _ h1 rfl with hd | ⟨_,x',hx',hs⟩
  · rw [hd] at h2; cases h2
  · rw [h2] at hx'
    cases hx'
    exact hs.2.symm

theorem a0j.sound (hmd:C.mm = true → C.dm = true) (hr:y5 C σ φ h w) (hok:∀ b,C.mine b → C.ok b) (hb:∀ b,w.heap.size ≤ b → C.mine b) {f:Nat} {as:List AV} {vs:List Value} (hv:RVs C σ h w as vs)
    {args:List AV} {hi hout:List o9} {r:AV} (hn:js.Nodup) (hin:∀ j ∈ js,j < h.length) (ha:LeL (a6w (a8g js) as) args) (hh:LeH (b1y h js) hi) (hc:a0j P C.md.nz f args hi r hout) :
    Calls P f vs.toArray w fun e w' => match e with
      | .returned v => ∃ σ' φ',y5 C σ' φ' (b1p h js hout) w' ∧ EvX C σ h w σ' (b1p h js hout) w' ∧ RV C σ' (b1p h js hout) w' (ren (a7h h.length js) r) v ∧ Below C.base w w' ∧ b6q hi hout
      | _ => False:=by
  have h1:=d6g hn hin hr
  have h2:=hh.heap h1
  have hvs:=b1f (C':=c3v C σ φ h js) (b2j hn hin) (c8j hn hin) as vs hv
  have hvs2:=LeL.rvs ha _ ((LeH.ev hh).rvs _ _ hvs)
  refine (hc (c3v C σ φ h js) _ _ w vs rfl hmd ?_ ?_ h2 hvs2).mono ?_
  · intro b hm
    refine ⟨⟨hok b (b3z hm),fun o x c g1 g2 g3 g4 => hm.2 (.inr (.inl ⟨o,x,c,g1,g2,g3,g4⟩))⟩,fun _ _ hf => hm.2 (.inr hf)⟩
  · intro b hge
    have hm:=hb b hge
    refine ⟨hm.1,?_⟩
    rintro (hf | ⟨o,x,c,g1,g2,g3,g4⟩ | ⟨_,o,x,g1,g1',g2,g3⟩)
    · exact hm.2 hf
    · have:=hr.lt g1 g2 g4; omega
    · have:=hr.phiLtx g1 g1' g3; omega
  · intro e w' he
    cases e with
    | returned v =>
      obtain ⟨σ1,φ1,k1,k2,k3,k4⟩:=he
      obtain ⟨m1,m2,m3⟩:=d6h hmd hn hin hr k1 ((LeH.ev hh).x.trans k2)
      exact ⟨_,_,m1,m2,m3 r v k3,k4,k2.shapes⟩
    | panicked _ => exact he
    | outgrown => exact he
end
end Go.R
