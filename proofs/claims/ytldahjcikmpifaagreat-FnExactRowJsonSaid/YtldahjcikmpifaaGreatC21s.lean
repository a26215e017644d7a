/- Of the call's own heap some objects are kept, in an order that is told. -/
import Derived.Test.YtldahjcikmpifaaGreatC21g
set_option linter.all false
namespace Go.R
open Go Go.RowKit
set_option linter.unusedVariables false
set_option linter.unusedSimpArgs false

def d0y:Nat → Nat → List Nat → Bool
  | 0,_,_ => true
  | n + 1,i,j :: js => Nat.beq j i && d0y n (i + 1) js
  | _ + 1,_,[] => false
def d3o (x:Nat):List Nat → Bool
  | [] => true
  | y :: ys => !(Nat.beq x y) && d3o x ys
def d9f:List Nat → Bool
  | [] => true
  | x :: xs => d3o x xs && d9f xs
def d9g (len:Nat):List Nat → Bool
  | [] => true
  | x :: xs => Nat.ble (x + 1) len && d9g len xs
def b8c (n0 len:Nat) (js:List Nat):Bool:=d0y n0 0 js && d9f js && d9g len js
theorem c7e:∀ (n i:Nat) (js:List Nat),d0y n i js = true → js.take n = List.range' i n ∧ n ≤ js.length
  | 0,i,js,_ => by simp
  | n + 1,i,[],h => by simp [d0y] at h
  | n + 1,i,j :: js,h => by
    simp only [d0y,Bool.and_eq_true] at h
    obtain ⟨h1,h2⟩:=c7e n (i + 1) js h.2
    have:j = i:=Nat.eq_of_beq_eq_true h.1
    subst this
    simp [h1,h2,List.range'_succ]
theorem c7f {x:Nat}:∀ {ys:List Nat},d3o x ys = true → x ∉ ys
  | [],_ => by simp
  | y :: ys,h => by
    simp only [d3o,Bool.and_eq_true,Bool.not_eq_true'] at h
    have h1:=c7f h.2
    have h2:x ≠ y:=Nat.ne_of_beq_eq_false h.1
    simp [h1,h2]
theorem d0z:∀ {js:List Nat},d9f js = true → js.Nodup
  | [],_ => by simp
  | j :: js,h => by
    simp only [d9f,Bool.and_eq_true] at h
    exact List.nodup_cons.2 ⟨c7f h.1,d0z h.2⟩
theorem d1a {len:Nat}:∀ {js:List Nat},d9g len js = true → ∀ j ∈ js,j < len
  | [],_ => by simp
  | x :: js,h => by
    simp only [d9g,Bool.and_eq_true] at h
    intro j hj
    rcases List.mem_cons.1 hj with rfl | hj
    · exact Nat.le_of_ble_eq_true h.1
    · exact d1a h.2 j hj

section
variable {C:Ctx} {σ:Sg} {φ:Nat → List Nat} {h:List o7} {w:World} {js:List Nat}

theorem b4t {K:Nat → Prop} (hn:js.Nodup) (hin:∀ j ∈ js,j < h.length) (b:Nat) (h1:K b) (h2:¬ liveAt h σ b):K b ∧ ¬ liveAt (b1z h js) (b2b σ js) b :=
  ⟨h1,fun hl => h2 (a6z hn hin hl)⟩

theorem c7g (hn:js.Nodup) (hin:∀ j ∈ js,j < h.length) (hr:o9 C σ φ h w):o9 C (b2b σ js) (b8w φ js) (b1z h js) w where
  obj k y hk:=by
    obtain ⟨o,x,g1,g2,rfl⟩:=(a4p hin).1 hk
    have hob:=hr.obj o x g2
    have e1:b2b σ js k = σ o:=by simp only [b2b,g1]
    have e2:b8w φ js k = φ o:=by simp only [b8w,g1]
    cases x with
    | dead => trivial
    | box sz v =>
      obtain ⟨g,cur,e,h1,h2,h3,h4⟩:=hob
      exact ⟨g,cur,e,by rw [e1]; exact h1,h2,h3,a7r (b2l hn hin) (b4t hn hin) _ _ h4⟩
    | map m =>
      obtain ⟨g,cur,e,h1,h2,h3,h4⟩:=hob
      exact ⟨g,cur,e,by rw [e1]; exact h1,h2,h3.ren _,by rw [b8t]; exact b1b (b2l hn hin) (b4t hn hin) _ _ h4⟩
    | row sz l =>
      obtain ⟨h0,hob⟩:=hob
      refine ⟨h0,?_⟩
      rw [e1,e2]
      cases hs:σ o with
      | none => rw [hs] at hob; exact hob
      | some p =>
        rw [hs] at hob
        obtain ⟨h1,cur,e,h2,h3,h4,h5⟩:=hob
        exact ⟨h1,cur,e,h2,h3,h4,fun b hb => b4t hn hin b (h5 b hb).1 (h5 b hb).2⟩
    | rowx sz l i el =>
      obtain ⟨hz,hmm,hi,g,c,cur,e,f1,f2,k1,k2,k3,k4,k5,k6,k7,k7',k8,k9⟩:=hob
      exact ⟨hz,hmm,hi,g,c,cur,e,f1,f2,by rw [e1]; exact k1,k2,k3,k4,k5,a7r (b2l hn hin) (b4t hn hin) _ _ k6,k7,by rw [b1a]; exact k7',by rw [e2]; exact k8,fun b hb => by rw [e2] at hb; exact b4t hn hin b (k9 b hb).1 (k9 b hb).2⟩
  inj k k' y y' b c c' hk hy hk' hy' hs hs':=by
    obtain ⟨o,x,g1,g2,rfl⟩:=(a4p hin).1 hk
    obtain ⟨o',x',g1',g2',rfl⟩:=(a4p hin).1 hk'
    rw [a5e] at hy hy'
    simp only [b2b,g1] at hs
    simp only [b2b,g1'] at hs'
    have:=hr.inj o o' x x' b c c' g2 hy g2' hy' hs hs'
    subst this
    have e1:=(a4w hn).2 g1
    have e2:=(a4w hn).2 g1'
    rw [e1] at e2
    exact Option.some.inj e2
  base k y b c hk hy hs:=by
    obtain ⟨o,x,g1,g2,rfl⟩:=(a4p hin).1 hk
    rw [a5e] at hy
    simp only [b2b,g1] at hs
    exact hr.base o x b c g2 hy hs
  deepx hdm k y hk hy:=by
    obtain ⟨o,x,g1,g2,rfl⟩:=(a4p hin).1 hk
    rw [b2k] at hy
    have e2:b8w φ js k = φ o:=by simp only [b8w,g1]
    obtain ⟨d1,d2,d3⟩:=hr.deepx hdm o x g2 hy
    rw [e2]
    refine ⟨d1,d2,?_⟩
    intro k' y' hk' hy' hne b hb
    obtain ⟨o',x',g1',g2',rfl⟩:=(a4p hin).1 hk'
    rw [b2k] at hy'
    have e2':b8w φ js k' = φ o':=by simp only [b8w,g1']
    rw [e2']
    refine d3 o' x' g2' hy' (fun he => ?_) b hb
    subst he
    have e1:=(a4w hn).2 g1
    have e3:=(a4w hn).2 g1'
    rw [e1] at e3
    exact hne (Option.some.inj e3).symm

theorem d3p {n0:Nat} {σ0:Sg} {h0:List o7} {w0:World} (hn:js.Nodup) (hin:∀ j ∈ js,j < h.length) (hp:js.take n0 = List.range n0) (hle:n0 ≤ js.length) (h0n:h0.length ≤ n0) (ev:EvX C σ0 h0 w0 σ h w):EvX C σ0 h0 w0 (b2b σ js) (b1z h js) w where
  obj o x ho hx:=by
    have hlt:o < n0:=by have:=(List.getElem?_eq_some_iff.1 ho).1; omega
    have hj:js[o]? = some o:=by
      have:(js.take n0)[o]? = some o:=by rw [hp]; simp [hlt]
      rw [List.getElem?_take_of_lt hlt] at this
      exact this
    have key:∀ y,h[o]? = some y → (b1z h js)[o]? = some (a5s (a7m js) y) ∧ b2b σ js o = σ o:=fun y hy => ⟨(a4p hin).2 ⟨o,y,hj,hy,rfl⟩,by simp only [b2b,hj]⟩
    rcases ev.obj o x ho hx with hd | ⟨e,x',hx',hs⟩
    · exact .inl (key _ hd).1
    · obtain ⟨k1,k2⟩:=key _ hx'
      refine .inr ⟨k2.trans e,_,k1,?_⟩
      cases x <;> cases x' <;> simp_all [sameShape,a5s]
  gone o ho:=by
    have hlt:o < n0:=by have:=(List.getElem?_eq_some_iff.1 ho).1; omega
    have hj:js[o]? = some o:=by
      have:(js.take n0)[o]? = some o:=by rw [hp]; simp [hlt]
      rw [List.getElem?_take_of_lt hlt] at this
      exact this
    exact (a4p hin).2 ⟨o,.dead,hj,ev.gone o ho,rfl⟩
  live b hb hl:=ev.live b hb (a6z hn hin hl)
  blk:=ev.blk
  size:=ev.size
end

def d9h (f:Nat → Option Nat) (t:Nat → AV):List (Nat × AV) → Prop
  | [] => True
  | (k,v) :: r => Le (ren f (t k)) v ∧ d9h f t r
theorem d1b {f:Nat → Option Nat} {t:Nat → AV}:∀ {bs:List (Nat × AV)},d9h f t bs → ∀ p ∈ bs,Le (ren f (t p.1)) p.2
  | [],_,p,hp => by simp at hp
  | (k,v) :: r,hf,p,hp => by
    simp only [d9h] at hf
    rcases List.mem_cons.1 hp with rfl | hp
    · exact hf.1
    · exact d1b hf.2 p hp
def b5h (m:Bool) (n0:Nat) (t:Nat → AV) (h:List o7) (s:List (Nat × AV) × List o7):Prop :=
  ∃ gs js t' h',ghs m t h gs = some (t',h') ∧ b8c n0 h'.length js = true ∧ d9h (a7m js) t' s.1 ∧ LeH (b1z h' js) s.2

section
variable {C:Ctx} {w0:World} {σ0:Sg} {h0:List o7} {N n0:Nat}
theorem b4u {len:Nat} {js:List Nat} (h:b8c n0 len js = true):js.take n0 = List.range n0 ∧ n0 ≤ js.length ∧ js.Nodup ∧ ∀ j ∈ js,j < len:=by
  simp only [b8c,Bool.and_eq_true] at h
  obtain ⟨h1,h2⟩:=c7e _ _ _ h.1.1
  exact ⟨by rw [h1,List.range_eq_range'],h2,d0z h.1.2,d1a h.2⟩

theorem b5h.rel {t:Nat → AV} {h:List o7} {a:Act} {w:World} {s:List (Nat × AV) × List o7} (hok:∀ b,C.mine b → C.ok b) (hn:h0.length ≤ n0) (hs:St C w0 σ0 h0 N t h a w) (hf:b5h C.mm n0 t h s) :
    ∃ F σ φ,FrX C w F ∧ o9 (C.frz F) σ φ s.2 w ∧ EvX C σ0 h0 w0 σ s.2 w ∧ ∀ p ∈ s.1,RV (C.frz F) σ s.2 w p.2 (a.tmps.getD p.1 Go.undef):=by
  obtain ⟨gs,js,t',h',h1,h2,f1,f2⟩:=hf
  obtain ⟨k1,k2,k3,k4⟩:=b4u h2
  have hs':=c8t hok hs h1
  obtain ⟨F,σ,φ,g0,g1,g2,g3⟩:=hs'.rel
  refine ⟨F,_,_,g0,f2.heap (c7g k3 k4 g1),(d3p k3 k4 k1 k2 hn g2).trans f2.ev.x,fun p hp => ?_⟩
  exact f2.ev.rv _ _ (Le.rv (d1b f1 p hp) _ (c3y (b2l k3 k4) (b4t k3 k4) _ _ (g3 p.1)))
end
end Go.R
