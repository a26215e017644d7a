/- Of the call's own heap some objects are kept, in an order that is told. -/
import Derived.Test.YthneidgpgfgecaaC21g
set_option linter.all false
namespace Go.R
open Go Go.RowKit
set_option linter.unusedVariables false
set_option linter.unusedSimpArgs false

def c6w:Nat → Nat → List Nat → Bool
  | 0,_,_ => true
  | n + 1,i,j :: js => Nat.beq j i && c6w n (i + 1) js
  | _ + 1,_,[] => false
def c9n (x:Nat):List Nat → Bool
  | [] => true
  | y :: ys => !(Nat.beq x y) && c9n x ys
def d4u:List Nat → Bool
  | [] => true
  | x :: xs => c9n x xs && d4u xs
def d4v (len:Nat):List Nat → Bool
  | [] => true
  | x :: xs => Nat.ble (x + 1) len && d4v len xs
def b5v (n0 len:Nat) (js:List Nat):Bool:=c6w n0 0 js && d4u js && d4v len js
theorem c3l:∀ (n i:Nat) (js:List Nat),c6w n i js = true → js.take n = List.range' i n ∧ n ≤ js.length
  | 0,i,js,_ => by simp
  | n + 1,i,[],h => by simp [c6w] at h
  | n + 1,i,j :: js,h => by
    simp only [c6w,Bool.and_eq_true] at h
    obtain ⟨h1,h2⟩:=c3l n (i + 1) js h.2
    have:j = i:=Nat.eq_of_beq_eq_true h.1
    subst this
    simp [h1,h2,List.range'_succ]
theorem c3n {x:Nat}:∀ {ys:List Nat},c9n x ys = true → x ∉ ys
  | [],_ => by simp
  | y :: ys,h => by
    simp only [c9n,Bool.and_eq_true,Bool.not_eq_true'] at h
    have h1:=c3n h.2
    have h2:x ≠ y:=Nat.ne_of_beq_eq_false h.1
    simp [h1,h2]
theorem c6x:∀ {js:List Nat},d4u js = true → js.Nodup
  | [],_ => by simp
  | j :: js,h => by
    simp only [d4u,Bool.and_eq_true] at h
    exact List.nodup_cons.2 ⟨c3n h.1,c6x h.2⟩
theorem c6y {len:Nat}:∀ {js:List Nat},d4v len js = true → ∀ j ∈ js,j < len
  | [],_ => by simp
  | x :: js,h => by
    simp only [d4v,Bool.and_eq_true] at h
    intro j hj
    rcases List.mem_cons.1 hj with rfl | hj
    · exact Nat.le_of_ble_eq_true h.1
    · exact c6y h.2 j hj

section
variable {C:Ctx} {σ:Sg} {φ:Nat → List Nat} {h:List o9} {w:World} {js:List Nat}

theorem b4o {K:Nat → Prop} (hn:js.Nodup) (hin:∀ j ∈ js,j < h.length) (b:Nat) (h1:K b) (h2:¬ liveAt h σ b):K b ∧ ¬ liveAt (b0n h js) (b0p σ js) b :=
  ⟨h1,fun hl => h2 (a6x hn hin hl)⟩

theorem c3o (hn:js.Nodup) (hin:∀ j ∈ js,j < h.length) (hr:x8 C σ φ h w):x8 C (b0p σ js) (b6j φ js) (b0n h js) w where
  obj k y hk:=by
    obtain ⟨o,x,g1,g2,rfl⟩:=(a4n hin).1 hk
    have hob:=hr.obj o x g2
    have e1:b0p σ js k = σ o:=by simp only [b0p,g1]
    have e2:b6j φ js k = φ o:=by simp only [b6j,g1]
    cases x with
    | dead => trivial
    | box sz v =>
      obtain ⟨g,cur,e,h1,h2,h3,h4⟩:=hob
      exact ⟨g,cur,e,by rw [e1]; exact h1,h2,h3,a7l (b2n hn hin) (b4o hn hin) _ _ h4⟩
    | row sz l =>
      obtain ⟨h0,hob⟩:=hob
      refine ⟨h0,?_⟩
      rw [e1,e2]
      cases hs:σ o with
      | none => rw [hs] at hob; exact hob
      | some p =>
        rw [hs] at hob
        obtain ⟨h1,cur,e,h2,h3,h4,h5⟩:=hob
        exact ⟨h1,cur,e,h2,h3,h4,fun b hb => b4o hn hin b (h5 b hb).1 (h5 b hb).2⟩
    | rowx sz l i el =>
      obtain ⟨hz,hmm,hi,g,c,cur,e,f1,f2,k1,k2,k3,k4,k5,k6,k7,k7',k8,k9⟩:=hob
      exact ⟨hz,hmm,hi,g,c,cur,e,f1,f2,by rw [e1]; exact k1,k2,k3,k4,k5,a7l (b2n hn hin) (b4o hn hin) _ _ k6,k7,by rw [a9w]; exact k7',by rw [e2]; exact k8,fun b hb => by rw [e2] at hb; exact b4o hn hin b (k9 b hb).1 (k9 b hb).2⟩
  inj k k' y y' b c c' hk hy hk' hy' hs hs':=by
    obtain ⟨o,x,g1,g2,rfl⟩:=(a4n hin).1 hk
    obtain ⟨o',x',g1',g2',rfl⟩:=(a4n hin).1 hk'
    rw [a4z] at hy hy'
    simp only [b0p,g1] at hs
    simp only [b0p,g1'] at hs'
    have:=hr.inj o o' x x' b c c' g2 hy g2' hy' hs hs'
    subst this
    have e1:=(a4s hn).2 g1
    have e2:=(a4s hn).2 g1'
    rw [e1] at e2
    exact Option.some.inj e2
  base k y b c hk hy hs:=by
    obtain ⟨o,x,g1,g2,rfl⟩:=(a4n hin).1 hk
    rw [a4z] at hy
    simp only [b0p,g1] at hs
    exact hr.base o x b c g2 hy hs
  deepx hdm k y hk hy:=by
    obtain ⟨o,x,g1,g2,rfl⟩:=(a4n hin).1 hk
    rw [b0w] at hy
    have e2:b6j φ js k = φ o:=by simp only [b6j,g1]
    obtain ⟨d1,d2,d3⟩:=hr.deepx hdm o x g2 hy
    rw [e2]
    refine ⟨d1,d2,?_⟩
    intro k' y' hk' hy' hne b hb
    obtain ⟨o',x',g1',g2',rfl⟩:=(a4n hin).1 hk'
    rw [b0w] at hy'
    have e2':b6j φ js k' = φ o':=by simp only [b6j,g1']
    rw [e2']
    refine d3 o' x' g2' hy' (fun he => ?_) b hb
    subst he
    have e1:=(a4s hn).2 g1
    have e3:=(a4s hn).2 g1'
    rw [e1] at e3
    exact hne (Option.some.inj e3).symm

theorem c9o {n0:Nat} {σ0:Sg} {h0:List o9} {w0:World} (hn:js.Nodup) (hin:∀ j ∈ js,j < h.length) (hp:js.take n0 = List.range n0) (hle:n0 ≤ js.length) (h0n:h0.length ≤ n0) (ev:EvX C σ0 h0 w0 σ h w):EvX C σ0 h0 w0 (b0p σ js) (b0n h js) w where
  obj o x ho hx:=by
    have hlt:o < n0:=by have:=(List.getElem?_eq_some_iff.1 ho).1; omega
    have hj:js[o]? = some o:=by
      have:(js.take n0)[o]? = some o:=by rw [hp]; simp [hlt]
      rw [List.getElem?_take_of_lt hlt] at this
      exact this
    have key:∀ y,h[o]? = some y → (b0n h js)[o]? = some (a5v (a7j js) y) ∧ b0p σ js o = σ o:=fun y hy => ⟨(a4n hin).2 ⟨o,y,hj,hy,rfl⟩,by simp only [b0p,hj]⟩
    rcases ev.obj o x ho hx with hd | ⟨e,x',hx',hs⟩
    · exact .inl (key _ hd).1
    · obtain ⟨k1,k2⟩:=key _ hx'
      refine .inr ⟨k2.trans e,_,k1,?_⟩
      cases x <;> cases x' <;> simp_all [sameShape,a5v]
  gone o ho:=by
    have hlt:o < n0:=by have:=(List.getElem?_eq_some_iff.1 ho).1; omega
    have hj:js[o]? = some o:=by
      have:(js.take n0)[o]? = some o:=by rw [hp]; simp [hlt]
      rw [List.getElem?_take_of_lt hlt] at this
      exact this
    exact (a4n hin).2 ⟨o,.dead,hj,ev.gone o ho,rfl⟩
  live b hb hl:=ev.live b hb (a6x hn hin hl)
  blk:=ev.blk
  size:=ev.size
end

def d4w (f:Nat → Option Nat) (t:Nat → AV):List (Nat × AV) → Prop
  | [] => True
  | (k,v) :: r => Le (ren f (t k)) v ∧ d4w f t r
theorem c6z {f:Nat → Option Nat} {t:Nat → AV}:∀ {bs:List (Nat × AV)},d4w f t bs → ∀ p ∈ bs,Le (ren f (t p.1)) p.2
  | [],_,p,hp => by simp at hp
  | (k,v) :: r,hf,p,hp => by
    simp only [d4w] at hf
    rcases List.mem_cons.1 hp with rfl | hp
    · exact hf.1
    · exact c6z hf.2 p hp
def b2x (m:Bool) (n0:Nat) (t:Nat → AV) (h:List o9) (s:List (Nat × AV) × List o9):Prop :=
  ∃ gs js t' h',ghs m t h gs = some (t',h') ∧ b5v n0 h'.length js = true ∧ d4w (a7j js) t' s.1 ∧ LeH (b0n h' js) s.2

section
variable {C:Ctx} {w0:World} {σ0:Sg} {h0:List o9} {N n0:Nat}
theorem b2q {len:Nat} {js:List Nat} (h:b5v n0 len js = true):js.take n0 = List.range n0 ∧ n0 ≤ js.length ∧ js.Nodup ∧ ∀ j ∈ js,j < len:=by
  simp only [b5v,Bool.and_eq_true] at h
  obtain ⟨h1,h2⟩:=c3l _ _ _ h.1.1
  exact ⟨by rw [h1,List.range_eq_range'],h2,c6x h.1.2,c6y h.2⟩

theorem b2x.rel {t:Nat → AV} {h:List o9} {a:Act} {w:World} {s:List (Nat × AV) × List o9} (hok:∀ b,C.mine b → C.ok b) (hn:h0.length ≤ n0) (hs:St C w0 σ0 h0 N t h a w) (hf:b2x C.mm n0 t h s) :
    ∃ F σ φ,FrX C w F ∧ x8 (C.frz F) σ φ s.2 w ∧ EvX C σ0 h0 w0 σ s.2 w ∧ ∀ p ∈ s.1,RV (C.frz F) σ s.2 w p.2 (a.tmps.getD p.1 Go.undef):=by
  obtain ⟨gs,js,t',h',h1,h2,f1,f2⟩:=hf
  obtain ⟨k1,k2,k3,k4⟩:=b2q h2
  have hs':=c4v hok hs h1
  obtain ⟨F,σ,φ,g0,g1,g2,g3⟩:=hs'.rel
  refine ⟨F,_,_,g0,f2.heap (c3o k3 k4 g1),(c9o k3 k4 k1 k2 hn g2).trans f2.ev.x,fun p hp => ?_⟩
  exact f2.ev.rv _ _ (Le.rv (c6z f1 p hp) _ (c0i (b2n k3 k4) (b4o k3 k4) _ _ (g3 p.1)))
end
end Go.R
