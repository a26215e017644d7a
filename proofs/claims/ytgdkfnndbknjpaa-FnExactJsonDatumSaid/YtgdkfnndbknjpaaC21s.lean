/- Of the call's own heap some objects are kept, in an order that is told. -/
import Derived.Test.YtgdkfnndbknjpaaC21g
set_option linter.all false
namespace Go.R
open Go Go.RowKit
set_option linter.unusedVariables false
set_option linter.unusedSimpArgs false

def c4j:Nat → Nat → List Nat → Bool
  | 0,_,_ => true
  | n + 1,i,j :: js => Nat.beq j i && c4j n (i + 1) js
  | _ + 1,_,[] => false
def c6z (x:Nat):List Nat → Bool
  | [] => true
  | y :: ys => !(Nat.beq x y) && c6z x ys
def d1b:List Nat → Bool
  | [] => true
  | x :: xs => c6z x xs && d1b xs
def d1c (len:Nat):List Nat → Bool
  | [] => true
  | x :: xs => Nat.ble (x + 1) len && d1c len xs
def b3z (n0 len:Nat) (js:List Nat):Bool:=c4j n0 0 js && d1b js && d1c len js
theorem c0y:∀ (n i:Nat) (js:List Nat),c4j n i js = true → js.take n = List.range' i n ∧ n ≤ js.length
  | 0,i,js,_ => by simp
  | n + 1,i,[],h => by simp [c4j] at h
  | n + 1,i,j :: js,h => by
    simp only [c4j,Bool.and_eq_true] at h
    obtain ⟨h1,h2⟩:=c0y n (i + 1) js h.2
    have:j = i:=Nat.eq_of_beq_eq_true h.1
    subst this
    simp [h1,h2,List.range'_succ]
theorem c0z {x:Nat}:∀ {ys:List Nat},c6z x ys = true → x ∉ ys
  | [],_ => by simp
  | y :: ys,h => by
    simp only [c6z,Bool.and_eq_true,Bool.not_eq_true'] at h
    have h1:=c0z h.2
    have h2:x ≠ y:=Nat.ne_of_beq_eq_false h.1
    simp [h1,h2]
theorem c4k:∀ {js:List Nat},d1b js = true → js.Nodup
  | [],_ => by simp
  | j :: js,h => by
    simp only [d1b,Bool.and_eq_true] at h
    exact List.nodup_cons.2 ⟨c0z h.1,c4k h.2⟩
theorem c4l {len:Nat}:∀ {js:List Nat},d1c len js = true → ∀ j ∈ js,j < len
  | [],_ => by simp
  | x :: js,h => by
    simp only [d1c,Bool.and_eq_true] at h
    intro j hj
    rcases List.mem_cons.1 hj with rfl | hj
    · exact Nat.le_of_ble_eq_true h.1
    · exact c4l h.2 j hj

section
variable {C:Ctx} {σ:Sg} {φ:Nat → List Nat} {h:List o7} {w:World} {js:List Nat}

theorem b2m {K:Nat → Prop} (hn:js.Nodup) (hin:∀ j ∈ js,j < h.length) (b:Nat) (h1:K b) (h2:¬ liveAt h σ b):K b ∧ ¬ liveAt (a9p h js) (a8u σ js) b :=
  ⟨h1,fun hl => h2 (a5l hn hin hl)⟩

theorem c1b (hn:js.Nodup) (hin:∀ j ∈ js,j < h.length) (hr:x8 C σ φ h w):x8 C (a8u σ js) (b4o φ js) (a9p h js) w where
  obj k y hk:=by
    obtain ⟨o,x,g1,g2,rfl⟩:=(a3d hin).1 hk
    have hob:=hr.obj o x g2
    have e1:a8u σ js k = σ o:=by simp only [a8u,g1]
    have e2:b4o φ js k = φ o:=by simp only [b4o,g1]
    cases x with
    | dead => trivial
    | box sz v =>
      obtain ⟨g,cur,e,h1,h2,h3,h4⟩:=hob
      exact ⟨g,cur,e,by rw [e1]; exact h1,h2,h3,a6c (b0v hn hin) (b2m hn hin) _ _ h4⟩
    | row sz l =>
      obtain ⟨h0,hob⟩:=hob
      refine ⟨h0,?_⟩
      rw [e1,e2]
      cases hs:σ o with
      | none => rw [hs] at hob; exact hob
      | some p =>
        rw [hs] at hob
        obtain ⟨h1,cur,e,h2,h3,h4,h5⟩:=hob
        exact ⟨h1,cur,e,h2,h3,h4,fun b hb => b2m hn hin b (h5 b hb).1 (h5 b hb).2⟩
    | rowx sz l i el =>
      obtain ⟨hz,hmm,hi,g,c,cur,e,f1,f2,k1,k2,k3,k4,k5,k6,k7,k7',k8,k9⟩:=hob
      exact ⟨hz,hmm,hi,g,c,cur,e,f1,f2,by rw [e1]; exact k1,k2,k3,k4,k5,a6c (b0v hn hin) (b2m hn hin) _ _ k6,k7,by rw [a8d]; exact k7',by rw [e2]; exact k8,fun b hb => by rw [e2] at hb; exact b2m hn hin b (k9 b hb).1 (k9 b hb).2⟩
  inj k k' y y' b c c' hk hy hk' hy' hs hs':=by
    obtain ⟨o,x,g1,g2,rfl⟩:=(a3d hin).1 hk
    obtain ⟨o',x',g1',g2',rfl⟩:=(a3d hin).1 hk'
    rw [a3q] at hy hy'
    simp only [a8u,g1] at hs
    simp only [a8u,g1'] at hs'
    have:=hr.inj o o' x x' b c c' g2 hy g2' hy' hs hs'
    subst this
    have e1:=(a3l hn).2 g1
    have e2:=(a3l hn).2 g1'
    rw [e1] at e2
    exact Option.some.inj e2
  base k y b c hk hy hs:=by
    obtain ⟨o,x,g1,g2,rfl⟩:=(a3d hin).1 hk
    rw [a3q] at hy
    simp only [a8u,g1] at hs
    exact hr.base o x b c g2 hy hs
  deepx hdm k y hk hy:=by
    obtain ⟨o,x,g1,g2,rfl⟩:=(a3d hin).1 hk
    rw [a8z] at hy
    have e2:b4o φ js k = φ o:=by simp only [b4o,g1]
    obtain ⟨d1,d2,d3⟩:=hr.deepx hdm o x g2 hy
    rw [e2]
    refine ⟨d1,d2,?_⟩
    intro k' y' hk' hy' hne b hb
    obtain ⟨o',x',g1',g2',rfl⟩:=(a3d hin).1 hk'
    rw [a8z] at hy'
    have e2':b4o φ js k' = φ o':=by simp only [b4o,g1']
    rw [e2']
    refine d3 o' x' g2' hy' (fun he => ?_) b hb
    subst he
    have e1:=(a3l hn).2 g1
    have e3:=(a3l hn).2 g1'
    rw [e1] at e3
    exact hne (Option.some.inj e3).symm

theorem c7a {n0:Nat} {σ0:Sg} {h0:List o7} {w0:World} (hn:js.Nodup) (hin:∀ j ∈ js,j < h.length) (hp:js.take n0 = List.range n0) (hle:n0 ≤ js.length) (h0n:h0.length ≤ n0) (ev:EvX C σ0 h0 w0 σ h w):EvX C σ0 h0 w0 (a8u σ js) (a9p h js) w where
  obj o x ho hx:=by
    have hlt:o < n0:=by have:=(List.getElem?_eq_some_iff.1 ho).1; omega
    have hj:js[o]? = some o:=by
      have:(js.take n0)[o]? = some o:=by rw [hp]; simp [hlt]
      rw [List.getElem?_take_of_lt hlt] at this
      exact this
    have key:∀ y,h[o]? = some y → (a9p h js)[o]? = some (a4m (a6r js) y) ∧ a8u σ js o = σ o:=fun y hy => ⟨(a3d hin).2 ⟨o,y,hj,hy,rfl⟩,by simp only [a8u,hj]⟩
    rcases ev.obj o x ho hx with hd | ⟨e,x',hx',hs⟩
    · exact .inl (key _ hd).1
    · obtain ⟨k1,k2⟩:=key _ hx'
      refine .inr ⟨k2.trans e,_,k1,?_⟩
      cases x <;> cases x' <;> simp_all [sameShape,a4m]
  gone o ho:=by
    have hlt:o < n0:=by have:=(List.getElem?_eq_some_iff.1 ho).1; omega
    have hj:js[o]? = some o:=by
      have:(js.take n0)[o]? = some o:=by rw [hp]; simp [hlt]
      rw [List.getElem?_take_of_lt hlt] at this
      exact this
    exact (a3d hin).2 ⟨o,.dead,hj,ev.gone o ho,rfl⟩
  live b hb hl:=ev.live b hb (a5l hn hin hl)
  blk:=ev.blk
  size:=ev.size
end

def d1d (f:Nat → Option Nat) (t:Nat → AV):List (Nat × AV) → Prop
  | [] => True
  | (k,v) :: r => Le (ren f (t k)) v ∧ d1d f t r
theorem c4m {f:Nat → Option Nat} {t:Nat → AV}:∀ {bs:List (Nat × AV)},d1d f t bs → ∀ p ∈ bs,Le (ren f (t p.1)) p.2
  | [],_,p,hp => by simp at hp
  | (k,v) :: r,hf,p,hp => by
    simp only [d1d] at hf
    rcases List.mem_cons.1 hp with rfl | hp
    · exact hf.1
    · exact c4m hf.2 p hp
def b1e (m:Bool) (n0:Nat) (t:Nat → AV) (h:List o7) (s:List (Nat × AV) × List o7):Prop :=
  ∃ gs js t' h',ghs m t h gs = some (t',h') ∧ b3z n0 h'.length js = true ∧ d1d (a6r js) t' s.1 ∧ LeH (a9p h' js) s.2

section
variable {C:Ctx} {w0:World} {σ0:Sg} {h0:List o7} {N n0:Nat}
theorem a9r {len:Nat} {js:List Nat} (h:b3z n0 len js = true):js.take n0 = List.range n0 ∧ n0 ≤ js.length ∧ js.Nodup ∧ ∀ j ∈ js,j < len:=by
  simp only [b3z,Bool.and_eq_true] at h
  obtain ⟨h1,h2⟩:=c0y _ _ _ h.1.1
  exact ⟨by rw [h1,List.range_eq_range'],h2,c4k h.1.2,c4l h.2⟩

theorem b1e.rel {t:Nat → AV} {h:List o7} {a:Act} {w:World} {s:List (Nat × AV) × List o7} (hok:∀ b,C.mine b → C.ok b) (hn:h0.length ≤ n0) (hs:St C w0 σ0 h0 N t h a w) (hf:b1e C.mm n0 t h s) :
    ∃ σ φ,x8 C σ φ s.2 w ∧ EvX C σ0 h0 w0 σ s.2 w ∧ ∀ p ∈ s.1,RV C σ s.2 w p.2 (a.tmps.getD p.1 Go.undef):=by
  obtain ⟨gs,js,t',h',h1,h2,f1,f2⟩:=hf
  obtain ⟨k1,k2,k3,k4⟩:=a9r h2
  have hs':=c2k hok hs h1
  obtain ⟨σ,φ,g1,g2,g3⟩:=hs'.rel
  refine ⟨_,_,f2.heap (c1b k3 k4 g1),(c7a k3 k4 k1 k2 hn g2).trans f2.ev.x,fun p hp => ?_⟩
  exact f2.ev.rv _ _ (Le.rv (c4m f1 p hp) _ (b8b (b0v k3 k4) (b2m k3 k4) _ _ (g3 p.1)))
end
end Go.R
