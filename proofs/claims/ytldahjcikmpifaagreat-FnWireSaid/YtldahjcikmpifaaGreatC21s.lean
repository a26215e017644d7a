/- Of the call's own heap some objects are kept, in an order that is told. -/
import Derived.Test.YtldahjcikmpifaaGreatC21g
set_option linter.all false
namespace Go.R
open Go Go.RowKit
set_option linter.unusedVariables false
set_option linter.unusedSimpArgs false

def d0q:Nat → Nat → List Nat → Bool
  | 0,_,_ => true
  | n + 1,i,j :: js => Nat.beq j i && d0q n (i + 1) js
  | _ + 1,_,[] => false
def d3i (x:Nat):List Nat → Bool
  | [] => true
  | y :: ys => !(Nat.beq x y) && d3i x ys
def d9o:List Nat → Bool
  | [] => true
  | x :: xs => d3i x xs && d9o xs
def d9p (len:Nat):List Nat → Bool
  | [] => true
  | x :: xs => Nat.ble (x + 1) len && d9p len xs
def b7x (n0 len:Nat) (js:List Nat):Bool:=d0q n0 0 js && d9o js && d9p len js
theorem c6v:∀ (n i:Nat) (js:List Nat),d0q n i js = true → js.take n = List.range' i n ∧ n ≤ js.length
  | 0,i,js,_ => by simp
  | n + 1,i,[],h => by simp [d0q] at h
  | n + 1,i,j :: js,h => by
    simp only [d0q,Bool.and_eq_true] at h
    obtain ⟨h1,h2⟩:=c6v n (i + 1) js h.2
    have:j = i:=Nat.eq_of_beq_eq_true h.1
    subst this
    simp [h1,h2,List.range'_succ]
theorem c6w {x:Nat}:∀ {ys:List Nat},d3i x ys = true → x ∉ ys
  | [],_ => by simp
  | y :: ys,h => by
    simp only [d3i,Bool.and_eq_true,Bool.not_eq_true'] at h
    have h1:=c6w h.2
    have h2:x ≠ y:=Nat.ne_of_beq_eq_false h.1
    simp [h1,h2]
theorem d0r:∀ {js:List Nat},d9o js = true → js.Nodup
  | [],_ => by simp
  | j :: js,h => by
    simp only [d9o,Bool.and_eq_true] at h
    exact List.nodup_cons.2 ⟨c6w h.1,d0r h.2⟩
theorem d0s {len:Nat}:∀ {js:List Nat},d9p len js = true → ∀ j ∈ js,j < len
  | [],_ => by simp
  | x :: js,h => by
    simp only [d9p,Bool.and_eq_true] at h
    intro j hj
    rcases List.mem_cons.1 hj with rfl | hj
    · exact Nat.le_of_ble_eq_true h.1
    · exact d0s h.2 j hj

section
variable {C:Ctx} {σ:Sg} {φ:Nat → List Nat} {h:List o9} {w:World} {js:List Nat}

theorem b4r {K:Nat → Prop} (hn:js.Nodup) (hin:∀ j ∈ js,j < h.length) (b:Nat) (h1:K b) (h2:¬ liveAt h σ b):K b ∧ ¬ liveAt (b1y h js) (b1z σ js) b :=
  ⟨h1,fun hl => h2 (a7q hn hin hl)⟩

theorem c6x (hn:js.Nodup) (hin:∀ j ∈ js,j < h.length) (hr:y5 C σ φ h w):y5 C (b1z σ js) (b8p φ js) (b1y h js) w where
  obj k y hk:=by
    obtain ⟨o,x,g1,g2,rfl⟩:=(a4y hin).1 hk
    have hob:=hr.obj o x g2
    have e1:b1z σ js k = σ o:=by simp only [b1z,g1]
    have e2:b8p φ js k = φ o:=by simp only [b8p,g1]
    cases x with
    | dead => trivial
    | box sz v =>
      obtain ⟨g,cur,e,h1,h2,h3,h4⟩:=hob
      exact ⟨g,cur,e,by rw [e1]; exact h1,h2,h3,a8m (b2j hn hin) (b4r hn hin) _ _ h4⟩
    | map m =>
      obtain ⟨g,cur,e,h1,h2,h3,h4⟩:=hob
      exact ⟨g,cur,e,by rw [e1]; exact h1,h2,h3.ren _,by rw [b8m]; exact b1f (b2j hn hin) (b4r hn hin) _ _ h4⟩
    | row sz l =>
      obtain ⟨h0,hob⟩:=hob
      refine ⟨h0,?_⟩
      rw [e1,e2]
      cases hs:σ o with
      | none => rw [hs] at hob; exact hob
      | some p =>
        rw [hs] at hob
        obtain ⟨h1,cur,e,h2,h3,h4,h5⟩:=hob
        exact ⟨h1,cur,e,h2,h3,h4,fun b hb => b4r hn hin b (h5 b hb).1 (h5 b hb).2⟩
    | rowx sz l i el =>
      obtain ⟨hz,hmm,hi,g,c,cur,e,f1,f2,k1,k2,k3,k4,k5,k6,k7,k7',k8,k9⟩:=hob
      exact ⟨hz,hmm,hi,g,c,cur,e,f1,f2,by rw [e1]; exact k1,k2,k3,k4,k5,a8m (b2j hn hin) (b4r hn hin) _ _ k6,k7,by rw [b1e]; exact k7',by rw [e2]; exact k8,fun b hb => by rw [e2] at hb; exact b4r hn hin b (k9 b hb).1 (k9 b hb).2⟩
  inj k k' y y' b c c' hk hy hk' hy' hs hs':=by
    obtain ⟨o,x,g1,g2,rfl⟩:=(a4y hin).1 hk
    obtain ⟨o',x',g1',g2',rfl⟩:=(a4y hin).1 hk'
    rw [a5n] at hy hy'
    simp only [b1z,g1] at hs
    simp only [b1z,g1'] at hs'
    have:=hr.inj o o' x x' b c c' g2 hy g2' hy' hs hs'
    subst this
    have e1:=(a5i hn).2 g1
    have e2:=(a5i hn).2 g1'
    rw [e1] at e2
    exact Option.some.inj e2
  base k y b c hk hy hs:=by
    obtain ⟨o,x,g1,g2,rfl⟩:=(a4y hin).1 hk
    rw [a5n] at hy
    simp only [b1z,g1] at hs
    exact hr.base o x b c g2 hy hs
  deepx hdm k y hk hy:=by
    obtain ⟨o,x,g1,g2,rfl⟩:=(a4y hin).1 hk
    rw [b2i] at hy
    have e2:b8p φ js k = φ o:=by simp only [b8p,g1]
    obtain ⟨d1,d2,d3⟩:=hr.deepx hdm o x g2 hy
    rw [e2]
    refine ⟨d1,d2,?_⟩
    intro k' y' hk' hy' hne b hb
    obtain ⟨o',x',g1',g2',rfl⟩:=(a4y hin).1 hk'
    rw [b2i] at hy'
    have e2':b8p φ js k' = φ o':=by simp only [b8p,g1']
    rw [e2']
    refine d3 o' x' g2' hy' (fun he => ?_) b hb
    subst he
    have e1:=(a5i hn).2 g1
    have e3:=(a5i hn).2 g1'
    rw [e1] at e3
    exact hne (Option.some.inj e3).symm

theorem d3j {n0:Nat} {σ0:Sg} {h0:List o9} {w0:World} (hn:js.Nodup) (hin:∀ j ∈ js,j < h.length) (hp:js.take n0 = List.range n0) (hle:n0 ≤ js.length) (h0n:h0.length ≤ n0) (ev:EvX C σ0 h0 w0 σ h w):EvX C σ0 h0 w0 (b1z σ js) (b1y h js) w where
  obj o x ho hx:=by
    have hlt:o < n0:=by have:=(List.getElem?_eq_some_iff.1 ho).1; omega
    have hj:js[o]? = some o:=by
      have:(js.take n0)[o]? = some o:=by rw [hp]; simp [hlt]
      rw [List.getElem?_take_of_lt hlt] at this
      exact this
    have key:∀ y,h[o]? = some y → (b1y h js)[o]? = some (a6a (a8g js) y) ∧ b1z σ js o = σ o:=fun y hy => ⟨(a4y hin).2 ⟨o,y,hj,hy,rfl⟩,by simp only [b1z,hj]⟩
    rcases ev.obj o x ho hx with hd | ⟨e,x',hx',hs⟩
    · exact .inl (key _ hd).1
    · obtain ⟨k1,k2⟩:=key _ hx'
      refine .inr ⟨k2.trans e,_,k1,?_⟩
      cases x <;> cases x' <;> simp_all [sameShape,a6a]
  gone o ho:=by
    have hlt:o < n0:=by have:=(List.getElem?_eq_some_iff.1 ho).1; omega
    have hj:js[o]? = some o:=by
      have:(js.take n0)[o]? = some o:=by rw [hp]; simp [hlt]
      rw [List.getElem?_take_of_lt hlt] at this
      exact this
    exact (a4y hin).2 ⟨o,.dead,hj,ev.gone o ho,rfl⟩
  live b hb hl:=ev.live b hb (a7q hn hin hl)
  blk:=ev.blk
  size:=ev.size
end

def d9q (f:Nat → Option Nat) (t:Nat → AV):List (Nat × AV) → Prop
  | [] => True
  | (k,v) :: r => Le (ren f (t k)) v ∧ d9q f t r
theorem d0t {f:Nat → Option Nat} {t:Nat → AV}:∀ {bs:List (Nat × AV)},d9q f t bs → ∀ p ∈ bs,Le (ren f (t p.1)) p.2
  | [],_,p,hp => by simp at hp
  | (k,v) :: r,hf,p,hp => by
    simp only [d9q] at hf
    rcases List.mem_cons.1 hp with rfl | hp
    · exact hf.1
    · exact d0t hf.2 p hp
def b5b (m:Bool) (n0:Nat) (t:Nat → AV) (h:List o9) (s:List (Nat × AV) × List o9):Prop :=
  ∃ gs js t' h',ghs m t h gs = some (t',h') ∧ b7x n0 h'.length js = true ∧ d9q (a8g js) t' s.1 ∧ LeH (b1y h' js) s.2

section
variable {C:Ctx} {w0:World} {σ0:Sg} {h0:List o9} {N n0:Nat}
theorem b2w {len:Nat} {js:List Nat} (h:b7x n0 len js = true):js.take n0 = List.range n0 ∧ n0 ≤ js.length ∧ js.Nodup ∧ ∀ j ∈ js,j < len:=by
  simp only [b7x,Bool.and_eq_true] at h
  obtain ⟨h1,h2⟩:=c6v _ _ _ h.1.1
  exact ⟨by rw [h1,List.range_eq_range'],h2,d0r h.1.2,d0s h.2⟩

theorem b5b.rel {t:Nat → AV} {h:List o9} {a:Act} {w:World} {s:List (Nat × AV) × List o9} (hok:∀ b,C.mine b → C.ok b) (hn:h0.length ≤ n0) (hs:St C w0 σ0 h0 N t h a w) (hf:b5b C.mm n0 t h s) :
    ∃ F σ φ,FrX C w F ∧ y5 (C.frz F) σ φ s.2 w ∧ EvX C σ0 h0 w0 σ s.2 w ∧ ∀ p ∈ s.1,RV (C.frz F) σ s.2 w p.2 (a.tmps.getD p.1 Go.undef):=by
  obtain ⟨gs,js,t',h',h1,h2,f1,f2⟩:=hf
  obtain ⟨k1,k2,k3,k4⟩:=b2w h2
  have hs':=c8r hok hs h1
  obtain ⟨F,σ,φ,g0,g1,g2,g3⟩:=hs'.rel
  refine ⟨F,_,_,g0,f2.heap (c6x k3 k4 g1),(d3j k3 k4 k1 k2 hn g2).trans f2.ev.x,fun p hp => ?_⟩
  exact f2.ev.rv _ _ (Le.rv (d0t f1 p hp) _ (c3u (b2j k3 k4) (b4r k3 k4) _ _ (g3 p.1)))
end
end Go.R
