/- Of the call's own heap some objects are kept, in an order that is told. -/
import Derived.Test.YtgdkfnndbknjpaaGreatC21g
set_option linter.all false
namespace Go.R
open Go Go.RowKit
set_option linter.unusedVariables false
set_option linter.unusedSimpArgs false

def d0w:Nat → Nat → List Nat → Bool
 | 0,_,_ => true
 | n + 1,i,j :: js => Nat.beq j i && d0w n (i + 1) js
 | _ + 1,_,[] => false
def d2z (x:Nat):List Nat → Bool
 | [] => true
 | y :: ys => !(Nat.beq x y) && d2z x ys
def d9w:List Nat → Bool
 | [] => true
 | x :: xs => d2z x xs && d9w xs
def d9x (len:Nat):List Nat → Bool
 | [] => true
 | x :: xs => Nat.ble (x + 1) len && d9x len xs
def b9r (n0 len:Nat) (js:List Nat):Bool:=d0w n0 0 js && d9w js && d9x len js
theorem c7n:∀ (n i:Nat) (js:List Nat),d0w n i js = true → js.take n = List.range' i n ∧ n ≤ js.length
 | 0,i,js,_ => by simp
 | n + 1,i,[],h => by simp [d0w] at h
 | n + 1,i,j :: js,h => by
  simp only [d0w,Bool.and_eq_true] at h
  obtain ⟨h1,h2⟩:=c7n n (i + 1) js h.2
  have:j = i:=Nat.eq_of_beq_eq_true h.1
  subst this
  simp [h1,h2,List.range'_succ]
theorem c7o {x:Nat}:∀ {ys:List Nat},d2z x ys = true → x ∉ ys
 | [],_ => by simp
 | y :: ys,h => by
  simp only [d2z,Bool.and_eq_true,Bool.not_eq_true'] at h
  have h1:=c7o h.2
  have h2:x ≠ y:=Nat.ne_of_beq_eq_false h.1
  simp [h1,h2]
theorem d0x:∀ {js:List Nat},d9w js = true → js.Nodup
 | [],_ => by simp
 | j :: js,h => by
  simp only [d9w,Bool.and_eq_true] at h
  exact List.nodup_cons.2 ⟨c7o h.1,d0x h.2⟩
theorem d0y {len:Nat}:∀ {js:List Nat},d9x len js = true → ∀ j ∈ js,j < len
 | [],_ => by simp
 | x :: js,h => by
  simp only [d9x,Bool.and_eq_true] at h
  intro j hj
  rcases List.mem_cons.1 hj with rfl | hj
  ·exact Nat.le_of_ble_eq_true h.1
  ·exact d0y h.2 j hj

section
variable {C:Ctx} {σ:Sg} {φ:Nat → List Nat} {h:List a0g} {w:World} {js:List Nat}

theorem c3n {K:Nat → Prop} (hn:js.Nodup) (hin:∀ j ∈ js,j < h.length) (b:Nat) (h1:K b) (h2:¬ liveAt h σ b):K b ∧ ¬ liveAt (b5k h js) (b4f σ js) b :=
 ⟨h1,fun hl => h2 (b1x hn hin hl)⟩

theorem c7p (hn:js.Nodup) (hin:∀ j ∈ js,j < h.length) (hr:a0l C σ φ h w):a0l C (b4f σ js) (c0h φ js) (b5k h js) w where
 obj k y hk:=by
  obtain ⟨o,x,g1,g2,rfl⟩:=(a6i hin).1 hk
  have hob:=hr.obj o x g2
  have e1:b4f σ js k = σ o:=by simp only [b4f,g1]
  have e2:c0h φ js k = φ o:=by simp only [c0h,g1]
  cases x with
  | dead => trivial
  | box sz v =>
   obtain ⟨g,cur,e,h1,h2,h3,h4⟩:=hob
   exact ⟨g,cur,e,by rw [e1]; exact h1,h2,h3,b6t (c0i hn hin) (c3n hn hin) _ _ h4⟩
  | row sz l =>
   obtain ⟨h0,hob⟩:=hob
   refine ⟨h0,?_⟩
   rw [e1,e2]
   cases hs:σ o with
   | none => rw [hs] at hob; exact hob
   | some p =>
    rw [hs] at hob
    obtain ⟨h1,cur,e,h2,h3,h4,h5⟩:=hob
    exact ⟨h1,cur,e,h2,h3,h4,fun b hb => c3n hn hin b (h5 b hb).1 (h5 b hb).2⟩
 inj k k' y y' b c c' hk hy hk' hy' hs hs':=by
  obtain ⟨o,x,g1,g2,rfl⟩:=(a6i hin).1 hk
  obtain ⟨o',x',g1',g2',rfl⟩:=(a6i hin).1 hk'
  rw [a6x] at hy hy'
  simp only [b4f,g1] at hs
  simp only [b4f,g1'] at hs'
  have:=hr.inj o o' x x' b c c' g2 hy g2' hy' hs hs'
  subst this
  have e1:=(a6p hn).2 g1
  have e2:=(a6p hn).2 g1'
  rw [e1] at e2
  exact Option.some.inj e2
 base k y b c hk hy hs:=by
  obtain ⟨o,x,g1,g2,rfl⟩:=(a6i hin).1 hk
  rw [a6x] at hy
  simp only [b4f,g1] at hs
  exact hr.base o x b c g2 hy hs
 deep hdm k sz l hk:=by
  obtain ⟨o,x,g1,g2,hx⟩:=(a6i hin).1 hk
  have hx':x = .row sz l:=by cases x <;> simp [a7n] at hx; rw [hx.1,hx.2]
  subst hx'
  have e2:c0h φ js k = φ o:=by simp only [c0h,g1]
  obtain ⟨d1,d2,d3⟩:=hr.deep hdm o sz l g2
  rw [e2]
  refine ⟨d1,d2,?_⟩
  intro k' sz' l' hk' hne b hb
  obtain ⟨o',x',g1',g2',hx'⟩:=(a6i hin).1 hk'
  have hxx:x' = .row sz' l':=by cases x' <;> simp [a7n] at hx'; rw [hx'.1,hx'.2]
  subst hxx
  have e2':c0h φ js k' = φ o':=by simp only [c0h,g1']
  rw [e2']
  refine d3 o' sz' l' g2' (fun he => ?_) b hb
  subst he
  have e1:=(a6p hn).2 g1
  have e3:=(a6p hn).2 g1'
  rw [e1] at e3
  exact hne (Option.some.inj e3).symm

theorem d3a {n0:Nat} {σ0:Sg} {h0:List a0g} {w0:World} (hn:js.Nodup) (hin:∀ j ∈ js,j < h.length) (hp:js.take n0 = List.range n0) (hle:n0 ≤ js.length) (h0n:h0.length ≤ n0) (ev:EvX C σ0 h0 w0 σ h w):EvX C σ0 h0 w0 (b4f σ js) (b5k h js) w where
 obj o x ho hx:=by
  have hlt:o < n0:=by have:=(List.getElem?_eq_some_iff.1 ho).1; omega
  have hj:js[o]? = some o:=by
   have:(js.take n0)[o]? = some o:=by rw [hp]; simp [hlt]
   rw [List.getElem?_take_of_lt hlt] at this
   exact this
  have key:∀ y,h[o]? = some y → (b5k h js)[o]? = some (a7n (b0y js) y) ∧ b4f σ js o = σ o:=fun y hy => ⟨(a6i hin).2 ⟨o,y,hj,hy,rfl⟩,by simp only [b4f,hj]⟩
  rcases ev.obj o x ho hx with hd | ⟨e,x',hx',hs⟩
  ·exact .inl (key _ hd).1
  ·obtain ⟨k1,k2⟩:=key _ hx'
   refine .inr ⟨k2.trans e,_,k1,?_⟩
   cases x <;> cases x' <;> simp_all [sameShape,a7n]
 gone o ho:=by
  have hlt:o < n0:=by have:=(List.getElem?_eq_some_iff.1 ho).1; omega
  have hj:js[o]? = some o:=by
   have:(js.take n0)[o]? = some o:=by rw [hp]; simp [hlt]
   rw [List.getElem?_take_of_lt hlt] at this
   exact this
  exact (a6i hin).2 ⟨o,.dead,hj,ev.gone o ho,rfl⟩
 live b hb hl:=ev.live b hb (b1x hn hin hl)
 blk:=ev.blk
 size:=ev.size
end

def d9y (f:Nat → Option Nat) (t:Nat → AV):List (Nat × AV) → Prop
 | [] => True
 | (k,v) :: r => Le (ren f (t k)) v ∧ d9y f t r
theorem d0z {f:Nat → Option Nat} {t:Nat → AV}:∀ {bs:List (Nat × AV)},d9y f t bs → ∀ p ∈ bs,Le (ren f (t p.1)) p.2
 | [],_,p,hp => by simp at hp
 | (k,v) :: r,hf,p,hp => by
  simp only [d9y] at hf
  rcases List.mem_cons.1 hp with rfl | hp
  ·exact hf.1
  ·exact d0z hf.2 p hp
def b6i (m:Bool) (n0:Nat) (t:Nat → AV) (h:List a0g) (s:List (Nat × AV) × List a0g):Prop :=
 ∃ gs js t' h',ghs m t h gs = some (t',h') ∧ b9r n0 h'.length js = true ∧ d9y (b0y js) t' s.1 ∧ LeH (b5k h' js) s.2

section
variable {C:Ctx} {w0:World} {σ0:Sg} {h0:List a0g} {N n0:Nat}
theorem b9s {len:Nat} {js:List Nat} (h:b9r n0 len js = true):js.take n0 = List.range n0 ∧ n0 ≤ js.length ∧ js.Nodup ∧ ∀ j ∈ js,j < len:=by
 simp only [b9r,Bool.and_eq_true] at h
 obtain ⟨h1,h2⟩:=c7n _ _ _ h.1.1
 exact ⟨by rw [h1,List.range_eq_range'],h2,d0x h.1.2,d0y h.2⟩

theorem b6i.rel {t:Nat → AV} {h:List a0g} {a:Act} {w:World} {s:List (Nat × AV) × List a0g} (hok:∀ b,C.mine b → C.ok b) (hn:h0.length ≤ n0) (hs:St C w0 σ0 h0 N t h a w) (hf:b6i C.mm n0 t h s) :
  ∃ σ φ,a0l C σ φ s.2 w ∧ EvX C σ0 h0 w0 σ s.2 w ∧ ∀ p ∈ s.1,RV C σ s.2 w p.2 (a.tmps.getD p.1 Go.undef):=by
 obtain ⟨gs,js,t',h',h1,h2,f1,f2⟩:=hf
 obtain ⟨k1,k2,k3,k4⟩:=b9s h2
 have hs':=d2h hok hs h1
 obtain ⟨σ,φ,g1,g2,g3⟩:=hs'.rel
 refine ⟨_,_,f2.heap (c7p k3 k4 g1),(d3a k3 k4 k1 k2 hn g2).trans f2.ev.x,fun p hp => ?_⟩
 exact f2.ev.rv _ _ (Le.rv (d0z f1 p hp) _ (c4g (c0i k3 k4) (c3n k3 k4) _ _ (g3 p.1)))
end
end Go.R
