/- Of the call's own heap some objects are kept, in an order that is told. -/
import Derived.Test.YtldahjcikmpifaaGreatC21g
set_option linter.all false
namespace Go.R
open Go Go.RowKit
set_option linter.unusedVariables false
set_option linter.unusedSimpArgs false

def d5t:Nat → Nat → List Nat → Bool
 | 0,_,_ => true
 | n + 1,i,j :: js => Nat.beq j i && d5t n (i + 1) js
 | _ + 1,_,[] => false
def d8x (x:Nat):List Nat → Bool
 | [] => true
 | y :: ys => !(Nat.beq x y) && d8x x ys
def e5i:List Nat → Bool
 | [] => true
 | x :: xs => d8x x xs && e5i xs
def e5j (len:Nat):List Nat → Bool
 | [] => true
 | x :: xs => Nat.ble (x + 1) len && e5j len xs
def c1u (n0 len:Nat) (js:List Nat):Bool:=d5t n0 0 js && e5i js && e5j len js
theorem d1t:∀ (n i:Nat) (js:List Nat),d5t n i js = true → js.take n = List.range' i n ∧ n ≤ js.length
 | 0,i,js,_ => by simp
 | n + 1,i,[],h => by simp [d5t] at h
 | n + 1,i,j :: js,h => by
  simp only [d5t,Bool.and_eq_true] at h
  obtain ⟨h1,h2⟩:=d1t n (i + 1) js h.2
  have:j = i:=Nat.eq_of_beq_eq_true h.1
  subst this
  simp [h1,h2,List.range'_succ]
theorem d1v {x:Nat}:∀ {ys:List Nat},d8x x ys = true → x ∉ ys
 | [],_ => by simp
 | y :: ys,h => by
  simp only [d8x,Bool.and_eq_true,Bool.not_eq_true'] at h
  have h1:=d1v h.2
  have h2:x ≠ y:=Nat.ne_of_beq_eq_false h.1
  simp [h1,h2]
theorem d5u:∀ {js:List Nat},e5i js = true → js.Nodup
 | [],_ => by simp
 | j :: js,h => by
  simp only [e5i,Bool.and_eq_true] at h
  exact List.nodup_cons.2 ⟨d1v h.1,d5u h.2⟩
theorem d5v {len:Nat}:∀ {js:List Nat},e5j len js = true → ∀ j ∈ js,j < len
 | [],_ => by simp
 | x :: js,h => by
  simp only [e5j,Bool.and_eq_true] at h
  intro j hj
  rcases List.mem_cons.1 hj with rfl | hj
  ·exact Nat.le_of_ble_eq_true h.1
  ·exact d5v h.2 j hj

section
variable {C:Ctx} {σ:Sg} {φ:Nat → List Nat} {h:List a0b} {w:World} {js:List Nat}

theorem b8c {K:Nat → Prop} (hn:js.Nodup) (hin:∀ j ∈ js,j < h.length) (b:Nat) (h1:K b) (h2:¬ liveAt h σ b):K b ∧ ¬ liveAt (b4x h js) (b4y σ js) b :=
 ⟨h1,fun hl => h2 (a8r hn hin hl)⟩

theorem d1w (hn:js.Nodup) (hin:∀ j ∈ js,j < h.length) (hr:a0c C σ φ h w):a0c C (b4y σ js) (c2n φ js) (b4x h js) w where
 obj k y hk:=by
  obtain ⟨o,x,g1,g2,rfl⟩:=(a5r hin).1 hk
  have hob:=hr.obj o x g2
  have e1:b4y σ js k = σ o:=by simp only [b4y,g1]
  have e2:c2n φ js k = φ o:=by simp only [c2n,g1]
  cases x with
  | dead => trivial
  | box sz v =>
   obtain ⟨g,cur,e,h1,h2,h3,h4⟩:=hob
   exact ⟨g,cur,e,by rw [e1]; exact h1,h2,h3,a9u (b5j hn hin) (b8c hn hin) _ _ h4⟩
  | map m =>
   obtain ⟨g,cur,e,h1,h2,h3,h4⟩:=hob
   exact ⟨g,cur,e,by rw [e1]; exact h1,h2,h3.ren _,by rw [c2j]; exact b3s (b5j hn hin) (b8c hn hin) _ _ h4⟩
  | row sz l =>
   obtain ⟨h0,hob⟩:=hob
   refine ⟨h0,?_⟩
   rw [e1,e2]
   cases hs:σ o with
   | none => rw [hs] at hob; exact hob
   | some p =>
    rw [hs] at hob
    obtain ⟨h1,cur,e,h2,h3,h4,h5⟩:=hob
    exact ⟨h1,cur,e,h2,h3,h4,fun b hb => b8c hn hin b (h5 b hb).1 (h5 b hb).2⟩
  | rowx sz l i el =>
   obtain ⟨hz,hmm,hi,g,c,cur,e,f1,f2,k1,k2,k3,k4,k5,k6,k7,k7',k8,k9⟩:=hob
   exact ⟨hz,hmm,hi,g,c,cur,e,f1,f2,by rw [e1]; exact k1,k2,k3,k4,k5,a9u (b5j hn hin) (b8c hn hin) _ _ k6,k7,by rw [b3r]; exact k7',by rw [e2]; exact k8,fun b hb => by rw [e2] at hb; exact b8c hn hin b (k9 b hb).1 (k9 b hb).2⟩
 inj k k' y y' b c c' hk hy hk' hy' hs hs':=by
  obtain ⟨o,x,g1,g2,rfl⟩:=(a5r hin).1 hk
  obtain ⟨o',x',g1',g2',rfl⟩:=(a5r hin).1 hk'
  rw [a6m] at hy hy'
  simp only [b4y,g1] at hs
  simp only [b4y,g1'] at hs'
  have:=hr.inj o o' x x' b c c' g2 hy g2' hy' hs hs'
  subst this
  have e1:=(a6d hn).2 g1
  have e2:=(a6d hn).2 g1'
  rw [e1] at e2
  exact Option.some.inj e2
 base k y b c hk hy hs:=by
  obtain ⟨o,x,g1,g2,rfl⟩:=(a5r hin).1 hk
  rw [a6m] at hy
  simp only [b4y,g1] at hs
  exact hr.base o x b c g2 hy hs
 deepx hdm k y hk hy:=by
  obtain ⟨o,x,g1,g2,rfl⟩:=(a5r hin).1 hk
  rw [b5i] at hy
  have e2:c2n φ js k = φ o:=by simp only [c2n,g1]
  obtain ⟨d1,d2,d3⟩:=hr.deepx hdm o x g2 hy
  rw [e2]
  refine ⟨d1,d2,?_⟩
  intro k' y' hk' hy' hne b hb
  obtain ⟨o',x',g1',g2',rfl⟩:=(a5r hin).1 hk'
  rw [b5i] at hy'
  have e2':c2n φ js k' = φ o':=by simp only [c2n,g1']
  rw [e2']
  refine d3 o' x' g2' hy' (fun he => ?_) b hb
  subst he
  have e1:=(a6d hn).2 g1
  have e3:=(a6d hn).2 g1'
  rw [e1] at e3
  exact hne (Option.some.inj e3).symm

theorem d8y {n0:Nat} {σ0:Sg} {h0:List a0b} {w0:World} (hn:js.Nodup) (hin:∀ j ∈ js,j < h.length) (hp:js.take n0 = List.range n0) (hle:n0 ≤ js.length) (h0n:h0.length ≤ n0) (ev:EvX C σ0 h0 w0 σ h w):EvX C σ0 h0 w0 (b4y σ js) (b4x h js) w where
 obj o x ho hx:=by
  have hlt:o < n0:=by have:=(List.getElem?_eq_some_iff.1 ho).1; omega
  have hj:js[o]? = some o:=by
   have:(js.take n0)[o]? = some o:=by rw [hp]; simp [hlt]
   rw [List.getElem?_take_of_lt hlt] at this
   exact this
  have key:∀ y,h[o]? = some y → (b4x h js)[o]? = some (a7c (a9m js) y) ∧ b4y σ js o = σ o:=fun y hy => ⟨(a5r hin).2 ⟨o,y,hj,hy,rfl⟩,by simp only [b4y,hj]⟩
  rcases ev.obj o x ho hx with hd | ⟨e,x',hx',hs⟩
  ·exact .inl (key _ hd).1
  ·obtain ⟨k1,k2⟩:=key _ hx'
   refine .inr ⟨k2.trans e,_,k1,?_⟩
   cases x <;> cases x' <;> simp_all [sameShape,a7c]
 gone o ho:=by
  have hlt:o < n0:=by have:=(List.getElem?_eq_some_iff.1 ho).1; omega
  have hj:js[o]? = some o:=by
   have:(js.take n0)[o]? = some o:=by rw [hp]; simp [hlt]
   rw [List.getElem?_take_of_lt hlt] at this
   exact this
  exact (a5r hin).2 ⟨o,.dead,hj,ev.gone o ho,rfl⟩
 live b hb hl:=ev.live b hb (a8r hn hin hl)
 blk:=ev.blk
 size:=ev.size
end

def e5k (f:Nat → Option Nat) (t:Nat → AV):List (Nat × AV) → Prop
 | [] => True
 | (k,v) :: r => Le (ren f (t k)) v ∧ e5k f t r
theorem d5w {f:Nat → Option Nat} {t:Nat → AV}:∀ {bs:List (Nat × AV)},e5k f t bs → ∀ p ∈ bs,Le (ren f (t p.1)) p.2
 | [],_,p,hp => by simp at hp
 | (k,v) :: r,hf,p,hp => by
  simp only [e5k] at hf
  rcases List.mem_cons.1 hp with rfl | hp
  ·exact hf.1
  ·exact d5w hf.2 p hp
def b8q (m:Bool) (n0:Nat) (t:Nat → AV) (h:List a0b) (s:List (Nat × AV) × List a0b):Prop :=
 ∃ gs js t' h',ghs m t h gs = some (t',h') ∧ c1u n0 h'.length js = true ∧ e5k (a9m js) t' s.1 ∧ LeH (b4x h' js) s.2

section
variable {C:Ctx} {w0:World} {σ0:Sg} {h0:List a0b} {N n0:Nat}
theorem b5y {len:Nat} {js:List Nat} (h:c1u n0 len js = true):js.take n0 = List.range n0 ∧ n0 ≤ js.length ∧ js.Nodup ∧ ∀ j ∈ js,j < len:=by
 simp only [c1u,Bool.and_eq_true] at h
 obtain ⟨h1,h2⟩:=d1t _ _ _ h.1.1
 exact ⟨by rw [h1,List.range_eq_range'],h2,d5u h.1.2,d5v h.2⟩

theorem b8q.rel {t:Nat → AV} {h:List a0b} {a:Act} {w:World} {s:List (Nat × AV) × List a0b} (hok:∀ b,C.mine b → C.ok b) (hn:h0.length ≤ n0) (hs:St C w0 σ0 h0 N t h a w) (hf:b8q C.mm n0 t h s) :
  ∃ F σ φ,FrX C w F ∧ a0c (C.frz F) σ φ s.2 w ∧ EvX C σ0 h0 w0 σ s.2 w ∧ ∀ p ∈ s.1,RV (C.frz F) σ s.2 w p.2 (a.tmps.getD p.1 Go.undef):=by
 obtain ⟨gs,js,t',h',h1,h2,f1,f2⟩:=hf
 obtain ⟨k1,k2,k3,k4⟩:=b5y h2
 have hs':=d3m hok hs h1
 obtain ⟨F,σ,φ,g0,g1,g2,g3⟩:=hs'.rel
 refine ⟨F,_,_,g0,f2.heap (d1w k3 k4 g1),(d8y k3 k4 k1 k2 hn g2).trans f2.ev.x,fun p hp => ?_⟩
 exact f2.ev.rv _ _ (Le.rv (d5w f1 p hp) _ (c8c (b5j k3 k4) (b8c k3 k4) _ _ (g3 p.1)))
end
end Go.R
