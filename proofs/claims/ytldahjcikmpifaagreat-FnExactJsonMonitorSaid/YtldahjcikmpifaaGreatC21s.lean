import Derived.Test.YtldahjcikmpifaaGreatC21g
set_option linter.all false
namespace Go.R
open Go Go.RowKit
def d3l:Nat → Nat → List Nat → Bool
 | 0,_,_ => true
 | n + 1,i,j :: js => Nat.beq j i && d3l n (i + 1) js
 | _ + 1,_,[] => false
def d6u (x:Nat):List Nat → Bool
 | [] => true
 | y :: ys => !(Nat.beq x y) && d6u x ys
def e2u:List Nat → Bool
 | [] => true
 | x :: xs => d6u x xs && e2u xs
def e2v (len:Nat):List Nat → Bool
 | [] => true
 | x :: xs => Nat.ble (x + 1) len && e2v len xs
def b9z (n0 len:Nat) (js:List Nat):Bool:=d3l n0 0 js && e2u js && e2v len js
theorem c9y:∀ (n i:Nat) (js:List Nat),d3l n i js = true → js.take n = List.range' i n ∧ n ≤ js.length
 | 0,i,js,_ => by simp
 | n + 1,i,[],h => by simp [d3l] at h
 | n + 1,i,j :: js,h => by
  simp only [d3l,Bool.and_eq_true] at h
  obtain ⟨h1,h2⟩:=c9y n (i + 1) js h.2
  have:j = i:=Nat.eq_of_beq_eq_true h.1
  subst this
  simp [h1,h2,List.range'_succ]
theorem c9z {x:Nat}:∀ {ys:List Nat},d6u x ys = true → x ∉ ys
 | [],_ => by simp
 | y :: ys,h => by
  simp only [d6u,Bool.and_eq_true,Bool.not_eq_true'] at h
  have h1:=c9z h.2
  have h2:x ≠ y:=Nat.ne_of_beq_eq_false h.1
  simp [h1,h2]
theorem d3m:∀ {js:List Nat},e2u js = true → js.Nodup
 | [],_ => by simp
 | j :: js,h => by
  simp only [e2u,Bool.and_eq_true] at h
  exact List.nodup_cons.2 ⟨c9z h.1,d3m h.2⟩
theorem d3n {len:Nat}:∀ {js:List Nat},e2v len js = true → ∀ j ∈ js,j < len
 | [],_ => by simp
 | x :: js,h => by
  simp only [e2v,Bool.and_eq_true] at h
  intro j hj
  rcases List.mem_cons.1 hj with rfl | hj
  ·exact Nat.le_of_ble_eq_true h.1
  ·exact d3n h.2 j hj
section
variable {C:Ctx} {σ:Sg} {φ:Nat → List Nat} {h:List y9} {w:World} {js:List Nat}
theorem b6c {K:Nat → Prop} (hn:js.Nodup) (hin:∀ j ∈ js,j < h.length) (b:Nat) (h1:K b) (h2:¬ liveAt h σ b):K b ∧ ¬ liveAt (b3e h js) (b3f σ js) b :=
 ⟨h1,fun hl => h2 (a8k hn hin hl)⟩
theorem d0a (hn:js.Nodup) (hin:∀ j ∈ js,j < h.length) (hr:a0b C σ φ h w):a0b C (b3f σ js) (c0x φ js) (b3e h js) w where
 obj k y hk:=by
  obtain ⟨o,x,g1,g2,rfl⟩:=(a5k hin).1 hk
  have hob:=hr.obj o x g2
  have e1:b3f σ js k = σ o:=by simp only [b3f,g1]
  have e2:c0x φ js k = φ o:=by simp only [c0x,g1]
  cases x with
  | dead => trivial
  | box sz v =>
   obtain ⟨g,cur,e,h1,h2,h3,h4⟩:=hob
   exact ⟨g,cur,e,by rw [e1]; exact h1,h2,h3,a9l (b3n hn hin) (b6c hn hin) _ _ h4⟩
  | map m =>
   obtain ⟨g,cur,e,h1,h2,h3,h4⟩:=hob
   exact ⟨g,cur,e,by rw [e1]; exact h1,h2,h3.ren _,by rw [c0t]; exact b2g (b3n hn hin) (b6c hn hin) _ _ h4⟩
  | row sz l =>
   obtain ⟨h0,hob⟩:=hob
   refine ⟨h0,?_⟩
   rw [e1,e2]
   cases hs:σ o with
   | none => rw [hs] at hob; exact hob
   | some p =>
    rw [hs] at hob
    obtain ⟨h1,cur,e,h2,h3,h4,h5⟩:=hob
    exact ⟨h1,cur,e,h2,h3,h4,fun b hb => b6c hn hin b (h5 b hb).1 (h5 b hb).2⟩
  | rowx sz l i el =>
   obtain ⟨hz,hmm,hi,g,c,cur,e,f1,f2,k1,k2,k3,k4,k5,k6,k7,k7',k8,k9⟩:=hob
   exact ⟨hz,hmm,hi,g,c,cur,e,f1,f2,by rw [e1]; exact k1,k2,k3,k4,k5,a9l (b3n hn hin) (b6c hn hin) _ _ k6,k7,by rw [b2f]; exact k7',by rw [e2]; exact k8,fun b hb => by rw [e2] at hb; exact b6c hn hin b (k9 b hb).1 (k9 b hb).2⟩
 inj k k' y y' b c c' hk hy hk' hy' hs hs':=by
  obtain ⟨o,x,g1,g2,rfl⟩:=(a5k hin).1 hk
  obtain ⟨o',x',g1',g2',rfl⟩:=(a5k hin).1 hk'
  rw [a5x] at hy hy'
  simp only [b3f,g1] at hs
  simp only [b3f,g1'] at hs'
  have:=hr.inj o o' x x' b c c' g2 hy g2' hy' hs hs'
  subst this
  have e1:=(a5o hn).2 g1
  have e2:=(a5o hn).2 g1'
  rw [e1] at e2
  exact Option.some.inj e2
 base k y b c hk hy hs:=by
  obtain ⟨o,x,g1,g2,rfl⟩:=(a5k hin).1 hk
  rw [a5x] at hy
  simp only [b3f,g1] at hs
  exact hr.base o x b c g2 hy hs
 deepx hdm k y hk hy:=by
  obtain ⟨o,x,g1,g2,rfl⟩:=(a5k hin).1 hk
  rw [b3m] at hy
  have e2:c0x φ js k = φ o:=by simp only [c0x,g1]
  obtain ⟨d1,d2,d3⟩:=hr.deepx hdm o x g2 hy
  rw [e2]
  refine ⟨d1,d2,?_⟩
  intro k' y' hk' hy' hne b hb
  obtain ⟨o',x',g1',g2',rfl⟩:=(a5k hin).1 hk'
  rw [b3m] at hy'
  have e2':c0x φ js k' = φ o':=by simp only [c0x,g1']
  rw [e2']
  refine d3 o' x' g2' hy' (fun he => ?_) b hb
  subst he
  have e1:=(a5o hn).2 g1
  have e3:=(a5o hn).2 g1'
  rw [e1] at e3
  exact hne (Option.some.inj e3).symm
theorem d6v {n0:Nat} {σ0:Sg} {h0:List y9} {w0:World} (hn:js.Nodup) (hin:∀ j ∈ js,j < h.length) (hp:js.take n0 = List.range n0) (hle:n0 ≤ js.length) (h0n:h0.length ≤ n0) (ev:EvX C σ0 h0 w0 σ h w):EvX C σ0 h0 w0 (b3f σ js) (b3e h js) w where
 obj o x ho hx:=by
  have hlt:o < n0:=by have:=(List.getElem?_eq_some_iff.1 ho).1; omega
  have hj:js[o]? = some o:=by
   have:(js.take n0)[o]? = some o:=by rw [hp]; simp [hlt]
   rw [List.getElem?_take_of_lt hlt] at this
   exact this
  have key:∀ y,h[o]? = some y → (b3e h js)[o]? = some (a6o (a8n js) y) ∧ b3f σ js o = σ o:=fun y hy => ⟨(a5k hin).2 ⟨o,y,hj,hy,rfl⟩,by simp only [b3f,hj]⟩
  rcases ev.obj o x ho hx with hd | ⟨e,x',hx',hs⟩
  ·exact .inl (key _ hd).1
  ·obtain ⟨k1,k2⟩:=key _ hx'
   refine .inr ⟨k2.trans e,_,k1,?_⟩
   cases x <;> cases x' <;> simp_all [sameShape,a6o]
 gone o ho:=by
  have hlt:o < n0:=by have:=(List.getElem?_eq_some_iff.1 ho).1; omega
  have hj:js[o]? = some o:=by
   have:(js.take n0)[o]? = some o:=by rw [hp]; simp [hlt]
   rw [List.getElem?_take_of_lt hlt] at this
   exact this
  exact (a5k hin).2 ⟨o,.dead,hj,ev.gone o ho,rfl⟩
 live b hb hl:=ev.live b hb (a8k hn hin hl)
 blk:=ev.blk
 size:=ev.size
end
def e2w (f:Nat → Option Nat) (t:Nat → AV):List (Nat × AV) → Prop
 | [] => True
 | (k,v) :: r => Le (ren f (t k)) v ∧ e2w f t r
theorem d3o {f:Nat → Option Nat} {t:Nat → AV}:∀ {bs:List (Nat × AV)},e2w f t bs → ∀ p ∈ bs,Le (ren f (t p.1)) p.2
 | [],_,p,hp => by simp at hp
 | (k,v) :: r,hf,p,hp => by
  simp only [e2w] at hf
  rcases List.mem_cons.1 hp with rfl | hp
  ·exact hf.1
  ·exact d3o hf.2 p hp
def b6r (m:Bool) (n0:Nat) (t:Nat → AV) (h:List y9) (s:List (Nat × AV) × List y9):Prop :=
 ∃ gs js t' h',ghs m t h gs = some (t',h') ∧ b9z n0 h'.length js = true ∧ e2w (a8n js) t' s.1 ∧ LeH (b3e h' js) s.2
section
variable {C:Ctx} {w0:World} {σ0:Sg} {h0:List y9} {N n0:Nat}
theorem b4e {len:Nat} {js:List Nat} (h:b9z n0 len js = true):js.take n0 = List.range n0 ∧ n0 ≤ js.length ∧ js.Nodup ∧ ∀ j ∈ js,j < len:=by
 simp only [b9z,Bool.and_eq_true] at h
 obtain ⟨h1,h2⟩:=c9y _ _ _ h.1.1
 exact ⟨by rw [h1,List.range_eq_range'],h2,d3m h.1.2,d3n h.2⟩
theorem b6r.rel {t:Nat → AV} {h:List y9} {a:Act} {w:World} {s:List (Nat × AV) × List y9} (hok:∀ b,C.mine b → C.ok b) (hn:h0.length ≤ n0) (hs:St C w0 σ0 h0 N t h a w) (hf:b6r C.mm n0 t h s) :
  ∃ F σ φ,FrX C w F ∧ a0b (C.frz F) σ φ s.2 w ∧ EvX C σ0 h0 w0 σ s.2 w ∧ ∀ p ∈ s.1,RV (C.frz F) σ s.2 w p.2 (a.tmps.getD p.1 Go.undef):=by
 obtain ⟨gs,js,t',h',h1,h2,f1,f2⟩:=hf
 obtain ⟨k1,k2,k3,k4⟩:=b4e h2
 have hs':=d1i hok hs h1
 obtain ⟨F,σ,φ,g0,g1,g2,g3⟩:=hs'.rel
 refine ⟨F,_,_,g0,f2.heap (d0a k3 k4 g1),(d6v k3 k4 k1 k2 hn g2).trans f2.ev.x,fun p hp => ?_⟩
 exact f2.ev.rv _ _ (Le.rv (d3o f1 p hp) _ (c6f (b3n k3 k4) (b6c k3 k4) _ _ (g3 p.1)))
end
end Go.R
