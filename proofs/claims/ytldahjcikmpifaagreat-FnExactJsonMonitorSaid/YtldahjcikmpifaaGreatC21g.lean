import Derived.Test.YtldahjcikmpifaaGreatC20
import Derived.Test.YtldahjcikmpifaaGreatC16o
set_option linter.all false
namespace Go.R
open Go Go.RowKit
section
variable {C:Ctx} {σ:Sg} {φ:Nat → List Nat} {h:List y9} {w:World}
theorem b8l (hr:a0b C σ φ h w) (o:Nat):a0b C σ φ (h.set o .dead) w ∧ Ev σ h w σ (h.set o .dead) w:=by
 have key:=a0b.puts (σ':=σ) (φ':=φ) (w':=w) (ks:=[o]) (xs:=[]) hr (fun _ _ => ⟨rfl,rfl⟩) (Nat.le_refl _) (by simp) (fun _ _ _ => rfl) (by simp) (by simp) (by simp)
 simpa [kill] using key
theorem c1g (hr:a0b C σ φ h w) (z:Nat):a0b C (upd σ h.length none) (upd φ h.length []) (h ++ [.row (z + 1) []]) w ∧ Ev σ h w (upd σ h.length none) (h ++ [.row (z + 1) []]) w:=by
 have hσ:∀ o,o < h.length → (upd σ h.length none) o = σ o ∧ (upd φ h.length []) o = φ o:=by
  intro o ho
  have:o ≠ h.length:=by omega
  simp [upd,this]
 have hz:∀ j,j < 1 → h.length + j = h.length:=by omega
 have key:=a0b.puts (σ':=upd σ h.length none) (φ':=upd φ h.length []) (w':=w) (ks:=[]) (xs:=[.row (z + 1) []]) hr hσ (Nat.le_refl _)
  (by
   intro j x hj g c hs
   have:j < 1:=(List.getElem?_eq_some_iff.1 hj).1
   rw [hz j this] at hs
   simp [upd] at hs)
  (fun _ _ _ => rfl)
  (by
   intro _ j x hj
   have hj1:j < 1:=(List.getElem?_eq_some_iff.1 hj).1
   have:j = 0:=by omega
   subst this
   simp at hj
   subst hj
   simp [b2b,upd])
  (by
   intro j j' g c c' h1 h2
   simp at h1 h2
   omega)
  (by
   intro _ j x hj _
   have hj1:j < 1:=(List.getElem?_eq_some_iff.1 hj).1
   rw [hz j hj1]
   simp [upd])
 simpa [kill] using key
theorem c5m (hr:a0b C σ φ h w) (z:Nat) {v:Value} (hv:v = .slice none 0 0):RV C (upd σ h.length none) (h ++ [.row (z + 1) []]) w (.own h.length 0 0) v:=by
 subst hv
 simp only [RV]
 simp only [List.getElem?_append_right (Nat.le_refl _),Nat.sub_self,List.getElem?_cons_zero]
 exact ⟨none,0,rfl,by simp,by simp,by simp [maxLen],by simp [upd]⟩
theorem d3k (hr:a0b C σ φ h w) {o n:Nat} {v v':AV} (ho:h[o]? = some (.box n v)) (hv:∀ vs,RVs C σ h w v.cells vs → RVs C σ h w v'.cells vs) :
  a0b C σ (upd φ o (φ o)) (h.set o (.box n v')) w ∧ Ev σ h w σ (h.set o (.box n v')) w:=by
 obtain ⟨g,cur,e,h1,h2,h3,h4⟩:=hr.obj o _ ho
 have key:=hr.turn (w':=w) ho (x':=.box n v') rfl rfl h1 (ks:=[]) (by simp) (fx:=φ o) rfl (fun _ _ => rfl) (fun ev => ⟨g,cur,e,h1,h2,h3,ev.rvs _ _ (hv _ h4)⟩) (by intro _ e; cases e)
 simpa [kill] using key
theorem e2s (hr:a0b C σ φ h w) {o z:Nat} {l:List AV} (ho:h[o]? = some (.row z l)) :
  a0b C (upd σ h.length (σ o)) (upd φ h.length (φ o)) ((h.set o .dead).map (a6o (mvF o h.length)) ++ [.row z l]) w ∧ Ev σ h w (upd σ h.length (σ o)) ((h.set o .dead).map (a6o (mvF o h.length)) ++ [.row z l]) w ∧
   ∀ a v,RV C σ h w a v → RV C (upd σ h.length (σ o)) ((h.set o .dead).map (a6o (mvF o h.length)) ++ [.row z l]) w (ren (mvF o h.length) a) v:=by
 have hlt:o < h.length:=(List.getElem?_eq_some_iff.1 ho).1
 obtain ⟨f,hf⟩:∃ f,f = mvF o h.length:=⟨_,rfl⟩
 obtain ⟨h',hh'⟩:∃ h',h' = (h.set o .dead).map (a6o f) ++ [.row z l]:=⟨_,rfl⟩
 rw [← hf,← hh']
 have hlen:h'.length = h.length + 1:=by rw [hh']; simp
 have hget:∀ k,h'[k]? = if k = h.length then some (.row z l) else if k = o then some .dead else (h[k]?).map (a6o f):=by
  intro k
  rw [hh']
  by_cases hk:k = h.length
  ·subst hk
   rw [if_pos rfl,List.getElem?_append_right (by simp)]
   simp
  ·rw [if_neg hk]
   by_cases hkl:k < h.length
   ·rw [List.getElem?_append_left (by simpa using hkl),List.getElem?_map,List.getElem?_set]
    by_cases he:o = k
    ·subst he; simp [hlt,a6o]
    ·rw [if_neg he,if_neg (Ne.symm he)]
   ·have h1:h[k]? = none:=List.getElem?_eq_none (by omega)
    have h2:((h.set o .dead).map (a6o f) ++ [y9.row z l])[k]? = none:=List.getElem?_eq_none (by simp; omega)
    rw [h2,if_neg (by omega),h1]
    rfl
 have hσ:∀ k,upd σ h.length (σ o) k = if k = h.length then σ o else σ k:=fun k => rfl
 have hφ:∀ k,upd φ h.length (φ o) k = if k = h.length then φ o else φ k:=fun k => rfl
 -- where a live object was
 have back:∀ k y,h'[k]? = some y → y.isLive = true → ∃ (k0:Nat) (y0:y9),h[k0]? = some y0 ∧ y0.isLive = true ∧ upd σ h.length (σ o) k = σ k0 ∧ upd φ h.length (φ o) k = φ k0 ∧ y = a6o f y0 ∧ (k0 = if k = h.length then o else k) ∧ (k ≠ h.length → k ≠ o):=by
  intro k y hk hy
  rw [hget] at hk
  rw [hσ,hφ]
  split at hk
  ·rename_i e
   cases hk
   exact ⟨o,_,ho,rfl,by simp [e],by simp [e],rfl,by simp [e],fun hne => absurd e hne⟩
  ·rename_i hne
   split at hk
   ·cases hk; simp [y9.isLive] at hy
   ·rename_i hne2
    rw [Option.map_eq_some_iff] at hk
    obtain ⟨y0,h1,rfl⟩:=hk
    rw [a5x] at hy
    exact ⟨k,y0,h1,hy,by simp [hne],by simp [hne],rfl,by simp [hne],fun _ => hne2⟩
 have hlive:∀ b,liveAt h' (upd σ h.length (σ o)) b ↔ liveAt h σ b:=by
  intro b
  constructor
  ·rintro ⟨k,y,c,h1,h2,h3⟩
   obtain ⟨k0,y0,g1,g2,g3,_⟩:=back k y h1 h2
   exact ⟨k0,y0,c,g1,g2,by rw [← g3]; exact h3⟩
  ·rintro ⟨k,y,c,h1,h2,h3⟩
   by_cases he:k = o
   ·subst he
    exact ⟨h.length,.row z l,c,by rw [hget]; simp,rfl,by rw [hσ]; simp [h3]⟩
   ·have hkl:k < h.length:=(List.getElem?_eq_some_iff.1 h1).1
    refine ⟨k,a6o f y,c,?_,by rw [a5x]; exact h2,?_⟩
    ·rw [hget,if_neg (by omega),if_neg he,h1]; rfl
    ·rw [hσ,if_neg (by omega)]; exact h3
 have hren:c9s f σ h (upd σ h.length (σ o)) h':=by
  intro a k x h1 h2
  rw [hf] at h1
  have hal:a < h.length:=(List.getElem?_eq_some_iff.1 h2).1
  unfold mvF at h1
  split at h1
  ·rename_i e
   subst e
   cases h1
   rw [ho] at h2
   cases h2
   exact ⟨by rw [hget]; simp [a6o],by rw [hσ]; simp⟩
  ·rename_i hne
   cases h1
   refine ⟨?_,by rw [hσ,if_neg (by omega)]⟩
   rw [hget,if_neg (by omega),if_neg hne,h2]; rfl
 have hok:∀ b,C.imm b → ¬ liveAt h σ b → C.imm b ∧ ¬ liveAt h' (upd σ h.length (σ o)) b:=fun b h1 h2 => ⟨h1,fun hl => h2 ((hlive b).1 hl)⟩
 have ev:Ev σ h w (upd σ h.length (σ o)) h' w:=by
  refine ⟨?_,?_,fun b _ hl => (hlive b).1 hl,fun _ _ _ => rfl,Nat.le_refl _⟩
  ·intro k x hk hx
   have hkl:k < h.length:=(List.getElem?_eq_some_iff.1 hk).1
   by_cases he:k = o
   ·exact .inl (by rw [hget,if_neg (by omega),if_pos he])
   ·refine .inr ⟨by rw [hσ,if_neg (by omega)],a6o f x,by rw [hget,if_neg (by omega),if_neg he,hk]; rfl,?_⟩
    cases x <;> simp_all [sameShape,a6o,y9.isLive]
  ·intro k hk
   have hkl:k < h.length:=(List.getElem?_eq_some_iff.1 hk).1
   rw [hget,if_neg (by omega),hk]
   split <;> rfl
 refine ⟨⟨?_,?_,?_,?_⟩,ev,fun a v hv => c6f hren hok a v hv⟩
 ·intro k y hk
  by_cases hy:y.isLive = true
  ·obtain ⟨k0,y0,g1,g2,g3,g4,rfl,_⟩:=back k y hk hy
   have hob:=hr.obj k0 y0 g1
   cases y0 with
   | dead => trivial
   | box sz v =>
    obtain ⟨g,cur,e,q1,q2,q3,q4⟩:=hob
    exact ⟨g,cur,e,by rw [g3]; exact q1,q2,q3,a9l hren hok _ _ q4⟩
   | map m =>
    obtain ⟨g,cur,e,q1,q2,q3,q4⟩:=hob
    exact ⟨g,cur,e,by rw [g3]; exact q1,q2,q3.ren _,by rw [c0t]; exact b2g hren hok _ _ q4⟩
   | row sz l0 =>
    obtain ⟨q0,hob⟩:=hob
    refine ⟨q0,?_⟩
    rw [g3,g4]
    cases hs:σ k0 with
    | none => rw [hs] at hob; exact hob
    | some p =>
     rw [hs] at hob
     obtain ⟨q1,cur,e,q2,q3,q4,q5⟩:=hob
     exact ⟨q1,cur,e,q2,q3,q4,fun b hb => ⟨(q5 b hb).1,fun hl => (q5 b hb).2 ((hlive b).1 hl)⟩⟩
   | rowx sz l0 i el =>
    obtain ⟨hz,hmm,hi,g,c,cur,e,f1,f2,q1,q2,q3,q4,q5,q6,q7,q7',q8,q9⟩:=hob
    exact ⟨hz,hmm,hi,g,c,cur,e,f1,f2,by rw [g3]; exact q1,q2,q3,q4,q5,a9l hren hok _ _ q6,q7,by rw [b2f]; exact q7',by rw [g4]; exact q8,fun b hb => by rw [g4] at hb; exact ⟨(q9 b hb).1,fun hl => (q9 b hb).2 ((hlive b).1 hl)⟩⟩
  ·cases y with
   | dead => trivial
   | box _ _ => simp [y9.isLive] at hy
   | map _ => simp [y9.isLive] at hy
   | rowx _ _ _ _ => simp [y9.isLive] at hy
   | row _ _ => simp [y9.isLive] at hy
 ·intro k k' y y' b c c' h1 h2 h3 h4 h5 h6
  obtain ⟨k0,y0,g1,g2,g3,_,_,g6,g7⟩:=back k y h1 h2
  obtain ⟨k1,y1,e1,e2,e3,_,_,e6,e7⟩:=back k' y' h3 h4
  have:=hr.inj k0 k1 y0 y1 b c c' g1 g2 e1 e2 (by rw [← g3]; exact h5) (by rw [← e3]; exact h6)
  rw [g6,e6] at this
  by_cases ha:k = h.length <;> by_cases hb:k' = h.length
  ·omega
  ·rw [if_pos ha,if_neg hb] at this; exact absurd this.symm (e7 hb)
  ·rw [if_neg ha,if_pos hb] at this; exact absurd this (g7 ha)
  ·rw [if_neg ha,if_neg hb] at this; exact this
 ·intro k y b c h1 h2 h3
  obtain ⟨k0,y0,g1,g2,g3,_⟩:=back k y h1 h2
  exact hr.base k0 y0 b c g1 g2 (by rw [← g3]; exact h3)
 ·intro hdm k y h1 hy
  obtain ⟨k0,y0,g1,g2,g3,g4,rfl,g6,g7⟩:=back k _ h1 (y9.rw_live hy)
  rw [b3m] at hy
  obtain ⟨d1,d2,d3⟩:=hr.deepx hdm k0 y0 g1 hy
  rw [g4]
  refine ⟨d1,d2,?_⟩
  intro k' y' h2 hy' hne b hb
  obtain ⟨k1,y1,e1,e2,e3,e4,rfl,e6,e7⟩:=back k' _ h2 (y9.rw_live hy')
  rw [b3m] at hy'
  rw [e4]
  refine d3 k1 y1 e1 hy' (fun he => hne ?_) b hb
  rw [g6,e6] at he
  by_cases ha:k = h.length <;> by_cases hb:k' = h.length
  ·omega
  ·rw [if_pos ha,if_neg hb] at he; exact absurd he (e7 hb)
  ·rw [if_neg ha,if_pos hb] at he; exact absurd he.symm (g7 ha)
  ·rw [if_neg ha,if_neg hb] at he; exact he
theorem d8p (hr:a0b C σ φ h w) (hok:∀ b,C.mine b → C.ok b) {o n z:Nat} {l:List AV} {v:Value} (ho:h[o]? = some (.row z l)) (hv:b6x σ o 0 n z l.length v) :
  ∃ σ' φ',a0b C σ' φ' (h.set o .dead ++ [.row z (l.take n)]) w ∧ Ev σ h w σ' (h.set o .dead ++ [.row z (l.take n)]) w ∧ b6x σ' h.length 0 n z (l.take n).length v:=by
 obtain ⟨hsz,hob⟩:=hr.obj o _ ho
 obtain ⟨a,cap,rfl,hl,hn,hm,hσ⟩:=hv
 have hks:kill h [o] = h.set o .dead:=rfl
 have hln:(l.take n).length = n:=by rw [List.length_take]; omega
 cases hs:σ o with
 | none =>
  rw [hs] at hσ hob
  obtain ⟨rfl,rfl⟩:=hσ
  have hn0:n = 0:=by omega
  subst hn0
  obtain ⟨k1,k2⟩:=c5x hr [o] hsz
  rw [hks] at k1 k2
  rw [List.take_zero]
  exact ⟨_,_,k1,k2,none,0,rfl,by simp,by simp,hm,by simp [upd]⟩
 | some p =>
  obtain ⟨g,c⟩:=p
  rw [hs] at hσ hob
  obtain ⟨hc,cur,e,h2,h3,h4,h5⟩:=hob
  have hown:a7x σ φ h o g:=.inl ⟨_,c,ho,rfl,hs⟩
  obtain ⟨f1,f2,hf,h6⟩:=h4.take n
  have hsub:List.Sublist f1 (φ o):=by rw [hf]; exact List.sublist_append_left f1 f2
  have taken:Taken C σ φ h [o] f1:=by
   refine ⟨fun b hb => (h5 b (hsub.subset hb)).1,fun b hb hlv => absurd hlv (h5 b (hsub.subset hb)).2,fun hdm b hb => ⟨o,by simp,.inr ⟨hsub.subset hb,_,ho,rfl⟩⟩,fun hdm _ => (hr.deep hdm o z l ho).1.sublist hsub⟩
  obtain ⟨k1,k2⟩:=c5i hr (w':=w) (Nat.le_refl _) (ks:=[o]) (as:=l.take n) ⟨hr.base o _ g c ho rfl hs,.inr ⟨o,by simp,_,c,ho,rfl,hs⟩⟩ (fun _ _ _ => rfl) h2 hsz hc h3 h6 taken
   (fun b hb => a0n.lt _ _ _ h4 b (hsub.subset hb)) (fun b hb => (h5 b (hsub.subset hb)).2) (fun _ => by simp)
  rw [hks] at k1 k2
  refine ⟨_,_,k1,k2,a,cap,rfl,by omega,hn,hm,?_⟩
  have e1:upd σ h.length (some (g,c)) h.length = some (g,c):=by simp [upd]
  rw [e1]
  exact hσ
theorem RVs.set {σ:Sg} {h:List y9} {a b:AV}:∀ {as:List AV} {vs:List Value} {i:Nat},RVs C σ h w as vs → as[i]? = some a → (∀ v,RV C σ h w a v → RV C σ h w b v) → RVs C σ h w (as.set i b) vs
 | [],_,_,_,hi,_ => by simp at hi
 | x :: as,vs,0,hr,hi,hb => by
  simp at hi; subst hi
  simp only [RVs,List.set_cons_zero] at hr ⊢
  obtain ⟨v,vs',e,h1,h2⟩:=hr
  exact ⟨v,vs',e,hb v h1,h2⟩
 | x :: as,vs,i + 1,hr,hi,hb => by
  simp only [RVs,List.set_cons_succ] at hr ⊢
  obtain ⟨v,vs',e,h1,h2⟩:=hr
  exact ⟨v,vs',e,h1,RVs.set h2 (by simpa using hi) hb⟩
theorem d5u (hmf:C.mm = false) (hr:a0b C σ φ h w) (hok:∀ b,C.mine b → C.ok b) {o lo n z:Nat} {l:List AV} {v:Value} (ho:h[o]? = some (.row z l)) (hv:RV C σ h w (.own o lo n) v) :
  RV C σ (h.set o .dead) w (.lst z ((l.drop lo).take n)) v:=by
 have hab:a1n false h [.own o lo n] = some ([.lst z ((l.drop lo).take n)],[o]):=by simp only [a1n,a2w,ho]; rfl
 obtain ⟨fp,r1,r2,r3⟩:=b3o hmf hr hok hab (vs:=[v]) (by simp only [RVs]; exact ⟨v,[],rfl,hv,rfl⟩)
 simp only [a1q] at r1
 obtain ⟨cs,vs',f1,f2,e,k1,⟨e1,e2⟩,e3⟩:=r1
 subst e1 e2
 simp only [List.append_nil] at e3
 subst e3
 cases e
 refine Rep.rv _ _ _ k1 fun b hb => ⟨⟨r2 b hb,fun hm => by rw [hmf] at hm; cases hm⟩,?_⟩
 rintro ⟨o',x',c',e1,e2,e3⟩
 have hks:kill h [o] = h.set o .dead:=rfl
 rw [← hks] at e1
 obtain ⟨m1,m2⟩:=a7g e1 e2
 obtain ⟨k,q1,q2⟩:=r3 b hb ⟨o',x',c',m1,e2,e3⟩
 have hk:k = o:=by simpa using q1
 subst hk
 rcases q2 with ⟨x,c,y1,y2,y3⟩ | ⟨y1,x',y2,y3⟩
 ·have:=hr.inj _ _ _ _ _ _ _ m1 e2 y1 y2 e3 y3
  subst this
  exact m2 q1
 ·exact (hr.phix y2 y3 y1).2 ⟨o',_,c',m1,e2,e3⟩
end
section
variable {C:Ctx} {w0:World} {σ0:Sg} {h0:List y9} {N:Nat}
theorem St.turn {t t':Nat → AV} {h h':List y9} {a:Act} {w:World} (hs:St C w0 σ0 h0 N t h a w)
  (hk:∀ F,FrX C w F → ∀ σ φ,a0b (C.frz F) σ φ h w → (∀ n,RV (C.frz F) σ h w (t n) (a.tmps.getD n Go.undef)) → ∃ σ' φ',a0b (C.frz F) σ' φ' h' w ∧ EvX (C.frz F) σ h w σ' h' w ∧ ∀ n,RV (C.frz F) σ' h' w (t' n) (a.tmps.getD n Go.undef)) :
  St C w0 σ0 h0 N t' h' a w:=by
 obtain ⟨F,σ,φ,hF,h1,h2,h3⟩:=hs.rel
 obtain ⟨σ',φ',g1,g2,g3⟩:=hk F hF σ φ h1 h3
 exact ⟨⟨F,σ',φ',hF,g1,h2.trans (hF.ev g2),g3⟩,hs.size,hs.defers,hs.below⟩
theorem e0e {C:Ctx} (hok:∀ b,C.mine b → C.ok b) {g:Gh} (hf:g.frzs = true → C.mm = false) {t t':Nat → AV} {h h':List y9} {a:Act} {w:World} (hg:gh1 t h g = some (t',h')) {σ:Sg} {φ:Nat → List Nat} (hr:a0b C σ φ h w) (ht:∀ n,RV C σ h w (t n) (a.tmps.getD n Go.undef)) :
  ∃ σ' φ',a0b C σ' φ' h' w ∧ EvX C σ h w σ' h' w ∧ ∀ n,RV C σ' h' w (t' n) (a.tmps.getD n Go.undef):=by
 cases g with
 | kill o =>
  simp only [gh1,Option.some.injEq,Prod.mk.injEq] at hg
  obtain ⟨rfl,rfl⟩:=hg
  obtain ⟨h1,h2⟩:=b8l hr o
  exact ⟨_,_,h1,h2.x,fun n => h2.rv _ _ (ht n)⟩
 | nilT s z =>
  simp only [gh1] at hg
  split at hg
  ·rename_i z' he
   cases hg
   obtain ⟨h1,h2⟩:=c1g hr z'
   refine ⟨_,_,h1,h2.x,fun n => ?_⟩
   unfold upd
   split
   ·rename_i hn
    subst hn
    have:=ht n
    rw [he] at this
    simp only [RV] at this
    exact c5m hr z' this
   ·exact h2.rv _ _ (ht n)
  ·cases hg
 | nilC o i z =>
  simp only [gh1] at hg
  split at hg
  ·rename_i n cs z' ho
   split at hg
   ·rename_i hc
    cases hg
    obtain ⟨h1,h2⟩:=c1g hr z'
    have ho':(h ++ [y9.row (z' + 1) []])[o]? = some (.box n (.agg cs)):=by
     rw [List.getElem?_append_left (List.getElem?_eq_some_iff.1 ho).1]; exact ho
    obtain ⟨k1,k2⟩:=d3k h1 ho' (v':=.agg (cs.set i (.own h.length 0 0))) (fun vs hvs => RVs.set hvs hc (fun v hv => by
     simp only [RV] at hv
     exact c5m hr z' hv))
    have e:(h ++ [y9.row (z' + 1) []]).set o (.box n (.agg (cs.set i (.own h.length 0 0)))) = h.set o (.box n (.agg (cs.set i (.own h.length 0 0)))) ++ [y9.row (z' + 1) []]:=by
     rw [List.set_append_left _ _ (List.getElem?_eq_some_iff.1 ho).1]
    rw [e] at k1 k2
    exact ⟨_,_,k1,(h2.trans k2).x,fun n => (h2.trans k2).rv _ _ (ht n)⟩
   ·cases hg
  ·rename_i n z' ho
   cases hg
   obtain ⟨h1,h2⟩:=c1g hr z'
   have ho':(h ++ [y9.row (z' + 1) []])[o]? = some (.box n .nil):=by
    rw [List.getElem?_append_left (List.getElem?_eq_some_iff.1 ho).1]; exact ho
   obtain ⟨k1,k2⟩:=d3k h1 ho' (v':=.own h.length 0 0) (fun vs hvs => by
    simp only [AV.cells,RVs] at hvs ⊢
    obtain ⟨v,vs',e,h3,h4⟩:=hvs
    simp only [RV] at h3
    exact ⟨v,vs',e,c5m hr z' h3,h4⟩)
   have e:(h ++ [y9.row (z' + 1) []]).set o (.box n (.own h.length 0 0)) = h.set o (.box n (.own h.length 0 0)) ++ [y9.row (z' + 1) []]:=by
    rw [List.set_append_left _ _ (List.getElem?_eq_some_iff.1 ho).1]
   rw [e] at k1 k2
   exact ⟨_,_,k1,(h2.trans k2).x,fun n => (h2.trans k2).rv _ _ (ht n)⟩
  ·cases hg
 | frz s =>
  have hmf:=hf rfl
  simp only [gh1] at hg
  split at hg
  ·rename_i o lo n he
   split at hg
   ·rename_i z l ho
    cases hg
    obtain ⟨h1,h2⟩:=b8l hr o
    refine ⟨_,_,h1,h2.x,fun m => ?_⟩
    unfold upd
    split
    ·rename_i hn
     subst hn
     have:=ht m
     rw [he] at this
     exact d5u hmf hr hok ho this
    ·exact h2.rv _ _ (ht m)
   ·cases hg
  ·cases hg
 | frzC o i =>
  have hmf:=hf rfl
  simp only [gh1] at hg
  split at hg
  ·rename_i m cs ho
   split at hg
   ·rename_i q lo n hc
    split at hg
    ·rename_i z l hq
     cases hg
     obtain ⟨h1,h2⟩:=b8l hr q
     have hne:q ≠ o:=by intro he; subst he; rw [ho] at hq; cases hq
     have ho':(h.set q .dead)[o]? = some (.box m (.agg cs)):=by
      rw [List.getElem?_set_ne hne]; exact ho
     obtain ⟨g,cur,e,q1,q2,q3,q4⟩:=hr.obj o _ ho
     have hcs:RVs C σ (h.set q .dead) w (cs.set i (.lst z ((l.drop lo).take n))) cur.toList:=by
      have hq4:RVs C σ h w cs cur.toList:=q4
      have:=h2.rvs _ _ hq4
      have key:∀ {as:List AV} {vs:List Value} {i:Nat},RVs C σ h w as vs → as[i]? = some (.own q lo n) → RVs C σ (h.set q .dead) w (as.set i (.lst z ((l.drop lo).take n))) vs:=by
       intro as
       induction as with
       | nil => intro vs i _ hi; simp at hi
       | cons x as ih =>
        intro vs i hr' hi
        cases i with
        | zero =>
         simp at hi; subst hi
         simp only [RVs,List.set_cons_zero] at hr' ⊢
         obtain ⟨v,vs',e,k1,k2⟩:=hr'
         exact ⟨v,vs',e,d5u hmf hr hok hq k1,h2.rvs _ _ k2⟩
        | succ i =>
         simp only [RVs,List.set_cons_succ] at hr' ⊢
         obtain ⟨v,vs',e,k1,k2⟩:=hr'
         exact ⟨v,vs',e,h2.rv _ _ k1,ih k2 (by simpa using hi)⟩
      exact key hq4 hc
     have key:=h1.turn (w':=w) ho' (x':=.box m (.agg (cs.set i (.lst z ((l.drop lo).take n))))) rfl rfl q1 (ks:=[]) (by simp) (fx:=φ o) rfl (fun _ _ => rfl) (fun ev => ⟨g,cur,e,q1,q2,q3,ev.rvs _ _ hcs⟩) (by intro _ e; cases e)
     simp only [kill] at key
     exact ⟨_,_,key.1,(h2.trans key.2).x,fun n => (h2.trans key.2).rv _ _ (ht n)⟩
    ·cases hg
   ·cases hg
  ·cases hg
 | nilS s i z =>
  simp only [gh1] at hg
  split at hg
  ·rename_i cs z' he
   split at hg
   ·rename_i hc
    cases hg
    obtain ⟨h1,h2⟩:=c1g hr z'
    refine ⟨_,_,h1,h2.x,fun n => ?_⟩
    unfold upd
    split
    ·rename_i hn
     subst hn
     have:=ht n
     rw [he] at this
     simp only [RV] at this ⊢
     obtain ⟨arr,e,hv⟩:=this
     exact ⟨arr,e,RVs.set (h2.rvs _ _ hv) hc (fun v hv => by simp only [RV] at hv; exact c5m hr z' hv)⟩
    ·exact h2.rv _ _ (ht n)
   ·cases hg
  ·cases hg
 | mv o =>
  simp only [gh1] at hg
  split at hg
  ·rename_i z l ho
   cases hg
   obtain ⟨h1,h2,h3⟩:=e2s hr ho
   exact ⟨_,_,h1,h2.x,fun n => h3 _ _ (ht n)⟩
  ·cases hg
 | trim s =>
  simp only [gh1] at hg
  split at hg
  ·rename_i o n he
   split at hg
   ·rename_i z l ho
    cases hg
    have hv:=ht s
    rw [he] at hv
    simp only [RV,ho] at hv
    obtain ⟨σ',φ',h1,h2,h3⟩:=d8p hr hok ho hv
    refine ⟨_,_,h1,h2.x,fun m => ?_⟩
    unfold upd
    split
    ·rename_i hn
     subst hn
     simp only [RV,List.getElem?_append_right (Nat.le_refl _),List.length_set,Nat.sub_self,List.getElem?_cons_zero]
     rw [List.getElem?_append_right (by simp)]
     obtain ⟨_,_,_,q1,_⟩:=hv
     have hln:(l.take n).length = n:=by rw [List.length_take]; omega
     rw [hln] at h3 ⊢
     simpa [hln] using h3
    ·exact h2.rv _ _ (ht m)
   ·cases hg
  ·cases hg
 | cls o =>
  simp only [gh1] at hg
  split at hg
  ·rename_i z l i el ho
   split at hg
   ·rename_i el' ks hab
    split at hg
    ·rename_i hc
     cases hg
     simp only [Bool.and_eq_true] at hc
     have hdm:C.dm = true:=(hr.obj o _ ho).2.1.2
     obtain ⟨φ',h1,h2⟩:=d5l hr hok ho (by rw [hdm]; exact hab) (d1a hc.1.1) (d6o hc.1.2) hc.2
     exact ⟨_,_,h1,h2.x,fun n => h2.rv _ _ (ht n)⟩
    ·cases hg
   ·cases hg
  ·cases hg
 | frzS s i =>
  have hmf:=hf rfl
  simp only [gh1] at hg
  split at hg
  ·rename_i cs he
   split at hg
   ·rename_i q lo n hc
    split at hg
    ·rename_i z l hq
     cases hg
     obtain ⟨h1,h2⟩:=b8l hr q
     refine ⟨_,_,h1,h2.x,fun m => ?_⟩
     unfold upd
     split
     ·rename_i hn
      subst hn
      have:=ht m
      rw [he] at this
      simp only [RV] at this ⊢
      obtain ⟨arr,e,hv⟩:=this
      refine ⟨arr,e,?_⟩
      have key:∀ {as:List AV} {vs:List Value} {i:Nat},RVs C σ h w as vs → as[i]? = some (.own q lo n) → RVs C σ (h.set q .dead) w (as.set i (.lst z ((l.drop lo).take n))) vs:=by
       intro as
       induction as with
       | nil => intro vs i _ hi; simp at hi
       | cons x as ih =>
        intro vs i hr' hi
        cases i with
        | zero =>
         simp at hi; subst hi
         simp only [RVs,List.set_cons_zero] at hr' ⊢
         obtain ⟨v,vs',e,k1,k2⟩:=hr'
         exact ⟨v,vs',e,d5u hmf hr hok hq k1,h2.rvs _ _ k2⟩
        | succ i =>
         simp only [RVs,List.set_cons_succ] at hr' ⊢
         obtain ⟨v,vs',e,k1,k2⟩:=hr'
         exact ⟨v,vs',e,h2.rv _ _ k1,ih k2 (by simpa using hi)⟩
      exact key hv hc
     ·exact h2.rv _ _ (ht m)
    ·cases hg
   ·cases hg
  ·cases hg
theorem e0f (hok:∀ b,C.mine b → C.ok b) {g:Gh} (hf:g.frzs = true → C.mm = false) {t t':Nat → AV} {h h':List y9} {a:Act} {w:World} (hs:St C w0 σ0 h0 N t h a w) (hg:gh1 t h g = some (t',h')):St C w0 σ0 h0 N t' h' a w :=
 hs.turn fun F hF σ φ hr ht => e0e (C:=C.frz F) (hF.hok hok) hf hg hr ht
theorem e2t (hok:∀ b,C.mine b → C.ok b) {t t':Nat → AV} {h h':List y9} {a:Act} {w:World} {g:Gh} (hs:St C w0 σ0 h0 N t h a w) (hg:e4n C.mm t h g = some (t',h')):St C w0 σ0 h0 N t' h' a w:=by
 unfold e4n at hg
 cases hm:C.mm with
 | false =>
  rw [hm] at hg
  exact e0f hok (fun _ => hm) hs hg
 | true =>
  rw [hm] at hg
  cases hf:g.frzs with
  | true => simp only [hf] at hg; cases hg
  | false =>
   simp only [hf] at hg
   exact e0f hok (fun h => by rw [hf] at h; cases h) hs hg
theorem d1i (hok:∀ b,C.mine b → C.ok b) {a:Act} {w:World}:∀ {gs:List Gh} {t t':Nat → AV} {h h':List y9},St C w0 σ0 h0 N t h a w → ghs C.mm t h gs = some (t',h') → St C w0 σ0 h0 N t' h' a w
 | [],t,t',h,h',hs,hg => by simp only [ghs,Option.some.injEq,Prod.mk.injEq] at hg; obtain ⟨rfl,rfl⟩:=hg; exact hs
 | g :: gs,t,t',h,h',hs,hg => by
  simp only [ghs] at hg
  split at hg
  ·rename_i t1 h1 e
   exact d1i hok (e2t hok hs e) hg
  ·cases hg
end
end Go.R
