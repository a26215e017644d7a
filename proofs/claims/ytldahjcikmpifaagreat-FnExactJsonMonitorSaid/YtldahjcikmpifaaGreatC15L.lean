import Derived.Test.YtldahjcikmpifaaGreatC15
set_option linter.all false
namespace Go.R
open Go Go.RowKit
mutual
inductive Le:AV → AV → Prop
 | refl (a:AV):Le a a
 | nil (z:Nat):Le .nil (.lst z [])
 | agg {as bs:List AV}:LeL as bs → Le (.agg as) (.agg bs)
 | lst {z:Nat} {as bs:List AV}:LeL as bs → Le (.lst z as) (.lst z bs)
 | tup {as bs:List AV}:LeL as bs → Le (.tup as) (.tup bs)
inductive LeL:List AV → List AV → Prop
 | nil:LeL [] []
 | cons {a b:AV} {as bs:List AV}:Le a b → LeL as bs → LeL (a :: as) (b :: bs)
end
theorem Le.of_eq {a b:AV} (h:a = b):Le a b:=h ▸ .refl a
theorem LeL.refl:∀ (as:List AV),LeL as as
 | [] => .nil
 | a :: as => .cons (.refl a) (LeL.refl as)
theorem LeL.of_eq {a b:List AV} (h:a = b):LeL a b:=h ▸ .refl a
theorem LeL.length:∀ {as bs:List AV},LeL as bs → as.length = bs.length
 | [],_,.nil => rfl
 | _ :: _,_,.cons _ h => by simp [h.length]
theorem LeL.rep {a b:AV} (h:Le a b):∀ (n:Nat),LeL (List.replicate n a) (List.replicate n b)
 | 0 => .nil
 | n + 1 => .cons h (LeL.rep h n)
theorem Le.isCell {a b:AV} (h:Le a b):b.isCell = a.isCell:=by cases h <;> rfl
theorem Le.isElem {a b:AV} (h:Le a b):b.isElem = a.isElem:=by cases h <;> rfl
theorem Le.cells {a b:AV} (h:Le a b):LeL a.cells b.cells:=by
 cases h with
 | refl => exact .refl _
 | nil z => exact .cons (.nil z) .nil
 | agg h => exact h
 | lst h => exact .cons (.lst h) .nil
 | tup h => exact .cons (.tup h) .nil
section
variable {m:Bool} {w:World}
theorem Le.mkV {a b:AV} (h:Le a b) (cs:List Value):R.mkV b cs = R.mkV a cs:=by
 cases h <;> rfl
mutual
theorem Le.rep:∀ {a b:AV},Le a b → ∀ (cs:List Value) (fp:List Nat),Rep m w a cs fp → Rep m w b cs fp
 | _,_,.refl _,_,_,hr => hr
 | _,_,.nil z,cs,fp,hr => by
  simp only [Rep] at hr ⊢
  exact .inl ⟨trivial,hr.2,none,0,hr.1,by simp [maxLen],fun _ => ⟨rfl,rfl⟩⟩
 | _,_,.agg h,cs,fp,hr => by simp only [Rep] at hr ⊢; exact LeL.rep1 h cs fp hr
 | _,_,.tup h,cs,fp,hr => by simp only [Rep] at hr ⊢; exact LeL.repv h cs fp hr
 | _,_,.lst h,cs,fp,hr => by
  simp only [Rep] at hr ⊢
  rw [← h.length]
  rcases hr with ⟨rfl,h2,h3⟩ | ⟨b,off,cap,cur,e,fz,fps,h1,h2,h3,h4,h5,h6,h7,h8⟩
  ·cases h
   exact .inl ⟨rfl,h2,h3⟩
  ·exact .inr ⟨b,off,cap,cur,e,fz,fps,h1,h2,h3,h4,h5,h6,h7,LeL.reps h _ _ h8⟩
theorem LeL.reps {sz:Nat}:∀ {as bs:List AV},LeL as bs → ∀ (cs:List Value) (fp:List Nat),a0n m w sz as cs fp → a0n m w sz bs cs fp
 | _,_,.nil,_,_,hr => hr
 | _,_,.cons h t,cs,fp,hr => by
  simp only [a0n] at hr ⊢
  obtain ⟨f1,f2,⟨h0,he⟩,h1,h2,e2⟩:=hr
  exact ⟨f1,f2,⟨h0,by rw [h.isElem]; exact he⟩,Le.rep h _ _ h1,LeL.reps t _ _ h2,e2⟩
theorem LeL.rep1:∀ {as bs:List AV},LeL as bs → ∀ (cs:List Value) (fp:List Nat),a0o m w as cs fp → a0o m w bs cs fp
 | _,_,.nil,_,_,hr => hr
 | _,_,.cons h t,cs,fp,hr => by
  simp only [a0o] at hr ⊢
  obtain ⟨c,cs',f1,f2,e,hc,h1,h2,e2⟩:=hr
  exact ⟨c,cs',f1,f2,e,by rw [h.isCell]; exact hc,Le.rep h _ _ h1,LeL.rep1 t _ _ h2,e2⟩
theorem LeL.repv:∀ {as bs:List AV},LeL as bs → ∀ (cs:List Value) (fp:List Nat),a1q m w as cs fp → a1q m w bs cs fp
 | _,_,.nil,_,_,hr => hr
 | _,_,.cons h t,cs,fp,hr => by
  simp only [a1q] at hr ⊢
  obtain ⟨c,cs',f1,f2,e,h1,h2,e2⟩:=hr
  exact ⟨c,cs',f1,f2,by rw [h.mkV]; exact e,Le.rep h _ _ h1,LeL.repv t _ _ h2,e2⟩
end
end
section
variable {C:Ctx} {σ:Sg} {φ:Nat → List Nat} {h:List y9} {w:World}
mutual
theorem Le.rv:∀ {a b:AV},Le a b → ∀ (v:Value),RV C σ h w a v → RV C σ h w b v
 | _,_,.refl _,_,hr => hr
 | _,_,.nil z,v,hr => by
  simp only [RV] at hr ⊢
  subst hr
  exact ⟨[],⟨[.slice none 0 0],rfl,by simp only [Rep]; exact .inl ⟨trivial,trivial,none,0,rfl,by simp [maxLen],fun _ => ⟨rfl,rfl⟩⟩⟩,by simp⟩
 | _,_,.agg t,v,hr => by
  simp only [RV] at hr ⊢
  obtain ⟨vs,e,h1⟩:=hr
  exact ⟨vs,e,LeL.rvs t _ h1⟩
 | _,_,.lst t,v,hr => by
  simp only [RV] at hr ⊢
  obtain ⟨fp,⟨cs,e,h1⟩,h2⟩:=hr
  exact ⟨fp,⟨cs,e,Le.rep (.lst t) _ _ h1⟩,h2⟩
 | _,_,.tup t,v,hr => by
  simp only [RV] at hr ⊢
  obtain ⟨vs,e,h1⟩:=hr
  exact ⟨vs,e,LeL.rvs t _ h1⟩
theorem LeL.rvs:∀ {as bs:List AV},LeL as bs → ∀ (vs:List Value),RVs C σ h w as vs → RVs C σ h w bs vs
 | _,_,.nil,_,hr => hr
 | _,_,.cons t ts,vs,hr => by
  simp only [RVs] at hr ⊢
  obtain ⟨v,vs',e,h1,h2⟩:=hr
  exact ⟨v,vs',e,Le.rv t _ h1,LeL.rvs ts _ h2⟩
end
end
inductive LeO:y9 → y9 → Prop
 | refl (x:y9):LeO x x
 | box {z:Nat} {a b:AV}:Le a b → LeO (.box z a) (.box z b)
 | row {z:Nat} {a b:List AV}:LeL a b → LeO (.row z a) (.row z b)
 | rowx {z i:Nat} {l:List AV} {a b:AV}:Le a b → LeO (.rowx z l i a) (.rowx z l i b)
inductive LeH:List y9 → List y9 → Prop
 | nil:LeH [] []
 | cons {x y:y9} {xs ys:List y9}:LeO x y → LeH xs ys → LeH (x :: xs) (y :: ys)
theorem LeH.refl:∀ (xs:List y9),LeH xs xs
 | [] => .nil
 | x :: xs => .cons (.refl x) (LeH.refl xs)
theorem LeH.of_eq {a b:List y9} (h:a = b):LeH a b:=h ▸ .refl a
theorem LeH.length:∀ {xs ys:List y9},LeH xs ys → xs.length = ys.length
 | [],_,.nil => rfl
 | _ :: _,_,.cons _ t => by simp [t.length]
theorem LeH.get:∀ {xs ys:List y9} {o:Nat} {y:y9},LeH xs ys → ys[o]? = some y → ∃ x,xs[o]? = some x ∧ LeO x y
 | _,_,_,_,.nil,h => by simp at h
 | _,_,0,y,.cons h _,e => by simp at e; subst e; exact ⟨_,by simp,h⟩
 | _,_,o + 1,y,.cons _ t,e => by
  obtain ⟨x,h1,h2⟩:=LeH.get t (by simpa using e)
  exact ⟨x,by simpa using h1,h2⟩
theorem LeH.get':∀ {xs ys:List y9} {o:Nat} {x:y9},LeH xs ys → xs[o]? = some x → ∃ y,ys[o]? = some y ∧ LeO x y
 | _,_,_,_,.nil,h => by simp at h
 | _,_,0,y,.cons h _,e => by simp at e; subst e; exact ⟨_,by simp,h⟩
 | _,_,o + 1,y,.cons _ t,e => by
  obtain ⟨x,h1,h2⟩:=LeH.get' t (by simpa using e)
  exact ⟨x,by simpa using h1,h2⟩
theorem LeO.live {x y:y9} (h:LeO x y):y.isLive = x.isLive:=by cases h <;> rfl
theorem LeO.rw {x y:y9} (h:LeO x y):y.rw = x.rw:=by cases h <;> rfl
theorem LeO.shape {x y:y9} (h:LeO x y) (hl:x.isLive = true):sameShape x y:=by
 cases h with
 | refl => exact sameShape.refl hl
 | box _ => rfl
 | row t => exact ⟨rfl,t.length⟩
 | rowx _ => exact ⟨rfl,rfl⟩
theorem LeH.last {x y:y9} (hl:LeO x y):∀ {h:List y9},LeH (h ++ [x]) (h ++ [y])
 | [] => .cons hl .nil
 | a :: h => .cons (.refl a) (LeH.last hl (h:=h))
theorem LeL.set {a b:AV} (hl:Le a b):∀ {l:List AV} {i:Nat},LeL (l.set i a) (l.set i b)
 | [],_ => .nil
 | x :: l,0 => .cons hl (.refl l)
 | x :: l,i + 1 => .cons (.refl x) (LeL.set hl (l:=l))
theorem LeH.setr {z:Nat} {a b:List AV} (hl:LeL a b):∀ {h:List y9} {o:Nat},LeH (h.set o (.row z a)) (h.set o (.row z b))
 | [],_ => .nil
 | x :: h,0 => .cons (.row hl) (.refl h)
 | x :: h,o + 1 => .cons (.refl x) (LeH.setr hl (h:=h))
section
variable {C:Ctx} {σ:Sg} {φ:Nat → List Nat} {h h':List y9} {w:World}
theorem LeH.liveAt (hh:LeH h h') {b:Nat}:liveAt h' σ b ↔ liveAt h σ b:=by
 constructor
 ·rintro ⟨o,y,c,h1,h2,h3⟩
  obtain ⟨x,g1,g2⟩:=hh.get h1
  exact ⟨o,x,c,g1,by rw [← g2.live]; exact h2,h3⟩
 ·rintro ⟨o,y,c,h1,h2,h3⟩
  obtain ⟨x,g1,g2⟩:=hh.get' h1
  exact ⟨o,x,c,g1,by rw [g2.live]; exact h2,h3⟩
theorem LeH.ev (hh:LeH h h'):Ev σ h w σ h' w where
 obj o x ho hx:=by
  obtain ⟨y,g1,g2⟩:=hh.get' ho
  exact .inr ⟨rfl,y,g1,g2.shape hx⟩
 gone o ho:=by
  obtain ⟨y,g1,g2⟩:=hh.get' ho
  cases g2; exact g1
 live b _ hl:=hh.liveAt.1 hl
 blk b _ _:=rfl
 size:=Nat.le_refl _
theorem LeH.heap (hh:LeH h h') (hr:a0b C σ φ h w):a0b C σ φ h' w where
 obj o y ho:=by
  obtain ⟨x,g1,g2⟩:=hh.get ho
  have hob:=hr.obj o x g1
  have ev:=LeH.ev (σ:=σ) (w:=w) hh
  cases x with
  | dead => cases g2; trivial
  | box z v =>
   obtain ⟨g,cur,e,h1,h2,h3,h4⟩:=hob
   have h5:=Ev.rvs ev _ _ h4
   cases g2 with
   | refl => exact ⟨g,cur,e,h1,h2,h3,h5⟩
   | box hl => exact ⟨g,cur,e,h1,h2,h3,LeL.rvs hl.cells _ h5⟩
  | map m =>
   obtain ⟨g,cur,e,h1,h2,h3,h4⟩:=hob
   have h5:=Ev.rvs ev _ _ h4
   cases g2
   exact ⟨g,cur,e,h1,h2,h3,h5⟩
  | row z l =>
   obtain ⟨h0,hob⟩:=hob
   have key:∀ l',LeL l l' → b2b C σ φ h' w o (.row z l'):=by
    intro l' hl
    refine ⟨h0,?_⟩
    cases hs:σ o with
    | none =>
     rw [hs] at hob
     obtain ⟨rfl,e⟩:=hob
     cases hl
     exact ⟨rfl,e⟩
    | some p =>
     rw [hs] at hob
     obtain ⟨h1,cur,e,h2,h3,h4,h5⟩:=hob
     exact ⟨h1,cur,e,h2,h3,LeL.reps hl _ _ h4,fun b hb => ⟨(h5 b hb).1,fun hv => (h5 b hb).2 (hh.liveAt.1 hv)⟩⟩
   cases g2 with
   | refl => exact key l (.refl l)
   | row hl => exact key _ hl
  | rowx z l i el =>
   have hob':=b2b.rowx_ev (σ':=σ) (φ':=φ) (w':=w) ev rfl rfl (fun _ _ _ => rfl) hob
   cases g2 with
   | refl => exact hob'
   | rowx hl =>
    obtain ⟨hz,hmm,hi,g,c,cur,e,f1,f2,k1,k2,k3,k4,k5,k6,k7,k7',k8,k9⟩:=hob'
    exact ⟨hz,hmm,hi,g,c,cur,e,f1,f2,k1,k2,k3,k4,k5,LeL.rvs hl.cells _ k6,k7,by rw [← hl.cells.length]; exact k7',k8,k9⟩
 inj o o' y y' b c c' h1 h2 h3 h4 h5 h6:=by
  obtain ⟨x,g1,g2⟩:=hh.get h1
  obtain ⟨x',g1',g2'⟩:=hh.get h3
  exact hr.inj o o' x x' b c c' g1 (by rw [← g2.live]; exact h2) g1' (by rw [← g2'.live]; exact h4) h5 h6
 base o y b c h1 h2 h3:=by
  obtain ⟨x,g1,g2⟩:=hh.get h1
  exact hr.base o x b c g1 (by rw [← g2.live]; exact h2) h3
 deepx hdm o y ho hy:=by
  obtain ⟨x,g1,g2⟩:=hh.get ho
  obtain ⟨d1,d2,d3⟩:=hr.deepx hdm o x g1 (by rw [← g2.rw]; exact hy)
  refine ⟨d1,d2,?_⟩
  intro o' y' ho' hy' hne
  obtain ⟨x',g1',g2'⟩:=hh.get ho'
  exact d3 o' x' g1' (by rw [← g2'.rw]; exact hy') hne
end
end Go.R
