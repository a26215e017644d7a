import Derived.Test.YtldahjcikmpifaaGreatC14
set_option linter.all false
namespace Go.R
open Go Go.RowKit
inductive CM where
 | flat | fresh | weak
def e4m (cm:CM) (w w':World) (fps:List Nat) (r:AV) (v:Value):Prop:=match cm with
 | .flat => b2o false w' r v []
 | .fresh => ∃ fp,b2o true w' r v fp ∧ fp.Nodup ∧ ∀ b ∈ fp,w.heap.size ≤ b
 | .weak => ∃ fp,b2o false w' r v fp ∧ ∀ b ∈ fp,b ∈ fps ∨ w.heap.size ≤ b
def a0a (P:Program) (f:Nat) (cm:CM) (args:List AV) (r:AV):Prop :=
 ∀ (w:World) (vals:List Value) (fps:List Nat),a1q false w args vals fps →
  Calls P f vals.toArray w fun e w' => match e with
   | .returned v => Below w.heap.size w w' ∧ e4m cm w w' fps r v
   | _ => False
mutual
def a2r (n:Nat):AV → AV × List y9
 | .lst (z + 1) l => (.own n 0 l.length,[.row (z + 1) l])
 | .lst 0 _ => (.undef,[])
 | .agg as => match a2z n as with
  | (bs,xs) => (.agg bs,xs)
 | .tup as => match a2z n as with
  | (bs,xs) => (.tup bs,xs)
 | .iptr _ _ => (.undef,[])
 | .fn _ _ => (.undef,[])
 | a => (a,[])
def a2z (n:Nat):List AV → List AV × List y9
 | [] => ([],[])
 | a :: as => match a2r n a with
  | (b,xs) => match a2z (n + xs.length) as with
   | (bs,ys) => (b :: bs,xs ++ ys)
end
structure b1d (C:Ctx) (W:World) (B n:Nat) (xs:List y9) (s:List (Option (Nat × Nat))) (p:List (List Nat)) (fp:List Nat):Prop where
 ls:s.length = xs.length
 lp:p.length = xs.length
 row:∀ (j:Nat) x,xs[j]? = some x → ∃ z l,x = .row z l ∧ 0 < z ∧ ∃ q,p[j]? = some q ∧ List.Sublist q fp ∧
  match s[j]? with
  | some none => l = [] ∧ q = []
  | some (some (g,c)) => g ∈ fp ∧ c ≤ maxLen ∧ ∃ cur e,W.heap[g]? = some (.cells cur e (0,0)) ∧ cur.size = c * z ∧ a0n true W z l cur.toList q
  | none => False
 inj:fp.Nodup → ∀ (j j':Nat) g c g' c',s[j]? = some (some (g,c)) → s[j']? = some (some (g',c')) → g = g' → j = j'
 dis:fp.Nodup → ∀ (j j':Nat) q q',p[j]? = some q → p[j']? = some q' → j ≠ j' → ∀ b ∈ q,b ∉ q'
 out:fp.Nodup → ∀ (j j':Nat) g c q,s[j]? = some (some (g,c)) → p[j']? = some q → g ∉ q
 sub:∀ (j:Nat) g c,s[j]? = some (some (g,c)) → g ∈ fp
theorem b1d.nil (C:Ctx) (W:World) (B n:Nat) (fp:List Nat):b1d C W B n [] [] [] fp:=by
 refine ⟨rfl,rfl,?_,?_,?_,?_,?_⟩ <;> simp
theorem b1d.append {C:Ctx} {W:World} {B n:Nat} {xs ys:List y9} {s1 s2:List (Option (Nat × Nat))} {p1 p2:List (List Nat)} {f1 f2:List Nat}
  (a:b1d C W B n xs s1 p1 f1) (b:b1d C W B (n + xs.length) ys s2 p2 f2):b1d C W B n (xs ++ ys) (s1 ++ s2) (p1 ++ p2) (f1 ++ f2) where
 ls:=by simp [a.ls,b.ls]
 lp:=by simp [a.lp,b.lp]
 row j x hj:=by
  rw [List.getElem?_append] at hj
  rw [List.getElem?_append,List.getElem?_append,a.ls,a.lp]
  split at hj
  ·rename_i hlt
   obtain ⟨z,l,h1,h2,q,h3,h4,h5⟩:=a.row j x hj
   refine ⟨z,l,h1,h2,q,by rw [if_pos hlt]; exact h3,h4.trans (List.sublist_append_left _ _),?_⟩
   rw [if_pos hlt]
   cases hs:s1[j]? with
   | none => rw [hs] at h5; exact h5
   | some o =>
    rw [hs] at h5
    cases o with
    | none => exact h5
    | some gc => exact ⟨by simp [h5.1],h5.2⟩
  ·rename_i hlt
   obtain ⟨z,l,h1,h2,q,h3,h4,h5⟩:=b.row _ x hj
   refine ⟨z,l,h1,h2,q,by rw [if_neg hlt]; exact h3,h4.trans (List.sublist_append_right _ _),?_⟩
   rw [if_neg hlt]
   cases hs:s2[j - xs.length]? with
   | none => rw [hs] at h5; exact h5
   | some o =>
    rw [hs] at h5
    cases o with
    | none => exact h5
    | some gc => exact ⟨by simp [h5.1],h5.2⟩
 inj hn j j' g c g' c' h1 h2 he:=by
  rw [List.getElem?_append] at h1 h2
  rw [List.nodup_append] at hn
  split at h1 <;> split at h2
  ·exact a.inj hn.1 j j' g c g' c' h1 h2 he
  ·exact absurd he (hn.2.2 _ (a.sub j g c h1) _ (b.sub _ g' c' h2))
  ·exact absurd he.symm (hn.2.2 _ (a.sub _ g' c' h2) _ (b.sub _ g c h1))
  ·have:=b.inj hn.2.1 _ _ g c g' c' h1 h2 he
   omega
 dis hn j j' q q' h1 h2 hne x hx hx':=by
  have subA:∀ j q,p1[j]? = some q → ∀ x ∈ q,x ∈ f1:=fun j q hq x hx => by
   have hl:j < xs.length:=by rw [← a.lp]; exact (List.getElem?_eq_some_iff.1 hq).1
   obtain ⟨z,l,_,_,q',h3,h4,_⟩:=a.row j xs[j] (by simp [hl])
   rw [hq] at h3; cases h3
   exact h4.subset hx
  have subB:∀ j q,p2[j]? = some q → ∀ x ∈ q,x ∈ f2:=fun j q hq x hx => by
   have hl:j < ys.length:=by rw [← b.lp]; exact (List.getElem?_eq_some_iff.1 hq).1
   obtain ⟨z,l,_,_,q',h3,h4,_⟩:=b.row j ys[j] (by simp [hl])
   rw [hq] at h3; cases h3
   exact h4.subset hx
  rw [List.getElem?_append] at h1 h2
  rw [List.nodup_append] at hn
  split at h1 <;> split at h2
  ·exact a.dis hn.1 j j' q q' h1 h2 hne x hx hx'
  ·exact hn.2.2 x (subA _ _ h1 x hx) x (subB _ _ h2 x hx') rfl
  ·exact hn.2.2 x (subA _ _ h2 x hx') x (subB _ _ h1 x hx) rfl
  ·exact b.dis hn.2.1 _ _ q q' h1 h2 (by omega) x hx hx'
 out hn j j' g c q h1 h2 hx:=by
  have subA:∀ j q,p1[j]? = some q → ∀ x ∈ q,x ∈ f1:=fun j q hq x hx => by
   have hl:j < xs.length:=by rw [← a.lp]; exact (List.getElem?_eq_some_iff.1 hq).1
   obtain ⟨z,l,_,_,q',h3,h4,_⟩:=a.row j xs[j] (by simp [hl])
   rw [hq] at h3; cases h3
   exact h4.subset hx
  have subB:∀ j q,p2[j]? = some q → ∀ x ∈ q,x ∈ f2:=fun j q hq x hx => by
   have hl:j < ys.length:=by rw [← b.lp]; exact (List.getElem?_eq_some_iff.1 hq).1
   obtain ⟨z,l,_,_,q',h3,h4,_⟩:=b.row j ys[j] (by simp [hl])
   rw [hq] at h3; cases h3
   exact h4.subset hx
  rw [List.getElem?_append] at h1 h2
  rw [List.nodup_append] at hn
  split at h1 <;> split at h2
  ·exact a.out hn.1 j j' g c q h1 h2 hx
  ·exact hn.2.2 g (a.sub _ g c h1) g (subB _ _ h2 g hx) rfl
  ·exact hn.2.2 g (subA _ _ h2 g hx) g (b.sub _ g c h1) rfl
  ·exact b.out hn.2.1 _ _ g c q h1 h2 hx
 sub j g c h1:=by
  rw [List.getElem?_append] at h1
  split at h1
  ·simp [a.sub j g c h1]
  ·simp [b.sub _ g c h1]
def OpenAt (σ:Sg) (n:Nat) (s:List (Option (Nat × Nat))):Prop:=∀ j x,s[j]? = some x → σ (n + j) = x
theorem OpenAt.left {σ:Sg} {n:Nat} {s1 s2:List (Option (Nat × Nat))} (h:OpenAt σ n (s1 ++ s2)):OpenAt σ n s1:=fun j x hj => h j x (by
 rw [List.getElem?_append_left (List.getElem?_eq_some_iff.1 hj).1]; exact hj)
theorem OpenAt.right {σ:Sg} {n:Nat} {s1 s2:List (Option (Nat × Nat))} (h:OpenAt σ n (s1 ++ s2)):OpenAt σ (n + s1.length) s2:=fun j x hj => by
 have:=h (s1.length + j) x (by rw [List.getElem?_append_right (by omega)]; simpa using hj)
 rwa [← Nat.add_assoc] at this
def b5y (h':List y9) (n:Nat) (xs:List y9):Prop:=∀ (j:Nat) x,xs[j]? = some x → h'[n + j]? = some x
theorem b5y.left {h':List y9} {n:Nat} {xs ys:List y9} (h:b5y h' n (xs ++ ys)):b5y h' n xs:=fun j x hj => h j x (by
 rw [List.getElem?_append_left (List.getElem?_eq_some_iff.1 hj).1]; exact hj)
theorem b5y.right {h':List y9} {n:Nat} {xs ys:List y9} (h:b5y h' n (xs ++ ys)):b5y h' (n + xs.length) ys:=fun j x hj => by
 have:=h (xs.length + j) x (by rw [List.getElem?_append_right (by omega)]; simpa using hj)
 rwa [← Nat.add_assoc] at this
mutual
theorem c6b {C:Ctx} {W:World} {B:Nat}:∀ (n:Nat) (a:AV) (cs:List Value) (fp:List Nat),Rep true W a cs fp →
  ∃ s p,b1d C W B n (a2r n a).2 s p fp ∧ ∀ σ' h',fp.Nodup → OpenAt σ' n s → b5y h' n (a2r n a).2 → RV C σ' h' W (a2r n a).1 (mkV a cs)
 | n,.int k i,cs,fp,hr => by
  simp only [Rep] at hr; obtain ⟨rfl,rfl⟩:=hr
  exact ⟨[],[],b1d.nil C W B n [],fun σ' h' _ _ _ => by simp [a2r,RV,mkV]⟩
 | n,.bool b,cs,fp,hr => by
  simp only [Rep] at hr; obtain ⟨rfl,rfl⟩:=hr
  exact ⟨[],[],b1d.nil C W B n [],fun σ' h' _ _ _ => by simp [a2r,RV,mkV]⟩
 | n,.str b,cs,fp,hr => by
  simp only [Rep] at hr; obtain ⟨rfl,h2,rfl⟩:=hr
  exact ⟨[],[],b1d.nil C W B n [],fun σ' h' _ _ _ => by simp [a2r,RV,mkV,h2]⟩
 | n,.nil,cs,fp,hr => by
  simp only [Rep] at hr; obtain ⟨rfl,rfl⟩:=hr
  exact ⟨[],[],b1d.nil C W B n [],fun σ' h' _ _ _ => by simp [a2r,RV,mkV]⟩
 | n,.iptr e f,cs,fp,hr => ⟨[],[],b1d.nil C W B n fp,fun σ' h' _ _ _ => by simp [a2r,RV]⟩
 | n,.fn e f,cs,fp,hr => ⟨[],[],b1d.nil C W B n fp,fun σ' h' _ _ _ => by simp [a2r,RV]⟩
 | n,.undef,cs,fp,hr => by simp only [Rep] at hr
 | n,.skip,cs,fp,hr => by simp only [Rep] at hr
 | n,.hdr v z l,cs,fp,hr => ⟨[],[],b1d.nil C W B n fp,fun σ' h' _ _ _ => by simp only [Rep] at hr; simp [a2r,RV,mkV,hr.1]⟩
 | n,.own ..,cs,fp,hr => by simp only [Rep] at hr
 | n,.ptr ..,cs,fp,hr => by simp only [Rep] at hr
 | n,.agg as,cs,fp,hr => by
  simp only [Rep] at hr
  obtain ⟨s,p,h1,h2⟩:=c2z (C:=C) (B:=B) n as cs fp hr
  refine ⟨s,p,by simpa only [a2r] using h1,fun σ' h' hn ho hp => ?_⟩
  simp only [a2r,RV,mkV] at hp ⊢
  exact ⟨_,rfl,by simpa using h2 σ' h' hn ho hp⟩
 | n,.tup as,cs,fp,hr => by
  simp only [Rep] at hr
  obtain ⟨s,p,h1,h2⟩:=c9p (C:=C) (B:=B) n as cs fp hr
  refine ⟨s,p,by simpa only [a2r] using h1,fun σ' h' hn ho hp => ?_⟩
  simp only [a2r,RV,mkV] at hp ⊢
  exact ⟨_,rfl,by simpa using h2 σ' h' hn ho hp⟩
 | n,.lst 0 l,cs,fp,hr => ⟨[],[],b1d.nil C W B n fp,fun σ' h' _ _ _ => by simp [a2r,RV]⟩
 | n,.lst (z + 1) l,cs,fp,hr => by
  simp only [Rep] at hr
  rcases hr with ⟨rfl,rfl,a,cap,rfl,hcap,hm⟩ | ⟨b,off,cap,cur,e,fz,fps,rfl,h2,h3,h4,h5,rfl,h7,h8⟩
  ·obtain ⟨rfl,rfl⟩:=hm trivial
   have hz:0 < z + 1:=by omega
   ·refine ⟨[none],[[]],⟨rfl,rfl,?_,?_,?_,?_,?_⟩,?_⟩
    ·intro j x hj
     cases j with
     | zero => simp [a2r] at hj; subst hj; exact ⟨z + 1,[],rfl,hz,[],rfl,List.Sublist.refl _,by simp⟩
     | succ j => simp [a2r] at hj
    ·intro _ j j' g c g' c' h1; cases j <;> simp at h1
    ·intro _ j j' q q' h1 h2 hne; cases j <;> cases j' <;> simp at h1 h2 hne
    ·intro _ j j' g c q h1; cases j <;> simp at h1
    ·intro j g c h1; cases j <;> simp at h1
    ·intro σ' h' _ ho hp
     have e1:=ho 0 none rfl
     have e2:=hp 0 (.row (z + 1) []) (by simp [a2r])
     simp only [Nat.add_zero] at e1 e2
     simp only [a2r,RV,e2,mkV,List.headD_cons]
     exact ⟨none,0,rfl,by simp,by simp,by simp,by rw [e1]; simp⟩
  ·obtain ⟨rfl,rfl,h6⟩:=h5 trivial
   simp only [List.drop_zero] at h8
   refine ⟨[some (b,cap)],[fps],⟨rfl,rfl,?_,?_,?_,?_,?_⟩,?_⟩
   ·intro j x hj
    cases j with
    | zero =>
     simp [a2r] at hj
     subst hj
     exact ⟨z + 1,l,rfl,h7,fps,rfl,List.sublist_cons_self _ _,by simp,h3,cur,e,h4,h6,h8⟩
    | succ j => simp [a2r] at hj
   ·intro _ j j' g c g' c' h1 h2 _; cases j <;> cases j' <;> simp at h1 h2 ⊢
   ·intro _ j j' q q' h1 h2 hne; cases j <;> cases j' <;> simp at h1 h2 hne
   ·intro hn j j' g c q h1 h2
    cases j <;> cases j' <;> simp at h1 h2
    obtain ⟨rfl,rfl⟩:=h1
    subst h2
    exact (List.nodup_cons.1 hn).1
   ·intro j g c h1; cases j <;> simp at h1; simp [h1.1]
   ·intro σ' h' _ ho hp
    have e1:=ho 0 (some (b,cap)) rfl
    have e2:=hp 0 (.row (z + 1) l) (by simp [a2r])
    simp only [Nat.add_zero] at e1 e2
    simp only [a2r,RV,e2,mkV,List.headD_cons]
    exact ⟨_,cap,rfl,by simp,h2,h3,by rw [e1]; simp⟩
theorem c9p {C:Ctx} {W:World} {B:Nat}:∀ (n:Nat) (as:List AV) (vs:List Value) (fp:List Nat),a1q true W as vs fp →
  ∃ s p,b1d C W B n (a2z n as).2 s p fp ∧ ∀ σ' h',fp.Nodup → OpenAt σ' n s → b5y h' n (a2z n as).2 → RVs C σ' h' W (a2z n as).1 vs
 | n,[],vs,fp,hr => by
  simp only [a1q] at hr; obtain ⟨rfl,rfl⟩:=hr
  exact ⟨[],[],b1d.nil C W B n [],fun σ' h' _ _ _ => by simp [a2z,RVs]⟩
 | n,a :: as,vs,fp,hr => by
  simp only [a1q] at hr
  obtain ⟨c,vs',f1,f2,rfl,h1,h2,rfl⟩:=hr
  obtain ⟨s1,p1,g1,g2⟩:=c6b (C:=C) (B:=B) n a c f1 h1
  obtain ⟨s2,p2,k1,k2⟩:=c9p (C:=C) (B:=B) (n + (a2r n a).2.length) as vs' f2 h2
  refine ⟨s1 ++ s2,p1 ++ p2,by simpa only [a2z] using g1.append k1,fun σ' h' hn ho hp => ?_⟩
  simp only [a2z,RVs] at hp ⊢
  rw [List.nodup_append] at hn
  exact ⟨_,_,rfl,g2 σ' h' hn.1 ho.left hp.left,k2 σ' h' hn.2.1 (by have:=ho.right; rwa [g1.ls] at this) hp.right⟩
theorem c2z {C:Ctx} {W:World} {B:Nat}:∀ (n:Nat) (as:List AV) (vs:List Value) (fp:List Nat),a0o true W as vs fp →
  ∃ s p,b1d C W B n (a2z n as).2 s p fp ∧ ∀ σ' h',fp.Nodup → OpenAt σ' n s → b5y h' n (a2z n as).2 → RVs C σ' h' W (a2z n as).1 vs
 | n,[],vs,fp,hr => by
  simp only [a0o] at hr; obtain ⟨rfl,rfl⟩:=hr
  exact ⟨[],[],b1d.nil C W B n [],fun σ' h' _ _ _ => by simp [a2z,RVs]⟩
 | n,a :: as,vs,fp,hr => by
  simp only [a0o] at hr
  obtain ⟨c,vs',f1,f2,rfl,hc,h1,h2,rfl⟩:=hr
  obtain ⟨s1,p1,g1,g2⟩:=c6b (C:=C) (B:=B) n a [c] f1 h1
  obtain ⟨s2,p2,k1,k2⟩:=c2z (C:=C) (B:=B) (n + (a2r n a).2.length) as vs' f2 h2
  refine ⟨s1 ++ s2,p1 ++ p2,by simpa only [a2z] using g1.append k1,fun σ' h' hn ho hp => ?_⟩
  simp only [a2z,RVs] at hp ⊢
  rw [List.nodup_append] at hn
  obtain ⟨c',e1,e2⟩:=h1.cell hc
  cases e1
  have:=g2 σ' h' hn.1 ho.left hp.left
  rw [e2] at this
  exact ⟨_,_,rfl,this,k2 σ' h' hn.2.1 (by have:=ho.right; rwa [g1.ls] at this) hp.right⟩
end
end Go.R
