import Derived.Test.YtldahjcikmpifaaGreatC16
set_option linter.all false
namespace Go.R
open Go Go.RowKit
section
variable {m:Bool} {w:World} {z:Nat}
theorem a0n.part:∀ {l:List AV} {cs:List Value} {fp:List Nat} {i:Nat} {a:AV},a0n m w z l cs fp → l[i]? = some a →
  ∃ f1 fm f2,fp = f1 ++ (fm ++ f2) ∧ a0n m w z (l.take i) cs f1 ∧ Rep m w a ((cs.drop (i * z)).take z) fm ∧ ((cs.drop (i * z)).take z).length = z ∧ a.isElem = true ∧ a0n m w z (l.drop (i + 1)) (cs.drop ((i + 1) * z)) f2
 | [],_,_,_,_,_,h => by simp at h
 | x :: l,cs,fp,0,a,hr,h => by
  simp at h
  subst h
  simp only [a0n] at hr
  obtain ⟨f1,f2,⟨h0,h0'⟩,h1,h2,rfl⟩:=hr
  exact ⟨[],f1,f2,by simp,by simp [a0n],by simpa using h1,by simpa using h0,h0',by simpa using h2⟩
 | x :: l,cs,fp,i + 1,a,hr,h => by
  simp only [a0n] at hr
  obtain ⟨f1,f2,h0,h1,h2,rfl⟩:=hr
  obtain ⟨g1,gm,g2,e,k1,k2,k3,k4,k5⟩:=a0n.part h2 (by simpa using h)
  have e1:cs.drop ((i + 1) * z) = (cs.drop z).drop (i * z):=by rw [List.drop_drop,Nat.add_mul,Nat.one_mul,Nat.add_comm]
  have e2:cs.drop ((i + 1 + 1) * z) = (cs.drop z).drop ((i + 1) * z):=by rw [List.drop_drop,Nat.add_mul (i + 1),Nat.one_mul,Nat.add_comm]
  refine ⟨f1 ++ g1,gm,g2,by rw [e]; simp,?_,by rw [e1]; exact k2,by rw [e1]; exact k3,k4,by rw [e2]; exact k5⟩
  simp only [List.take_succ_cons,a0n]
  exact ⟨f1,g1,h0,h1,k1,rfl⟩
theorem a0n.join:∀ {l:List AV} {cs:List Value} {f1 fm f2:List Nat} {i:Nat} {a:AV},i < l.length → a0n m w z (l.take i) cs f1 → Rep m w a ((cs.drop (i * z)).take z) fm → ((cs.drop (i * z)).take z).length = z → a.isElem = true →
  a0n m w z (l.drop (i + 1)) (cs.drop ((i + 1) * z)) f2 → a0n m w z (l.set i a) cs (f1 ++ (fm ++ f2))
 | [],_,_,_,_,_,_,hi,_,_,_,_,_ => by simp at hi
 | x :: l,cs,f1,fm,f2,0,a,hi,h1,hm,hl,he,h2 => by
  simp only [List.take_zero,a0n] at h1
  subst h1
  simp only [List.set_cons_zero,a0n]
  exact ⟨fm,f2,⟨by simpa using hl,he⟩,by simpa using hm,by simpa using h2,by simp⟩
 | x :: l,cs,f1,fm,f2,i + 1,a,hi,h1,hm,hl,he,h2 => by
  simp only [List.take_succ_cons,a0n] at h1
  obtain ⟨g1,g2,k0,k1,k2,rfl⟩:=h1
  have e1:cs.drop ((i + 1) * z) = (cs.drop z).drop (i * z):=by rw [List.drop_drop,Nat.add_mul,Nat.one_mul,Nat.add_comm]
  have e2:cs.drop ((i + 1 + 1) * z) = (cs.drop z).drop ((i + 1) * z):=by rw [List.drop_drop,Nat.add_mul (i + 1),Nat.one_mul,Nat.add_comm]
  rw [e1] at hm hl
  rw [e2] at h2
  simp only [List.set_cons_succ,a0n]
  exact ⟨g1,g2 ++ (fm ++ f2),k0,k1,a0n.join (by simpa using hi) k2 hm hl he h2,by simp⟩
end
theorem c6j:∀ (as:List AV) (n:Nat),(a2z n as).1.length = as.length
 | [],_ => rfl
 | a :: as,n => by simp only [a2z,List.length_cons,c6j as]
section
variable {C:Ctx} {σ:Sg} {φ:Nat → List Nat} {h:List y9} {w:World}
theorem d8i (hmm:C.mm = true) (hdm:C.dm = true) (hr:a0b C σ φ h w) {o i z:Nat} {l:List AV} {el el2:AV} {xs:List y9} (ho:h[o]? = some (.row z l)) (hel:l[i]? = some el) (hbs:a2z h.length el.cells = (el2.cells,xs)) :
  ∃ σ' φ',a0b C σ' φ' (h.set o (.rowx z l i el2) ++ xs) w ∧ EvX C σ h w σ' (h.set o (.rowx z l i el2) ++ xs) w:=by
 obtain ⟨hz,hob⟩:=hr.obj o _ ho
 cases hs:σ o with
 | none => rw [hs] at hob; rw [hob.1] at hel; simp at hel
 | some p =>
  obtain ⟨g,c⟩:=p
  rw [hs] at hob
  obtain ⟨hc,cur,e,h2,h3,h4,h5⟩:=hob
  rw [hdm] at h4
  obtain ⟨f1,fm,f2,hfp,r1,rm,rl,re,r2⟩:=h4.part hel
  have rc:=rm.cells1 re
  have hlen:=rc.length
  obtain ⟨s,p,hf,hrv⟩:=c2z (C:=C) (B:=0) h.length el.cells _ fm rc
  rw [hbs] at hf hrv
  simp only at hf hrv
  have hl2:el2.cells.length = z:=by
   have:=c6j el.cells h.length
   rw [hbs] at this
   simp only at this
   rw [this,← hlen,rl]
  obtain ⟨d1,d2,d3⟩:=hr.deep hdm o z l ho
  have hlt:o < h.length:=(List.getElem?_eq_some_iff.1 ho).1
  have hi:i < l.length:=(List.getElem?_eq_some_iff.1 hel).1
  have hfmφ:∀ b ∈ fm,b ∈ φ o:=fun b hb => by rw [hfp]; simp [hb]
  have hf12φ:∀ b ∈ f1 ++ f2,b ∈ φ o:=fun b hb => by rw [hfp]; rcases List.mem_append.1 hb with hb | hb <;> simp [hb]
  have hnd:(f1 ++ (fm ++ f2)).Nodup:=by rw [← hfp]; exact d1
  have hnm:fm.Nodup:=(List.nodup_append.1 (List.nodup_append.1 hnd).2.1).1
  have hn12:(f1 ++ f2).Nodup:=hnd.sublist (List.Sublist.append (List.Sublist.refl _) (List.sublist_append_right _ _))
  have hdis:∀ b ∈ f1 ++ f2,b ∉ fm:=by
   intro b hb hbm
   rcases List.mem_append.1 hb with hb | hb
   ·exact (List.nodup_append.1 hnd).2.2 b hb b (by simp [hbm]) rfl
   ·exact (List.nodup_append.1 (List.nodup_append.1 hnd).2.1).2.2 b hbm b hb rfl
  obtain ⟨X,hX⟩:∃ X,X = y9.rowx z l i el2:=⟨_,rfl⟩
  obtain ⟨h',hh'⟩:∃ h',h' = h.set o (.rowx z l i el2) ++ xs:=⟨_,rfl⟩
  rw [← hh']
  have hget:∀ k,h'[k]? = if k < h.length then (if k = o then some X else h[k]?) else xs[k - h.length]?:=by
   intro k
   rw [hh',List.getElem?_append,List.length_set]
   split
   ·rw [List.getElem?_set]
    by_cases he:o = k
    ·subst he; rw [if_pos rfl,if_pos hlt,if_pos rfl,hX]
    ·rw [if_neg he,if_neg (Ne.symm he)]
   ·rfl
  obtain ⟨σ',hσ'⟩:∃ σ':Sg,σ' = fun k => if k < h.length then σ k else (s[k - h.length]?).getD none:=⟨_,rfl⟩
  obtain ⟨φ',hφ'⟩:∃ φ':Nat → List Nat,φ' = fun k => if k = o then f1 ++ f2 else if k < h.length then φ k else (p[k - h.length]?).getD []:=⟨_,rfl⟩
  have hσ0:∀ k,k < h.length → σ' k = σ k:=fun k hk => by rw [hσ']; simp [hk]
  have hσ1:∀ j,σ' (h.length + j) = (s[j]?).getD none:=fun j => by rw [hσ']; simp only; rw [if_neg (by omega)]; simp
  have hφo:φ' o = f1 ++ f2:=by rw [hφ']; simp
  have hφ0:∀ k,k ≠ o → k < h.length → φ' k = φ k:=fun k hk hk' => by rw [hφ']; simp [hk,hk']
  have hφ1:∀ j,φ' (h.length + j) = (p[j]?).getD []:=fun j => by rw [hφ']; simp only; rw [if_neg (by omega),if_neg (by omega)]; simp
  have hsome:∀ j g c,σ' (h.length + j) = some (g,c) → s[j]? = some (some (g,c)):=by
   intro j g c hs
   rw [hσ1] at hs
   cases he:s[j]? with
   | none => rw [he] at hs; cases hs
   | some o => rw [he] at hs; simp only [Option.getD_some] at hs; rw [hs]
  have old:∀ k y,k < h.length → h'[k]? = some y → (k = o ∧ y = X) ∨ (k ≠ o ∧ h[k]? = some y):=by
   intro k y hk hy
   rw [hget,if_pos hk] at hy
   split at hy
   ·cases hy; exact .inl ⟨by assumption,rfl⟩
   ·exact .inr ⟨by assumption,hy⟩
  have new:∀ k y,¬ k < h.length → h'[k]? = some y → ∃ j,k = h.length + j ∧ xs[j]? = some y:=by
   intro k y hk hy
   rw [hget,if_neg hk] at hy
   exact ⟨k - h.length,by omega,hy⟩
  have live':∀ b,liveAt h' σ' b → liveAt h σ b ∨ b ∈ fm:=by
   rintro b ⟨k,y,cc,g1,g2,g3⟩
   by_cases hk:k < h.length
   ·rw [hσ0 k hk] at g3
    rcases old k y hk g1 with ⟨rfl,_⟩ | ⟨_,q⟩
    ·exact .inl ⟨k,_,cc,ho,rfl,g3⟩
    ·exact .inl ⟨k,y,cc,q,g2,g3⟩
   ·obtain ⟨j,rfl,q⟩:=new k y hk g1
    exact .inr (hf.sub j b cc (hsome _ _ _ g3))
  have hnl:∀ b ∈ fm,¬ liveAt h σ b:=fun b hb => (h5 b (hfmφ b hb)).2
  have ev:EvX C σ h w σ' h' w:=by
   refine ⟨?_,?_,?_,fun _ _ _ _ => rfl,Nat.le_refl _⟩
   ·intro k y hk hy
    have hkl:k < h.length:=(List.getElem?_eq_some_iff.1 hk).1
    refine .inr ⟨hσ0 k hkl,?_⟩
    by_cases he:k = o
    ·subst he
     rw [ho] at hk
     cases hk
     refine ⟨X,by rw [hget,if_pos hkl,if_pos rfl],?_⟩
     rw [hX]
     exact ⟨rfl,rfl⟩
    ·exact ⟨y,by rw [hget,if_pos hkl,if_neg he]; exact hk,sameShape.refl hy⟩
   ·intro k hk
    have hkl:k < h.length:=(List.getElem?_eq_some_iff.1 hk).1
    rw [hget,if_pos hkl,if_neg (fun he => by subst he; rw [ho] at hk; cases hk)]
    exact hk
   ·intro b hb hl
    exact (live' b hl).imp id (fun hm => ⟨hmm,d2 b (hfmφ b hm)⟩)
  have hother:∀ k y,k ≠ o → h[k]? = some y → y.rw = true → ∀ b ∈ φ k,¬ liveAt h' σ' b:=by
   intro k y hk hy hrw b hb hl
   rcases live' b hl with h1 | h1
   ·exact (hr.phix hy hrw hb).2 h1
   ·exact d3 k y hy hrw hk b (hfmφ b h1) hb
  refine ⟨σ',φ',⟨?_,?_,?_,?_⟩,ev⟩
  ·intro k y hk
   by_cases hkl:k < h.length
   ·rcases old k y hkl hk with ⟨rfl,rfl⟩ | ⟨hne,hk⟩
    ·rw [hX]
     refine ⟨hz,⟨hmm,hdm⟩,hi,g,c,cur,e,f1,f2,by rw [hσ0 k hkl]; exact hs,hc,h2,h3,by rw [hdm]; exact r1,?_,by rw [hdm]; exact r2,hl2,hφo,?_⟩
     ·refine hrv σ' h' hnm ?_ ?_
      ·intro j x hj
       rw [hσ1,hj]; rfl
      ·intro j x hj
       rw [hget,if_neg (by omega)]
       simpa using hj
     ·intro b hb
      rw [hφo] at hb
      refine ⟨(h5 b (hf12φ b hb)).1,fun hl => ?_⟩
      rcases live' b hl with h1 | h1
      ·exact (h5 b (hf12φ b hb)).2 h1
      ·exact hdis b hb h1
    ·have hob:=hr.obj k y hk
     cases y with
     | dead => trivial
     | box sz v =>
      obtain ⟨g',cur',e',q1,q2,q3,q4⟩:=hob
      exact ⟨g',cur',e',by rw [hσ0 k hkl]; exact q1,q2,q3,ev.rvs _ _ q4⟩
     | map m =>
      obtain ⟨g',cur',e',q1,q2,q3,q4⟩:=hob
      exact ⟨g',cur',e',by rw [hσ0 k hkl]; exact q1,q2,q3,ev.rvs _ _ q4⟩
     | row sz l' =>
      have hot:=hother k _ hne hk rfl
      obtain ⟨q0,hob⟩:=hob
      refine ⟨q0,?_⟩
      rw [hσ0 k hkl,hφ0 k hne hkl]
      cases hs':σ k with
      | none => rw [hs'] at hob; exact hob
      | some pp =>
       rw [hs'] at hob
       obtain ⟨q1,cur',e',q2,q3,q4,q5⟩:=hob
       exact ⟨q1,cur',e',q2,q3,q4,fun b hb => ⟨(q5 b hb).1,hot b hb⟩⟩
     | rowx sz l' i' el' =>
      have hot:=hother k _ hne hk rfl
      obtain ⟨q0,qm,qi,g',c',cur',e',p1,p2,q1,q2,q3,q4,q5,q6,q7,q7',q8,q9⟩:=hob
      exact ⟨q0,qm,qi,g',c',cur',e',p1,p2,by rw [hσ0 k hkl]; exact q1,q2,q3,q4,q5,ev.rvs _ _ q6,q7,q7',by rw [hφ0 k hne hkl]; exact q8,fun b hb => by rw [hφ0 k hne hkl] at hb; exact ⟨(q9 b hb).1,hot b hb⟩⟩
   ·obtain ⟨j,rfl,hj⟩:=new k y hkl hk
    obtain ⟨zz,ll,rfl,hzz,q,hq,hsub,hm⟩:=hf.row j y hj
    refine ⟨hzz,?_⟩
    rw [hσ1,hφ1,hq]
    cases he:s[j]? with
    | none => rw [he] at hm; exact hm.elim
    | some oo =>
     rw [he] at hm
     cases oo with
     | none => exact hm
     | some gc =>
      obtain ⟨g',c'⟩:=gc
      obtain ⟨q1,q2,cur',e',q3,q4,q5⟩:=hm
      refine ⟨q2,cur',e',q3,q4,by rw [hdm]; exact q5,?_⟩
      intro b hbq
      have hbf:=hsub.subset hbq
      refine ⟨(h5 b (hfmφ b hbf)).1,?_⟩
      rintro ⟨k',y',cc,e1,e2,e3⟩
      by_cases hk':k' < h.length
      ·rw [hσ0 k' hk'] at e3
       rcases old k' y' hk' e1 with ⟨rfl,_⟩ | ⟨_,q'⟩
       ·exact hnl b hbf ⟨k',_,cc,ho,rfl,e3⟩
       ·exact hnl b hbf ⟨k',y',cc,q',e2,e3⟩
      ·obtain ⟨j',rfl,hj'⟩:=new k' y' hk' e1
       exact hf.out hnm j' j b cc q (hsome _ _ _ e3) hq hbq
  ·intro k1 k2 y1 y2 b c1 c2 a1 a2 a3 a4 a5 a6
   have oldlive:∀ k y cc,k < h.length → h'[k]? = some y → y.isLive = true → σ' k = some (b,cc) → ∃ y0,h[k]? = some y0 ∧ y0.isLive = true ∧ σ k = some (b,cc):=by
    intro k y cc hk hy hly hs'
    rw [hσ0 k hk] at hs'
    rcases old k y hk hy with ⟨rfl,_⟩ | ⟨_,q⟩
    ·exact ⟨_,ho,rfl,hs'⟩
    ·exact ⟨y,q,hly,hs'⟩
   by_cases hk1:k1 < h.length <;> by_cases hk2:k2 < h.length
   ·obtain ⟨z1,b1,b2,b3⟩:=oldlive k1 y1 c1 hk1 a1 a2 a5
    obtain ⟨z2,b4,b5,b6⟩:=oldlive k2 y2 c2 hk2 a3 a4 a6
    exact hr.inj k1 k2 z1 z2 b c1 c2 b1 b2 b4 b5 b3 b6
   ·obtain ⟨z1,b1,b2,b3⟩:=oldlive k1 y1 c1 hk1 a1 a2 a5
    obtain ⟨j,rfl,_⟩:=new k2 y2 hk2 a3
    exact absurd ⟨k1,z1,c1,b1,b2,b3⟩ (hnl b (hf.sub j b c2 (hsome _ _ _ a6)))
   ·obtain ⟨z2,b4,b5,b6⟩:=oldlive k2 y2 c2 hk2 a3 a4 a6
    obtain ⟨j,rfl,_⟩:=new k1 y1 hk1 a1
    exact absurd ⟨k2,z2,c2,b4,b5,b6⟩ (hnl b (hf.sub j b c1 (hsome _ _ _ a5)))
   ·obtain ⟨j1,rfl,_⟩:=new k1 y1 hk1 a1
    obtain ⟨j2,rfl,_⟩:=new k2 y2 hk2 a3
    have:=hf.inj hnm j1 j2 b c1 b c2 (hsome _ _ _ a5) (hsome _ _ _ a6) rfl
    omega
  ·intro k y b cc a1 a2 a3
   by_cases hk:k < h.length
   ·rw [hσ0 k hk] at a3
    rcases old k y hk a1 with ⟨rfl,_⟩ | ⟨_,q⟩
    ·exact hr.base k _ b cc ho rfl a3
    ·exact hr.base k y b cc q a2 a3
   ·obtain ⟨j,rfl,_⟩:=new k y hk a1
    exact d2 b (hfmφ b (hf.sub j b cc (hsome _ _ _ a3)))
  ·intro _ k y a1 a2
   -- what a row leads to now lies within what it,or row 'o',led to
   have part:∀ k y,h'[k]? = some y → y.rw = true → (φ' k).Nodup ∧ ((k < h.length ∧ k ≠ o ∧ φ' k = φ k ∧ ∃ y0,h[k]? = some y0 ∧ y0.rw = true) ∨ (k = o ∧ φ' k = f1 ++ f2) ∨ ∃ j q,k = h.length + j ∧ p[j]? = some q ∧ φ' k = q ∧ ∀ b ∈ q,b ∈ fm):=by
    intro k y hk hy
    by_cases hkl:k < h.length
    ·rcases old k y hkl hk with ⟨rfl,_⟩ | ⟨hne,q⟩
     ·exact ⟨by rw [hφo]; exact hn12,.inr (.inl ⟨rfl,hφo⟩)⟩
     ·exact ⟨by rw [hφ0 k hne hkl]; exact (hr.deepx hdm k y q hy).1,.inl ⟨hkl,hne,hφ0 k hne hkl,y,q,hy⟩⟩
    ·obtain ⟨j,rfl,hj⟩:=new k y hkl hk
     obtain ⟨_,_,_,_,q,hq,hsub,_⟩:=hf.row j y hj
     have:φ' (h.length + j) = q:=by rw [hφ1,hq]; rfl
     exact ⟨by rw [this]; exact hnm.sublist hsub,.inr (.inr ⟨j,q,rfl,hq,this,fun b hb => hsub.subset hb⟩)⟩
   obtain ⟨n1,p1⟩:=part k y a1 a2
   refine ⟨n1,?_,?_⟩
   ·intro b hb
    rcases p1 with ⟨_,_,e1,y0,e2,e3⟩ | ⟨_,e1⟩ | ⟨j,q,_,_,e1,e2⟩
    ·rw [e1] at hb; exact (hr.deepx hdm k y0 e2 e3).2.1 b hb
    ·rw [e1] at hb; exact d2 b (hf12φ b hb)
    ·rw [e1] at hb; exact d2 b (hfmφ b (e2 b hb))
   ·intro k' y' a3 a4 hne b hb hb'
    obtain ⟨_,p2⟩:=part k' y' a3 a4
    rcases p1 with ⟨_,m1,e1,y0,e2,e3⟩ | ⟨m1,e1⟩ | ⟨j,q,m1,m2,e1,e2⟩
    ·rw [e1] at hb
     rcases p2 with ⟨_,_,q1,y1,q2,q3⟩ | ⟨_,q1⟩ | ⟨j',q',_,_,q1,q2⟩
     ·rw [q1] at hb'; exact (hr.deepx hdm k y0 e2 e3).2.2 k' y1 q2 q3 hne b hb hb'
     ·rw [q1] at hb'; exact d3 k y0 e2 e3 m1 b (hf12φ b hb') hb
     ·rw [q1] at hb'; exact d3 k y0 e2 e3 m1 b (hfmφ b (q2 b hb')) hb
    ·rw [e1] at hb
     rcases p2 with ⟨_,m3,q1,y1,q2,q3⟩ | ⟨m3,q1⟩ | ⟨j',q',_,_,q1,q2⟩
     ·rw [q1] at hb'; exact d3 k' y1 q2 q3 m3 b (hf12φ b hb) hb'
     ·exact hne (m3.trans m1.symm)
     ·rw [q1] at hb'; exact hdis b hb (q2 b hb')
    ·rw [e1] at hb
     rcases p2 with ⟨_,m3,q1,y1,q2,q3⟩ | ⟨m3,q1⟩ | ⟨j',q',m3,m4,q1,q2⟩
     ·rw [q1] at hb'; exact d3 k' y1 q2 q3 m3 b (hfmφ b (e2 b hb)) hb'
     ·rw [q1] at hb'; exact hdis b hb' (e2 b hb)
     ·rw [q1] at hb'
      exact hf.dis hnm j j' q q' m2 m4 (fun he => hne (by rw [m1,m3,he])) b hb hb'
theorem d1d (hr:a0b C σ φ h w) (hok:∀ b,C.mine b → C.ok b) {a a':AV} {ks:List Nat} {vs:List Value} (hc:a2w C.dm h a = some (a',ks)) (hv:RVs C σ h w a.cells vs):∃ fp,Rep C.dm w a' vs fp ∧ Taken C σ φ h ks fp:=by
 cases a with
 | agg as =>
  have hv':RV C σ h w (.agg as) (.agg vs.toArray):=by simp only [RV]; simp only [AV.cells] at hv; exact ⟨_,rfl,by simpa using hv⟩
  obtain ⟨fp,⟨cs,e,r⟩,t⟩:=a2w.rep hr hok _ a' ks _ hc hv'
  simp only [a2w] at hc
  split at hc
  ·split at hc
   ·cases hc
    simp only [mkV,Value.agg.injEq] at e
    have:cs = vs:=by have:=congrArg Array.toList e; simpa using this.symm
    subst this
    exact ⟨fp,r,t⟩
   ·cases hc
  ·cases hc
 | _ =>
  simp only [AV.cells,RVs] at hv
  obtain ⟨v,vs',rfl,h1,rfl⟩:=hv
  obtain ⟨fp,⟨cs,e,r⟩,t⟩:=a2w.rep hr hok _ a' ks _ hc h1
  have hcell:a'.isCell = true:=by
   simp only [a2w] at hc
   first
    | (cases hc; rfl)
    | (split at hc <;> first | (cases hc; rfl) | (split at hc <;> first | (cases hc; rfl) | cases hc) | cases hc)
    | cases hc
  obtain ⟨c,rfl,e2⟩:=r.cell hcell
  rw [e2] at e
  subst e
  exact ⟨fp,r,t⟩
theorem d5l (hr:a0b C σ φ h w) (hok:∀ b,C.mine b → C.ok b) {o i z:Nat} {l:List AV} {el el':AV} {ks:List Nat} (ho:h[o]? = some (.rowx z l i el)) (hab:a2w C.dm h el = some (el',ks)) (hno:o ∉ ks) (hnd:ks.Nodup) (he:el'.isElem = true) :
  ∃ φ',a0b C σ φ' ((kill h ks).set o (.row z (l.set i el'))) w ∧ Ev σ h w σ ((kill h ks).set o (.row z (l.set i el'))) w:=by
 obtain ⟨hz,⟨hmm,hdm⟩,hi,g,c,cur,e,f1,f2,k1,k2,k3,k4,k5,k6,k7,k7',k8,k9⟩:=hr.obj o _ ho
 obtain ⟨fe,re,te⟩:=d1d hr hok hab k6
 have hl:=k6.length
 rw [k7'] at hl
 have hjoin:=a0n.join hi k5 re hl he k7
 obtain ⟨d1,d2,d3⟩:=hr.deepx hdm o _ ho rfl
 have hlte:=Rep.lt _ _ _ re
 have hdis:∀ b ∈ fe,b ∉ φ o:=by
  intro b hb hbo
  obtain ⟨k,q1,q2⟩:=te.own hdm b hb
  have:=a7x.unique hr hdm q2 (.inr ⟨hbo,_,ho,rfl⟩)
  subst this
  exact hno q1
 have key:=hr.turn (w':=w) ho (x':=.row z (l.set i el')) rfl ⟨rfl,by simp⟩ k1 (ks:=ks) hno (fx:=f1 ++ (fe ++ f2)) rfl (fun _ _ => rfl) (fun ev => by
   refine ⟨hz,?_⟩
   rw [k1]
   have:upd φ o (f1 ++ (fe ++ f2)) o = f1 ++ (fe ++ f2):=by simp [upd]
   simp only [this]
   refine ⟨k2,cur,e,k3,k4,hjoin,?_⟩
   intro b hb
   have hb':b ∈ φ o ∨ b ∈ fe:=by
    rw [k8]
    simp only [List.mem_append] at hb ⊢
    rcases hb with hb | hb | hb
    ·exact .inl (.inl hb)
    ·exact .inr hb
    ·exact .inl (.inr hb)
   rcases hb' with hb | hb
   ·exact ⟨(k9 b hb).1,fun hl => (k9 b hb).2 (ev.live b (hr.phiLtx ho rfl hb) hl)⟩
   ·refine ⟨te.ok b hb,?_⟩
    rintro ⟨o',y,c',j1,j2,j3⟩
    rw [List.getElem?_set] at j1
    by_cases he':o = o'
    ·subst he'
     obtain ⟨k,q1,q2⟩:=te.own hdm b hb
     have:=a7x.unique hr hdm q2 (.inl ⟨_,c',ho,rfl,j3⟩)
     subst this
     exact hno q1
    ·rw [if_neg he'] at j1
     obtain ⟨m1,m2⟩:=a7g j1 j2
     obtain ⟨k,q1,q2⟩:=te.own hdm b hb
     have:=a7x.unique hr hdm q2 (.inl ⟨y,c',m1,j2,j3⟩)
     subst this
     exact m2 q1) (fun _ _ => by
   refine ⟨?_,?_,?_⟩
   ·rw [k8] at d1
    have hn:=te.nodup hdm hnd
    have:=c9o (A:=f1) (s1:=[]) (fv:=fe) (s3:=[]) (B:=f2) hn (by simpa using d1) (fun b hb hb' => hdis b hb (by rw [k8]; simpa using hb'))
    simpa using this
   ·intro b hb
    have hb':b ∈ φ o ∨ b ∈ fe:=by
     rw [k8]
     simp only [List.mem_append] at hb ⊢
     rcases hb with hb | hb | hb
     ·exact .inl (.inl hb)
     ·exact .inr hb
     ·exact .inl (.inr hb)
    rcases hb' with hb | hb
    ·exact d2 b hb
    ·obtain ⟨k,_,hk⟩:=te.own hdm b hb
     exact hk.base hr hdm
   ·intro o' y hy hyr hk' hne b hb hbo
    have hb':b ∈ φ o ∨ b ∈ fe:=by
     rw [k8]
     simp only [List.mem_append] at hb ⊢
     rcases hb with hb | hb | hb
     ·exact .inl (.inl hb)
     ·exact .inr hb
     ·exact .inl (.inr hb)
    rcases hb' with hb | hb
    ·exact d3 o' y hy hyr hne b hb hbo
    ·obtain ⟨k,q1,q2⟩:=te.own hdm b hb
     have:=a7x.unique hr hdm q2 (.inr ⟨hbo,y,hy,hyr⟩)
     subst this
     exact hk' q1)
 exact ⟨_,key.1,key.2⟩
end
end Go.R
