import Derived.Test.YtldahjcikmpifaaGreatC19
set_option linter.all false
namespace Go.R
open Go Go.RowKit
theorem d1g {P:Program} {ops:Array Oper} {N:Nat}:∀ {l:List Oper} {rs:List a4q},ocs P ops N l = some rs → rs.length = l.length ∧ ∀ (i:Nat) o,l[i]? = some o → ∃ r,rs[i]? = some r ∧ ocO P ops N o = some r
 | [],rs,h => by simp only [ocs] at h; cases h; simp
 | o :: l,rs,h => by
  simp only [ocs] at h
  cases h1:ocO P ops N o with
  | none => simp [h1] at h
  | some r =>
   cases h2:ocs P ops N l with
   | none => simp [h1,h2] at h
   | some rs' =>
    simp only [h1,h2,Option.some.injEq] at h
    subst h
    obtain ⟨g1,g2⟩:=d1g h2
    refine ⟨by simp [g1],?_⟩
    intro i o' ho
    cases i with
    | zero => simp at ho; subst ho; exact ⟨r,rfl,h1⟩
    | succ i => simpa using g2 i o' (by simpa using ho)
section
variable {P:Program} {C:Ctx} {w0:World} {σ0:Sg} {h0:List y9} {N:Nat} {ops:Array Oper} {rs:List a4q}
structure Inv (C:Ctx) (w0:World) (σ0:Sg) (h0:List y9) (N:Nat) (ops:Array Oper) (rs:List a4q) (L:Array Bool) (D:List Nat) (t:Nat → AV) (h:List y9) (b a:Act) (w:World):Prop where
 size:L.size = ops.size
 sub:∀ i,LT L i → i ∈ D
 pend:∀ i ∈ D,¬ LT L i → isQ ops rs i = true ∧ ∃ r,rs[i]? = some r ∧ again C.mm r t h
 clo:∀ i,LT L i → ∀ d ∈ a6i ops i,LT L d
 top:b6b ops D
 st:St C w0 σ0 h0 N t h b w
 sz:a.tmps.size = N
 df:a.defers = []
 agree:∀ s,(∀ j ∈ D,¬ LT L j → b9c ops j ≠ some s) → a.tmps.getD s Go.undef = b.tmps.getD s Go.undef
theorem b6b.lt:∀ {D:List Nat},b6b ops D → ∀ i ∈ D,i < ops.size
 | [],_,i,hi => by simp at hi
 | j :: D,h,i,hi => by
  rcases List.mem_cons.1 hi with rfl | hi
  ·exact h.2.2.1
  ·exact b6b.lt h.1 i hi
theorem b6b.deps:∀ {D:List Nat},b6b ops D → ∀ i ∈ D,∀ d ∈ a6i ops i,d ∈ D
 | [],_,i,hi => by simp at hi
 | j :: D,h,i,hi => by
  intro d hd
  rcases List.mem_cons.1 hi with rfl | hi
  ·exact List.mem_cons_of_mem _ (h.2.2.2 d hd)
  ·exact List.mem_cons_of_mem _ (b6b.deps h.1 i hi d hd)
theorem b6b.first {L:Array Bool}:∀ {D:List Nat},b6b ops D → (∃ i ∈ D,¬ LT L i) → ∃ i ∈ D,¬ LT L i ∧ ∀ d ∈ a6i ops i,LT L d
 | [],_,⟨i,hi,_⟩ => by simp at hi
 | j :: D,h,⟨i,hi,hn⟩ => by
  by_cases hex:∃ i ∈ D,¬ LT L i
  ·obtain ⟨i',h1,h2,h3⟩:=b6b.first h.1 hex
   exact ⟨i',List.mem_cons_of_mem _ h1,h2,h3⟩
  ·have hall:∀ d ∈ D,LT L d:=fun d hd => Classical.byContradiction fun hc => hex ⟨d,hd,hc⟩
   rcases List.mem_cons.1 hi with rfl | hi
   ·exact ⟨i,List.mem_cons_self ..,hn,fun d hd => hall d (h.2.2.2 d hd)⟩
   ·exact absurd (hall i hi) hn
theorem c6q (hc:chk ops rs = true) {i:Nat} {s:Nat} (hi:i < ops.size) (hd:b9c ops i = some s) :
  s ∉ slotsOf ops rs i ∧ ∀ j,j < ops.size → j ≠ i → b9c ops j ≠ some s ∧ (s ∈ slotsOf ops rs j → i ∈ a6i ops j ∨ j ∈ c6p ops i):=by
 unfold chk at hc
 rw [List.all_eq_true] at hc
 have h1:=hc i (List.mem_range.2 hi)
 rw [hd] at h1
 simp only [Bool.and_eq_true,Bool.not_eq_true',List.all_eq_true,List.mem_range,Bool.or_eq_true,beq_iff_eq,bne_iff_ne,ne_eq] at h1
 refine ⟨fun hs => ?_,fun j hj hne => ?_⟩
 ·have:=h1.1
  rw [List.contains_iff_mem.2 hs] at this
  cases this
 ·rcases h1.2 j hj with h | ⟨h2,h3⟩
  ·exact absurd h hne
  ·refine ⟨h2,fun hs => ?_⟩
   rcases h3 with (h3 | h3) | h3
   ·rw [List.contains_iff_mem.2 hs] at h3; cases h3
   ·exact .inl (List.contains_iff_mem.1 h3)
   ·exact .inr (List.contains_iff_mem.1 h3)
theorem free_spec {i s:Nat} (hf:d3g ops rs i = true) (hd:b9c ops i = some s) {j:Nat} (hj:j < ops.size) (hs:s ∈ slotsOf ops rs j):i ∈ a6i ops j:=by
 unfold d3g at hf
 rw [hd] at hf
 simp only [List.all_eq_true,List.mem_range,Bool.or_eq_true,Bool.not_eq_true'] at hf
 rcases hf j hj with h | h
 ·rw [List.contains_iff_mem.2 hs] at h; cases h
 ·exact List.contains_iff_mem.1 h
theorem c6r {i:Nat} (h:isQ ops rs i = true):∃ r,rs[i]? = some r ∧ r.op.quiet = true ∧ d3g ops rs i = true ∧ ∃ s,b9c ops i = some s:=by
 unfold isQ at h
 split at h
 ·rename_i r hr
  simp only [Bool.and_eq_true] at h
  refine ⟨r,hr,h.1,h.2,?_⟩
  have:=h.2
  unfold d3g at this
  split at this
  ·rename_i s hs; exact ⟨s,hs⟩
  ·cases this
 ·cases h
theorem dst_at {i:Nat} {o:Oper} (ho:ops[i]? = some o):b9c ops i = o.dst:=by simp [b9c,ho]
theorem d5q {i:Nat} {o:Oper} (ho:ops[i]? = some o) {s:Nat} (hs:s ∈ o.looksAt ops):s ∈ slotsOf ops rs i:=by
 unfold slotsOf; rw [ho]; exact List.mem_append_left _ hs
theorem c5l {i:Nat} {r:a4q} (hr:rs[i]? = some r) {s:Nat} (hs:s ∈ b7i r):s ∈ slotsOf ops rs i:=by
 unfold slotsOf; rw [hr]; exact List.mem_append_right _ hs
variable (hrs:ocs P ops N ops.toList = some rs) (hchk:chk ops rs = true)
include hrs
theorem e4g {i:Nat} {o:Oper} (ho:ops[i]? = some o):∃ r,rs[i]? = some r ∧ ocO P ops N o = some r:=(d1g hrs).2 i o (by simpa using ho)
theorem d3i {i:Nat} {r:a4q} (hr:rs[i]? = some r):∃ o,ops[i]? = some o ∧ ocO P ops N o = some r:=by
 have hl:=(d1g hrs).1
 have hlt:i < ops.size:=by
  have:=(List.getElem?_eq_some_iff.1 hr).1
  simpa [hl] using this
 obtain ⟨r',h1,h2⟩:=e4g hrs (i:=i) (o:=ops[i]) (by simp [hlt])
 rw [hr] at h1
 cases h1
 exact ⟨ops[i],by simp [hlt],h2⟩
theorem d1h:∀ (j:Nat) x,(ops[j]?).bind (·.dst) = some x → x < N:=by
 intro j x hx
 rw [Option.bind_eq_some_iff] at hx
 obtain ⟨o,ho,hd⟩:=hx
 obtain ⟨r,_,hr⟩:=e4g hrs ho
 exact (b1e hr).2.2.1 x hd
theorem d5r {L:Array Bool} {D:List Nat} {t:Nat → AV} {h:List y9} {b a:Act} {w:World} (inv:Inv C w0 σ0 h0 N ops rs L D t h b a w) {k:Nat} (hk:k < ops.size) (hdk:∀ d ∈ a6i ops k,LT L d) {s:Nat} (hs:s ∈ slotsOf ops rs k) :
  a.tmps.getD s Go.undef = b.tmps.getD s Go.undef:=by
 refine inv.agree s fun j hj hnl hd => ?_
 obtain ⟨hq,_⟩:=inv.pend j hj hnl
 obtain ⟨r,_,_,hf,_⟩:=c6r hq
 exact hnl (hdk j (free_spec hf hd hk hs))
theorem c6s {L:Array Bool} {D:List Nat} {t:Nat → AV} {h:List y9} {b a:Act} {w:World} (inv:Inv C w0 σ0 h0 N ops rs L D t h b a w) {k:Nat} {o:Oper} {r:a4q} (ho:ops[k]? = some o) (hr:ocO P ops N o = some r) (hdk:∀ d ∈ a6i ops k,LT L d) :
  execOp a.eval o = execOp b.eval o ∧ Region.wanted o (yielded ops a.tmps) = Region.wanted o (yielded ops b.tmps):=by
 have hk:=(Array.getElem?_eq_some_iff.1 ho).1
 have hag:∀ s ∈ o.looksAt ops,a.tmps.getD s Go.undef = b.tmps.getD s Go.undef:=fun s hs => d5r hrs inv hk hdk (d5q ho hs)
 constructor
 ·refine execOp_congr o ?_ ?_
  ·intro cs bb he
   have:=(b1e hr).1
   rw [he] at this
   simp [oc2,oc,ocX] at this
  ·intro x hx
   cases x with
   | tmp n =>
    have:=hag n (by unfold Oper.looksAt; exact List.mem_append_left _ (List.mem_filterMap.2 ⟨.tmp n,by simpa using hx,rfl⟩))
    simpa [Act.eval] using this
   | const v => rfl
   | func f => rfl
   | global g => rfl
 ·unfold Region.wanted
  cases hg:o.guard with
  | none => rfl
  | some gw =>
   obtain ⟨g,want⟩:=gw
   simp only
   have hy:yielded ops a.tmps g = yielded ops b.tmps g:=by
    unfold yielded
    cases ht:(ops[g]?).bind (·.dst) with
    | none => rfl
    | some s =>
     have hs:=hag s (by simp [Oper.looksAt,hg,ht])
     have hlt:s < N:=d1h hrs g s ht
     have h1:s < a.tmps.size:=by rw [inv.sz]; exact hlt
     have h2:s < b.tmps.size:=by rw [inv.st.size]; exact hlt
     simp [h1,h2] at hs
     simp [h1,h2,hs]
   rw [hy]
include hchk
theorem ahead {L:Array Bool} {D:List Nat} {t:Nat → AV} {h:List y9} {b a:Act} {w:World} (inv:Inv C w0 σ0 h0 N ops rs L D t h b a w) {i:Nat} {r:a4q} (hr:rs[i]? = some r) (hq:isQ ops rs i = true) (hi:i ∈ rdy ops D)
  {k:AV → List y9 → Prop} (hk:c1f P C.md r t h k):∃ v b',k v h ∧ Inv C w0 σ0 h0 N ops rs L (i :: D) (b4o t r.dst v) h b' a w:=by
 obtain ⟨hlt,hnD,hdeps⟩:=c5k.1 hi
 obtain ⟨o,ho,hoc⟩:=d3i hrs hr
 obtain ⟨c1,c2,c3,c4⟩:=b1e hoc
 obtain ⟨r',hr',hqq,hfree,s,hds⟩:=c6r hq
 rw [hr] at hr'
 cases hr'
 rw [dst_at ho] at hds
 obtain ⟨k1,k2⟩:=c6q hchk hlt (by rw [dst_at ho]; exact hds)
 obtain ⟨F,σ,φ,g0,g1,g2,g3,g4⟩:=inv.st.env
 have hnL:¬ LT L i:=fun hl => hnD (inv.sub i hl)
 have hmem:∀ j,j ∈ D → j ≠ i:=fun j hj he => hnD (he ▸ hj)
 -- what is left to show once the value is known
 have fin:∀ (v:AV) (u:Value),RV (C.frz F) σ h w v u → again C.mm r (b4o t r.dst v) h → Inv C w0 σ0 h0 N ops rs L (i :: D) (b4o t r.dst v) h (b.put o.dst u) a w:=by
  intro v u hv hag
  refine ⟨inv.size,fun j hj => List.mem_cons_of_mem _ (inv.sub j hj),?_,inv.clo,⟨inv.top,hnD,hlt,hdeps⟩,?_,inv.sz,inv.df,?_⟩
  ·intro j hj hnl
   rcases List.mem_cons.1 hj with rfl | hj
   ·exact ⟨hq,r,hr,hag⟩
   ·obtain ⟨p1,rj,p2,p3⟩:=inv.pend j hj hnl
    refine ⟨p1,rj,p2,?_⟩
    have hjlt:=b6b.lt inv.top j hj
    have hdj:=(k2 j hjlt (hmem j hj)).1
    obtain ⟨oj,hoj,hocj⟩:=d3i hrs p2
    have hdstj:rj.dst = oj.dst:=(b1e hocj).2.1
    refine c4f ?_ ?_ p3
    ·intro s' hs'
     rw [b4d,c2,hds,if_neg]
     intro he
     cases he
     rcases (k2 j hjlt (hmem j hj)).2 (c5l p2 hs') with hd | hd
     ·exact hnD (b6b.deps inv.top j hj i hd)
     ·have:=free_spec hfree (by rw [dst_at ho]; exact hds) hjlt (c5l p2 hs')
      exact hnD (b6b.deps inv.top j hj i this)
    ·intro d hd
     rw [b4d,c2,hds,if_neg]
     intro he
     cases he
     rw [dst_at hoj,← hdstj] at hdj
     exact hdj hd
  ·rw [c2]
   exact inv.st.next c3 g0 g2 g3 (FrX.refl (C.frz F) w) g1 (EvX.refl _ _ _) hv (Below.refl _ _)
  ·intro s' hs'
   have h1:s ≠ s':=fun he => hs' i (List.mem_cons_self ..) hnL (by rw [dst_at ho,hds,he])
   rw [Act.put_getD b o.dst u s' (fun x hx => by rw [inv.st.size]; exact c3 x hx),hds,if_neg (by simpa using h1)]
   exact inv.agree s' fun j hj => hs' j (List.mem_cons_of_mem _ hj)
 have slot_same:∀ v,∀ s' ∈ b7i r,t s' = b4o t r.dst v s':=by
  intro v s' hs'
  rw [b4d,c2,hds,if_neg]
  intro he
  cases he
  exact k1 (c5l hr hs')
 have hself:∀ v,b4o t r.dst v s = v:=by intro v; rw [b4d,c2,hds]; simp
 have hdst:r.dst = some s:=by rw [c2]; exact hds
 -- the operation is done
 have doit:a4s P C.md r.op (AX.ev t) h k → ∃ v u,k v h ∧ RV (C.frz F) σ h w v u ∧ aqQ C.mm r.op (AX.ev (b4o t r.dst v)) h ∧ v = aqV r.op (AX.ev (b4o t r.dst v)) h:=by
  intro ha
  obtain ⟨p1,p2⟩:=c6l hqq ha
  obtain ⟨u,q1,q2,q3⟩:=d3e (P:=P) g1 o c1 hqq g4 p1.p p1.m
  have hc:=c9x (m:=C.mm) (h:=h) (d3f (slot_same (aqV r.op (AX.ev t) h)))
  exact ⟨_,u,p2 q3,q2,by rw [← hc.1]; exact p1,hc.2⟩
 have skipit:k .skip h → ∃ v u,k v h ∧ RV (C.frz F) σ h w v u ∧ v = .skip:=fun hk => ⟨.skip,undef,hk,by simp only [RV],rfl⟩
 unfold c1f at hk
 split at hk
 ·rename_i hg
  obtain ⟨v,u,p1,p2,p3,p4⟩:=doit hk
  refine ⟨v,_,p1,fin v u p2 ?_⟩
  unfold again
  rw [hdst,hg]
  simp only
  have e:=hself v
  rw [hdst] at e p3 p4
  exact ⟨p3,e.trans p4⟩
 ·rename_i s1 b1 hg
  have hs1:∀ v,b4o t r.dst v s1 = t s1:=fun v => (slot_same v s1 (by simp [b7i,hg])).symm
  split at hk
  ·rename_i b' hb'
   by_cases he:b' = b1
   ·obtain ⟨v,u,p1,p2,p3,p4⟩:=doit (hk.1 he)
    refine ⟨v,_,p1,fin v u p2 ?_⟩
    have e0:=hs1 v
    have e:=hself v
    unfold again
    rw [hdst] at e0 e p3 p4 ⊢
    rw [hg]
    simp only [e0,hb']
    exact ⟨fun _ => ⟨p3,e.trans p4⟩,fun hn => by subst he; cases b' <;> simp at hn⟩
   ·obtain ⟨v,u,p1,p2,rfl⟩:=skipit (hk.2 (by cases b' <;> cases b1 <;> simp_all))
    refine ⟨.skip,_,p1,fin .skip u p2 ?_⟩
    have e0:=hs1 .skip
    have e:=hself .skip
    unfold again
    rw [hdst] at e0 e ⊢
    rw [hg]
    simp only [e0,hb']
    exact ⟨fun hn => absurd hn he,fun _ => e⟩
  ·rename_i hb'
   obtain ⟨v,u,p1,p2,rfl⟩:=skipit hk
   refine ⟨.skip,_,p1,fin .skip u p2 ?_⟩
   have e0:=hs1 .skip
   have e:=hself .skip
   unfold again
   rw [hdst] at e0 e ⊢
   rw [hg]
   simp only [e0,hb']
   exact e
  ·exact hk.elim
theorem c3d {L:Array Bool} {a:Act} {w:World} {h:List y9} {K:(Nat → AV) → List y9 → Prop}:∀ (f:Nat) (D:List Nat) (t:Nat → AV) (b:Act),Inv C w0 σ0 h0 N ops rs L D t h b a w → a5g P C.md (mkT ops rs f D) t h K →
  ∃ f' D' t' b',Inv C w0 σ0 h0 N ops rs L D' t' h b' a w ∧ (rdy ops D').find? (isQ ops rs) = none ∧ a5g P C.md (mkT ops rs (f' + 1) D') t' h K
 | 0,D,t,b,inv,hk => by simp [mkT,a5g] at hk
 | f + 1,D,t,b,inv,hk => by
  cases hf:(rdy ops D).find? (isQ ops rs) with
  | none => exact ⟨f,D,t,b,inv,hf,hk⟩
  | some i =>
   simp only [mkT,hf] at hk
   have hq:=List.find?_some hf
   have hi:=List.mem_of_find?_eq_some hf
   cases hr:rs[i]? with
   | none => rw [hr] at hk; exact hk.elim
   | some r =>
    rw [hr] at hk
    simp only [a5g] at hk
    obtain ⟨v,b',hk',inv'⟩:=ahead hrs hchk inv hr hq hi hk.old
    exact c3d f (i :: D) _ b' inv' hk'
theorem d3j {t:Nat → AV} {h:List y9} {K:(Nat → AV) → List y9 → Prop} {re:Nat → List a4q} {mk:Nat → b0f}:∀ (ks:List Nat),a5g P C.md (alts rs re mk ks) t h K → ∀ k ∈ ks,∃ r,rs[k]? = some r ∧
  c1f P C.md r t h fun v h' => b9y C.mm (re k) (b4o t r.dst v) h h' ∧ a5g P C.md (mk k) (b4o t r.dst v) h' K
 | [],_,k,hk => by simp at hk
 | k0 :: ks,ha,k,hk => by
  simp only [alts] at ha
  cases hr:rs[k0]? with
  | none => rw [hr] at ha; exact ha.elim
  | some r =>
   rw [hr] at ha
   simp only [a5g] at ha
   rcases List.mem_cons.1 hk with rfl | hk
   ·exact ⟨r,hr,ha.1.old⟩
   ·exact d3j ks ha.2 k hk
theorem e2p {L:Array Bool} {i:Nat} {U:List Nat} {n:Nat} (hL:L.size = ops.size) (hU:U.Nodup) (hm:∀ i,i ∈ U ↔ i < ops.size ∧ ¬ LT L i) (hl:U.length = n + 1) (hi:i < ops.size) (hn:¬ LT L i) :
  (U.erase i).Nodup ∧ (∀ j,j ∈ U.erase i ↔ j < ops.size ∧ ¬ LT (L.setIfInBounds i true) j) ∧ (U.erase i).length = n:=by
 refine ⟨hU.erase i,fun j => ?_,?_⟩
 ·rw [hU.mem_erase_iff,hm]
  constructor
  ·rintro ⟨h1,h2,h3⟩
   exact ⟨h2,fun hl => (LT.of_set hl).elim h1 h3⟩
  ·rintro ⟨h2,h3⟩
   exact ⟨fun he => h3 (by rw [he]; exact LT.self (by rw [hL]; exact hi)),h2,fun hl => h3 hl.set⟩
 ·rw [List.length_erase_of_mem ((hm i).2 ⟨hi,hn⟩),hl]; rfl
theorem d5s (hok:∀ b,C.mine b → C.ok b) (hb:∀ b,w0.heap.size ≤ b → C.mine b) {L:Array Bool} {D:List Nat} {t:Nat → AV} {h:List y9} {b a:Act} {w:World} (inv:Inv C w0 σ0 h0 N ops rs L D t h b a w) {i:Nat} (hiD:i ∈ D) (hnl:¬ LT L i) (hdi:∀ d ∈ a6i ops i,LT L d)
  {Q:Exit → Act → World → Prop} {K:Act → World → Prop} (hK:∀ b' a',Inv C w0 σ0 h0 N ops rs (L.setIfInBounds i true) D t h b' a' w → K a' w):wpOp P ops Q i K a w:=by
 obtain ⟨hq,r,hr,hag⟩:=inv.pend i hiD hnl
 obtain ⟨r',hr',hqq,hfree,s,hds⟩:=c6r hq
 rw [hr] at hr'
 cases hr'
 obtain ⟨o,ho,hoc⟩:=d3i hrs hr
 obtain ⟨c1,c2,c3,c4⟩:=b1e hoc
 rw [dst_at ho] at hds
 have hlt:=(Array.getElem?_eq_some_iff.1 ho).1
 obtain ⟨hex,hwt⟩:=c6s hrs inv ho hoc hdi
 obtain ⟨F,σ,φ,g0,g1,g2,g3,g4⟩:=inv.st.env
 obtain ⟨w1,w2⟩:=c4c g3 inv.st.size hoc (d1h hrs)
 have hdst:r.dst = some s:=by rw [c2]; exact hds
 have hsN:s < N:=c3 s hds
 -- a value that the slot's abstract one stands for
 have fin:∀ u,RV (C.frz F) σ h w (t s) u → K (a.put o.dst u) w:=by
  intro u hu
  refine hK (b.put o.dst u) _ ⟨by simpa using inv.size,?_,?_,?_,inv.top,?_,?_,?_,?_⟩
  ·intro j hj
   rcases LT.of_set hj with rfl | hj
   ·exact hiD
   ·exact inv.sub j hj
  ·intro j hj hn
   exact inv.pend j hj (fun hl => hn hl.set)
  ·intro j hj d hd
   rcases LT.of_set hj with rfl | hj
   ·exact (hdi d hd).set
   ·exact (inv.clo j hj d hd).set
  ·refine ⟨⟨F,σ,φ,g0,g1,g2,fun n => ?_⟩,by rw [Act.put_size]; exact inv.st.size,by rw [Act.put_defs]; exact inv.st.defers,inv.st.below⟩
   rw [Act.put_getD b o.dst u n (fun x hx => by rw [inv.st.size]; exact c3 x hx),hds]
   split
   ·rename_i he
    cases he
    exact hu
   ·exact g3 n
  ·rw [Act.put_size]; exact inv.sz
  ·rw [Act.put_defs]; exact inv.df
  ·intro s' hs'
   rw [Act.put_getD b o.dst u s' (fun x hx => by rw [inv.st.size]; exact c3 x hx),Act.put_getD a o.dst u s' (fun x hx => by rw [inv.sz]; exact c3 x hx)]
   split
   ·rfl
   ·rename_i hne
    refine inv.agree s' fun j hj hn hd => ?_
    by_cases hji:j = i
    ·subst hji
     rw [dst_at ho] at hd
     exact hne hd
    ·exact hs' j hj (fun hl => (LT.of_set hl).elim hji hn) hd
 have doit:aqQ C.mm r.op (AX.ev t) h ∧ t s = aqV r.op (AX.ev t) h → o.wp P a w K Q:=by
  rintro ⟨p1,p2⟩
  obtain ⟨u,q1,q2,_⟩:=d3e (P:=P) g1 o c1 hqq g4 p1.p p1.m
  unfold Oper.wp
  rw [hex,q1,Oper.upon_value]
  exact fin u (by rw [p2]; exact q2)
 have skipit:t s = .skip → K (a.put o.dst Go.undef) w:=by
  intro he
  exact fin Go.undef (by rw [he]; simp only [RV])
 unfold wpOp
 simp only [ho]
 rw [hwt]
 unfold again at hag
 rw [hdst] at hag
 cases hg:r.guard with
 | none =>
  rw [hg] at hag
  have:o.guard = none:=by
   rcases c4 with ⟨h1,_⟩ | ⟨j,b,s,h1,h2,h3⟩
   ·exact h1
   ·rw [hg] at h3; cases h3
  rw [if_pos (w1 this)]
  exact .inl (doit hag)
 | some sb =>
  obtain ⟨s1,b1⟩:=sb
  rw [hg] at hag
  simp only at hag
  split at hag
  ·rename_i b' hb'
   rw [(w2 s1 b1 hg).1 b' hb']
   by_cases he:b' = b1
   ·subst he
    simp only [beq_self_eq_true,if_true]
    exact .inl (doit (hag.1 rfl))
   ·have:(b' == b1) = false:=by simpa using he
    rw [this]
    simp only [Bool.false_eq_true,if_false]
    exact skipit (hag.2 (by cases b' <;> cases b1 <;> simp_all))
  ·rename_i hb'
   rw [(w2 s1 b1 hg).2 hb']
   simp only [Bool.false_eq_true,if_false]
   exact skipit hag
  ·exact hag.elim
theorem e2q (hmd:C.mm = true → C.dm = true) (hok:∀ b,C.mine b → C.ok b) (hb:∀ b,w0.heap.size ≤ b → C.mine b) {L:Array Bool} {D:List Nat} {t:Nat → AV} {h:List y9} {b a:Act} {w:World} (inv:Inv C w0 σ0 h0 N ops rs L D t h b a w) {i:Nat} (hlt:i < ops.size) (hiD:i ∉ D) (hdi:∀ d ∈ a6i ops i,LT L d)
  {r:a4q} (hr:rs[i]? = some r) {F:AV → List y9 → Prop} (hk:c1f P C.md r t h fun v h' => b9y C.mm (e0c ops rs D i) (b4o t r.dst v) h h' ∧ F v h')
  {Q:Exit → Act → World → Prop} {K:Act → World → Prop} (hK:∀ v h' b' a' w',Inv C w0 σ0 h0 N ops rs (L.setIfInBounds i true) (i :: D) (b4o t r.dst v) h' b' a' w' → F v h' → K a' w'):wpOp P ops Q i K a w:=by
 obtain ⟨o,ho,hoc⟩:=d3i hrs hr
 obtain ⟨c1,c2,c3,c4⟩:=b1e hoc
 obtain ⟨hex,hwt⟩:=c6s hrs inv ho hoc hdi
 have hnL:¬ LT L i:=fun hl => hiD (inv.sub i hl)
 have hmem:∀ j,j ∈ D → j ≠ i:=fun j hj he => hiD (he ▸ hj)
 unfold wpOp
 simp only [ho]
 refine c4d hmd inv.st hok hb (d1h hrs) hoc hk hex hwt ?_
 intro v r' h' w' hst ⟨hre,hF⟩
 refine hK r' h' (b.put o.dst v) _ w' ⟨by simpa using inv.size,?_,?_,?_,⟨inv.top,hiD,hlt,fun d hd => inv.sub d (hdi d hd)⟩,hst,?_,?_,?_⟩ hF
 ·intro j hj
  rcases LT.of_set hj with rfl | hj
  ·exact List.mem_cons_self ..
  ·exact List.mem_cons_of_mem _ (inv.sub j hj)
 ·intro j hj hn
  rcases List.mem_cons.1 hj with rfl | hj
  ·exact absurd (LT.self (by rw [inv.size]; exact hlt)) hn
  ·have hnl:¬ LT L j:=fun hl => hn hl.set
   obtain ⟨p1,rj,p2,p3⟩:=inv.pend j hj hnl
   refine ⟨p1,rj,p2,?_⟩
   have hjlt:=b6b.lt inv.top j hj
   obtain ⟨oj,hoj,hocj⟩:=d3i hrs p2
   have hdstj:rj.dst = oj.dst:=(b1e hocj).2.1
   have hanc:j ∉ c6p ops i:=fun ha => hnl (e4q inv.clo hdi j ha)
   have h1:again C.mm rj (b4o t r.dst r') h:=by
    refine c4f ?_ ?_ p3
    ·intro s' hs'
     rw [b4d]
     split
     ·rename_i he
      rw [c2,← dst_at ho] at he
      exfalso
      rcases ((c6q hchk hlt he).2 j hjlt (hmem j hj)).2 (c5l p2 hs') with hd | hd
      ·exact hiD (b6b.deps inv.top j hj i hd)
      ·exact hanc hd
     ·rfl
    ·intro d hd
     rw [b4d]
     split
     ·rename_i he
      rw [c2,← dst_at ho] at he
      exfalso
      have:=((c6q hchk hlt he).2 j hjlt (hmem j hj)).1
      rw [dst_at hoj,← hdstj] at this
      exact this hd
     ·rfl
   cases hdeep:rj.op.deepQ with
   | false => exact d5p hdeep h1
   | true =>
    have hin:rj ∈ e0c ops rs D i:=by
     unfold e0c
     refine List.mem_filterMap.2 ⟨j,?_,by rw [p2]; simp only [hdeep]⟩
     refine List.mem_filter.2 ⟨hj,?_⟩
     simp only [p1,Bool.true_and,Bool.not_eq_true']
     cases hcc:(c6p ops i).contains j with
     | false => rfl
     | true => exact absurd (List.contains_iff_mem.1 hcc) hanc
    cases hrr:e0c ops rs D i with
    | nil => rw [hrr] at hin; simp at hin
    | cons x xs =>
     rw [hrr] at hre hin
     simp only [b9y] at hre
     rcases hre with rfl | hre
     ·exact h1
     ·exact c6n hre rj hin
 ·intro j hj d hd
  rcases LT.of_set hj with rfl | hj
  ·exact (hdi d hd).set
  ·exact (inv.clo j hj d hd).set
 ·rw [Act.put_size]; exact inv.sz
 ·rw [Act.put_defs]; exact inv.df
 ·intro s' hs'
  rw [Act.put_getD b o.dst v s' (fun x hx => by rw [inv.st.size]; exact c3 x hx),Act.put_getD a o.dst v s' (fun x hx => by rw [inv.sz]; exact c3 x hx)]
  split
  ·rfl
  ·refine inv.agree s' fun j hj hn hd => ?_
   exact hs' j (List.mem_cons_of_mem _ hj) (fun hl => (LT.of_set hl).elim (hmem j hj) hn) hd
omit hrs hchk in
theorem e2r {a b:Act} (h1:a.tmps.size = b.tmps.size) (h2:∀ s,a.tmps.getD s Go.undef = b.tmps.getD s Go.undef) (h3:a.defers = b.defers):a = b:=by
 obtain ⟨ta,da⟩:=a
 obtain ⟨tb,db⟩:=b
 simp only at h1 h2 h3
 subst h3
 congr 1
 apply Array.ext h1
 intro i hi1 hi2
 have:=h2 i
 simpa [hi1,hi2] using this
theorem d5t (hmd:C.mm = true → C.dm = true) (hok:∀ b,C.mine b → C.ok b) (hb:∀ b,w0.heap.size ≤ b → C.mine b) {Q:Exit → Act → World → Prop} {K:(Nat → AV) → List y9 → Prop} (hQ:∀ t h a w,St C w0 σ0 h0 N t h a w → K t h → Q .normal a w) :
  ∀ (n:Nat) (L:Array Bool) (U:List Nat) (f:Nat) (D:List Nat) (t:Nat → AV) (h:List y9) (b a:Act) (w:World),U.Nodup → (∀ i,i ∈ U ↔ i < ops.size ∧ ¬ LT L i) → U.length = n →
   Inv C w0 σ0 h0 N ops rs L D t h b a w → a5g P C.md (mkT ops rs f D) t h K → wpAny P .any ops Q n L a w:=by
 intro n
 induction n with
 | zero =>
  intro L U f D t h b a w hU hm hl inv hk
  have hall:∀ i,i < ops.size → LT L i:=fun i hi => Classical.byContradiction fun hc => by
   have:=(hm i).2 ⟨hi,hc⟩
   rw [List.eq_nil_of_length_eq_zero hl] at this
   simp at this
  obtain ⟨f',D',t',b',inv',hno,hk'⟩:=c3d hrs hchk f D t b inv hk
  have hready:Region.ready .any ops L = []:=by
   apply List.eq_nil_iff_forall_not_mem.2
   intro i hi
   obtain ⟨h1,h2,_⟩:=(b8k inv.size).1 hi
   exact h2 (hall i h1)
  refine ⟨hready,?_⟩
  have hrd:rdy ops D' = []:=by
   apply List.eq_nil_iff_forall_not_mem.2
   intro i hi
   obtain ⟨h1,h2,_⟩:=c5k.1 hi
   exact h2 (inv'.sub i (hall i h1))
  simp only [mkT,hno] at hk'
  rw [hrd] at hk'
  simp only at hk'
  have hK:K t' h:=by
   split at hk'
   ·exact hk'
   ·exact hk'.elim
  have hab:a = b':=e2r (by rw [inv'.sz,inv'.st.size]) (fun s => inv'.agree s fun j hj hnl => absurd (hall j (b6b.lt inv'.top j hj)) hnl) (by rw [inv'.df,inv'.st.defers])
  rw [hab]
  exact hQ _ _ _ _ inv'.st hK
 | succ n ih =>
  intro L U f D t h b a w hU hm hl inv hk
  obtain ⟨f',D',t',b',inv',hno,hk'⟩:=c3d hrs hchk f D t b inv hk
  have hmore:∃ i,i ∈ Region.ready .any ops L:=by
   by_cases hp:∃ i ∈ D',¬ LT L i
   ·obtain ⟨i,h1,h2,h3⟩:=b6b.first inv'.top hp
    exact ⟨i,(b8k inv.size).2 ⟨b6b.lt inv'.top i h1,h2,h3⟩⟩
   ·have hall:∀ d ∈ D',LT L d:=fun d hd => Classical.byContradiction fun hc => hp ⟨d,hd,hc⟩
    cases hrd:rdy ops D' with
    | nil =>
     simp only [mkT,hno] at hk'
     rw [hrd] at hk'
     simp only at hk'
     split at hk'
     ·rename_i hfull
      exfalso
      obtain ⟨u,hu⟩:∃ u,u ∈ U:=by
       cases U with
       | nil => simp at hl
       | cons u _ => exact ⟨u,List.mem_cons_self ..⟩
      obtain ⟨h1,h2⟩:=(hm u).1 hu
      rw [List.all_eq_true] at hfull
      exact h2 (hall u (List.contains_iff_mem.1 (hfull u (List.mem_range.2 h1))))
     ·exact hk'.elim
    | cons k ks =>
     have:k ∈ rdy ops D':=by rw [hrd]; exact List.mem_cons_self ..
     obtain ⟨h1,h2,h3⟩:=c5k.1 this
     exact ⟨k,(b8k inv.size).2 ⟨h1,fun hl => h2 (inv'.sub k hl),fun d hd => hall d (h3 d hd)⟩⟩
  refine ⟨fun h0 => ?_,fun i hi => ?_⟩
  ·obtain ⟨i,hi⟩:=hmore
   rw [h0] at hi
   simp at hi
  ·obtain ⟨h1,h2,h3⟩:=(b8k inv.size).1 hi
   obtain ⟨u1,u2,u3⟩:=e2p hrs hchk inv.size hU hm hl h1 h2
   by_cases hiD:i ∈ D'
   ·refine d5s hrs hchk hok hb inv' hiD h2 h3 ?_
    intro b'' a'' inv''
    exact ih _ _ (f' + 1) D' t' h b'' a'' w u1 u2 u3 inv'' hk'
   ·have hird:i ∈ rdy ops D':=c5k.2 ⟨h1,hiD,fun d hd => inv'.sub d (h3 d hd)⟩
    cases hrd:rdy ops D' with
    | nil => rw [hrd] at hird; simp at hird
    | cons k ks =>
     have hk0:=hk'
     simp only [mkT,hno] at hk'
     rw [hrd] at hk' hird
     simp only at hk'
     obtain ⟨r,hr,hkr⟩:=d3j hrs hchk (k :: ks) hk' i hird
     refine e2q hrs hchk hmd hok hb inv' h1 hiD h3 hr hkr ?_
     intro v h' b'' a'' w' inv'' hF
     exact ih _ _ f' _ _ h' b'' a'' w' u1 u2 u3 inv'' hF
end
end Go.R
