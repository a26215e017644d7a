import Derived.Test.YtldahjcikmpifaaGreatC6
set_option linter.all false
namespace Go.R
open Go
section sound
variable {P:Program} {C:Ctx} {σ:Sg} {φ:Nat → List Nat} {h:List y9} {w:World} {t:Nat → AV} {ρ:Operand → Value}
theorem d5h {ty:TypeId} {k:Nat} (hp:c2u P ty = some k):iag P ty = some false:=by
 unfold c2u at hp
 unfold iag
 split at hp <;> simp_all
theorem d2p (d:Nat) {ty:TypeId} {k:Nat} (hk:c2u P ty = some k) {a b:AV} {v u:Value} (hv:RV C σ h w a v) (hu:RV C σ h w b u) (hc:cellP k a b) :
  (Op.equalIn (d + 1) ty v u).run P w = .ok (c2s a b) w:=by
 unfold c2u at hk
 cases a <;> cases b <;> simp only [cellP] at hc <;> simp only [RV] at hv hu
 ·obtain ⟨rfl,rfl⟩:=hc
  subst hv hu
  split at hk <;> rename_i hty <;> simp at hk
  simp [run_equalIn_int w d ty _ _ _ _ hty,c2s]
 ·subst hc hv hu
  split at hk <;> rename_i hty <;> simp at hk
  simp [run_equalIn_bool' w d ty _ _ hty,c2s]
 ·subst hc
  obtain ⟨rfl,_⟩:=hv
  obtain ⟨rfl,_⟩:=hu
  split at hk <;> rename_i hty <;> simp at hk
  simp [run_equalIn_string w d ty _ _ hty,c2s]
theorem b7d (d:Nat) (vs us:Array Value):∀ (fs:List Field) (n:Nat) (ks:List Nat) (as bs:List AV),b5v P n fs = some ks → b9o ks as bs → RVs C σ h w as (vs.toList.drop n) → RVs C σ h w bs (us.toList.drop n) →
  (Op.eqFields (d + 1) vs us fs).run P w = .ok (b8i as bs) w
 | [],n,ks,as,bs,hf,hc,_,_ => by
  simp only [b5v,Option.some.injEq] at hf
  subst hf
  cases as <;> cases bs <;> first
   | (simp [Op.eqFields,b8i]; done)
   | (simp [b9o] at hc; done)
 | f :: fs,n,ks,as,bs,hf,hc,ha,hb => by
  simp only [b5v] at hf
  cases hk:c2u P f.type with
  | none => simp [hk] at hf
  | some k =>
   cases hks:b5v P (n + 1) fs with
   | none => simp [hk,hks] at hf
   | some ks' =>
    simp only [hk,hks] at hf
    split at hf
    ·rename_i hcond
     simp only [Bool.and_eq_true,bne_iff_ne,ne_eq,beq_iff_eq] at hcond
     obtain ⟨hn,ho⟩:=hcond
     simp only [Option.some.injEq] at hf
     subst hf
     have hag:=d5h hk
     cases as with
     | nil => simp [b9o] at hc
     | cons a as =>
      cases bs with
      | nil => simp [b9o] at hc
      | cons b bs =>
       simp only [b9o] at hc
       simp only [RVs] at ha hb
       obtain ⟨v,vs',e1,hv,hvs⟩:=ha
       obtain ⟨u,us',e2,hu,hus⟩:=hb
       have g1:vs[n]? = some v:=by
        have:=congrArg (fun l => l[0]?) e1
        simpa using this
       have g2:us[n]? = some u:=by
        have:=congrArg (fun l => l[0]?) e2
        simpa using this
       have d1:vs' = vs.toList.drop (n + 1):=by
        have:=congrArg List.tail e1
        simpa using this.symm
       have d2:us' = us.toList.drop (n + 1):=by
        have:=congrArg List.tail e2
        simpa using this.symm
       rw [d1] at hvs
       rw [d2] at hus
       have p1:(part f.type vs f.offset).run P w = .ok v w:=by simp [part,b3w hag,ho,g1]
       have p2:(part f.type us f.offset).run P w = .ok u w:=by simp [part,b3w hag,ho,g2]
       have key:=d2p (P:=P) d hk hv hu hc.1
       have ih:=b7d d vs us fs (n + 1) ks' as bs hks hc.2 hvs hus
       simp only [Op.eqFields,ne_eq,hn,not_false_eq_true,if_true,Sem.run_bind,p1,p2,Result.andThen_ok,key,b8i]
       cases c2s a b <;> simp [ih]
    ·cases hf
theorem c9l (ng:Bool) (xt:TypeId) (x y:Operand) {fs:Array Field} (hx:P.underlying xt = some (.struct fs)) {ks:List Nat} (hks:b5v P 0 fs.toList = some ks)
  (hst:P.stoodInHeld xt = false) (heg:P.eqGuardType P.depth xt = false) {a1 a2:AV} {v1 v2:Value} (h1:RV C σ h w a1 v1) (h2:RV C σ h w a2 v2) (hp:aqP (.eqs ng ks (.c a1) (.c a2)) (AX.ev t) h) :
  ∃ u,(do eqGuard (match ng with | true => .neq | false => .eql) xt x y v1 v2; binOp (match ng with | true => .neq | false => .eql) xt v1 v2:Sem Value).run P w = .ok u w ∧ RV C σ h w (aqV (.eqs ng ks (.c a1) (.c a2)) (AX.ev t) h) u:=by
 simp only [aqP,aqV,AX.ev] at hp ⊢
 cases a1 with
 | agg as =>
  cases a2 with
  | agg bs =>
   simp only [RV] at h1 h2
   obtain ⟨vs,rfl,h1⟩:=h1
   obtain ⟨us,rfl,h2⟩:=h2
   have hfo:P.fieldsOf xt = fs:=by simp [Program.fieldsOf,hx]
   have e:=b7d (P:=P) 9998 vs us fs.toList 0 ks as bs hks hp (by simpa using h1) (by simpa using h2)
   have e':=run_equalIn_agg (P:=P) w 9999 xt vs us (by rw [hfo]; exact hx) hst
   rw [hfo] at e'
   simp only [Nat.reduceAdd] at e e'
   rw [e] at e'
   simp only [Sem.run_bind,run_eqGuard_agg w _ xt x y vs us heg,Result.andThen_ok]
   cases ng with
   | true => rw [run_neq_struct,e']; exact ⟨_,rfl,by simp [RV]⟩
   | false => rw [run_eql_struct,e']; exact ⟨_,rfl,by simp [RV]⟩
  | _ => exact hp.elim
 | _ => cases a2 <;> exact hp.elim
theorem d8f (fs:List Field) (hs:sized P fs = true) :
  (fs.mapM fun f => do pure (f.offset,← sizeOf f.type):Sem (List (Nat × Nat))).run P w = .ok (fs.map fun f => (f.offset,(isz P f.type).getD 0)) w:=by
 induction fs with
 | nil => simp
 | cons f fs ih =>
  simp only [sized,List.all_cons,Bool.and_eq_true] at hs
  obtain ⟨h1,h2⟩:=hs
  obtain ⟨n,hn⟩:=Option.isSome_iff_exists.1 h1
  have ih':=ih h2
  simp only [List.mapM_cons,Sem.run_bind,run_sizeOf hn,Result.andThen_ok,Sem.run_pure,List.map_cons,hn,Option.getD_some]
  rw [ih']
  simp
theorem foldl_set (off:Nat):∀ (us:List Value) (k:Nat) (cs:Array Value),off + k + us.length ≤ cs.size →
  (us.zipIdx k).foldl (fun cs (p:Value × Nat) => cs.setIfInBounds (off + p.2) p.1) cs = (cs.toList.take (off + k) ++ us ++ cs.toList.drop (off + k + us.length)).toArray
 | [],k,cs,_ => by simp
 | u :: us,k,cs,hl => by
  simp only [List.length_cons] at hl
  simp only [List.zipIdx_cons,List.foldl_cons]
  rw [foldl_set off us (k + 1) _ (by simp; omega)]
  apply Array.toList_inj.1
  simp only [Array.toList_setIfInBounds,List.length_cons]
  have e1:(cs.toList.set (off + k) u).take (off + (k + 1)) = cs.toList.take (off + k) ++ [u]:=by
   rw [show off + (k + 1) = off + k + 1 by omega,List.take_succ_eq_append_getElem (by simp; omega),List.take_set_of_le (by omega)]
   simp
  have e2:(cs.toList.set (off + k) u).drop (off + (k + 1) + us.length) = cs.toList.drop (off + k + (us.length + 1)):=by
   rw [List.drop_set_of_lt (by omega)]
   congr 1
   omega
  rw [e1,e2]
  simp
theorem RVs.put {as bs:List AV} {vs us:List Value} (off:Nat) (ha:RVs C σ h w as vs) (hb:RVs C σ h w bs us):RVs C σ h w (putCells as off bs) (vs.take off ++ us ++ vs.drop (off + us.length)):=by
 unfold putCells
 rw [hb.length]
 exact ((ha.take off).append hb).append (ha.drop _)
theorem c5w (fs:Array Field) (he:a7b C σ h w t ρ):∀ (parts:List (Nat × Operand)) (l:List (Nat × Nat × AX)) (zero:List AV) (cs:Array Value),b9q P fs parts = some l → RVs C σ h w zero cs.toList →
  c5r h zero.length (AX.ev t) l →
  ∃ cs',Instr.fill (fun i => (fs.toList.map fun f => (f.offset,(isz P f.type).getD 0))[i]?) cs (parts.map fun (i,x) => (i,ρ x)) = some cs' ∧ RVs C σ h w (c4a zero (AX.ev t) l) cs'.toList
 | [],l,zero,cs,hc,hz,hp => by
  simp only [b9q,Option.some.injEq] at hc
  subst hc
  exact ⟨cs,rfl,by simpa only [c4a] using hz⟩
 | (i,x) :: rest,l,zero,cs,hc,hz,hp => by
  simp only [b9q] at hc
  cases h1:fs[i]? with
  | none => simp [h1] at hc
  | some f =>
   cases h2:cx x with
   | none => simp [h1,h2] at hc
   | some a =>
    cases h3:b9q P fs rest with
    | none => simp [h1,h2,h3] at hc
    | some l' =>
     cases h4:isz P f.type with
     | none => simp [h1,h2,h3,h4] at hc
     | some n =>
      simp only [h1,h2,h3,h4,Option.some.injEq] at hc
      subst hc
      simp only [c5r] at hp
      obtain ⟨⟨p1,p2,p4⟩,p3⟩:=hp
      have hv:=he x a h2
      have hcells:=hv.cells p4
      have hl:=hcells.length
      have hzl:=hz.length
      simp only [Array.length_toList] at hl hzl
      have hplace:(fs.toList.map fun f => (f.offset,(isz P f.type).getD 0))[i]? = some (f.offset,n):=by
       simp [h1,h4]
      have hz':=hz.put f.offset hcells
      obtain ⟨cs',g1,g2⟩:=c5w fs he rest l' (putCells zero f.offset (AX.ev t a).cells) (cs.toList.take f.offset ++ (ρ x).cells.toList ++ cs.toList.drop (f.offset + (ρ x).cells.toList.length)).toArray h3
       (by simpa using hz') (by
        have:(putCells zero f.offset (AX.ev t a).cells).length = zero.length:=by
         unfold putCells
         simp only [List.length_append,List.length_take,List.length_drop]
         omega
        rw [this]; exact p3)
      refine ⟨cs',?_,by simpa only [c4a] using g2⟩
      simp only [List.map_cons,Instr.fill,hplace]
      rw [if_neg (by simp; omega)]
      rw [← Array.foldl_toList,Array.toList_zipIdx,foldl_set f.offset _ 0 cs (by simp; omega)]
      simpa using g1
theorem d2q {ty:TypeId} {fs:Array Field} {z:Array Value} {zero:List AV} {parts:Array (Nat × Operand)} {l:List (Nat × Nat × AX)} (ht:P.underlying ty = some (.struct fs)) (hz:(P.info? ty).bind (·.zero) = some (.agg z))
  (hzero:a6n z.toList = some zero) (hparts:b9q P fs parts.toList = some l) (hsz:sized P fs.toList = true) (he:a7b C σ h w t ρ) (hp:aqP (.build zero l) (AX.ev t) h) :
  ∃ u,(Instr.build ty (parts.map fun (i,x) => (i,ρ x))).run P w = .ok u w ∧ RV C σ h w (aqV (.build zero l) (AX.ev t) h) u:=by
 simp only [aqP,aqV] at hp ⊢
 obtain ⟨cs',g1,g2⟩:=c5w (P:=P) fs he parts.toList l zero z hparts (a6n.rvs hzero) hp
 refine ⟨.agg cs',?_,by simp only [RV]; exact ⟨cs',rfl,g2⟩⟩
 have hzv:(zeroValue ty).run P w = .ok (.agg z) w:=by
  cases hi:P.info? ty with
  | none => simp [hi] at hz
  | some i =>
   simp only [hi,Option.bind_some] at hz
   simp [zeroValue,typeInfo,hi,hz]
 have hm:(fs.mapM fun f => do pure (f.offset,← sizeOf f.type):Sem (Array (Nat × Nat))).run P w = .ok (fs.toList.map fun f => (f.offset,(isz P f.type).getD 0)).toArray w:=by
  obtain ⟨fl⟩:=fs
  rw [List.mapM_toArray,Sem.run_map,d8f fl hsz]
  rfl
 have hg:∀ i:Nat,((fs.toList.map fun f => (f.offset,(isz P f.type).getD 0)).toArray)[i]? = (fs.toList.map fun f => (f.offset,(isz P f.type).getD 0))[i]?:=by intro i; simp
 simp only [Instr.build,Sem.run_bind,hzv,Result.andThen_ok,run_underlying ht,hm,Value.cells]
 simp only [hg,Array.toList_map,g1,Sem.run_pure]
theorem c0p {x:Option Operand} {y:Option AX} (hx:cxo x = some y) (he:a7b C σ h w t ρ) :
  (∀ a,y.map (AX.ev t) = some a → ∃ v,x.map ρ = some v ∧ RV C σ h w a v) ∧ (y.map (AX.ev t) = none → x.map ρ = none):=by
 cases x with
 | none => simp only [cxo,Option.some.injEq] at hx; subst hx; simp
 | some o =>
  simp only [cxo,Option.map_eq_some_iff] at hx
  obtain ⟨a,h1,rfl⟩:=hx
  refine ⟨fun b hb => ⟨ρ o,rfl,?_⟩,by simp⟩
  simp only [Option.map_some,Option.some.injEq] at hb
  subst hb
  exact he o a h1
theorem d0v (hr:a0b C σ φ h w) (o:Oper) {ao:AOp} (ho:oc P o.op = some ao) (hq:ao.quiet = true) (he:a7b C σ h w t ρ) (hp:aqP ao (AX.ev t) h) (hmm:mmP C.mm ao (AX.ev t) h) :
  ∃ v,(execOp ρ o).run P w = .ok (.value v) w ∧ RV C σ h w (aqV ao (AX.ev t) h) v ∧ aqF ao (AX.ev t):=by
 have lift:∀ (s:Sem Value) (ao:AOp),(∃ v,s.run P w = .ok v w ∧ RV C σ h w (aqV ao (AX.ev t) h) v) → (∃ v,(do pure (.value (← s)):Sem Next).run P w = .ok (.value v) w ∧ RV C σ h w (aqV ao (AX.ev t) h) v):=by
  rintro s ao ⟨v,h1,h2⟩
  exact ⟨v,by simp [h1],h2⟩
 have fin:(∀ x,ao ≠ .len x) → (∀ x,ao ≠ .lenS x) → aqF ao (AX.ev t):=by
  intro h1 h2
  cases ao <;> first | trivial | exact absurd rfl (h1 _) | exact absurd rfl (h2 _)
 obtain ⟨dst,op,ty,pos,after,guard⟩:=o
 simp only at ho
 cases op with
 | move x =>
  simp only [oc,Option.map_eq_some_iff] at ho
  obtain ⟨a,h1,rfl⟩:=ho
  exact ⟨ρ x,rfl,he x a h1,trivial⟩
 | assign x =>
  simp only [oc,Option.map_eq_some_iff] at ho
  obtain ⟨a,h1,rfl⟩:=ho
  exact ⟨ρ x,rfl,he x a h1,trivial⟩
 | pick c a b =>
  simp only [oc] at ho
  split at ho
  ·rename_i c' a' b' h1 h2 h3
   cases ho
   have g1:=he _ _ h1
   have g2:=he _ _ h2
   have g3:=he _ _ h3
   simp only [aqP,aqV] at hp ⊢
   generalize AX.ev t c' = y at *
   cases y with
   | bool bb =>
    simp only [RV] at g1
    cases bb with
    | true => exact ⟨ρ a,by simp [execOp,g1,asBool],g2,trivial⟩
    | false => exact ⟨ρ b,by simp [execOp,g1,asBool],g3,trivial⟩
   | _ => exact hp.elim
  ·cases ho
 | load ty a =>
  simp only [oc] at ho
  split at ho
  ·rename_i n ag a' h1 h2 h3
   cases ho
   obtain ⟨v,g1,g2⟩:=lift _ (.load (n + 1) ag a') (d5c (t:=t) hr (Nat.succ_pos n) h1 h2 (he _ _ h3) hp hmm)
   exact ⟨v,g1,g2,trivial⟩
  ·cases ho
 | fieldAddr s a f =>
  simp only [oc] at ho
  split at ho
  ·rename_i off sz ag a' h1 h2
   cases ho
   obtain ⟨v,g1,g2⟩:=lift _ (.faddr off a') (d2j (t:=t) h1 (he _ _ h2) hp)
   exact ⟨v,g1,g2,trivial⟩
  ·cases ho
 | field s a f =>
  simp only [oc] at ho
  split at ho
  ·rename_i off sz ag a' h1 h2
   cases ho
   obtain ⟨v,g1,g2⟩:=lift _ (.field off sz ag a') (d2k (t:=t) h1 (he _ _ h2) hp)
   exact ⟨v,g1,g2,trivial⟩
  ·cases ho
 | indexAddr ty x i =>
  simp only [oc] at ho
  split at ho
  ·rename_i e x' i' h1 h2 h3
   simp only [Option.map_eq_some_iff] at ho
   obtain ⟨sz,h4,rfl⟩:=ho
   obtain ⟨v,g1,g2⟩:=lift _ (.iaddr sz x' i') (d2l (t:=t) hr h1 h4 (he _ _ h2) (he _ _ h3) hp)
   exact ⟨v,g1,g2,trivial⟩
  ·cases ho
 | index ty x i =>
  simp only [oc] at ho
  split at ho
  ·rename_i x' i' h1 h2 h3
   cases ho
   obtain ⟨v,g1,g2⟩:=lift _ (.idxs x' i') (d5d (t:=t) h1 (he _ _ h2) (he _ _ h3) hp)
   exact ⟨v,g1,g2,trivial⟩
  ·cases ho
 | slice ty x lo hi mx =>
  cases mx with
  | some m => simp [oc] at ho
  | none =>
   simp only [oc] at ho
   split at ho
   ·rename_i x' lo' hi' h1 h2 h3 h4
    cases ho
    obtain ⟨l1,l2⟩:=c0p h3 he
    obtain ⟨l3,l4⟩:=c0p h4 he
    simp only [aqP] at hp
    have hstr:∃ s,AX.ev t x' = .str s:=by
     generalize AX.ev t x' = y at hp
     cases y with
     | str s => exact ⟨s,rfl⟩
     | _ => exact hp.2.elim
    obtain ⟨v,g1,g2⟩:=lift (Instr.sliceAt ty (ρ x) (lo.map ρ) (hi.map ρ) none) (.sliceS x' lo' hi') (by
     obtain ⟨v,g1,g2⟩:=d0s (P:=P) (w:=w) h1 (he _ _ h2) l1 l2 l3 l4 hp.1 hstr
     exact ⟨v,by simpa [Instr.sliceAt,run_underlying h1] using g1,g2⟩)
    exact ⟨v,g1,g2,trivial⟩
   ·rename_i e x' lo' hi' h1 h2 h3 h4
    simp only [Option.map_eq_some_iff] at ho
    obtain ⟨sz,h5,rfl⟩:=ho
    obtain ⟨l1,l2⟩:=c0p h3 he
    obtain ⟨l3,l4⟩:=c0p h4 he
    simp only [aqP] at hp
    obtain ⟨v,g1,g2⟩:=lift (Instr.sliceAt ty (ρ x) (lo.map ρ) (hi.map ρ) none) (.slice sz x' lo' hi') (by
     obtain ⟨v,g1,g2⟩:=d2n (P:=P) hr h1 h5 (he _ _ h2) l1 l2 l3 l4 hp
     exact ⟨v,by simpa [Instr.sliceAt,run_underlying h1] using g1,g2⟩)
    exact ⟨v,g1,g2,trivial⟩
   ·cases ho
 | binOp op xt x y yt =>
  simp only [oc] at ho
  split at ho
  ·rename_i x' y' h1 h2
   split at ho
   ·rename_i k hk
    cases ho
    obtain ⟨v,g1,g2⟩:=lift _ (.bin op x' y') (c9k (P:=P) (xt:=xt) (x:=x) (y:=y) (he _ _ h1) (he _ _ h2) hp)
    exact ⟨v,g1,g2,trivial⟩
   ·rename_i hk
    cases ho
    obtain ⟨v,g1,g2⟩:=lift _ (.bin op x' y') (c9k (P:=P) (xt:=xt) (x:=x) (y:=y) (he _ _ h1) (he _ _ h2) hp)
    exact ⟨v,g1,g2,trivial⟩
   ·rename_i hk
    split at ho
    ·cases ho
     obtain ⟨v,g1,g2⟩:=lift _ (.eqB false x' y') (c9j (P:=P) (t:=t) false xt x y hk (he _ _ h1) (he _ _ h2) hp)
     exact ⟨v,g1,g2,trivial⟩
    ·cases ho
     obtain ⟨v,g1,g2⟩:=lift _ (.eqB true x' y') (c9j (P:=P) (t:=t) true xt x y hk (he _ _ h1) (he _ _ h2) hp)
     exact ⟨v,g1,g2,trivial⟩
    ·cases ho
   ·rename_i fs hk
    split at ho
    ·rename_i ks hks
     split at ho
     ·rename_i hcond
      simp only [Bool.and_eq_true,Bool.not_eq_true'] at hcond
      split at ho
      ·cases ho
       obtain ⟨v,g1,g2⟩:=lift _ (.eqs false ks x' y') (c9l (P:=P) (t:=t) false xt x y hk hks hcond.1 hcond.2 (he _ _ h1) (he _ _ h2) hp)
       exact ⟨v,g1,g2,trivial⟩
      ·cases ho
       obtain ⟨v,g1,g2⟩:=lift _ (.eqs true ks x' y') (c9l (P:=P) (t:=t) true xt x y hk hks hcond.1 hcond.2 (he _ _ h1) (he _ _ h2) hp)
       exact ⟨v,g1,g2,trivial⟩
      ·cases ho
     ·cases ho
    ·cases ho
   ·split at ho <;> first | (cases ho; simp [AOp.quiet] at hq; done) | cases ho
   ·cases ho
  ·cases ho
 | unOp op xt x =>
  cases op with
  | not =>
   simp only [oc,Option.map_eq_some_iff] at ho
   obtain ⟨a,h1,rfl⟩:=ho
   obtain ⟨v,g1,g2⟩:=lift _ (.not a) (d8c (P:=P) (t:=t) (he _ _ h1) hp)
   exact ⟨v,g1,g2,trivial⟩
  | neg =>
   simp only [oc,Option.map_eq_some_iff] at ho
   obtain ⟨a,h1,rfl⟩:=ho
   obtain ⟨v,g1,g2⟩:=lift _ (.neg a) (d8d (P:=P) (t:=t) (he _ _ h1) hp)
   exact ⟨v,g1,g2,trivial⟩
  | _ => simp [oc] at ho
 | makeFunc fn first caps =>
  cases fn with
  | func f =>
   simp only [oc] at ho
   split at ho
   ·rename_i hz
    simp only [Option.map_eq_some_iff] at ho
    obtain ⟨a,h1,rfl⟩:=ho
    have hfi:first = #[]:=Array.eq_empty_of_size_eq_zero hz
    subst hfi
    refine ⟨.func (.func f) #[] (caps.map ρ),by simp [execOp,Instr.makeFunc],?_,trivial⟩
    have:=d5f (f:=f) he h1
    rwa [← Array.toList_map,Array.toArray_toList] at this
   ·cases ho
  | _ => simp [oc] at ho
 | extract x i =>
  simp only [oc,Option.map_eq_some_iff] at ho
  obtain ⟨a,h1,rfl⟩:=ho
  obtain ⟨v,g1,g2⟩:=lift _ (.extract i a) (c8j (P:=P) (t:=t) (he _ _ h1) hp)
  exact ⟨v,g1,g2,trivial⟩
 | nilCheck x =>
  simp only [oc,Option.map_eq_some_iff] at ho
  obtain ⟨a,h1,rfl⟩:=ho
  refine ⟨ρ x,?_,he _ _ h1,trivial⟩
  rcases d2o (t:=t) (he _ _ h1) hp with ⟨ad,e⟩ | ⟨f,vs,e⟩ <;> simp [execOp,e]
 | convert s d x =>
  simp only [oc] at ho
  split at ho
  ·rename_i k' k a h1 h2 h3
   cases ho
   obtain ⟨v,g1,g2⟩:=lift _ (.convI k a) (d2m (P:=P) (t:=t) h1 h2 (he _ _ h3) hp)
   exact ⟨v,g1,g2,trivial⟩
  ·split at ho
   ·cases ho; simp [AOp.quiet] at hq
   ·cases ho
  ·cases ho
 | build ty parts =>
  simp only [oc] at ho
  split at ho
  ·rename_i fs z h1 h2
   split at ho
   ·rename_i zero l h3 h4
    split at ho
    ·rename_i h5
     cases ho
     obtain ⟨v,g1,g2⟩:=lift _ (.build zero l) (d2q (P:=P) h1 h2 h3 h4 h5 he hp)
     exact ⟨v,g1,g2,trivial⟩
    ·cases ho
   ·cases ho
  ·cases ho
 | call c =>
  obtain ⟨callee,⟨args⟩,⟨argTypes⟩⟩:=c
  cases callee with
  | value f =>
   simp only [oc] at ho
   cases f with
   | func f =>
    simp only at ho
    split at ho
    ·split at ho
     ·simp only [Option.map_eq_some_iff] at ho
      obtain ⟨a,h1,rfl⟩:=ho
      simp [AOp.quiet] at hq
     ·cases ho
    ·cases ho
   | tmp n =>
    simp only [Option.map_eq_some_iff] at ho
    obtain ⟨a,h1,rfl⟩:=ho
    simp [AOp.quiet] at hq
   | _ => simp at ho
  | invoke r m => simp [oc] at ho
  | builtin b =>
   cases b with
   | len =>
    match args,argTypes,ho with
    | [x],[ty'],ho =>
     simp only [oc] at ho
     split at ho
     ·rename_i e he'
      simp only [Option.map_eq_some_iff] at ho
      obtain ⟨a,h1,rfl⟩:=ho
      obtain ⟨v,g1,g2,g3⟩:=d8e (P:=P) (t:=t) hr he' ty (he _ _ h1) hp
      exact ⟨v,by simp [execOp,resolve,invoke,builtin,g1],g2,g3⟩
     ·rename_i he'
      simp only [Option.map_eq_some_iff] at ho
      obtain ⟨a,h1,rfl⟩:=ho
      obtain ⟨v,g1,g2,g3⟩:=d5e (P:=P) (t:=t) he' ty (he _ _ h1) hp
      exact ⟨v,by simp [execOp,resolve,invoke,builtin,g1],g2,g3⟩
     ·cases ho
    | [],_,ho => simp [oc] at ho
    | _ :: _ :: _,_,ho => simp [oc] at ho
    | [_],[],ho => simp [oc] at ho
    | [_],_ :: _ :: _,ho => simp [oc] at ho
   | max =>
    match args,ho with
    | [x,y],ho =>
     simp only [oc] at ho
     split at ho
     ·rename_i x' y' h1 h2
      cases ho
      obtain ⟨v,g1,g2⟩:=c5v (P:=P) (t:=t) true (he _ _ h1) (he _ _ h2) hp
      simp [Builtin.max_] at g1
      exact ⟨v,by simp [execOp,resolve,invoke,builtin,Builtin.max_,g1],g2,trivial⟩
     ·cases ho
    | [],ho => simp [oc] at ho
    | [_],ho => simp [oc] at ho
    | _ :: _ :: _ :: _,ho => simp [oc] at ho
   | min =>
    match args,ho with
    | [x,y],ho =>
     simp only [oc] at ho
     split at ho
     ·rename_i x' y' h1 h2
      cases ho
      obtain ⟨v,g1,g2⟩:=c5v (P:=P) (t:=t) false (he _ _ h1) (he _ _ h2) hp
      simp [Builtin.min_] at g1
      exact ⟨v,by simp [execOp,resolve,invoke,builtin,Builtin.min_,g1],g2,trivial⟩
     ·cases ho
    | [],ho => simp [oc] at ho
    | [_],ho => simp [oc] at ho
    | _ :: _ :: _ :: _,ho => simp [oc] at ho
   | append =>
    match args,argTypes,ho with
    | [s,x],[ty',u],ho =>
     simp only [oc] at ho
     split at ho
     ·split at ho
      ·split at ho
       ·cases ho; simp [AOp.quiet] at hq
       ·cases ho
      ·cases ho
     ·cases ho
    | [],_,ho => simp [oc] at ho
    | [_],_,ho => simp [oc] at ho
    | _ :: _ :: _ :: _,_,ho => simp [oc] at ho
    | [_,_],[],ho => simp [oc] at ho
    | [_,_],[_],ho => simp [oc] at ho
    | [_,_],_ :: _ :: _ :: _,ho => simp [oc] at ho
   | _ => simp [oc] at ho
 | box ty x =>
  simp only [oc] at ho
  split at ho <;> cases ho
  simp [AOp.quiet] at hq
 | alloc ty =>
  simp only [oc] at ho
  split at ho
  ·split at ho <;> cases ho
   simp [AOp.quiet] at hq
  ·cases ho
 | makeSlice ty n c =>
  simp only [oc] at ho
  split at ho
  ·split at ho
   ·split at ho <;> cases ho
    simp [AOp.quiet] at hq
   ·cases ho
  ·cases ho
 | buildSlice ty n parts =>
  simp only [oc] at ho
  split at ho
  ·split at ho
   ·split at ho <;> cases ho
    simp [AOp.quiet] at hq
   ·cases ho
  ·cases ho
 | store ty a x =>
  simp only [oc] at ho
  split at ho <;> cases ho
  simp [AOp.quiet] at hq
 | _ => simp [oc] at ho
end sound
end Go.R
