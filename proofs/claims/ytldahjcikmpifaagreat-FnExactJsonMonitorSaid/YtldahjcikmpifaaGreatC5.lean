import Derived.Test.YtldahjcikmpifaaGreatC4
set_option linter.all false
namespace Go.R
open Go
theorem addr_add (b off n:Nat):(⟨b,off,none⟩:Addr).add n = ⟨b,off + n,none⟩:=by unfold Addr.add; split <;> simp_all
section sound
variable {P:Program} {C:Ctx} {σ:Sg} {φ:Nat → List Nat} {h:List y9} {w:World} {t:Nat → AV} {ρ:Operand → Value}
theorem c5s {α:Type} (l:List α) (off n f k:Nat) (hk:f + k ≤ ((l.drop off).take n).length):(((l.drop off).take n).drop f).take k = (l.drop (off + f)).take k:=by
 rw [List.length_take] at hk
 rw [List.drop_take,List.drop_drop,List.take_take,Nat.min_eq_left (by omega)]
theorem c5t {α:Type} (l:List α) (off n f:Nat) (d:α) (hk:f < ((l.drop off).take n).length):((l.drop off).take n).getD f d = l.getD (off + f) d:=by
 rw [List.length_take] at hk
 simp only [List.getD_eq_getElem?_getD,List.getElem?_take,List.getElem?_drop]
 rw [if_pos (by omega)]
theorem c5u {ty:TypeId} {sz:Nat} {ag:Bool} {b off n f:Nat} {cur:Array Value} {e:TypeId} {fz:Nat × Nat} {el:AV} (h0:0 < sz) (hs:isz P ty = some sz) (hd:iag P ty = some ag)
  (hg:w.heap[b]? = some (.cells cur e fz)) (hr:RVs C σ h w el.cells ((cur.toList.drop off).take n)) (hp:ldP el f sz ag) :
  ∃ v,(loadVar ty ⟨b,off + f,none⟩).run P w = .ok v w ∧ RV C σ h w (ldV el f sz ag) v:=by
 obtain ⟨h1,h2,h3⟩:=d2e hr hp
 refine ⟨_,d2d hs hd hg (fun ha => ?_) (fun ha => ?_),?_⟩
 ·have:=h1 ha
  rw [List.length_take,List.length_drop,Array.length_toList] at this
  omega
 ·have:=h2 ha
  rw [List.length_take,List.length_drop,Array.length_toList] at this
  omega
 ·cases ag with
  | true => rw [c5s _ _ _ _ _ (h1 rfl)] at h3; exact h3
  | false => rw [c5t _ _ _ _ _ (h2 rfl)] at h3; exact h3
def b7b (a:AV):AV:=match b9p a with
 | true => a
 | false => .undef
def mask:AV → AV
 | .agg cs => .agg (cs.map b7b)
 | a => b7b a
theorem b7c {a:AV} (h:b9p a = true):b7b a = a:=by unfold b7b; rw [h]
theorem d2f {a:AV} {c:Value} {fp:List Nat} (h1:Rep false w a [c] fp):RV C σ h w (b7b a) c:=by
 cases a <;> simp only [b7b,b9p,RV] <;> simp only [Rep,List.cons.injEq,and_true] at h1
 ·exact h1.1
 ·exact h1.1
 ·exact ⟨h1.1,h1.2.1⟩
 ·exact h1.1
 ·exact h1.1
theorem d2g:∀ (as:List AV) (cs:List Value) (fp:List Nat),a0o false w as cs fp → RVs C σ h w (as.map b7b) cs
 | [],cs,fp,hr => by simp only [a0o] at hr; simp [RVs,hr.1]
 | a :: as,cs,fp,hr => by
  simp only [a0o] at hr
  obtain ⟨c,cs',f1,f2,rfl,hc,h1,h2,rfl⟩:=hr
  simp only [List.map_cons,RVs]
  exact ⟨c,cs',rfl,d2f h1,d2g as cs' f2 h2⟩
theorem d2h (a:AV) (ha:∀ as,a ≠ .agg as):(mask a).cells = [b7b a]:=by
 cases a <;> first | exact absurd rfl (ha _) | rfl
theorem Rep.rvMask {a:AV} {cs:List Value} {fp:List Nat} (hr:Rep false w a cs fp) (ht:∀ as,a ≠ AV.tup as):RVs C σ h w (mask a).cells cs:=by
 cases a with
 | agg as => simp only [Rep] at hr; exact d2g as cs fp hr
 | tup as => exact absurd rfl (ht as)
 | undef => simp only [Rep] at hr
 | skip => simp only [Rep] at hr
 | own _ _ _ => simp only [Rep] at hr
 | ptr _ _ _ => simp only [Rep] at hr
 | _ =>
  obtain ⟨c,rfl,_⟩:=hr.cell rfl
  rw [d2h _ (by intro as he; cases he)]
  simp only [RVs]
  exact ⟨c,[],rfl,d2f hr,rfl⟩
theorem c9i:∀ (as:List AV),as.all b9p = true → as.map b7b = as
 | [],_ => rfl
 | a :: as,h => by
  simp only [List.all_cons,Bool.and_eq_true] at h
  rw [List.map_cons,b7c h.1,c9i as h.2]
theorem e2j {el:AV} {f sz:Nat} {ag:Bool} (hp:ldP el f sz ag) (hh:c2t ag (ldV el f sz ag) = true):ldP (mask el) f sz ag ∧ ldV (mask el) f sz ag = ldV el f sz ag:=by
 cases el with
 | agg as =>
  cases ag with
  | true =>
   simp only [ldP] at hp
   simp only [ldV,c2t] at hh ⊢
   simp only [mask,ldP,List.length_map]
   refine ⟨hp,?_⟩
   rw [← List.map_drop,← List.map_take,c9i _ hh]
  | false =>
   simp only [ldP] at hp
   simp only [ldV,c2t] at hh ⊢
   simp only [mask,ldP,List.length_map]
   refine ⟨hp,?_⟩
   have e1:as.getD f .undef = as[f]:=by simp [hp]
   rw [e1] at hh
   have e2:(as.map b7b).getD f .undef = b7b as[f]:=by simp [hp]
   rw [e1,e2]
   exact b7c hh
 | tup _ => simp [ldP] at hp
 | undef => simp [ldP] at hp
 | skip => simp [ldP] at hp
 | _ =>
  obtain ⟨rfl,rfl⟩:=hp
  simp only [ldV,c2t] at hh
  simp only [mask,b7c hh]
  exact ⟨⟨rfl,rfl⟩,trivial⟩
theorem d5c (hr:a0b C σ φ h w) {ty:TypeId} {sz:Nat} {ag:Bool} (h0:0 < sz) (hs:isz P ty = some sz) (hd:iag P ty = some ag) {av:AV} {v:Value} (hv:RV C σ h w av v)
  (hp:aqP (.load sz ag (.c av)) (AX.ev t) h) (hmm:mmP C.mm (.load sz ag (.c av)) (AX.ev t) h):∃ u,(Instr.loadAt ty v).run P w = .ok u w ∧ RV C σ h w (aqV (.load sz ag (.c av)) (AX.ev t) h) u:=by
 simp only [aqP,aqV,AX.ev] at hp ⊢
 cases av with
 | iptr el f =>
  simp only at hp ⊢
  simp only [RV] at hv
  obtain ⟨fp,⟨cs,rfl,hrep⟩,hf⟩:=hv
  simp only [Rep] at hrep
  obtain ⟨b,off,n,cur,e,fz,fps,rfl,hg,rfl,hl,hel⟩:=hrep
  have hne:∀ as,el ≠ AV.tup as:=by intro as he; subst he; simp [ldP] at hp
  have:=hel.rvCells (C:=C) (σ:=σ) (h:=h) (fun x hx => hf x (by simp [hx])) hne
  obtain ⟨u,h1,h2⟩:=c5u (P:=P) h0 hs hd hg this hp
  exact ⟨u,by simpa [Instr.loadAt,mkV,Instr.sureAddr] using h1,h2⟩
 | ptr o i f =>
  simp only at hp ⊢
  simp only [RV] at hv
  cases ho:h[o]? with
  | none => simp [ho] at hv
  | some x =>
   cases x with
   | dead => simp [ho] at hp
   | map _ => simp [ho] at hp
   | box k y =>
    simp only [ho] at hv hp ⊢
    obtain ⟨rfl,g,c,hσ,rfl⟩:=hv
    obtain ⟨g',cur,e,hσ',hg,hcs,hrv⟩:=hr.obj o _ ho
    rw [hσ] at hσ'
    cases hσ'
    obtain ⟨u,h1,h2⟩:=c5u (P:=P) (off:=0) (n:=cur.size) h0 hs hd hg (by rw [List.drop_zero,List.take_of_length_le (by simp)]; exact hrv) hp
    exact ⟨u,by simpa [Instr.loadAt,Instr.sureAddr] using h1,h2⟩
   | rowx k l j el =>
    simp only [ho] at hv hp ⊢
    obtain ⟨hi,g,c,hσ,rfl⟩:=hv
    obtain ⟨rfl,hp⟩:=hp
    obtain ⟨hk,_,_,g',c',cur,e,f1,f2,k1,k2,k3,k4,k5,k6,k7,k7',k8,k9⟩:=hr.obj o _ ho
    rw [hσ] at k1
    cases k1
    obtain ⟨u,h1,h2⟩:=c5u (P:=P) h0 hs hd k3 k6 hp
    exact ⟨u,by simpa [Instr.loadAt,Instr.sureAddr] using h1,h2⟩
   | row k l =>
    simp only [ho] at hv hp ⊢
    obtain ⟨hi,g,c,hσ,rfl⟩:=hv
    obtain ⟨hk,hob⟩:=hr.obj o _ ho
    rw [hσ] at hob
    obtain ⟨_,cur,e,hg,hcs,hrep,hf⟩:=hob
    obtain ⟨f1,g1,g2,g3⟩:=hrep.get (i:=i) (a:=l.getD i .undef) (by simp [hi])
    have hne:∀ as,l.getD i .undef ≠ AV.tup as:=by intro as he; rw [he] at hp; simp [ldP] at hp
    cases hm:C.mm with
    | false =>
     have:=(Rep.weak _ _ _ g1).rvCells (C:=C) (σ:=σ) (h:=h) (fun x hx => ⟨⟨(hf x (g2 x hx)).1,fun hm' => by rw [hm] at hm'; cases hm'⟩,(hf x (g2 x hx)).2⟩) hne
     obtain ⟨u,h1,h2⟩:=c5u (P:=P) h0 hs hd hg this hp
     exact ⟨u,by simpa [Instr.loadAt,Instr.sureAddr] using h1,h2⟩
    | true =>
     rw [hm] at hmm
     simp only [mmP,mmT,AX.ev,ho] at hmm
     have:=(Rep.weak _ _ _ g1).rvMask (C:=C) (σ:=σ) (h:=h) hne
     obtain ⟨m1,m2⟩:=e2j hp hmm
     obtain ⟨u,h1,h2⟩:=c5u (P:=P) h0 hs hd hg this m1
     rw [m2] at h2
     exact ⟨u,by simpa [Instr.loadAt,Instr.sureAddr] using h1,h2⟩
 | _ => exact hp.elim
theorem d2i {s f off sz:Nat} {ag:Bool} (hf:fld P s f = some (off,sz,ag)) :
  ∃ fs fl,P.underlying s = some (.struct fs) ∧ fs[f]? = some fl ∧ fl.offset = off ∧ isz P fl.type = some sz ∧ iag P fl.type = some ag ∧ sz ≠ 0:=by
 unfold fld at hf
 split at hf
 ·rename_i fs hfs
  split at hf
  ·rename_i fl hfl
   split at hf
   ·rename_i n ag' h1 h2
    simp only [Option.some.injEq,Prod.mk.injEq] at hf
    obtain ⟨rfl,rfl,rfl⟩:=hf
    exact ⟨fs,fl,hfs,hfl,rfl,h1,h2,by simp⟩
   ·cases hf
  ·cases hf
 ·cases hf
theorem d2j {s f off sz:Nat} {ag:Bool} (hf:fld P s f = some (off,sz,ag)) {av:AV} {v:Value} (hv:RV C σ h w av v) (hp:aqP (.faddr off (.c av)) (AX.ev t) h) :
  ∃ u,(Instr.fieldAt s v f).run P w = .ok u w ∧ RV C σ h w (aqV (.faddr off (.c av)) (AX.ev t) h) u:=by
 obtain ⟨fs,fl,h1,h2,rfl,h4,h5,h6⟩:=d2i hf
 have key:∀ a:Addr,v = .pointer (some a) → (Instr.fieldAt s v f).run P w = .ok (.pointer (some (a.add fl.offset))) w:=by
  intro a ha
  subst ha
  simp [Instr.fieldAt,run_underlying h1,h2,Instr.sureAddr,fieldPlace,run_sizeOf h4,h6]
 simp only [aqP,aqV,AX.ev] at hp ⊢
 cases av with
 | iptr el f0 =>
  simp only [RV] at hv ⊢
  obtain ⟨fp,⟨cs,rfl,hrep⟩,hfp⟩:=hv
  simp only [Rep] at hrep
  obtain ⟨b,o,n,cur,e,fz,fps,rfl,hg,rfl,hl,hel⟩:=hrep
  refine ⟨_,key _ rfl,b :: fps,⟨[.pointer (some ⟨b,o + (f0 + fl.offset),none⟩)],?_,?_⟩,hfp⟩
  ·rw [addr_add]; simp [mkV,Nat.add_assoc]
  ·simp only [Rep]
   exact ⟨b,o,n,cur,e,fz,fps,rfl,hg,rfl,hl,hel⟩
 | ptr o i f0 =>
  simp only at hp ⊢
  simp only [RV] at hv ⊢
  cases ho:h[o]? with
  | none => simp [ho] at hv
  | some x =>
   cases x with
   | dead => simp [ho] at hp
   | map _ => simp [ho] at hp
   | box k y =>
    simp only [ho] at hv
    obtain ⟨rfl,g,c,hσ,rfl⟩:=hv
    exact ⟨_,key _ rfl,by simp,g,c,hσ,by rw [addr_add]⟩
   | row k l =>
    simp only [ho] at hv
    obtain ⟨hi,g,c,hσ,rfl⟩:=hv
    exact ⟨_,key _ rfl,hi,g,c,hσ,by rw [addr_add,Nat.add_assoc]⟩
   | rowx k l j el =>
    simp only [ho] at hv
    obtain ⟨hi,g,c,hσ,rfl⟩:=hv
    exact ⟨_,key _ rfl,hi,g,c,hσ,by rw [addr_add,Nat.add_assoc]⟩
 | _ => exact hp.elim
theorem d9q {ty:TypeId} {sz off:Nat} {ag:Bool} {vs:Array Value} (hs:isz P ty = some sz) (hd:iag P ty = some ag) (h1:ag = true → off + sz ≤ vs.toList.length) (h2:ag = false → off < vs.toList.length) :
  (part ty vs off).run P w = .ok (match ag with | true => .agg ((vs.toList.drop off).take sz).toArray | false => vs.toList.getD off Go.undef) w:=by
 cases ag with
 | true =>
  have e:vs.extract off (off + sz) = ((vs.toList.drop off).take sz).toArray:=by
   apply Array.toList_inj.1
   simp [Array.toList_extract,List.extract]
  simp [part,b3w hd,run_sizeOf hs,e]
 | false =>
  have hlt:=h2 rfl
  simp only [Array.length_toList] at hlt
  simp [part,b3w hd,hlt]
theorem d2k {s f off sz:Nat} {ag:Bool} (hf:fld P s f = some (off,sz,ag)) {av:AV} {v:Value} (hv:RV C σ h w av v) (hp:aqP (.field off sz ag (.c av)) (AX.ev t) h) :
  ∃ u,(Instr.field s v f).run P w = .ok u w ∧ RV C σ h w (aqV (.field off sz ag (.c av)) (AX.ev t) h) u:=by
 obtain ⟨fs,fl,h1,h2,rfl,h4,h5,h6⟩:=d2i hf
 simp only [aqP,aqV,AX.ev] at hp ⊢
 cases av with
 | agg as =>
  simp only [RV] at hv
  obtain ⟨vs,rfl,hv⟩:=hv
  obtain ⟨g1,g2,g3⟩:=d2e (el:=.agg as) (by simpa [AV.cells] using hv) hp
  have h7:=d9q (P:=P) (w:=w) h4 h5 g1 g2
  refine ⟨_,?_,g3⟩
  simp only [Instr.field,Sem.run_bind,run_underlying h1,Result.andThen_ok,h2,asAgg,Sem.run_pure]
  rw [h7]
  cases ag <;> rfl
 | _ => exact hp.elim
theorem d2l (hr:a0b C σ φ h w) {ty e:TypeId} {sz:Nat} (ht:P.underlying ty = some (.slice e)) (hs:isz P e = some sz) {av ai:AV} {v u:Value} (hv:RV C σ h w av v) (hi:RV C σ h w ai u)
  (hp:aqP (.iaddr sz (.c av) (.c ai)) (AX.ev t) h):∃ x,(Instr.indexAt ty v u).run P w = .ok x w ∧ RV C σ h w (aqV (.iaddr sz (.c av) (.c ai)) (AX.ev t) h) x:=by
 simp only [aqP,aqV,AX.ev] at hp ⊢
 cases ai with
 | int k n =>
  simp only [RV] at hi
  subst hi
  cases av with
  | lst z l =>
   simp only at hp ⊢
   obtain ⟨hp,rfl⟩:=hp
   have hn:n.toNat < l.length:=by omega
   simp only [RV] at hv ⊢
   obtain ⟨fp,⟨cs,rfl,hrep⟩,hf⟩:=hv
   simp only [Rep] at hrep
   rcases hrep with ⟨h1,_⟩ | ⟨b,off,cap,cur,el,fz,fps,rfl,h2,h3,h4,h5,rfl,h7,h8⟩
   ·subst h1; simp at hn
   ·obtain ⟨f1,g1,g2,g3⟩:=h8.get (i:=n.toNat) (a:=l.getD n.toNat .undef) (by simp [hn])
    rw [List.drop_drop] at g1 g3
    refine ⟨.pointer (some ⟨b,off + n.toNat * z,none⟩),?_,b :: f1,⟨[.pointer (some ⟨b,off + n.toNat * z + 0,none⟩)],by simp [mkV],?_⟩,?_⟩
    ·simp [Instr.indexAt,asIntOf,run_underlying ht,mkV,run_sizeOf hs,hp.1,hp.2,addr_add]
    ·simp only [Rep]
     exact ⟨b,off + n.toNat * z,z,cur,el,fz,f1,rfl,h4,rfl,g3,g1⟩
    ·intro x hx
     rcases List.mem_cons.1 hx with rfl | hx
     ·exact hf x (by simp)
     ·exact hf x (by simp [g2 x hx])
  | own o lo m =>
   simp only at hp ⊢
   obtain ⟨hn,hp⟩:=hp
   simp only [RV] at hv ⊢
   cases ho:h[o]? with
   | none => simp [ho] at hv
   | some x =>
    cases x with
    | dead => simp [ho] at hp
    | map _ => simp [ho] at hp
    | box k y => simp [ho] at hp
    | row k l =>
     simp only [ho] at hv hp ⊢
     subst hp
     obtain ⟨a,cap,rfl,g1,g2,g3,g4⟩:=hv
     cases hσ:σ o with
     | none => rw [hσ] at g4; omega
     | some p =>
      obtain ⟨g,c⟩:=p
      rw [hσ] at g4
      have ha:=g4.1.resolve_left (by omega)
      subst ha
      refine ⟨.pointer (some ⟨g,lo * k + n.toNat * k,none⟩),?_,by omega,g,c,rfl,by rw [Nat.add_mul]; rfl⟩
      simp [Instr.indexAt,asIntOf,run_underlying ht,run_sizeOf hs,hn.1,hn.2,addr_add]
    | rowx k l j el =>
     simp only [ho] at hv hp ⊢
     subst hp
     obtain ⟨a,cap,rfl,g1,g2,g3,g4⟩:=hv
     cases hσ:σ o with
     | none => rw [hσ] at g4; omega
     | some p =>
      obtain ⟨g,c⟩:=p
      rw [hσ] at g4
      have ha:=g4.1.resolve_left (by omega)
      subst ha
      refine ⟨.pointer (some ⟨g,lo * k + n.toNat * k,none⟩),?_,by omega,g,c,rfl,by rw [Nat.add_mul]; rfl⟩
      simp [Instr.indexAt,asIntOf,run_underlying ht,run_sizeOf hs,hn.1,hn.2,addr_add]
  | _ => exact hp.elim
 | _ => cases av <;> exact hp.elim
end sound
end Go.R
