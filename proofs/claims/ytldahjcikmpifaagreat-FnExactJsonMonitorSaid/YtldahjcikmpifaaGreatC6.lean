import Derived.Test.YtldahjcikmpifaaGreatC5
set_option linter.all false
namespace Go.R
open Go
section sound
variable {P:Program} {C:Ctx} {σ:Sg} {φ:Nat → List Nat} {h:List y9} {w:World} {t:Nat → AV} {ρ:Operand → Value}
theorem d5d {ty:TypeId} (ht:P.underlying ty = some .string) {av ai:AV} {v u:Value} (hv:RV C σ h w av v) (hi:RV C σ h w ai u)
  (hp:aqP (.idxs (.c av) (.c ai)) (AX.ev t) h):∃ x,(Instr.index ty v u).run P w = .ok x w ∧ RV C σ h w (aqV (.idxs (.c av) (.c ai)) (AX.ev t) h) x:=by
 simp only [aqP,aqV,AX.ev] at hp ⊢
 cases ai with
 | int k n =>
  simp only [RV] at hi
  subst hi
  cases av with
  | str s =>
   simp only at hp ⊢
   simp only [RV] at hv ⊢
   obtain ⟨rfl,hs⟩:=hv
   refine ⟨_,?_,rfl⟩
   have hlt:n.toNat < s.length:=by omega
   have e:(⟨s.toArray⟩:ByteArray)[n.toNat]? = some (s.getD n.toNat 0):=by
    have hsz:n.toNat < (⟨s.toArray⟩:ByteArray).size:=by show n.toNat < s.toArray.size; simpa using hlt
    rw [getElem?_pos (⟨s.toArray⟩:ByteArray) n.toNat hsz]
    show some (s.toArray[n.toNat]'(by simpa using hlt)) = _
    simp [hlt]
   simp [Instr.index,asIntOf,run_underlying ht,hp.1,e]
  | _ => exact hp.elim
 | _ => cases av <;> exact hp.elim
theorem d8c {av:AV} {v:Value} (hv:RV C σ h w av v) (hp:aqP (.not (.c av)) (AX.ev t) h) :
  ∃ x,(Op.unary .not v).run P w = .ok x w ∧ RV C σ h w (aqV (.not (.c av)) (AX.ev t) h) x:=by
 simp only [aqP,aqV,AX.ev] at hp ⊢
 cases av with
 | bool b => simp only [RV] at hv; subst hv; exact ⟨_,rfl,by simp [RV]⟩
 | _ => exact hp.elim
theorem d8d {av:AV} {v:Value} (hv:RV C σ h w av v) (hp:aqP (.neg (.c av)) (AX.ev t) h) :
  ∃ x,(Op.unary .neg v).run P w = .ok x w ∧ RV C σ h w (aqV (.neg (.c av)) (AX.ev t) h) x:=by
 simp only [aqP,aqV,AX.ev] at hp ⊢
 cases av with
 | int k n => simp only [RV] at hv; subst hv; exact ⟨_,rfl,by simp [RV]⟩
 | _ => exact hp.elim
theorem d2m {s d:TypeId} {k k':IntKind} (hs:P.underlying s = some (.int k')) (hd:P.underlying d = some (.int k)) {av:AV} {v:Value} (hv:RV C σ h w av v) (hp:aqP (.convI k (.c av)) (AX.ev t) h) :
  ∃ x,(convert s d v).run P w = .ok x w ∧ RV C σ h w (aqV (.convI k (.c av)) (AX.ev t) h) x:=by
 simp only [aqP,aqV,AX.ev] at hp ⊢
 cases av with
 | int k n =>
  simp only [RV] at hv
  subst hv
  exact ⟨_,by simp [convert,run_underlying hs,run_underlying hd,Conv.intToInt]; rfl,by simp [RV]⟩
 | _ => exact hp.elim
theorem c8j {i:Nat} {av:AV} {v:Value} (hv:RV C σ h w av v) (hp:aqP (.extract i (.c av)) (AX.ev t) h) :
  ∃ x,(Instr.extract v i).run P w = .ok x w ∧ RV C σ h w (aqV (.extract i (.c av)) (AX.ev t) h) x:=by
 simp only [aqP,aqV,AX.ev] at hp ⊢
 cases av with
 | tup as =>
  simp only [RV] at hv
  obtain ⟨vs,rfl,hv⟩:=hv
  obtain ⟨g1,g2⟩:=hv.get hp
  refine ⟨_,?_,g1⟩
  simp only [Array.length_toList] at g2
  simp [Instr.extract,g2]
 | _ => exact hp.elim
theorem d8e (hr:a0b C σ φ h w) {ty e:TypeId} (ht:P.underlying ty = some (.slice e)) {av:AV} {v:Value} (rt:TypeId) (hv:RV C σ h w av v) (hp:aqP (.len (.c av)) (AX.ev t) h) :
  ∃ x,(Builtin.len_ #[ty] rt #[v]).run P w = .ok x w ∧ RV C σ h w (aqV (.len (.c av)) (AX.ev t) h) x ∧ aqF (.len (.c av)) (AX.ev t):=by
 have key:∀ a n c,(Builtin.len_ #[ty] rt #[.slice a n c]).run P w = .ok (.int .i64 n) w:=by
  intro a n c
  simp [Builtin.len_,run_underlying ht,goInt]
 simp only [aqP,aqV,aqF,AX.ev] at hp ⊢
 cases av with
 | lst z l =>
  simp only [RV] at hv ⊢
  obtain ⟨fp,⟨cs,rfl,hrep⟩,hf⟩:=hv
  simp only [Rep] at hrep
  rcases hrep with ⟨rfl,_,a,cap,rfl,h3,_⟩ | ⟨b,off,cap,cur,el,fz,fps,rfl,h2,h3,h4,h5,rfl,h7,h8⟩
  ·exact ⟨_,key _ _ _,by simp,by simp⟩
  ·exact ⟨_,key _ _ _,rfl,Nat.le_trans h2 h3⟩
 | nil => simp only [RV] at hv ⊢; subst hv; exact ⟨_,key _ _ _,rfl,trivial⟩
 | own o lo n =>
  simp only at hp ⊢
  simp only [RV] at hv ⊢
  cases ho:h[o]? with
  | none => simp [ho] at hp
  | some x =>
   cases x with
   | dead => simp [ho] at hp
   | map _ => simp [ho] at hp
   | box k y => simp [ho] at hp
   | row k l =>
    simp only [ho] at hv
    obtain ⟨a,cap,rfl,g1,g2,g3,g4⟩:=hv
    exact ⟨_,key _ _ _,rfl,Nat.le_trans g2 g3⟩
   | rowx k l j el =>
    simp only [ho] at hv
    obtain ⟨a,cap,rfl,g1,g2,g3,g4⟩:=hv
    exact ⟨_,key _ _ _,rfl,Nat.le_trans g2 g3⟩
 | _ => exact hp.elim
theorem d5e {ty:TypeId} (ht:P.underlying ty = some .string) {av:AV} {v:Value} (rt:TypeId) (hv:RV C σ h w av v) (hp:aqP (.lenS (.c av)) (AX.ev t) h) :
  ∃ x,(Builtin.len_ #[ty] rt #[v]).run P w = .ok x w ∧ RV C σ h w (aqV (.lenS (.c av)) (AX.ev t) h) x ∧ aqF (.lenS (.c av)) (AX.ev t):=by
 simp only [aqP,aqV,aqF,AX.ev] at hp ⊢
 cases av with
 | str s =>
  simp only [RV] at hv ⊢
  obtain ⟨rfl,hs⟩:=hv
  refine ⟨.int .i64 s.length,?_,rfl,hs⟩
  have:(⟨s.toArray⟩:ByteArray).size = s.length:=by show s.toArray.size = _; simp
  simp [Builtin.len_,run_underlying ht,goInt,this]
 | _ => exact hp.elim
theorem run_sliceBound {x:Int} {k:IntKind} {y:Nat} {code:BoundsCode} (h0:0 ≤ x) (h1:x ≤ y):(Instr.sliceBound (.int k x) y code).run P w = .ok x.toNat w:=by
 simp [Instr.sliceBound,asIntOf,h0,h1]
theorem b4a {C:Ctx} {σ:Sg} {h:List y9} (isS:Bool) {lo hi:Option AV} {vlo vhi:Option Value} {len cap:Nat} (hlc:len ≤ cap)
  (hlo:∀ a,lo = some a → ∃ v,vlo = some v ∧ RV C σ h w a v) (hlo':lo = none → vlo = none) (hhi:∀ a,hi = some a → ∃ v,vhi = some v ∧ RV C σ h w a v) (hhi':hi = none → vhi = none)
  (hp:d2c (lo.getD (.int .i64 0)) (hi.getD (.int .i64 len)) len) :
  ∃ (k k':IntKind) (a b:Int),lo.getD (.int .i64 0) = .int k a ∧ hi.getD (.int .i64 len) = .int k' b ∧ 0 ≤ a ∧ a ≤ b ∧ b ≤ len ∧
   (Instr.sliceBounds isS len cap vlo vhi none).run P w = .ok (a.toNat,b.toNat,cap) w:=by
 cases hl:lo.getD (.int .i64 0) with
 | int k a =>
  cases hh:hi.getD (.int .i64 len) with
  | int k' b =>
   rw [hl,hh] at hp
   simp only [d2c] at hp
   obtain ⟨h1,h2,h3⟩:=hp
   refine ⟨k,k',a,b,rfl,rfl,h1,h2,h3,?_⟩
   have hb:(∃ v,vhi = some v ∧ v = .int k' b) ∨ (vhi = none ∧ b = len):=by
    cases hi with
    | none => right; simp at hh; exact ⟨hhi' rfl,hh.2.symm⟩
    | some x => left; obtain ⟨v,g1,g2⟩:=hhi x rfl; simp at hh; subst hh; simp only [RV] at g2; exact ⟨v,g1,g2⟩
   have ha:(∃ v,vlo = some v ∧ v = .int k a) ∨ (vlo = none ∧ a = 0):=by
    cases lo with
    | none => right; simp at hl; exact ⟨hlo' rfl,hl.2.symm⟩
    | some x => left; obtain ⟨v,g1,g2⟩:=hlo x rfl; simp at hl; subst hl; simp only [RV] at g2; exact ⟨v,g1,g2⟩
   have e1:b ≤ (cap:Int):=by omega
   have e2:a ≤ (b.toNat:Int):=by omega
   have e3:0 ≤ b:=by omega
   have e4:∀ c:BoundsCode,(Instr.sliceBound (.int k' b) cap c).run P w = .ok b.toNat w:=fun c => run_sliceBound e3 e1
   have e5:∀ c:BoundsCode,(Instr.sliceBound (.int k a) b.toNat c).run P w = .ok a.toNat w:=fun c => run_sliceBound h1 e2
   rcases hb with ⟨_,rfl,rfl⟩ | ⟨rfl,rfl⟩ <;> rcases ha with ⟨_,rfl,rfl⟩ | ⟨rfl,rfl⟩ <;>
    (try simp only [Int.toNat_natCast] at e5) <;> simp [Instr.sliceBounds,e4,e5]
  | _ => rw [hl,hh] at hp; exact hp.elim
 | _ => rw [hl] at hp; exact hp.elim
theorem d0s {ty:TypeId} (ht:P.underlying ty = some .string) {av:AV} {v:Value} {lo hi:Option AV} {vlo vhi:Option Value} (hv:RV C σ h w av v)
  (hlo:∀ a,lo = some a → ∃ v,vlo = some v ∧ RV C σ h w a v) (hlo':lo = none → vlo = none) (hhi:∀ a,hi = some a → ∃ v,vhi = some v ∧ RV C σ h w a v) (hhi':hi = none → vhi = none)
  (hp:c8i av lo hi) (hs:∃ s,av = .str s):∃ x,(Instr.slice ty v vlo vhi none).run P w = .ok x w ∧ RV C σ h w (b4n av lo hi) x:=by
 obtain ⟨s,rfl⟩:=hs
 simp only [RV] at hv
 obtain ⟨rfl,hl⟩:=hv
 simp only [c8i] at hp
 obtain ⟨k,k',a,b,ea,eb,h1,h2,h3,hrun⟩:=b4a (P:=P) (isS:=false) (Nat.le_refl _) hlo hlo' hhi hhi' hp
 have hsz:(⟨s.toArray⟩:ByteArray).size = s.length:=by show s.toArray.size = _; simp
 refine ⟨.string ⟨((s.drop a.toNat).take (b.toNat - a.toNat)).toArray⟩,?_,?_⟩
 ·have e:(⟨s.toArray⟩:ByteArray).extract a.toNat b.toNat = ⟨((s.drop a.toNat).take (b.toNat - a.toNat)).toArray⟩:=by
   apply ByteArray.ext
   rw [ByteArray.data_extract]
   apply Array.toList_inj.1
   simp [List.extract]
  simp [Instr.slice,run_underlying ht,hsz,hrun,e]
 ·have hlen:((s.drop a.toNat).take (b.toNat - a.toNat)).length ≤ maxLen:=by rw [List.length_take,List.length_drop]; omega
  have goal:b4n (.str s) lo hi = .str ((s.drop a.toNat).take (b.toNat - a.toNat)):=by
   cases lo with
   | none =>
    simp at ea
    cases hi with
    | none => simp at eb; simp [b4n,← ea.2,← eb.2]
    | some x => simp at eb; subst eb; simp [b4n,← ea.2]
   | some x =>
    simp at ea
    subst ea
    cases hi with
    | none =>
     simp at eb
     simp only [b4n,← eb.2,Int.toNat_natCast]
     rw [List.take_of_length_le (by rw [List.length_drop]; exact Nat.le_refl _)]
    | some y => simp at eb; subst eb; simp [b4n]
  rw [goal]
  simp only [RV]
  exact ⟨by simp,hlen⟩
theorem d2n (hr:a0b C σ φ h w) {ty e:TypeId} {sz:Nat} (ht:P.underlying ty = some (.slice e)) (hs:isz P e = some sz) {av:AV} {v:Value} {lo hi:Option AV} {vlo vhi:Option Value} (hv:RV C σ h w av v)
  (hlo:∀ a,lo = some a → ∃ v,vlo = some v ∧ RV C σ h w a v) (hlo':lo = none → vlo = none) (hhi:∀ a,hi = some a → ∃ v,vhi = some v ∧ RV C σ h w a v) (hhi':hi = none → vhi = none)
  (hp:c8i av lo hi ∧ d9p h sz av):∃ x,(Instr.slice ty v vlo vhi none).run P w = .ok x w ∧ RV C σ h w (b4n av lo hi) x:=by
 obtain ⟨hp,hz⟩:=hp
 unfold d9p at hz
 have key:∀ (ad:Option Addr) (len cap:Nat) (a b:Int),(Instr.sliceBounds true len cap vlo vhi none).run P w = .ok (a.toNat,b.toNat,cap) w →
   (Instr.slice ty (.slice ad len cap) vlo vhi none).run P w = .ok (.slice (if cap = a.toNat then ad else ad.map (·.add (a.toNat * sz))) (b.toNat - a.toNat) (cap - a.toNat)) w:=by
  intro ad len cap a b hrun
  simp [Instr.slice,run_underlying ht,hrun,run_sizeOf hs]
 cases av with
 | lst z l =>
  simp only at hz
  subst hz
  simp only [c8i] at hp
  simp only [RV] at hv
  obtain ⟨fp,⟨cs,rfl,hrep⟩,hf⟩:=hv
  have goal:∀ (a b:Int) (k k':IntKind),lo.getD (.int .i64 0) = .int k a → hi.getD (.int .i64 l.length) = .int k' b → b4n (.lst z l) lo hi = .lst z ((l.drop a.toNat).take (b.toNat - a.toNat)):=by
   intro a b k k' ea eb
   cases lo with
   | none =>
    simp at ea
    cases hi with
    | none => simp at eb; simp [b4n,← ea.2,← eb.2]
    | some x => simp at eb; subst eb; simp [b4n,← ea.2]
   | some x =>
    simp at ea
    subst ea
    cases hi with
    | none =>
     simp at eb
     simp only [b4n,← eb.2,Int.toNat_natCast]
     rw [List.take_of_length_le (by rw [List.length_drop]; exact Nat.le_refl _)]
    | some y => simp at eb; subst eb; simp [b4n]
  simp only [Rep] at hrep
  rcases hrep with ⟨rfl,rfl,ad,cap,rfl,h3,_⟩ | ⟨b',off,cap,cur,el,fz,fps,rfl,g2,g3,g4,g5,rfl,g7,g8⟩
  ·obtain ⟨k,k',a,b,ea,eb,h1,h2,h3',hrun⟩:=b4a (P:=P) (isS:=true) (cap:=cap) (Nat.zero_le _) hlo hlo' hhi hhi' hp
   refine ⟨_,by simpa [mkV] using key ad 0 cap a b hrun,?_⟩
   rw [goal a b k k' ea eb]
   simp only [RV]
   have hb0:b.toNat - a.toNat = 0:=by simp at h3'; omega
   rw [hb0]
   refine ⟨[],⟨[.slice (if cap = a.toNat then ad else ad.map (·.add (a.toNat * z))) 0 (cap - a.toNat)],by simp [mkV],?_⟩,by simp⟩
   simp only [Rep]
   exact .inl ⟨by simp,by simp,_,_,rfl,by omega,by simp⟩
  ·obtain ⟨k,k',a,b,ea,eb,h1,h2,h3',hrun⟩:=b4a (P:=P) (isS:=true) (cap:=cap) g2 hlo hlo' hhi hhi' hp
   refine ⟨_,by simpa [mkV] using key _ l.length cap a b hrun,?_⟩
   rw [goal a b k k' ea eb]
   simp only [RV]
   by_cases hb0:b.toNat - a.toNat = 0
   ·rw [hb0]
    refine ⟨[],⟨[.slice (if cap = a.toNat then (some ⟨b',off,none⟩) else (some (⟨b',off,none⟩:Addr)).map (·.add (a.toNat * z))) 0 (cap - a.toNat)],by simp [mkV],?_⟩,by simp⟩
    simp only [Rep]
    exact .inl ⟨by simp,by simp,_,_,rfl,by omega,by simp⟩
   ·have hne:cap ≠ a.toNat:=by omega
    rw [if_neg hne]
    obtain ⟨f1,f2,e1,r1⟩:=g8.drop a.toNat
    obtain ⟨f3,f4,e2,r2⟩:=r1.take (b.toNat - a.toNat)
    have hlen:((l.drop a.toNat).take (b.toNat - a.toNat)).length = b.toNat - a.toNat:=by rw [List.length_take,List.length_drop]; omega
    refine ⟨b' :: f3,⟨[.slice (some ⟨b',off + a.toNat * z,none⟩) (b.toNat - a.toNat) (cap - a.toNat)],by simp [mkV,addr_add],?_⟩,?_⟩
    ·simp only [Rep]
     refine .inr ⟨b',off + a.toNat * z,cap - a.toNat,cur,el,fz,f3,by rw [hlen],by rw [hlen]; omega,by omega,g4,by simp,rfl,g7,?_⟩
     rw [List.drop_drop] at r2
     exact r2
    ·intro x hx
     rcases List.mem_cons.1 hx with rfl | hx
     ·exact hf x (by simp)
     ·exact hf x (by simp [e1,e2,hx])
 | nil =>
  simp only [c8i] at hp
  simp only [RV] at hv
  subst hv
  obtain ⟨kk,k',a,b,ea,eb,h1,h2,h3,hrun⟩:=b4a (P:=P) (isS:=true) (len:=0) (cap:=0) (Nat.le_refl _) hlo hlo' hhi hhi' hp
  refine ⟨_,key none 0 0 a b hrun,?_⟩
  have ha:a.toNat = 0:=by simp at h3; omega
  have hb:b.toNat = 0:=by simp at h3; omega
  rw [ha,hb]
  simp [b4n,RV]
 | own o l0 n =>
  simp only at hz
  simp only [c8i] at hp
  simp only [RV] at hv
  cases ho:h[o]? with
  | none => simp [ho] at hz
  | some x =>
   cases x with
   | dead => simp [ho] at hz
   | map _ => simp [ho] at hz
   | box k y => simp [ho] at hz
   | rowx k l j el => simp [ho] at hz
   | row k l =>
    simp only [ho] at hv hz
    subst hz
    obtain ⟨ad,cap,rfl,g1,g2,g3,g4⟩:=hv
    obtain ⟨kk,k',a,b,ea,eb,h1,h2,h3,hrun⟩:=b4a (P:=P) (isS:=true) g2 hlo hlo' hhi hhi' hp
    refine ⟨_,key ad n cap a b hrun,?_⟩
    have goal:b4n (.own o l0 n) lo hi = .own o (l0 + a.toNat) (b.toNat - a.toNat):=by
     cases lo with
     | none =>
      simp at ea
      cases hi with
      | none => simp at eb; simp [b4n,← ea.2,← eb.2]
      | some x => simp at eb; subst eb; simp [b4n,← ea.2]
     | some x =>
      simp at ea
      subst ea
      cases hi with
      | none => simp at eb; simp [b4n,← eb.2]
      | some y => simp at eb; subst eb; simp [b4n]
    rw [goal]
    simp only [RV,ho]
    refine ⟨_,_,rfl,by omega,by omega,by omega,?_⟩
    cases hσ:σ o with
    | none =>
     rw [hσ] at g4
     obtain ⟨rfl,rfl⟩:=g4
     simp
    | some p =>
     obtain ⟨g,c⟩:=p
     rw [hσ] at g4
     simp only
     constructor
     ·by_cases hb0:b.toNat - a.toNat = 0
      ·exact .inl hb0
      ·right
       have hne:cap ≠ a.toNat:=by omega
       rw [if_neg hne,g4.1.resolve_left (by omega)]
       simp [addr_add,Nat.add_mul]
     ·intro hlo0
      have hl0:l0 = 0:=by omega
      have ha0:a.toNat = 0:=by omega
      obtain ⟨e1,e2⟩:=g4.2 hl0
      subst e1 e2
      rw [ha0]
      constructor
      ·split
       ·rfl
       ·simp [addr_add]
      ·omega
 | _ => exact hz.elim
theorem c5v (mx:Bool) {a1 a2:AV} {v1 v2:Value} (h1:RV C σ h w a1 v1) (h2:RV C σ h w a2 v2) (hp:aqP (.mnmx mx (.c a1) (.c a2)) (AX.ev t) h) :
  ∃ x,(match mx with | true => Builtin.max_ #[] 0 #[v1,v2] | false => Builtin.min_ #[] 0 #[v1,v2]).run P w = .ok x w ∧ RV C σ h w (aqV (.mnmx mx (.c a1) (.c a2)) (AX.ev t) h) x:=by
 simp only [aqP,aqV,AX.ev] at hp ⊢
 cases a1 with
 | int k n =>
  cases a2 with
  | int k' n' =>
   simp only [RV] at h1 h2
   subst h1 h2
   simp only at hp
   subst hp
   cases mx with
   | true => exact ⟨.int k (if n' > n then n' else n),by simp [Builtin.max_,Builtin.max2],by simp [RV]⟩
   | false => exact ⟨.int k (if n' < n then n' else n),by simp [Builtin.min_,Builtin.min2],by simp [RV]⟩
  | _ => exact hp.elim
 | _ => cases a2 <;> exact hp.elim
theorem d2o {av:AV} {v:Value} (hv:RV C σ h w av v) (hp:aqP (.nilck (.c av)) (AX.ev t) h) :
  (∃ a,v = .pointer (some a)) ∨ ∃ f vs,v = .func (.func f) #[] vs:=by
 simp only [aqP,AX.ev] at hp
 cases av with
 | iptr el f =>
  simp only [RV] at hv
  obtain ⟨fp,⟨cs,rfl,hrep⟩,hf⟩:=hv
  simp only [Rep] at hrep
  obtain ⟨b,off,n,cur,e,fz,fps,rfl,_⟩:=hrep
  exact .inl ⟨_,rfl⟩
 | fn f caps =>
  simp only [RV] at hv
  obtain ⟨vs,rfl,_⟩:=hv
  exact .inr ⟨_,_,rfl⟩
 | ptr o i f =>
  simp only at hp
  simp only [RV] at hv
  cases ho:h[o]? with
  | none => simp [ho] at hv
  | some x =>
   cases x with
   | dead => simp [ho] at hp
   | map _ => simp [ho] at hp
   | box k y => simp only [ho] at hv; obtain ⟨_,g,c,_,rfl⟩:=hv; exact .inl ⟨_,rfl⟩
   | row k y => simp only [ho] at hv; obtain ⟨_,g,c,_,rfl⟩:=hv; exact .inl ⟨_,rfl⟩
   | rowx k y j el => simp only [ho] at hv; obtain ⟨_,g,c,_,rfl⟩:=hv; exact .inl ⟨_,rfl⟩
 | _ => exact hp.elim
theorem d5f (he:a7b C σ h w t ρ) {f:Nat} {ops:List Operand} {xs:List AX} (hx:cxs ops = some xs) :
  RV C σ h w (aqV (.mkfn f xs) (AX.ev t) h) (.func (.func f) #[] (ops.map ρ).toArray):=by
 simp only [aqV,RV]
 exact ⟨_,rfl,by simpa using he.list hx⟩
theorem d0t (s:List UInt8):(⟨s.toArray⟩:ByteArray).toList = s:=by rw [ByteArray.toList_eq]
theorem d0u (a b:List UInt8):(⟨a.toArray⟩:ByteArray) ++ ⟨b.toArray⟩ = ⟨(a ++ b).toArray⟩:=by
 apply ByteArray.ext
 rw [ByteArray.data_append]
 simp
theorem d5g (a:List UInt8):(⟨a.toArray⟩:ByteArray).size = a.length:=by show a.toArray.size = _; simp
theorem c4w (op:BinOp) (xt:TypeId) (x y:Operand) (k:IntKind) (n:Int) (b:Value):(eqGuard op xt x y (.int k n) b).run P w = .ok () w:=by cases op <;> simp [eqGuard]
theorem b9r (op:BinOp) (xt:TypeId) (x y:Operand) (s:ByteArray) (b:Value):(eqGuard op xt x y (.string s) b).run P w = .ok () w:=by cases op <;> simp [eqGuard]
theorem c2w (op:BinOp) (xt:TypeId) (x y:Operand) (s:Bool) (b:Value):(eqGuard op xt x y (.bool s) b).run P w = .ok () w:=by cases op <;> simp [eqGuard]
theorem e2k (op:BinOp) (xt:TypeId) (k k':IntKind) (n n':Int) (hp:d0r op (.int k n) (.int k' n')) :
  ∃ u,(binOp op xt (.int k n) (.int k' n')).run P w = .ok u w ∧ RV C σ h w (c8h op (.int k n) (.int k' n')) u:=by
 cases op <;> first
  | (exact hp.elim)
  | (simp only [d0r] at hp; subst hp; exact ⟨_,by simp [binOp,Op.intArith]; rfl,by simp [RV,c8h]⟩)
  | (simp only [d0r] at hp; subst hp; exact ⟨_,by simp [binOp,Op.intCmp]; rfl,by simp [RV,c8h]⟩)
  | (simp only [d0r] at hp; obtain ⟨rfl,hp⟩:=hp; exact ⟨_,by simp [binOp,Op.intDiv,hp]; rfl,by simp [RV,c8h]⟩)
  | (simp only [d0r] at hp; exact ⟨_,by simp only [binOp,Op.shift,if_neg (Int.not_lt.2 hp)]; rfl,by simp [RV,c8h]⟩)
theorem e2l (op:BinOp) (xt:TypeId) (s s':List UInt8) (hp:d0r op (.str s) (.str s')) :
    ∃ u,(binOp op xt (.string ⟨s.toArray⟩) (.string ⟨s'.toArray⟩)).run P w = .ok u w ∧ RV C σ h w (c8h op (.str s) (.str s')) u:=by
  cases op <;> first
    | (exact hp.elim)
    | (exact ⟨_,by simp only [binOp,Op.stringOp,d0t]; rfl,by simp [RV,c8h]⟩)
    | (simp only [d0r] at hp
       refine ⟨.string ⟨(s ++ s').toArray⟩,?_,by simp only [RV,c8h]; exact ⟨by simp,by simpa using hp⟩⟩
       have hle:¬ (IntKind.i64.max < ((s.length + s'.length:Nat):Int)):=by
         simp only [maxLen] at hp
         have:IntKind.i64.max = 9223372036854775807:=rfl
         omega
       simp only [binOp,Op.stringOp,d5g,d0u,gt_iff_lt,if_neg hle]
       rfl)
theorem c9j (ng:Bool) (xt:TypeId) (x y:Operand) (hx:P.underlying xt = some .bool) {a1 a2:AV} {v1 v2:Value} (h1:RV C σ h w a1 v1) (h2:RV C σ h w a2 v2) (hp:aqP (.eqB ng (.c a1) (.c a2)) (AX.ev t) h) :
  ∃ u,(do eqGuard (match ng with | true => .neq | false => .eql) xt x y v1 v2; binOp (match ng with | true => .neq | false => .eql) xt v1 v2:Sem Value).run P w = .ok u w ∧ RV C σ h w (aqV (.eqB ng (.c a1) (.c a2)) (AX.ev t) h) u:=by
 simp only [aqP,aqV,AX.ev] at hp ⊢
 cases a1 with
 | bool b =>
  cases a2 with
  | bool b' =>
   simp only [RV] at h1 h2
   subst h1 h2
   have hq:=run_equalIn_bool' (P:=P) w 9999 xt b b' hx
   simp only [Sem.run_bind,c2w,Result.andThen_ok]
   cases ng with
   | true => refine ⟨.bool !(b == b'),?_,by simp [RV]⟩; simp only [binOp]; simp [Op.equal,Op.maxDepth,hq]
   | false => refine ⟨.bool (b == b'),?_,by simp [RV]⟩; simp only [binOp]; simp [Op.equal,Op.maxDepth,hq]
  | _ => exact hp.elim
 | _ => cases a2 <;> exact hp.elim
theorem c9k {op:BinOp} {xt:TypeId} {x y:Operand} {a1 a2:AV} {v1 v2:Value} (h1:RV C σ h w a1 v1) (h2:RV C σ h w a2 v2) (hp:d0r op a1 a2) :
  ∃ u,(do eqGuard op xt x y v1 v2; binOp op xt v1 v2:Sem Value).run P w = .ok u w ∧ RV C σ h w (c8h op a1 a2) u:=by
 cases a1 with
 | int k n =>
  cases a2 with
  | int k' n' =>
   simp only [RV] at h1 h2
   subst h1 h2
   simp only [Sem.run_bind,c4w,Result.andThen_ok]
   exact e2k op xt k k' n n' hp
  | _ => cases op <;> exact hp.elim
 | str s =>
  cases a2 with
  | str s' =>
   simp only [RV] at h1 h2
   obtain ⟨rfl,hs⟩:=h1
   obtain ⟨rfl,hs'⟩:=h2
   simp only [Sem.run_bind,b9r,Result.andThen_ok]
   exact e2l op xt s s' hp
  | _ => cases op <;> exact hp.elim
 | _ => cases op <;> cases a2 <;> exact hp.elim
end sound
end Go.R
