import Derived.Test.YtldahjcikmpifaaGreatC1
set_option linter.all false
namespace Go.R
open Go
inductive y9 where
 | dead
 | box (sz:Nat) (v:AV)
 | row (sz:Nat) (l:List AV)
 | rowx (sz:Nat) (l:List AV) (i:Nat) (el:AV)
 | map (m:List (List UInt8 × AV))
def c3z (m:List (List UInt8 × AV)) (es:Array MapEntry):Prop:=es.toList.map (·.key) = m.map fun p => .string ⟨p.1.toArray⟩
def y9.rw:y9 → Bool
 | .row _ _ => true
 | .rowx _ _ _ _ => true
 | _ => false
structure Ctx where
 base:Nat
 ok:Nat → Prop
 dm:Bool
 fr:Nat → Prop
 mm:Bool:=false
 fz:Bool:=false
def Ctx.mine (C:Ctx) (b:Nat):Prop:=C.base ≤ b ∧ ¬ C.fr b
structure Md where
 d:Bool
 m:Bool
 z:Bool
instance:Coe Bool Md:=⟨fun b => ⟨b,false,false⟩⟩
def Md.nz (d:Md):Md:=⟨d.d,d.m,false⟩
def Ctx.md (C:Ctx):Md:=⟨C.dm,C.mm,C.fz⟩
def Ctx.frz (C:Ctx) (F:Nat → Prop):Ctx:={ C with fr:=F }
def Ctx.imm (C:Ctx) (b:Nat):Prop:=C.ok b ∧ (C.mm = true → ¬ C.mine b)
abbrev Sg:=Nat → Option (Nat × Nat)
def y9.isLive:y9 → Bool
 | .dead => false
 | _ => true
def liveAt (h:List y9) (σ:Sg) (b:Nat):Prop:=∃ o x c,h[o]? = some x ∧ x.isLive = true ∧ σ o = some (b,c)
def b6x (σ:Sg) (o lo n:Nat) (sz len:Nat) (v:Value):Prop :=
 ∃ a cap,v = .slice a n cap ∧ lo + n ≤ len ∧ n ≤ cap ∧ cap ≤ maxLen ∧
  match σ o with
  | none => a = none ∧ cap = 0
  | some (g,c) => (n = 0 ∨ a = some ⟨g,lo * sz,none⟩) ∧ (lo = 0 → a = some ⟨g,0,none⟩ ∧ cap = c)
mutual
def RV (C:Ctx) (σ:Sg) (h:List y9) (w:World):AV → Value → Prop
 | .undef,_ => True
 | .skip,v => v = Go.undef
 | .hdr u _ _,v => v = u
 | .int k n,v => v = .int k n
 | .bool b,v => v = .bool b
 | .str s,v => v = .string ⟨s.toArray⟩ ∧ s.length ≤ maxLen
 | .nil,v => v = .slice none 0 0
 | .lst z l,v => ∃ fp,b2o false w (.lst z l) v fp ∧ ∀ b ∈ fp,C.imm b ∧ ¬ liveAt h σ b
 | .iptr e f,v => ∃ fp,b2o false w (.iptr e f) v fp ∧ ∀ b ∈ fp,C.imm b ∧ ¬ liveAt h σ b
 | .own o lo n,v =>
  match h[o]? with
  | some (.row sz l) => b6x σ o lo n sz l.length v
  | some (.rowx sz l _ _) => b6x σ o lo n sz l.length v
  | some .dead => True
  | _ => False
 | .ptr o i f,v =>
  match h[o]? with
  | some (.row sz l) => i < l.length ∧ ∃ g c,σ o = some (g,c) ∧ v = .pointer (some ⟨g,i * sz + f,none⟩)
  | some (.rowx sz l _ _) => i < l.length ∧ ∃ g c,σ o = some (g,c) ∧ v = .pointer (some ⟨g,i * sz + f,none⟩)
  | some (.box _ _) => i = 0 ∧ ∃ g c,σ o = some (g,c) ∧ v = .pointer (some ⟨g,f,none⟩)
  | some (.map _) => ∃ g c,σ o = some (g,c) ∧ v = .map (some g)
  | some .dead => True
  | none => False
 | .agg as,v => ∃ vs,v = .agg vs ∧ RVs C σ h w as vs.toList
 | .tup as,v => ∃ vs,v = .tuple vs ∧ RVs C σ h w as vs.toList
 | .fn f caps,v => ∃ vs,v = .func (.func f) #[] vs ∧ RVs C σ h w caps vs.toList
def RVs (C:Ctx) (σ:Sg) (h:List y9) (w:World):List AV → List Value → Prop
 | [],vs => vs = []
 | a :: as,vs => ∃ v vs',vs = v :: vs' ∧ RV C σ h w a v ∧ RVs C σ h w as vs'
end
def sameShape:y9 → y9 → Prop
 | .box sz _,.box sz' _ => sz = sz'
 | .row sz l,.row sz' l' => sz = sz' ∧ l.length = l'.length
 | .row sz l,.rowx sz' l' _ _ => sz = sz' ∧ l.length = l'.length
 | .rowx sz l _ _,.row sz' l' => sz = sz' ∧ l.length = l'.length
 | .rowx sz l _ _,.rowx sz' l' _ _ => sz = sz' ∧ l.length = l'.length
 | .map _,.map _ => True
 | _,_ => False
structure Ev (σ:Sg) (h:List y9) (w:World) (σ':Sg) (h':List y9) (w':World):Prop where
 obj:∀ (o:Nat) x,h[o]? = some x → x.isLive = true → h'[o]? = some y9.dead ∨ (σ' o = σ o ∧ ∃ x',h'[o]? = some x' ∧ sameShape x x')
 gone:∀ o:Nat,h[o]? = some y9.dead → h'[o]? = some y9.dead
 live:∀ b,b < w.heap.size → liveAt h' σ' b → liveAt h σ b
 blk:∀ b,b < w.heap.size → ¬ liveAt h σ b → w'.heap[b]? = w.heap[b]?
 size:w.heap.size ≤ w'.heap.size
theorem sameShape.refl {x:y9} (h:x.isLive = true):sameShape x x:=by cases x <;> simp_all [sameShape,y9.isLive]
theorem sameShape.live {x y:y9} (h:sameShape x y):y.isLive = true:=by cases x <;> cases y <;> simp_all [sameShape,y9.isLive]
theorem sameShape.trans {x y z:y9} (h:sameShape x y) (h':sameShape y z):sameShape x z:=by
 cases x <;> cases y <;> cases z <;> simp_all [sameShape]
theorem Ev.refl (σ:Sg) (h:List y9) (w:World):Ev σ h w σ h w :=
 ⟨fun _ x ho hx => .inr ⟨rfl,x,ho,sameShape.refl hx⟩,fun _ h => h,fun _ _ h => h,fun _ _ _ => rfl,Nat.le_refl _⟩
theorem Ev.trans {σ σ' σ'':Sg} {h h' h'':List y9} {w w' w'':World} (a:Ev σ h w σ' h' w') (b:Ev σ' h' w' σ'' h'' w''):Ev σ h w σ'' h'' w'' where
 obj o x ho hx:=by
  rcases a.obj o x ho hx with hd | ⟨e,x',hx',hs⟩
  ·exact .inl (b.gone o hd)
  ·rcases b.obj o x' hx' hs.live with hd | ⟨e',x'',hx'',hs'⟩
   ·exact .inl hd
   ·exact .inr ⟨e'.trans e,x'',hx'',hs.trans hs'⟩
 gone o ho:=b.gone o (a.gone o ho)
 live c hc hl:=a.live c hc (b.live c (Nat.lt_of_lt_of_le hc a.size) hl)
 blk c hc hl:=(b.blk c (Nat.lt_of_lt_of_le hc a.size) (fun hl' => hl (a.live c hc hl'))).trans (a.blk c hc hl)
 size:=Nat.le_trans a.size b.size
section mono
variable {C:Ctx} {σ σ':Sg} {h h':List y9} {w w':World}
theorem Ev.imm {K:Nat → Prop} (ev:Ev σ h w σ' h' w') {m:Bool} {a:AV} {cs:List Value} {fp:List Nat} (hr:Rep m w a cs fp) (hf:∀ b ∈ fp,K b ∧ ¬ liveAt h σ b) :
  Rep m w' a cs fp ∧ ∀ b ∈ fp,K b ∧ ¬ liveAt h' σ' b:=by
 have hlt:=Rep.lt a cs fp hr
 exact ⟨Rep.world a cs fp (fun b hb => ev.blk b (hlt b hb) (hf b hb).2) hr,fun b hb => ⟨(hf b hb).1,fun hl => (hf b hb).2 (ev.live b (hlt b hb) hl)⟩⟩
theorem Ev.immS {K:Nat → Prop} (ev:Ev σ h w σ' h' w') {m:Bool} {sz:Nat} {a:List AV} {cs:List Value} {fp:List Nat} (hr:a0n m w sz a cs fp) (hf:∀ b ∈ fp,K b ∧ ¬ liveAt h σ b) :
  a0n m w' sz a cs fp ∧ ∀ b ∈ fp,K b ∧ ¬ liveAt h' σ' b:=by
 have hlt:=a0n.lt a cs fp hr
 exact ⟨a0n.world a cs fp (fun b hb => ev.blk b (hlt b hb) (hf b hb).2) hr,fun b hb => ⟨(hf b hb).1,fun hl => (hf b hb).2 (ev.live b (hlt b hb) hl)⟩⟩
mutual
theorem Ev.rv (ev:Ev σ h w σ' h' w'):∀ (a:AV) (v:Value),RV C σ h w a v → RV C σ' h' w' a v
 | .undef,_,_ => by simp only [RV]
 | .skip,_,hr => by simpa only [RV] using hr
 | .hdr _ _ _,_,hr => by simpa only [RV] using hr
 | .int _ _,_,hr => by simpa only [RV] using hr
 | .bool _,_,hr => by simpa only [RV] using hr
 | .str _,_,hr => by simpa only [RV] using hr
 | .nil,_,hr => by simpa only [RV] using hr
 | .lst z l,v,hr => by
  simp only [RV] at hr ⊢
  obtain ⟨fp,⟨cs,e,h1⟩,h2⟩:=hr
  obtain ⟨g1,g2⟩:=ev.imm h1 h2
  exact ⟨fp,⟨cs,e,g1⟩,g2⟩
 | .iptr l f,v,hr => by
  simp only [RV] at hr ⊢
  obtain ⟨fp,⟨cs,e,h1⟩,h2⟩:=hr
  obtain ⟨g1,g2⟩:=ev.imm h1 h2
  exact ⟨fp,⟨cs,e,g1⟩,g2⟩
 | .own o lo n,v,hr => by
  simp only [RV] at hr ⊢
  cases ho:h[o]? with
  | none => simp [ho] at hr
  | some x =>
   cases x with
   | dead => simp [ev.gone o ho]
   | map _ => simp [ho] at hr
   | box sz y => simp [ho] at hr
   | row sz l =>
    simp only [ho] at hr
    rcases ev.obj o _ ho rfl with hd | ⟨e,x',hx',hs⟩
    ·simp [hd]
    ·cases x' with
     | dead => simp [sameShape] at hs
     | map _ => simp [sameShape] at hs
     | box _ _ => simp [sameShape] at hs
     | row sz' l' =>
      simp only [sameShape] at hs
      simp only [hx',← hs.1,← hs.2]
      unfold b6x at *
      rw [e]; exact hr
     | rowx sz' l' i' el' =>
      simp only [sameShape] at hs
      simp only [hx',← hs.1,← hs.2]
      unfold b6x at *
      rw [e]; exact hr
   | rowx sz l j el =>
    simp only [ho] at hr
    rcases ev.obj o _ ho rfl with hd | ⟨e,x',hx',hs⟩
    ·simp [hd]
    ·cases x' with
     | dead => simp [sameShape] at hs
     | map _ => simp [sameShape] at hs
     | box _ _ => simp [sameShape] at hs
     | row sz' l' =>
      simp only [sameShape] at hs
      simp only [hx',← hs.1,← hs.2]
      unfold b6x at *
      rw [e]; exact hr
     | rowx sz' l' i' el' =>
      simp only [sameShape] at hs
      simp only [hx',← hs.1,← hs.2]
      unfold b6x at *
      rw [e]; exact hr
 | .ptr o i f,v,hr => by
  simp only [RV] at hr ⊢
  cases ho:h[o]? with
  | none => simp [ho] at hr
  | some x =>
   cases x with
   | dead => simp [ev.gone o ho]
   | map _ =>
    simp only [ho] at hr
    rcases ev.obj o _ ho rfl with hd | ⟨e,x',hx',hs⟩
    ·simp [hd]
    ·cases x' with
     | map _ => simp only [hx']; rw [e]; exact hr
     | _ => simp [sameShape] at hs
   | box sz y =>
    simp only [ho] at hr
    rcases ev.obj o _ ho rfl with hd | ⟨e,x',hx',hs⟩
    ·simp [hd]
    ·cases x' with
     | dead => simp [sameShape] at hs
     | map _ => simp [sameShape] at hs
     | row _ _ => simp [sameShape] at hs
     | rowx _ _ _ _ => simp [sameShape] at hs
     | box sz' y' => simp only [hx']; rw [e]; exact hr
   | row sz l =>
    simp only [ho] at hr
    rcases ev.obj o _ ho rfl with hd | ⟨e,x',hx',hs⟩
    ·simp [hd]
    ·cases x' with
     | dead => simp [sameShape] at hs
     | map _ => simp [sameShape] at hs
     | box _ _ => simp [sameShape] at hs
     | row sz' l' =>
      simp only [sameShape] at hs
      simp only [hx',← hs.1,← hs.2]
      rw [e]; exact hr
     | rowx sz' l' i' el' =>
      simp only [sameShape] at hs
      simp only [hx',← hs.1,← hs.2]
      rw [e]; exact hr
   | rowx sz l j el =>
    simp only [ho] at hr
    rcases ev.obj o _ ho rfl with hd | ⟨e,x',hx',hs⟩
    ·simp [hd]
    ·cases x' with
     | dead => simp [sameShape] at hs
     | map _ => simp [sameShape] at hs
     | box _ _ => simp [sameShape] at hs
     | row sz' l' =>
      simp only [sameShape] at hs
      simp only [hx',← hs.1,← hs.2]
      rw [e]; exact hr
     | rowx sz' l' i' el' =>
      simp only [sameShape] at hs
      simp only [hx',← hs.1,← hs.2]
      rw [e]; exact hr
 | .agg as,v,hr => by
  simp only [RV] at hr ⊢
  obtain ⟨vs,e,h1⟩:=hr
  exact ⟨vs,e,Ev.rvs ev as _ h1⟩
 | .tup as,v,hr => by
  simp only [RV] at hr ⊢
  obtain ⟨vs,e,h1⟩:=hr
  exact ⟨vs,e,Ev.rvs ev as _ h1⟩
 | .fn f caps,v,hr => by
  simp only [RV] at hr ⊢
  obtain ⟨vs,e,h1⟩:=hr
  exact ⟨vs,e,Ev.rvs ev caps _ h1⟩
theorem Ev.rvs (ev:Ev σ h w σ' h' w'):∀ (as:List AV) (vs:List Value),RVs C σ h w as vs → RVs C σ' h' w' as vs
 | [],_,hr => by simpa only [RVs] using hr
 | a :: as,vs,hr => by
  simp only [RVs] at hr ⊢
  obtain ⟨v,vs',e,h1,h2⟩:=hr
  exact ⟨v,vs',e,Ev.rv ev a v h1,Ev.rvs ev as vs' h2⟩
end
structure EvX (C:Ctx) (σ:Sg) (h:List y9) (w:World) (σ':Sg) (h':List y9) (w':World):Prop where
 obj:∀ (o:Nat) x,h[o]? = some x → x.isLive = true → h'[o]? = some y9.dead ∨ (σ' o = σ o ∧ ∃ x',h'[o]? = some x' ∧ sameShape x x')
 gone:∀ o:Nat,h[o]? = some y9.dead → h'[o]? = some y9.dead
 live:∀ b,b < w.heap.size → liveAt h' σ' b → liveAt h σ b ∨ (C.mm = true ∧ C.mine b)
 blk:∀ b,b < w.heap.size → ¬ liveAt h σ b → (C.mm = true → ¬ C.mine b) → w'.heap[b]? = w.heap[b]?
 size:w.heap.size ≤ w'.heap.size
theorem Ev.x (ev:Ev σ h w σ' h' w'):EvX C σ h w σ' h' w':=⟨ev.obj,ev.gone,fun b hb hl => .inl (ev.live b hb hl),fun b hb hl _ => ev.blk b hb hl,ev.size⟩
theorem EvX.ev (ev:EvX C σ h w σ' h' w') (hm:C.mm = false):Ev σ h w σ' h' w':=⟨ev.obj,ev.gone,fun b hb hl => (ev.live b hb hl).resolve_right (fun h => by rw [hm] at h; cases h.1),fun b hb hl => ev.blk b hb hl (fun h => by rw [hm] at h; cases h),ev.size⟩
theorem EvX.refl (σ:Sg) (h:List y9) (w:World):EvX C σ h w σ h w:=(Ev.refl σ h w).x
theorem EvX.trans {σ'':Sg} {h'':List y9} {w'':World} (a:EvX C σ h w σ' h' w') (b:EvX C σ' h' w' σ'' h'' w''):EvX C σ h w σ'' h'' w'' where
 obj o x ho hx:=by
  rcases a.obj o x ho hx with hd | ⟨e,x',hx',hs⟩
  ·exact .inl (b.gone o hd)
  ·rcases b.obj o x' hx' hs.live with hd | ⟨e',x'',hx'',hs'⟩
   ·exact .inl hd
   ·exact .inr ⟨e'.trans e,x'',hx'',hs.trans hs'⟩
 gone o ho:=b.gone o (a.gone o ho)
 live c hc hl:=(b.live c (Nat.lt_of_lt_of_le hc a.size) hl).elim (a.live c hc) .inr
 blk c hc hl hm:=(b.blk c (Nat.lt_of_lt_of_le hc a.size) (fun hl' => (a.live c hc hl').elim hl (fun h => hm h.1 h.2)) hm).trans (a.blk c hc hl hm)
 size:=Nat.le_trans a.size b.size
theorem EvX.imm (ev:EvX C σ h w σ' h' w') {m:Bool} {a:AV} {cs:List Value} {fp:List Nat} (hr:Rep m w a cs fp) (hf:∀ b ∈ fp,C.imm b ∧ ¬ liveAt h σ b) :
  Rep m w' a cs fp ∧ ∀ b ∈ fp,C.imm b ∧ ¬ liveAt h' σ' b:=by
 have hlt:=Rep.lt a cs fp hr
 exact ⟨Rep.world a cs fp (fun b hb => ev.blk b (hlt b hb) (hf b hb).2 (hf b hb).1.2) hr,fun b hb => ⟨(hf b hb).1,fun hl => (ev.live b (hlt b hb) hl).elim (hf b hb).2 (fun h => (hf b hb).1.2 h.1 h.2)⟩⟩
mutual
theorem EvX.rv (ev:EvX C σ h w σ' h' w'):∀ (a:AV) (v:Value),RV C σ h w a v → RV C σ' h' w' a v
 | .undef,_,_ => by simp only [RV]
 | .skip,_,hr => by simpa only [RV] using hr
 | .hdr _ _ _,_,hr => by simpa only [RV] using hr
 | .int _ _,_,hr => by simpa only [RV] using hr
 | .bool _,_,hr => by simpa only [RV] using hr
 | .str _,_,hr => by simpa only [RV] using hr
 | .nil,_,hr => by simpa only [RV] using hr
 | .lst z l,v,hr => by
  simp only [RV] at hr ⊢
  obtain ⟨fp,⟨cs,e,h1⟩,h2⟩:=hr
  obtain ⟨g1,g2⟩:=ev.imm h1 h2
  exact ⟨fp,⟨cs,e,g1⟩,g2⟩
 | .iptr l f,v,hr => by
  simp only [RV] at hr ⊢
  obtain ⟨fp,⟨cs,e,h1⟩,h2⟩:=hr
  obtain ⟨g1,g2⟩:=ev.imm h1 h2
  exact ⟨fp,⟨cs,e,g1⟩,g2⟩
 | .own o lo n,v,hr => by
  simp only [RV] at hr ⊢
  cases ho:h[o]? with
  | none => simp [ho] at hr
  | some x =>
   cases x with
   | dead => simp [ev.gone o ho]
   | map _ => simp [ho] at hr
   | box sz y => simp [ho] at hr
   | row sz l =>
    simp only [ho] at hr
    rcases ev.obj o _ ho rfl with hd | ⟨e,x',hx',hs⟩
    ·simp [hd]
    ·cases x' with
     | dead => simp [sameShape] at hs
     | map _ => simp [sameShape] at hs
     | box _ _ => simp [sameShape] at hs
     | row sz' l' =>
      simp only [sameShape] at hs
      simp only [hx',← hs.1,← hs.2]
      unfold b6x at *
      rw [e]; exact hr
     | rowx sz' l' i' el' =>
      simp only [sameShape] at hs
      simp only [hx',← hs.1,← hs.2]
      unfold b6x at *
      rw [e]; exact hr
   | rowx sz l j el =>
    simp only [ho] at hr
    rcases ev.obj o _ ho rfl with hd | ⟨e,x',hx',hs⟩
    ·simp [hd]
    ·cases x' with
     | dead => simp [sameShape] at hs
     | map _ => simp [sameShape] at hs
     | box _ _ => simp [sameShape] at hs
     | row sz' l' =>
      simp only [sameShape] at hs
      simp only [hx',← hs.1,← hs.2]
      unfold b6x at *
      rw [e]; exact hr
     | rowx sz' l' i' el' =>
      simp only [sameShape] at hs
      simp only [hx',← hs.1,← hs.2]
      unfold b6x at *
      rw [e]; exact hr
 | .ptr o i f,v,hr => by
  simp only [RV] at hr ⊢
  cases ho:h[o]? with
  | none => simp [ho] at hr
  | some x =>
   cases x with
   | dead => simp [ev.gone o ho]
   | map _ =>
    simp only [ho] at hr
    rcases ev.obj o _ ho rfl with hd | ⟨e,x',hx',hs⟩
    ·simp [hd]
    ·cases x' with
     | map _ => simp only [hx']; rw [e]; exact hr
     | _ => simp [sameShape] at hs
   | box sz y =>
    simp only [ho] at hr
    rcases ev.obj o _ ho rfl with hd | ⟨e,x',hx',hs⟩
    ·simp [hd]
    ·cases x' with
     | dead => simp [sameShape] at hs
     | map _ => simp [sameShape] at hs
     | row _ _ => simp [sameShape] at hs
     | rowx _ _ _ _ => simp [sameShape] at hs
     | box sz' y' => simp only [hx']; rw [e]; exact hr
   | row sz l =>
    simp only [ho] at hr
    rcases ev.obj o _ ho rfl with hd | ⟨e,x',hx',hs⟩
    ·simp [hd]
    ·cases x' with
     | dead => simp [sameShape] at hs
     | map _ => simp [sameShape] at hs
     | box _ _ => simp [sameShape] at hs
     | row sz' l' =>
      simp only [sameShape] at hs
      simp only [hx',← hs.1,← hs.2]
      rw [e]; exact hr
     | rowx sz' l' i' el' =>
      simp only [sameShape] at hs
      simp only [hx',← hs.1,← hs.2]
      rw [e]; exact hr
   | rowx sz l j el =>
    simp only [ho] at hr
    rcases ev.obj o _ ho rfl with hd | ⟨e,x',hx',hs⟩
    ·simp [hd]
    ·cases x' with
     | dead => simp [sameShape] at hs
     | map _ => simp [sameShape] at hs
     | box _ _ => simp [sameShape] at hs
     | row sz' l' =>
      simp only [sameShape] at hs
      simp only [hx',← hs.1,← hs.2]
      rw [e]; exact hr
     | rowx sz' l' i' el' =>
      simp only [sameShape] at hs
      simp only [hx',← hs.1,← hs.2]
      rw [e]; exact hr
 | .agg as,v,hr => by
  simp only [RV] at hr ⊢
  obtain ⟨vs,e,h1⟩:=hr
  exact ⟨vs,e,EvX.rvs ev as _ h1⟩
 | .tup as,v,hr => by
  simp only [RV] at hr ⊢
  obtain ⟨vs,e,h1⟩:=hr
  exact ⟨vs,e,EvX.rvs ev as _ h1⟩
 | .fn f caps,v,hr => by
  simp only [RV] at hr ⊢
  obtain ⟨vs,e,h1⟩:=hr
  exact ⟨vs,e,EvX.rvs ev caps _ h1⟩
theorem EvX.rvs (ev:EvX C σ h w σ' h' w'):∀ (as:List AV) (vs:List Value),RVs C σ h w as vs → RVs C σ' h' w' as vs
 | [],_,hr => by simpa only [RVs] using hr
 | a :: as,vs,hr => by
  simp only [RVs] at hr ⊢
  obtain ⟨v,vs',e,h1,h2⟩:=hr
  exact ⟨v,vs',e,EvX.rv ev a v h1,EvX.rvs ev as vs' h2⟩
end
end mono
def AV.cells:AV → List AV
 | .agg cs => cs
 | v => [v]
def b2b (C:Ctx) (σ:Sg) (φ:Nat → List Nat) (h:List y9) (w:World) (o:Nat):y9 → Prop
 | .dead => True
 | .box sz v => ∃ g cur e,σ o = some (g,1) ∧ w.heap[g]? = some (.cells cur e (0,0)) ∧ cur.size = sz ∧ RVs C σ h w v.cells cur.toList
 | .map m => ∃ g es clock,σ o = some (g,1) ∧ w.heap[g]? = some (.map es clock) ∧ c3z m es ∧ RVs C σ h w (m.map Prod.snd) (es.toList.map (·.val))
 | .row sz l => 0 < sz ∧
  match σ o with
  | none => l = [] ∧ φ o = []
  | some (g,c) => c ≤ maxLen ∧ ∃ cur e,w.heap[g]? = some (.cells cur e (0,0)) ∧ cur.size = c * sz ∧ a0n C.dm w sz l cur.toList (φ o) ∧ ∀ b ∈ φ o,C.ok b ∧ ¬ liveAt h σ b
 | .rowx sz l i el => 0 < sz ∧ (C.mm = true ∧ C.dm = true) ∧ i < l.length ∧ ∃ g c cur e f1 f2,σ o = some (g,c) ∧ c ≤ maxLen ∧ w.heap[g]? = some (.cells cur e (0,0)) ∧ cur.size = c * sz ∧
   a0n C.dm w sz (l.take i) cur.toList f1 ∧ RVs C σ h w el.cells ((cur.toList.drop (i * sz)).take sz) ∧ a0n C.dm w sz (l.drop (i + 1)) (cur.toList.drop ((i + 1) * sz)) f2 ∧ el.cells.length = sz ∧ φ o = f1 ++ f2 ∧
   ∀ b ∈ φ o,C.ok b ∧ ¬ liveAt h σ b
structure a0b (C:Ctx) (σ:Sg) (φ:Nat → List Nat) (h:List y9) (w:World):Prop where
 obj:∀ o x,h[o]? = some x → b2b C σ φ h w o x
 inj:∀ o o' x x' b c c',h[o]? = some x → x.isLive = true → h[o']? = some x' → x'.isLive = true → σ o = some (b,c) → σ o' = some (b,c') → o = o'
 base:∀ o x b c,h[o]? = some x → x.isLive = true → σ o = some (b,c) → C.mine b
 deepx:C.dm = true → ∀ o x,h[o]? = some x → x.rw = true → (φ o).Nodup ∧ (∀ b ∈ φ o,C.mine b) ∧ ∀ o' x',h[o']? = some x' → x'.rw = true → o' ≠ o → ∀ b ∈ φ o,b ∉ φ o'
theorem a0b.deep {C:Ctx} {σ:Sg} {φ:Nat → List Nat} {h:List y9} {w:World} (hr:a0b C σ φ h w) (hdm:C.dm = true) (o sz:Nat) (l:List AV) (ho:h[o]? = some (.row sz l)) :
  (φ o).Nodup ∧ (∀ b ∈ φ o,C.mine b) ∧ ∀ o' x',h[o']? = some x' → x'.rw = true → o' ≠ o → ∀ b ∈ φ o,b ∉ φ o':=hr.deepx hdm o _ ho rfl
theorem y9.rw_live {x:y9} (h:x.rw = true):x.isLive = true:=by cases x <;> simp_all [y9.rw,y9.isLive]
theorem sameShape.rw {x y:y9} (h:sameShape x y):y.rw = x.rw:=by cases x <;> cases y <;> simp_all [sameShape,y9.rw]
theorem b2b.rowx_ev {C:Ctx} {σ σ':Sg} {φ φ':Nat → List Nat} {h h':List y9} {w w':World} {o sz i:Nat} {l:List AV} {el:AV} (ev:Ev σ h w σ' h' w') (hs:σ' o = σ o) (hp:φ' o = φ o)
  (hblk:∀ g c,σ o = some (g,c) → w'.heap[g]? = w.heap[g]?) (hob:b2b C σ φ h w o (.rowx sz l i el)):b2b C σ' φ' h' w' o (.rowx sz l i el):=by
 obtain ⟨h0,hm,hi,g,c,cur,e,f1,f2,k1,k2,k3,k4,k5,k6,k7,k7',k8,k9⟩:=hob
 have s1:∀ b ∈ f1,C.ok b ∧ ¬ liveAt h σ b:=fun b hb => k9 b (by rw [k8]; simp [hb])
 have s2:∀ b ∈ f2,C.ok b ∧ ¬ liveAt h σ b:=fun b hb => k9 b (by rw [k8]; simp [hb])
 obtain ⟨a1,a2⟩:=ev.immS k5 s1
 obtain ⟨b1,b2⟩:=ev.immS k7 s2
 refine ⟨h0,hm,hi,g,c,cur,e,f1,f2,by rw [hs]; exact k1,k2,by rw [hblk g c k1]; exact k3,k4,a1,ev.rvs _ _ k6,b1,k7',by rw [hp]; exact k8,?_⟩
 intro b hb
 rw [hp,k8] at hb
 rcases List.mem_append.1 hb with hb | hb
 ·exact a2 b hb
 ·exact b2 b hb
theorem a0b.lt {C:Ctx} {σ:Sg} {φ:Nat → List Nat} {h:List y9} {w:World} (hr:a0b C σ φ h w) {o:Nat} {x:y9} {b c:Nat} (ho:h[o]? = some x) (hx:x.isLive = true) (hs:σ o = some (b,c)):b < w.heap.size:=by
 have:=hr.obj o x ho
 cases x with
 | dead => simp [y9.isLive] at hx
 | box sz v =>
  obtain ⟨g,cur,e,h1,h2,_⟩:=this
  rw [hs] at h1
  cases h1
  exact lt_of_heap h2
 | map m =>
  obtain ⟨g,es,ck,h1,h2,_⟩:=this
  rw [hs] at h1
  cases h1
  exact lt_of_heap h2
 | row sz l =>
  obtain ⟨_,this⟩:=this
  rw [hs] at this
  obtain ⟨_,cur,e,h2,_⟩:=this
  exact lt_of_heap h2
 | rowx sz l i el =>
  obtain ⟨_,_,_,g,c',cur,e,f1,f2,k1,_,k3,_⟩:=this
  rw [hs] at k1
  cases k1
  exact lt_of_heap k3
theorem a0b.liveLt {C:Ctx} {σ:Sg} {φ:Nat → List Nat} {h:List y9} {w:World} (hr:a0b C σ φ h w) {b:Nat} (hl:liveAt h σ b):b < w.heap.size:=by
 obtain ⟨o,x,c,h1,h2,h3⟩:=hl
 exact hr.lt h1 h2 h3
structure b2p (w w':World):Prop where
 size:w.heap.size ≤ w'.heap.size
 blk:∀ b,b < w.heap.size → w'.heap[b]? = w.heap[b]?
theorem b2p.refl (w:World):b2p w w:=⟨Nat.le_refl _,fun _ _ => rfl⟩
theorem b2p.trans {a b c:World} (h:b2p a b) (k:b2p b c):b2p a c:=⟨Nat.le_trans h.size k.size,fun i hi => (k.blk i (Nat.lt_of_lt_of_le hi h.size)).trans (h.blk i hi)⟩
theorem b2p.drew (w:World):b2p w w.drew:=⟨Nat.le_refl _,fun _ _ => rfl⟩
theorem b2p.ev {σ:Sg} {h:List y9} {w w':World} (g:b2p w w'):Ev σ h w σ h w' :=
 ⟨fun _ x ho hx => .inr ⟨rfl,x,ho,sameShape.refl hx⟩,fun _ h => h,fun _ _ h => h,fun b hb _ => g.blk b hb,g.size⟩
theorem b2p.heap {C:Ctx} {σ:Sg} {φ:Nat → List Nat} {h:List y9} {w w':World} (g:b2p w w') (hr:a0b C σ φ h w):a0b C σ φ h w' where
 obj o x ho:=by
  have:=hr.obj o x ho
  cases x with
  | dead => trivial
  | box sz v =>
   obtain ⟨b,cur,e,h1,h2,h3,h4⟩:=this
   exact ⟨b,cur,e,h1,(g.blk b (lt_of_heap h2)).trans h2,h3,g.ev.rvs _ _ h4⟩
  | map m =>
   obtain ⟨b,cur,e,h1,h2,h3,h4⟩:=this
   exact ⟨b,cur,e,h1,(g.blk b (lt_of_heap h2)).trans h2,h3,g.ev.rvs _ _ h4⟩
  | row sz l =>
   obtain ⟨h0,this⟩:=this
   refine ⟨h0,?_⟩
   cases hs:σ o with
   | none => rw [hs] at this; exact this
   | some p =>
    obtain ⟨b,c⟩:=p
    rw [hs] at this
    obtain ⟨h1,cur,e,h2,h3,h4,h5⟩:=this
    obtain ⟨g1,g2⟩:=(g.ev (σ:=σ) (h:=h)).immS h4 h5
    exact ⟨h1,cur,e,(g.blk b (lt_of_heap h2)).trans h2,h3,g1,g2⟩
  | rowx sz l i el => exact b2b.rowx_ev g.ev rfl rfl (fun b c hs => g.blk b (hr.lt ho rfl hs)) this
 inj:=hr.inj
 base:=hr.base
 deepx:=hr.deepx
structure FrX (C:Ctx) (w:World) (F:Nat → Prop):Prop where
 le:∀ b,C.fr b → F b
 new:∀ b,w.heap.size ≤ b → F b → C.fr b
 off:C.fz = false → ∀ b,F b → C.fr b
theorem FrX.refl (C:Ctx) (w:World):FrX C w C.fr:=⟨fun _ h => h,fun _ _ h => h,fun _ _ h => h⟩
theorem FrX.trans {C:Ctx} {w w':World} {F F2:Nat → Prop} (h:FrX C w F) (k:FrX (C.frz F) w' F2) (hs:w.heap.size ≤ w'.heap.size):FrX C w' F2 :=
 ⟨fun b hb => k.le b (h.le b hb),fun b hb h2 => h.new b (Nat.le_trans hs hb) (k.new b hb h2),fun hz b h2 => h.off hz b (k.off hz b h2)⟩
theorem FrX.grow {C:Ctx} {w w':World} {F:Nat → Prop} (h:FrX C w F) (hs:w.heap.size ≤ w'.heap.size):FrX C w' F:=⟨h.le,fun b hb => h.new b (Nat.le_trans hs hb),h.off⟩
theorem FrX.mine {C:Ctx} {w:World} {F:Nat → Prop} (h:FrX C w F) {b:Nat} (hb:(C.frz F).mine b):C.mine b:=⟨hb.1,fun hf => hb.2 (h.le b hf)⟩
theorem FrX.hok {C:Ctx} {w:World} {F:Nat → Prop} (h:FrX C w F) (hok:∀ b,C.mine b → C.ok b):∀ b,(C.frz F).mine b → (C.frz F).ok b:=fun b hb => hok b (h.mine hb)
theorem FrX.hb {C:Ctx} {w:World} {F:Nat → Prop} (h:FrX C w F) (hb:∀ b,w.heap.size ≤ b → C.mine b):∀ b,w.heap.size ≤ b → (C.frz F).mine b:=fun b hw => ⟨(hb b hw).1,fun hf => (hb b hw).2 (h.new b hw hf)⟩
theorem FrX.ev {C:Ctx} {w w1 w2:World} {F:Nat → Prop} (h:FrX C w F) {σ σ':Sg} {h1 h2:List y9} (ev:EvX (C.frz F) σ h1 w1 σ' h2 w2):EvX C σ h1 w1 σ' h2 w2 :=
 ⟨ev.obj,ev.gone,fun b hb hl => (ev.live b hb hl).imp id fun k => ⟨k.1,h.mine k.2⟩,fun b hb hl hm => ev.blk b hb hl (fun hmm k => hm hmm (h.mine k)),ev.size⟩
theorem FrX.none {C:Ctx} {w:World} {F:Nat → Prop} (h:FrX C w F) (hz:C.fz = false):C.frz F = C:=by
 have:F = C.fr:=by funext b; exact propext ⟨h.off hz b,h.le b⟩
 rw [this]; rfl
theorem FrX.imm {C:Ctx} {w:World} {F:Nat → Prop} (h:FrX C w F) {b:Nat} (hb:C.imm b):(C.frz F).imm b:=⟨hb.1,fun hm k => hb.2 hm (h.mine k)⟩
mutual
def a4b (h:List y9) (p:Nat → Nat → Nat → Option AV):AV → Option AV
 | .int k n => some (.int k n)
 | .bool b => some (.bool b)
 | .str s => some (.str s)
 | .nil => some .nil
 | .lst z l => some (.lst z l)
 | .iptr e f => some (.iptr e f)
 | .own o lo n =>
  match h[o]? with
  | some (.row z l) => some (.lst z ((l.drop lo).take n))
  | _ => none
 | .ptr o i f => p o i f
 | .agg as => (b3l h p as).map .agg
 | .tup as => (a4j h p as).map .tup
 | .fn f caps => (a4j h p caps).map (.fn f)
 | .undef => none
 | .skip => none
 | .hdr _ _ _ => none
def a4j (h:List y9) (p:Nat → Nat → Nat → Option AV):List AV → Option (List AV)
 | [] => some []
 | a :: as =>
  match a4b h p a,a4j h p as with
  | some x,some xs => some (x :: xs)
  | _,_ => none
def b3l (h:List y9) (p:Nat → Nat → Nat → Option AV):List AV → Option (List AV)
 | [] => some []
 | a :: as =>
  match a4b h p a,b3l h p as with
  | some x,some xs => if x.isCell = true then some (x :: xs) else none
  | _,_ => none
end
theorem Rep.cell {m:Bool} {w:World} {a:AV} {cs:List Value} {fp:List Nat} (hc:a.isCell = true) (h:Rep m w a cs fp):∃ c,cs = [c] ∧ mkV a cs = c:=by
 cases a with
 | int k n => simp only [Rep] at h; exact ⟨_,h.1,by simp [mkV,h.1]⟩
 | bool n => simp only [Rep] at h; exact ⟨_,h.1,by simp [mkV,h.1]⟩
 | str n => simp only [Rep] at h; exact ⟨_,h.1,by simp [mkV,h.1]⟩
 | nil => simp only [Rep] at h; exact ⟨_,h.1,by simp [mkV,h.1]⟩
 | lst z l =>
  simp only [Rep] at h
  rcases h with ⟨_,_,x,cap,h3,_⟩ | ⟨b,off,cap,cur,e,fz,fps,h1,_⟩
  ·exact ⟨_,h3,by simp [mkV,h3]⟩
  ·exact ⟨_,h1,by simp [mkV,h1]⟩
 | fn f caps => simp only [Rep] at h; obtain ⟨vs,h1,_⟩:=h; exact ⟨_,h1,by simp [mkV,h1]⟩
 | iptr e f => simp only [Rep] at h; obtain ⟨b,off,sz,cur,el,fz,fps,h1,_⟩:=h; exact ⟨_,h1,by simp [mkV,h1]⟩
 | agg _ => simp [AV.isCell] at hc
 | tup _ => simp [AV.isCell] at hc
 | hdr v z l => simp only [Rep] at h; obtain ⟨h1,_⟩:=h; exact ⟨_,h1,by simp [mkV,h1]⟩
 | undef => simp only [Rep] at h
 | skip => simp only [Rep] at h
 | own _ _ _ => simp only [Rep] at h
 | ptr _ _ _ => simp only [Rep] at h
section close
variable {C:Ctx} {σ:Sg} {φ:Nat → List Nat} {h:List y9} {w:World}
theorem a0b.ownRep (hr:a0b C σ φ h w) (hok:∀ b,C.mine b → C.ok b) {o lo n sz:Nat} {l:List AV} {v:Value} (ho:h[o]? = some (.row sz l)) (hv:b6x σ o lo n sz l.length v) :
  ∃ fp,b2o false w (.lst sz ((l.drop lo).take n)) v fp ∧ ∀ b ∈ fp,C.ok b:=by
 obtain ⟨a,cap,rfl,hl,hn,hm,hσ⟩:=hv
 have hlen:((l.drop lo).take n).length = n:=by rw [List.length_take,List.length_drop]; omega
 obtain ⟨hsz,hob⟩:=hr.obj o _ ho
 by_cases hn0:n = 0
 ·subst hn0
  refine ⟨[],⟨[.slice a 0 cap],rfl,?_⟩,by simp⟩
  simp only [Rep]
  exact .inl ⟨by simp,by simp,a,cap,by simp,hm,by simp⟩
 ·cases hs:σ o with
  | none => rw [hs] at hσ; omega
  | some p =>
   obtain ⟨g,c⟩:=p
   rw [hs] at hσ hob
   obtain ⟨hc,cur,e,h2,h3,h4,h5⟩:=hob
   have ha:=hσ.1.resolve_left hn0
   subst ha
   obtain ⟨f1,f2,hf,h6⟩:=h4.drop lo
   obtain ⟨f3,f4,hf',h7⟩:=h6.take n
   refine ⟨g :: f3,⟨[.slice (some ⟨g,lo * sz,none⟩) n cap],rfl,?_⟩,?_⟩
   ·simp only [Rep]
    exact .inr ⟨g,lo * sz,cap,cur,e,(0,0),f3,by rw [hlen],by rw [hlen]; exact hn,hm,h2,by simp,rfl,hsz,a0n.weak _ _ _ h7⟩
   ·intro b hb
    rcases List.mem_cons.1 hb with rfl | hb
    ·exact hok _ (hr.base o _ _ c ho rfl hs)
    ·exact (h5 b (by rw [hf,hf']; simp [hb])).1
mutual
theorem a4b.rep (hr:a0b C σ φ h w) (hok:∀ b,C.mine b → C.ok b) {p:Nat → Nat → Nat → Option AV}
  (hp:∀ o i f a v,p o i f = some a → RV C σ h w (.ptr o i f) v → ∃ fp,b2o false w a v fp ∧ ∀ b ∈ fp,C.ok b) :
  ∀ (a a':AV) (v:Value),a4b h p a = some a' → RV C σ h w a v → ∃ fp,b2o false w a' v fp ∧ ∀ b ∈ fp,C.ok b
 | .int k n,a',v,hc,hv => by
  simp only [a4b] at hc; cases hc; simp only [RV] at hv
  exact ⟨[],⟨[v],by simp [mkV],by simp [Rep,hv]⟩,by simp⟩
 | .bool n,a',v,hc,hv => by
  simp only [a4b] at hc; cases hc; simp only [RV] at hv
  exact ⟨[],⟨[v],by simp [mkV],by simp [Rep,hv]⟩,by simp⟩
 | .str s,a',v,hc,hv => by
  simp only [a4b] at hc; cases hc; simp only [RV] at hv
  exact ⟨[],⟨[v],by simp [mkV],by simp [Rep,hv]⟩,by simp⟩
 | .nil,a',v,hc,hv => by
  simp only [a4b] at hc; cases hc; simp only [RV] at hv
  exact ⟨[],⟨[v],by simp [mkV],by simp [Rep,hv]⟩,by simp⟩
 | .lst z l,a',v,hc,hv => by
  simp only [a4b] at hc; cases hc; simp only [RV] at hv
  obtain ⟨fp,h1,h2⟩:=hv
  exact ⟨fp,h1,fun b hb => (h2 b hb).1.1⟩
 | .iptr e f,a',v,hc,hv => by
  simp only [a4b] at hc; cases hc; simp only [RV] at hv
  obtain ⟨fp,h1,h2⟩:=hv
  exact ⟨fp,h1,fun b hb => (h2 b hb).1.1⟩
 | .own o lo n,a',v,hc,hv => by
  simp only [a4b] at hc
  simp only [RV] at hv
  cases ho:h[o]? with
  | none => simp [ho] at hc
  | some x =>
   cases x with
   | dead => simp [ho] at hc
   | map _ => simp [ho] at hc
   | box sz y => simp [ho] at hc
   | rowx sz l i el => simp [ho] at hc
   | row sz l =>
    simp only [ho,Option.some.injEq] at hc hv
    subst hc
    exact hr.ownRep hok ho hv
 | .ptr o i f,a',v,hc,hv => by
  simp only [a4b] at hc
  exact hp o i f a' v hc hv
 | .agg as,a',v,hc,hv => by
  simp only [a4b,Option.map_eq_some_iff] at hc
  obtain ⟨xs,hc,rfl⟩:=hc
  simp only [RV] at hv
  obtain ⟨vs,rfl,hv⟩:=hv
  obtain ⟨fp,h1,h2⟩:=b3l.rep hr hok hp as xs _ hc hv
  exact ⟨fp,⟨vs.toList,by simp [mkV],by simpa only [Rep] using h1⟩,h2⟩
 | .tup as,a',v,hc,hv => by
  simp only [a4b,Option.map_eq_some_iff] at hc
  obtain ⟨xs,hc,rfl⟩:=hc
  simp only [RV] at hv
  obtain ⟨vs,rfl,hv⟩:=hv
  obtain ⟨fp,h1,h2⟩:=a4j.rep hr hok hp as xs _ hc hv
  exact ⟨fp,⟨vs.toList,by simp [mkV],by simpa only [Rep] using h1⟩,h2⟩
 | .fn f caps,a',v,hc,hv => by
  simp only [a4b,Option.map_eq_some_iff] at hc
  obtain ⟨xs,hc,rfl⟩:=hc
  simp only [RV] at hv
  obtain ⟨vs,rfl,hv⟩:=hv
  obtain ⟨fp,h1,h2⟩:=a4j.rep hr hok hp caps xs _ hc hv
  exact ⟨fp,⟨[.func (.func f) #[] vs],by simp [mkV],by simp only [Rep]; exact ⟨vs,rfl,h1⟩⟩,h2⟩
 | .undef,_,_,hc,_ => by simp [a4b] at hc
 | .skip,_,_,hc,_ => by simp [a4b] at hc
 | .hdr _ _ _,_,_,hc,_ => by simp [a4b] at hc
theorem a4j.rep (hr:a0b C σ φ h w) (hok:∀ b,C.mine b → C.ok b) {p:Nat → Nat → Nat → Option AV}
  (hp:∀ o i f a v,p o i f = some a → RV C σ h w (.ptr o i f) v → ∃ fp,b2o false w a v fp ∧ ∀ b ∈ fp,C.ok b) :
  ∀ (as as':List AV) (vs:List Value),a4j h p as = some as' → RVs C σ h w as vs → ∃ fp,a1q false w as' vs fp ∧ ∀ b ∈ fp,C.ok b
 | [],as',vs,hc,hv => by
  simp only [a4j] at hc; cases hc; simp only [RVs] at hv
  exact ⟨[],by simp [a1q,hv],by simp⟩
 | a :: as,as',vs,hc,hv => by
  simp only [a4j] at hc
  cases h1:a4b h p a with
  | none => simp [h1] at hc
  | some x =>
   cases h2:a4j h p as with
   | none => simp [h1,h2] at hc
   | some xs =>
    simp only [h1,h2,Option.some.injEq] at hc
    subst hc
    simp only [RVs] at hv
    obtain ⟨v,vs',rfl,g1,g2⟩:=hv
    obtain ⟨f1,⟨cs,rfl,k1⟩,k2⟩:=a4b.rep hr hok hp a x v h1 g1
    obtain ⟨f2,k3,k4⟩:=a4j.rep hr hok hp as xs vs' h2 g2
    refine ⟨f1 ++ f2,?_,fun b hb => (List.mem_append.1 hb).elim (k2 b) (k4 b)⟩
    simp only [a1q]
    exact ⟨cs,vs',f1,f2,rfl,k1,k3,rfl⟩
theorem b3l.rep (hr:a0b C σ φ h w) (hok:∀ b,C.mine b → C.ok b) {p:Nat → Nat → Nat → Option AV}
  (hp:∀ o i f a v,p o i f = some a → RV C σ h w (.ptr o i f) v → ∃ fp,b2o false w a v fp ∧ ∀ b ∈ fp,C.ok b) :
  ∀ (as as':List AV) (vs:List Value),b3l h p as = some as' → RVs C σ h w as vs → ∃ fp,a0o false w as' vs fp ∧ ∀ b ∈ fp,C.ok b
 | [],as',vs,hc,hv => by
  simp only [b3l] at hc; cases hc; simp only [RVs] at hv
  exact ⟨[],by simp [a0o,hv],by simp⟩
 | a :: as,as',vs,hc,hv => by
  simp only [b3l] at hc
  cases h1:a4b h p a with
  | none => simp [h1] at hc
  | some x =>
   cases h2:b3l h p as with
   | none => simp [h1,h2] at hc
   | some xs =>
    simp only [h1,h2] at hc
    by_cases hx:x.isCell = true
    ·simp only [hx,if_true,Option.some.injEq] at hc
     subst hc
     simp only [RVs] at hv
     obtain ⟨v,vs',rfl,g1,g2⟩:=hv
     obtain ⟨f1,⟨cs,rfl,k1⟩,k2⟩:=a4b.rep hr hok hp a x v h1 g1
     obtain ⟨f2,k3,k4⟩:=b3l.rep hr hok hp as xs vs' h2 g2
     obtain ⟨c,rfl,e⟩:=k1.cell hx
     refine ⟨f1 ++ f2,?_,fun b hb => (List.mem_append.1 hb).elim (k2 b) (k4 b)⟩
     simp only [a0o]
     exact ⟨c,vs',f1,f2,by rw [e],hx,k1,k3,rfl⟩
    ·simp [hx] at hc
end
def d9o (h:List y9):AV → Option AV:=a4b h fun _ _ _ => none
def b4x (h:List y9) (cl:AV → Option AV) (o i f:Nat):Option AV :=
 match h[o]? with
 | some (.box _ v) => match i,v.isElem with
  | 0,true => (cl v).map (.iptr · f)
  | _,_ => none
 | some (.row _ l) => (l[i]?).map (.iptr · f)
 | _ => none
def d5b (h:List y9):AV → Option AV:=a4b h (b4x h (d9o h))
def close (h:List y9):AV → Option AV:=a4b h (b4x h (d5b h))
def closes (h:List y9):List AV → Option (List AV):=a4j h (b4x h (d5b h))
end close
end Go.R
