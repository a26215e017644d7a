import Derived.Test.YtldahjcikmpifaaGreatC12
set_option linter.all false
namespace Go.R
open Go Go.RowKit
section loud
variable {P:Program} {C:Ctx} {σ:Sg} {φ:Nat → List Nat} {h:List y9} {w w':World} {t:Nat → AV} {ρ:Operand → Value}
theorem b0p.flat {v:Value} {a:AV} (hc:b0p v = some a):R.flat a = true ∧ a.isCell = true ∧ ∀ m w,Rep m w a v.cells.toList []:=by
 unfold b0p at hc
 split at hc <;> try (cases hc; done)
 ·cases hc; simp [R.flat,AV.isCell,Rep,Value.cells]
 ·cases hc; simp [R.flat,AV.isCell,Rep,Value.cells]
 ·rename_i s
  split at hc
  ·cases hc
   rename_i hs
   obtain ⟨⟨l⟩⟩:=s
   have:l.length ≤ 65536:=hs
   simp [R.flat,AV.isCell,Rep,Value.cells,maxLen]
   omega
  ·cases hc
 ·cases hc; simp [R.flat,AV.isCell,Rep,Value.cells]
theorem a6n.flat:∀ {vs:List Value} {as:List AV},a6n vs = some as → b6q as = true ∧ ∀ m w,a0o m w as vs []
 | [],as,hc => by simp only [a6n] at hc; cases hc; simp [b6q,a0o]
 | v :: vs,as,hc => by
  simp only [a6n] at hc
  cases h1:b0p v with
  | none => simp [h1] at hc
  | some a =>
   cases h2:a6n vs with
   | none => simp [h1,h2] at hc
   | some as' =>
    simp only [h1,h2,Option.some.injEq] at hc
    subst hc
    have ih:=a6n.flat h2
    have ha:=b0p.flat h1
    refine ⟨by simp [b6q,ih.1,ha.1],fun m w => ?_⟩
    simp only [a0o]
    refine ⟨v,vs,[],[],rfl,ha.2.1,?_,ih.2 m w,rfl⟩
    have:=ha.2.2 m w
    rwa [Rep.cellV (m:=m) (w:=w) (fp:=[]) ha.2.1] at this
    obtain ⟨c,e1,e2⟩:=this.cell ha.2.1
    have hv:v = c:=by
     unfold b0p at h1
     split at h1 <;> try (cases h1; done)
     all_goals simp [Value.cells] at e1
     all_goals exact e1
    subst hv
    rwa [e1] at this
theorem a5t.flat {v:Value} {a:AV} (hc:a5t v = some a):R.flat a = true ∧ a.isElem = true ∧ ∀ m w,Rep m w a v.cells.toList []:=by
 unfold a5t at hc
 split at hc
 ·rename_i cs
  simp only [Option.map_eq_some_iff] at hc
  obtain ⟨as,h1,rfl⟩:=hc
  have:=a6n.flat h1
  exact ⟨by simp only [R.flat]; exact this.1,rfl,fun m w => by simp only [Rep,Value.cells]; exact this.2 m w⟩
 ·have:=b0p.flat hc
  exact ⟨this.1,by cases a <;> simp_all [AV.isCell,AV.isElem],this.2.2⟩
theorem b1c {m:Bool} {w:World} {a:AV} {cs:List Value} (he:a.isElem = true) (hr:Rep m w a cs []):∀ (n:Nat) (ds:List Value),(∀ i,i < n → (ds.drop (i * cs.length)).take cs.length = cs) → a0n m w cs.length (List.replicate n a) ds []
 | 0,ds,_ => by simp [a0n]
 | n + 1,ds,hd => by
  rw [List.replicate_succ]
  simp only [a0n]
  have h0:ds.take cs.length = cs:=by simpa using hd 0 (by omega)
  refine ⟨[],[],⟨by rw [h0],he⟩,by rw [h0]; exact hr,b1c he hr n _ (fun i hi => ?_),rfl⟩
  rw [List.drop_drop]
  have:=hd (i + 1) (by omega)
  rw [Nat.add_mul,Nat.one_mul] at this
  rwa [Nat.add_comm cs.length]
theorem c5y (z:Array Value) (hz:0 < z.size) (k i:Nat) (hi:(i + 1) * z.size ≤ k):((madeCells z k).toList.drop (i * z.size)).take z.size = z.toList:=by
 apply List.ext_getElem
 ·simp [madeCells]; rw [Nat.add_mul] at hi; omega
 ·intro j h1 h2
  have hj:j < z.size:=by simpa using h2
  simp only [madeCells,List.getElem_take,List.getElem_drop,Array.getElem_toList,Array.getElem_map,Array.getElem_range]
  have:(i * z.size + j) % z.size = j:=by rw [Nat.mul_comm,Nat.mul_add_mod,Nat.mod_eq_of_lt hj]
  rw [this,getElem!_pos z j hj]
theorem c8k (hr:a0b C σ φ h w) (hb:∀ b,w.heap.size ≤ b → C.mine b) {ty e:TypeId} {i:TypeInfo} (ht:P.underlying ty = some (.slice e)) (hi:P.info? e = some i)
  {z:Value} (hz:i.zero = some z) {za:AV} (hza:a5t z = some za) (hzs:za.cells.length = i.size) (h0:0 < i.size) (hby:i.bytes ≤ 65536) {kn kc:IntKind} {n c:Int} (hn:0 ≤ n) (hnc:n ≤ c) (hc:c ≤ 2 ^ 30) :
  ∃ u w' σ' φ',(Instr.makeSlice ty (.int kn n) (.int kc c)).run P w = .ok u w' ∧ a0b C σ' φ' (h ++ [.row i.size (List.replicate n.toNat za)]) w' ∧
   Ev σ h w σ' (h ++ [.row i.size (List.replicate n.toNat za)]) w' ∧ RV C σ' (h ++ [.row i.size (List.replicate n.toNat za)]) w' (.own h.length 0 n.toNat) u ∧ Below C.base w w':=by
 have hf:=a5t.flat hza
 have hzc:z.cells.size = i.size:=by
  have hrv:=(a5t.rv (C:=C) (σ:=σ) (h:=h) (w:=w) hza).cells (by cases za <;> simp_all [R.flat,a7h])
  have:=hrv.length
  rw [hzs] at this
  simpa using this
 have hbytes:(i.bytes:Int) * c ≤ 281474976710656:=by
  have h1:(i.bytes:Int) ≤ 65536:=by omega
  calc (i.bytes:Int) * c ≤ 65536 * 2 ^ 30:=Int.mul_le_mul h1 hc (by omega) (by omega)
   _ ≤ 281474976710656:=by decide
 have hr':=run_make (P:=P) w ty e i z ht hi hz kn kc n c hn hnc hbytes (by omega)
 have hcm:c.toNat ≤ maxLen:=by simp only [maxLen]; omega
 have hrep:a0n C.dm w i.size (List.replicate n.toNat za) (madeCells z.cells (c.toNat * i.size)).toList []:=by
  have hl:z.cells.toList.length = i.size:=by simpa using hzc
  rw [← hl]
  refine b1c hf.2.1 (hf.2.2 _ _) _ _ (fun j hj => ?_)
  rw [hl,← hzc]
  refine c5y _ (by omega) _ _ ?_
  exact Nat.mul_le_mul_right _ (by omega)
 obtain ⟨σ',φ',k1,k2,k3⟩:=d0w hr hb e (ks:=[]) h0 hcm (size_madeCells _ _) hrep Taken.nil (fun _ => by simp)
 simp only [kill] at k1 k2
 refine ⟨_,_,σ',φ',hr',k1,k2,?_,Below.push _ _ _ (hb _ (Nat.le_refl _)).1⟩
 simp only [RV,List.getElem?_append_right (Nat.le_refl _),Nat.sub_self,List.getElem?_cons_zero]
 exact ⟨_,c.toNat,rfl,by simp,by omega,hcm,by rw [k3]; simp⟩
theorem a0b.turn (hr:a0b C σ φ h w) {o:Nat} {x x':y9} (ho:h[o]? = some x) (hx:x.isLive = true) (hs:sameShape x x') {g c:Nat} (hσ:σ o = some (g,c)) {ks:List Nat} (hk:o ∉ ks) {fx:List Nat}
  (hsize:w'.heap.size = w.heap.size) (hblk:∀ b,b ≠ g → w'.heap[b]? = w.heap[b]?)
  (hobj:Ev σ h w σ ((kill h ks).set o x') w' → b2b C σ (upd φ o fx) ((kill h ks).set o x') w' o x')
  (hdeep:C.dm = true → x'.rw = true → fx.Nodup ∧ (∀ b ∈ fx,C.mine b) ∧ ∀ o' y,h[o']? = some y → y.rw = true → o' ∉ ks → o' ≠ o → ∀ b ∈ fx,b ∉ φ o') :
  a0b C σ (upd φ o fx) ((kill h ks).set o x') w' ∧ Ev σ h w σ ((kill h ks).set o x') w':=by
 have hlt:o < h.length:=(List.getElem?_eq_some_iff.1 ho).1
 have hget:∀ o',((kill h ks).set o x')[o']? = if o' = o then some x' else (kill h ks)[o']?:=by
  intro o'
  rw [List.getElem?_set,a5q]
  by_cases he:o = o'
  ·subst he; simp [hlt]
  ·simp [he,Ne.symm he]
 have live':∀ o' y,((kill h ks).set o x')[o']? = some y → y.isLive = true → (o' = o ∧ y = x') ∨ (o' ≠ o ∧ h[o']? = some y ∧ o' ∉ ks):=by
  intro o' y hy hly
  rw [hget] at hy
  split at hy
  ·cases hy; exact .inl ⟨by assumption,rfl⟩
  ·rename_i hne
   have:=a7g hy hly
   exact .inr ⟨hne,this.1,this.2⟩
 have ev:Ev σ h w σ ((kill h ks).set o x') w':=by
  refine ⟨?_,?_,?_,?_,by omega⟩
  ·intro o' y hy hly
   rw [hget]
   by_cases he:o' = o
   ·subst he
    rw [ho] at hy
    cases hy
    exact .inr ⟨rfl,x',by simp,hs⟩
   ·rw [if_neg he,b2q]
    split
    ·exact .inl rfl
    ·exact .inr ⟨rfl,y,hy,sameShape.refl hly⟩
  ·intro o' hd
   rw [hget]
   by_cases he:o' = o
   ·subst he; rw [ho] at hd; cases hd; simp [y9.isLive] at hx
   ·rw [if_neg he,b2q]
    split
    ·rfl
    ·exact hd
  ·rintro b hb ⟨o',y,c',h1,h2,h3⟩
   rcases live' o' y h1 h2 with ⟨rfl,rfl⟩ | ⟨_,h4,_⟩
   ·exact ⟨o',x,c',ho,hx,h3⟩
   ·exact ⟨o',y,c',h4,h2,h3⟩
  ·intro b hb hnl
   exact hblk b (fun e => hnl (e ▸ ⟨o,x,c,ho,hx,hσ⟩))
 refine ⟨⟨?_,?_,?_,?_⟩,ev⟩
 ·intro o' y hy
  rw [hget] at hy
  split at hy
  ·rename_i he
   subst he
   cases hy
   exact hobj ev
  ·rename_i hne
   rw [b2q] at hy
   split at hy
   ·cases hy; trivial
   ·have hold:=hr.obj o' y hy
    have same:∀ g' c',σ o' = some (g',c') → y.isLive = true → w'.heap[g']? = w.heap[g']?:=by
     intro g' c' hs' hly
     refine hblk g' (fun e => ?_)
     subst e
     exact hne (hr.inj o' o y x g' c' c hy hly ho hx hs' hσ)
    cases y with
    | dead => trivial
    | box sz v =>
     obtain ⟨g',cur,e,h1,h2,h3,h4⟩:=hold
     exact ⟨g',cur,e,h1,by rw [same g' 1 h1 rfl]; exact h2,h3,ev.rvs _ _ h4⟩
    | map m =>
     obtain ⟨g',cur,e,h1,h2,h3,h4⟩:=hold
     exact ⟨g',cur,e,h1,by rw [same g' 1 h1 rfl]; exact h2,h3,ev.rvs _ _ h4⟩
    | row sz l =>
     obtain ⟨h0,hold⟩:=hold
     refine ⟨h0,?_⟩
     have hφ:upd φ o fx o' = φ o':=by simp [upd,hne]
     rw [hφ]
     cases hs':σ o' with
     | none => rw [hs'] at hold; exact hold
     | some p =>
      obtain ⟨g',c'⟩:=p
      rw [hs'] at hold
      obtain ⟨h1,cur,e,h2,h3,h4,h5⟩:=hold
      obtain ⟨g1,g2⟩:=ev.immS h4 h5
      exact ⟨h1,cur,e,by rw [same g' c' hs' rfl]; exact h2,h3,g1,g2⟩
    | rowx sz l i el => exact b2b.rowx_ev ev rfl (by simp [upd,hne]) (fun g' c' hs' => same g' c' hs' rfl) hold
 ·intro o1 o2 y1 y2 b c1 c2 h1 l1 h2 l2 s1 s2
  rcases live' o1 y1 h1 l1 with ⟨rfl,rfl⟩ | ⟨n1,g1,_⟩ <;> rcases live' o2 y2 h2 l2 with ⟨rfl,rfl⟩ | ⟨n2,g2,_⟩
  ·rfl
  ·exact hr.inj _ _ x y2 b c1 c2 ho hx g2 l2 s1 s2
  ·exact hr.inj _ _ y1 x b c1 c2 g1 l1 ho hx s1 s2
  ·exact hr.inj _ _ y1 y2 b c1 c2 g1 l1 g2 l2 s1 s2
 ·intro o1 y1 b c1 h1 l1 s1
  rcases live' o1 y1 h1 l1 with ⟨rfl,rfl⟩ | ⟨n1,g1,_⟩
  ·exact hr.base _ x b c1 ho hx s1
  ·exact hr.base _ y1 b c1 g1 l1 s1
 ·intro hdm o1 y1 h1 r1
  rcases live' o1 _ h1 (y9.rw_live r1) with ⟨rfl,e⟩ | ⟨n1,g1,k1⟩
  ·subst e
   obtain ⟨d1,d2,d3⟩:=hdeep hdm r1
   have:upd φ o1 fx o1 = fx:=by simp [upd]
   rw [this]
   refine ⟨d1,d2,?_⟩
   intro o2 y2 h2 r2 hne b hb
   rcases live' o2 _ h2 (y9.rw_live r2) with ⟨rfl,_⟩ | ⟨n2,g2,k2⟩
   ·exact absurd rfl hne
   ·have:upd φ o1 fx o2 = φ o2:=by simp [upd,n2]
    rw [this]
    exact d3 o2 y2 g2 r2 k2 n2 b hb
  ·obtain ⟨d1,d2,d3⟩:=hr.deepx hdm o1 y1 g1 r1
   have:upd φ o fx o1 = φ o1:=by simp [upd,n1]
   rw [this]
   refine ⟨d1,d2,?_⟩
   intro o2 y2 h2 r2 hne b hb
   rcases live' o2 _ h2 (y9.rw_live r2) with ⟨rfl,e⟩ | ⟨n2,g2,k2⟩
   ·subst e
    have:upd φ o2 fx o2 = fx:=by simp [upd]
    rw [this]
    obtain ⟨_,_,e3⟩:=hdeep hdm r2
    intro hb2
    exact e3 o1 y1 g1 r1 k1 n1 b hb2 hb
   ·have:upd φ o fx o2 = φ o2:=by simp [upd,n2]
    rw [this]
    exact d3 o2 y2 g2 r2 hne b hb
end loud
end Go.R
