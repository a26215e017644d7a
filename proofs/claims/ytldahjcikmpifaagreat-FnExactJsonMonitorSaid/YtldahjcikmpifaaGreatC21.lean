import Derived.Test.YtldahjcikmpifaaGreatC15L
set_option linter.all false
namespace Go.R
open Go Go.RowKit
mutual
def ren (f:Nat → Option Nat):AV → AV
 | .own o lo n => match f o with
  | some o' => .own o' lo n
  | none => .undef
 | .ptr o i k => match f o with
  | some o' => .ptr o' i k
  | none => .undef
 | .agg as => .agg (a7m f as)
 | .tup as => .tup (a7m f as)
 | .fn g as => .fn g (a7m f as)
 | a => a
def a7m (f:Nat → Option Nat):List AV → List AV
 | [] => []
 | a :: as => ren f a :: a7m f as
end
def kept (n0:Nat):List y9 → Nat → List Nat
 | [],_ => []
 | x :: xs,i => match decide (i < n0) || x.isLive with
  | true => i :: kept n0 xs (i + 1)
  | false => kept n0 xs (i + 1)
def c6c:List Nat → Nat → Nat → Option Nat
 | [],_,_ => none
 | i :: is,j,o => if o = i then some j else c6c is (j + 1) o
def a6o (f:Nat → Option Nat):y9 → y9
 | .box z v => .box z (ren f v)
 | .rowx z l i el => .rowx z l i (ren f el)
 | .map m => .map (m.map fun p => (p.1,ren f p.2))
 | x => x
theorem c0t (f:Nat → Option Nat):∀ m:List (List UInt8 × AV),(m.map fun p => (p.1,ren f p.2)).map Prod.snd = a7m f (m.map Prod.snd)
 | [] => by simp [a7m]
 | p :: m => by simp only [List.map_cons,a7m,c0t f m]
theorem c3z.ren {m:List (List UInt8 × AV)} {es:Array MapEntry} (h:c3z m es) (f:Nat → Option Nat):c3z (m.map fun p => (p.1,Go.R.ren f p.2)) es:=by
 unfold c3z at *
 rw [h,List.map_map]; rfl
def gcF (n0:Nat) (h:List y9):Nat → Option Nat:=c6c (kept n0 h 0) 0
def gcV (n0:Nat) (h:List y9) (a:AV):AV:=ren (gcF n0 h) a
def gcH (n0:Nat) (h:List y9):List y9:=(kept n0 h 0).map fun i => a6o (gcF n0 h) (h.getD i .dead)
theorem c0u {n0:Nat}:∀ (h:List y9) (i o:Nat),o ∈ kept n0 h i ↔ i ≤ o ∧ ∃ x,h[o - i]? = some x ∧ (o < n0 ∨ x.isLive = true)
 | [],i,o => by simp [kept]
 | x :: xs,i,o => by
  have ih:=c0u xs (i + 1) o (n0:=n0)
  have key:(i + 1 ≤ o ∧ ∃ y,xs[o - (i + 1)]? = some y ∧ (o < n0 ∨ y.isLive = true)) ↔ (i < o ∧ ∃ y,(x :: xs)[o - i]? = some y ∧ (o < n0 ∨ y.isLive = true)):=by
   constructor
   ·rintro ⟨h1,y,h2,h3⟩
    refine ⟨by omega,y,?_,h3⟩
    rw [show o - i = (o - (i + 1)) + 1 by omega]
    simpa using h2
   ·rintro ⟨h1,y,h2,h3⟩
    refine ⟨by omega,y,?_,h3⟩
    rw [show o - i = (o - (i + 1)) + 1 by omega] at h2
    simpa using h2
  rw [key] at ih
  simp only [kept]
  split
  ·rename_i hc
   simp only [Bool.or_eq_true,decide_eq_true_eq] at hc
   rw [List.mem_cons,ih]
   constructor
   ·rintro (rfl | ⟨h1,h2⟩)
    ·exact ⟨Nat.le_refl _,x,by simp,hc⟩
    ·exact ⟨by omega,h2⟩
   ·rintro ⟨h1,h2⟩
    by_cases he:o = i
    ·exact .inl he
    ·exact .inr ⟨by omega,h2⟩
  ·rename_i hc
   simp only [Bool.or_eq_false_iff,decide_eq_false_iff_not] at hc
   rw [ih]
   constructor
   ·rintro ⟨h1,h2⟩; exact ⟨by omega,h2⟩
   ·rintro ⟨h1,y,h2,h3⟩
    by_cases he:o = i
    ·subst he
     simp at h2
     subst h2
     rcases h3 with h3 | h3
     ·exact absurd h3 hc.1
     ·rw [hc.2] at h3; cases h3
    ·exact ⟨by omega,y,h2,h3⟩
theorem b9u {n0:Nat}:∀ (h:List y9) (i:Nat),(kept n0 h i).Nodup
 | [],i => by simp [kept]
 | x :: xs,i => by
  simp only [kept]
  split
  ·rw [List.nodup_cons]
   refine ⟨fun hm => ?_,b9u xs (i + 1)⟩
   have:=((c0u xs (i + 1) i).1 hm).1
   omega
  ·exact b9u xs (i + 1)
theorem b9v:∀ (l:List Nat) (j o k:Nat),l.Nodup → (c6c l j o = some k ↔ j ≤ k ∧ l[k - j]? = some o)
 | [],j,o,k,_ => by simp [c6c]
 | i :: is,j,o,k,hn => by
  rw [List.nodup_cons] at hn
  simp only [c6c]
  split
  ·rename_i he
   subst he
   simp only [Option.some.injEq]
   constructor
   ·rintro rfl; exact ⟨Nat.le_refl _,by simp⟩
   ·rintro ⟨h1,h2⟩
    by_cases hk:j = k
    ·exact hk
    ·exfalso
     rw [show k - j = (k - j - 1) + 1 by omega] at h2
     simp only [List.getElem?_cons_succ] at h2
     exact hn.1 (List.mem_of_getElem? h2)
  ·rename_i he
   rw [b9v is (j + 1) o k hn.2]
   constructor
   ·rintro ⟨h1,h2⟩
    refine ⟨by omega,?_⟩
    rw [show k - j = (k - (j + 1)) + 1 by omega]
    simpa using h2
   ·rintro ⟨h1,h2⟩
    by_cases hk:j = k
    ·subst hk
     simp at h2
     exact absurd h2.symm he
    ·refine ⟨by omega,?_⟩
     rw [show k - j = (k - (j + 1)) + 1 by omega] at h2
     simpa using h2
section
variable {C:Ctx} {σ:Sg} {φ:Nat → List Nat} {h:List y9} {w:World} {n0:Nat}
theorem c0w {o k:Nat}:gcF n0 h o = some k ↔ (kept n0 h 0)[k]? = some o:=by
 unfold gcF
 rw [b9v _ _ _ _ (b9u h 0)]
 simp
theorem d9t {o:Nat} {x:y9} (ho:h[o]? = some x) (hx:x.isLive = true):∃ k,gcF n0 h o = some k:=by
 have hm:o ∈ kept n0 h 0:=(c0u h 0 o).2 ⟨Nat.zero_le _,x,by simpa using ho,.inr hx⟩
 obtain ⟨k,hk⟩:=List.mem_iff_getElem?.1 hm
 exact ⟨k,c0w.2 hk⟩
theorem c5j {k:Nat} {y:y9}:(gcH n0 h)[k]? = some y ↔ ∃ o x,(kept n0 h 0)[k]? = some o ∧ h[o]? = some x ∧ y = a6o (gcF n0 h) x:=by
 unfold gcH
 rw [List.getElem?_map,Option.map_eq_some_iff]
 constructor
 ·rintro ⟨o,h1,rfl⟩
  obtain ⟨_,x,h2,_⟩:=(c0u h 0 o).1 (List.mem_of_getElem? h1)
  refine ⟨o,x,h1,by simpa using h2,?_⟩
  have:h.getD o .dead = x:=by simp at h2; simp [h2]
  rw [this]
 ·rintro ⟨o,x,h1,h2,rfl⟩
  refine ⟨o,h1,?_⟩
  have:h.getD o .dead = x:=by simp [h2]
  rw [this]
theorem a5x {f:Nat → Option Nat} {x:y9}:(a6o f x).isLive = x.isLive:=by cases x <;> rfl
theorem b3m {f:Nat → Option Nat} {x:y9}:(a6o f x).rw = x.rw:=by cases x <;> rfl
def gcσ (n0:Nat) (h:List y9) (σ:Sg):Sg:=fun k => match (kept n0 h 0)[k]? with
 | some o => σ o
 | none => none
def gcφ (n0:Nat) (h:List y9) (φ:Nat → List Nat):Nat → List Nat:=fun k => match (kept n0 h 0)[k]? with
 | some o => φ o
 | none => []
theorem c9q {b:Nat}:liveAt (gcH n0 h) (gcσ n0 h σ) b ↔ liveAt h σ b:=by
 constructor
 ·rintro ⟨k,y,c,h1,h2,h3⟩
  obtain ⟨o,x,g1,g2,rfl⟩:=c5j.1 h1
  rw [a5x] at h2
  simp only [gcσ,g1] at h3
  exact ⟨o,x,c,g2,h2,h3⟩
 ·rintro ⟨o,x,c,h1,h2,h3⟩
  obtain ⟨k,hk⟩:=d9t (n0:=n0) h1 h2
  have hk':=c0w.1 hk
  refine ⟨k,a6o (gcF n0 h) x,c,c5j.2 ⟨o,x,hk',h1,rfl⟩,by rw [a5x]; exact h2,?_⟩
  simp only [gcσ,hk']
  exact h3
mutual
theorem e5m:∀ (a:AV) (v:Value),RV C σ h w a v → RV C (gcσ n0 h σ) (gcH n0 h) w (ren (gcF n0 h) a) v
 | .undef,_,_ => by simp only [ren,RV]
 | .skip,_,hr => by simpa only [ren,RV] using hr
 | .hdr _ _ _,_,hr => by simpa only [ren,RV] using hr
 | .int _ _,_,hr => by simpa only [ren,RV] using hr
 | .bool _,_,hr => by simpa only [ren,RV] using hr
 | .str _,_,hr => by simpa only [ren,RV] using hr
 | .nil,_,hr => by simpa only [ren,RV] using hr
 | .lst z l,v,hr => by
  simp only [ren,RV] at hr ⊢
  obtain ⟨fp,h1,h2⟩:=hr
  exact ⟨fp,h1,fun b hb => ⟨(h2 b hb).1,fun hl => (h2 b hb).2 (c9q.1 hl)⟩⟩
 | .iptr l f,v,hr => by
  simp only [ren,RV] at hr ⊢
  obtain ⟨fp,h1,h2⟩:=hr
  exact ⟨fp,h1,fun b hb => ⟨(h2 b hb).1,fun hl => (h2 b hb).2 (c9q.1 hl)⟩⟩
 | .own o lo n,v,hr => by
  simp only [ren]
  cases hf:gcF n0 h o with
  | none => simp only [RV]
  | some k =>
   have hk:=c0w.1 hf
   simp only [RV] at hr ⊢
   cases ho:h[o]? with
   | none => rw [ho] at hr; exact hr.elim
   | some x =>
    rw [ho] at hr
    have hg:=c5j.2 ⟨o,x,hk,ho,rfl⟩
    rw [hg]
    have hσ:gcσ n0 h σ k = σ o:=by simp only [gcσ,hk]
    cases x with
    | dead => simp only [a6o]
    | map _ => exact hr.elim
    | box _ _ => exact hr.elim
    | row sz l =>
     simp only [a6o]
     unfold b6x at hr ⊢
     rw [hσ]
     exact hr
    | rowx sz l i el =>
     simp only [a6o]
     unfold b6x at hr ⊢
     rw [hσ]
     exact hr
 | .ptr o i f,v,hr => by
  simp only [ren]
  cases hf:gcF n0 h o with
  | none => simp only [RV]
  | some k =>
   have hk:=c0w.1 hf
   simp only [RV] at hr ⊢
   cases ho:h[o]? with
   | none => rw [ho] at hr; exact hr.elim
   | some x =>
    rw [ho] at hr
    have hg:=c5j.2 ⟨o,x,hk,ho,rfl⟩
    rw [hg]
    have hσ:gcσ n0 h σ k = σ o:=by simp only [gcσ,hk]
    cases x with
    | dead => simp only [a6o]
    | map _ => simp only [a6o]; rw [hσ]; exact hr
    | box _ _ => simp only [a6o]; rw [hσ]; exact hr
    | row sz l => simp only [a6o]; rw [hσ]; exact hr
    | rowx sz l j el => simp only [a6o]; rw [hσ]; exact hr
 | .agg as,v,hr => by
  simp only [ren,RV] at hr ⊢
  obtain ⟨vs,e,h1⟩:=hr
  exact ⟨vs,e,d0z as _ h1⟩
 | .tup as,v,hr => by
  simp only [ren,RV] at hr ⊢
  obtain ⟨vs,e,h1⟩:=hr
  exact ⟨vs,e,d0z as _ h1⟩
 | .fn f caps,v,hr => by
  simp only [ren,RV] at hr ⊢
  obtain ⟨vs,e,h1⟩:=hr
  exact ⟨vs,e,d0z caps _ h1⟩
theorem d0z:∀ (as:List AV) (vs:List Value),RVs C σ h w as vs → RVs C (gcσ n0 h σ) (gcH n0 h) w (a7m (gcF n0 h) as) vs
 | [],_,hr => by simpa only [a7m,RVs] using hr
 | a :: as,vs,hr => by
  simp only [a7m,RVs] at hr ⊢
  obtain ⟨v,vs',e,h1,h2⟩:=hr
  exact ⟨v,vs',e,e5m a v h1,d0z as vs' h2⟩
end
theorem c9r {f:Nat → Option Nat}:∀ (a:AV),(ren f a).cells = a7m f a.cells ∨ ∃ o,f o = none ∧ (ren f a) = .undef
 | .own o lo n => by
  simp only [ren]
  cases hf:f o with
  | none => exact .inr ⟨o,hf,rfl⟩
  | some k => left; simp [AV.cells,a7m,ren,hf]
 | .ptr o lo n => by
  simp only [ren]
  cases hf:f o with
  | none => exact .inr ⟨o,hf,rfl⟩
  | some k => left; simp [AV.cells,a7m,ren,hf]
 | .agg as => by left; simp [ren,AV.cells]
 | .tup as => by left; simp [ren,AV.cells,a7m]
 | .fn _ as => by left; simp [ren,AV.cells,a7m]
 | .undef => by left; simp [ren,AV.cells,a7m]
 | .skip => by left; simp [ren,AV.cells,a7m]
 | .hdr _ _ _ => by left; simp [ren,AV.cells,a7m]
 | .int _ _ => by left; simp [ren,AV.cells,a7m]
 | .bool _ => by left; simp [ren,AV.cells,a7m]
 | .str _ => by left; simp [ren,AV.cells,a7m]
 | .nil => by left; simp [ren,AV.cells,a7m]
 | .lst _ _ => by left; simp [ren,AV.cells,a7m]
 | .iptr _ _ => by left; simp [ren,AV.cells,a7m]
theorem d2v {f:Nat → Option Nat}:∀ (as:List AV),(a7m f as).length = as.length
 | [] => rfl
 | a :: as => by simp only [a7m,List.length_cons,d2v as]
theorem b2f {f:Nat → Option Nat} (a:AV):(ren f a).cells.length = a.cells.length:=by
 rcases c9r (f:=f) a with h | ⟨o,h1,h2⟩
 ·rw [h,d2v]
 ·have hc:a.cells = [a]:=by cases a <;> simp [ren] at h2 <;> rfl
  rw [h2,hc]; rfl
end
inductive Gh where
 | kill (o:Nat)
 | nilT (s z:Nat)
 | nilC (o i z:Nat)
 | frz (s:Nat)
 | frzC (o i:Nat)
 | nilS (s i z:Nat)
 | frzS (s i:Nat)
 | mv (o:Nat)
 | trim (s:Nat)
 | cls (o:Nat)
def nin (x:Nat):List Nat → Bool
 | [] => true
 | y :: ys => match Nat.beq x y with
  | true => false
  | false => nin x ys
def ndn:List Nat → Bool
 | [] => true
 | y :: ys => nin y ys && ndn ys
theorem d1a {x:Nat}:∀ {ys:List Nat},nin x ys = true → x ∉ ys
 | [],_ => by simp
 | y :: ys,h => by
  simp only [nin] at h
  split at h
  ·cases h
  ·rename_i e
   have:x ≠ y:=fun he => by subst he; rw [Nat.beq_refl] at e; cases e
   simp [this,d1a h]
theorem d6o:∀ {ys:List Nat},ndn ys = true → ys.Nodup
 | [],_ => .nil
 | y :: ys,h => by
  simp only [ndn,Bool.and_eq_true] at h
  exact List.nodup_cons.2 ⟨d1a h.1,d6o h.2⟩
def mvF (o n:Nat) (k:Nat):Option Nat:=if k = o then some n else some k
def gh1 (t:Nat → AV) (h:List y9):Gh → Option ((Nat → AV) × List y9)
 | .kill o => some (t,h.set o .dead)
 | .nilT s z => match t s,z with
  | .nil,z + 1 => some (upd t s (.own h.length 0 0),h ++ [.row (z + 1) []])
  | _,_ => none
 | .nilC o i z => match h[o]?,z with
  | some (.box n (.agg cs)),z + 1 => match cs[i]? with
   | some .nil => some (t,h.set o (.box n (.agg (cs.set i (.own h.length 0 0)))) ++ [.row (z + 1) []])
   | _ => none
  | some (.box n .nil),z + 1 => some (t,h.set o (.box n (.own h.length 0 0)) ++ [.row (z + 1) []])
  | _,_ => none
 | .frz s => match t s with
  | .own o lo n => match h[o]? with
   | some (.row z l) => some (upd t s (.lst z ((l.drop lo).take n)),h.set o .dead)
   | _ => none
  | _ => none
 | .frzC o i => match h[o]? with
  | some (.box m (.agg cs)) => match cs[i]? with
   | some (.own q lo n) => match h[q]? with
    | some (.row z l) => some (t,(h.set q .dead).set o (.box m (.agg (cs.set i (.lst z ((l.drop lo).take n))))))
    | _ => none
   | _ => none
  | _ => none
 | .nilS s i z => match t s,z with
  | .agg cs,z + 1 => match cs[i]? with
   | some .nil => some (upd t s (.agg (cs.set i (.own h.length 0 0))),h ++ [.row (z + 1) []])
   | _ => none
  | _,_ => none
 | .frzS s i => match t s with
  | .agg cs => match cs[i]? with
   | some (.own q lo n) => match h[q]? with
    | some (.row z l) => some (upd t s (.agg (cs.set i (.lst z ((l.drop lo).take n)))),h.set q .dead)
    | _ => none
   | _ => none
  | _ => none
 | .mv o => match h[o]? with
  | some (.row z l) => some (fun n => ren (mvF o h.length) (t n),(h.set o .dead).map (a6o (mvF o h.length)) ++ [.row z l])
  | _ => none
 | .trim s => match t s with
  | .own o 0 n => match h[o]? with
   | some (.row z l) => some (upd t s (.own h.length 0 (l.take n).length),h.set o .dead ++ [.row z (l.take n)])
   | _ => none
  | _ => none
 | .cls o => match h[o]? with
  | some (.rowx z l i el) => match a2w true h el with
   | some (el',ks) => match nin o ks && ndn ks && el'.isElem with
    | true => some (t,(kill h ks).set o (.row z (l.set i el')))
    | false => none
   | none => none
  | _ => none
def Gh.frzs:Gh → Bool
 | .frz _ => true
 | .frzC _ _ => true
 | .frzS _ _ => true
 | _ => false
def e4n (m:Bool) (t:Nat → AV) (h:List y9) (g:Gh):Option ((Nat → AV) × List y9):=match m with
 | false => gh1 t h g
 | true => match g.frzs with
  | true => none
  | false => gh1 t h g
def ghs (m:Bool) (t:Nat → AV) (h:List y9):List Gh → Option ((Nat → AV) × List y9)
 | [] => some (t,h)
 | g :: gs => match e4n m t h g with
  | some (t',h') => ghs m t' h' gs
  | none => none
end Go.R
