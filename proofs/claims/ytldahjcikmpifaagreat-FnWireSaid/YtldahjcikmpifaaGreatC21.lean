/- Objects that are dead are put away, and the others numbered anew. -/
import Derived.Test.YtldahjcikmpifaaGreatC15L
set_option linter.all false
namespace Go.R
open Go Go.RowKit
set_option linter.unusedVariables false
set_option linter.unusedSimpArgs false

mutual
def ren (f:Nat → Option Nat):AV → AV
  | .own o lo n => match f o with
    | some o' => .own o' lo n
    | none => .undef
  | .ptr o i k => match f o with
    | some o' => .ptr o' i k
    | none => .undef
  | .agg as => .agg (a6w f as)
  | .tup as => .tup (a6w f as)
  | .fn g as => .fn g (a6w f as)
  | a => a
def a6w (f:Nat → Option Nat):List AV → List AV
  | [] => []
  | a :: as => ren f a :: a6w f as
end

def kept (n0:Nat):List o9 → Nat → List Nat
  | [],_ => []
  | x :: xs,i => match decide (i < n0) || x.isLive with
    | true => i :: kept n0 xs (i + 1)
    | false => kept n0 xs (i + 1)
def c3r:List Nat → Nat → Nat → Option Nat
  | [],_,_ => none
  | i :: is,j,o => if o = i then some j else c3r is (j + 1) o
def a6a (f:Nat → Option Nat):o9 → o9
  | .box z v => .box z (ren f v)
  | .rowx z l i el => .rowx z l i (ren f el)
  | .map m => .map (m.map fun p => (p.1,ren f p.2))
  | x => x
theorem b8m (f:Nat → Option Nat):∀ m:List (List UInt8 × AV),(m.map fun p => (p.1,ren f p.2)).map Prod.snd = a6w f (m.map Prod.snd)
  | [] => by simp [a6w]
  | p :: m => by simp only [List.map_cons,a6w,b8m f m]
theorem c1q.ren {m:List (List UInt8 × AV)} {es:Array MapEntry} (h:c1q m es) (f:Nat → Option Nat):c1q (m.map fun p => (p.1,Go.R.ren f p.2)) es:=by
  unfold c1q at *
  rw [h,List.map_map]; rfl
def gcF (n0:Nat) (h:List o9):Nat → Option Nat:=c3r (kept n0 h 0) 0
def gcV (n0:Nat) (h:List o9) (a:AV):AV:=ren (gcF n0 h) a
def gcH (n0:Nat) (h:List o9):List o9:=(kept n0 h 0).map fun i => a6a (gcF n0 h) (h.getD i .dead)

theorem b8n {n0:Nat}:∀ (h:List o9) (i o:Nat),o ∈ kept n0 h i ↔ i ≤ o ∧ ∃ x,h[o - i]? = some x ∧ (o < n0 ∨ x.isLive = true)
  | [],i,o => by simp [kept]
  | x :: xs,i,o => by
    have ih:=b8n xs (i + 1) o (n0:=n0)
    have key:(i + 1 ≤ o ∧ ∃ y,xs[o - (i + 1)]? = some y ∧ (o < n0 ∨ y.isLive = true)) ↔ (i < o ∧ ∃ y,(x :: xs)[o - i]? = some y ∧ (o < n0 ∨ y.isLive = true)):=by
      constructor
      · rintro ⟨h1,y,h2,h3⟩
        refine ⟨by omega,y,?_,h3⟩
        rw [show o - i = (o - (i + 1)) + 1 by omega]
        simpa using h2
      · rintro ⟨h1,y,h2,h3⟩
        refine ⟨by omega,y,?_,h3⟩
        rw [show o - i = (o - (i + 1)) + 1 by omega] at h2
        simpa using h2
    rw [key] at ih
    simp only [kept]
    split
    · rename_i hc
      simp only [Bool.or_eq_true,decide_eq_true_eq] at hc
      rw [List.mem_cons,ih]
      constructor
      · rintro (rfl | ⟨h1,h2⟩)
        · exact ⟨Nat.le_refl _,x,by simp,hc⟩
        · exact ⟨by omega,h2⟩
      · rintro ⟨h1,h2⟩
        by_cases he:o = i
        · exact .inl he
        · exact .inr ⟨by omega,h2⟩
    · rename_i hc
      simp only [Bool.or_eq_false_iff,decide_eq_false_iff_not] at hc
      rw [ih]
      constructor
      · rintro ⟨h1,h2⟩; exact ⟨by omega,h2⟩
      · rintro ⟨h1,y,h2,h3⟩
        by_cases he:o = i
        · subst he
          simp at h2
          subst h2
          rcases h3 with h3 | h3
          · exact absurd h3 hc.1
          · rw [hc.2] at h3; cases h3
        · exact ⟨by omega,y,h2,h3⟩

theorem b7s {n0:Nat}:∀ (h:List o9) (i:Nat),(kept n0 h i).Nodup
  | [],i => by simp [kept]
  | x :: xs,i => by
    simp only [kept]
    split
    · rw [List.nodup_cons]
      refine ⟨fun hm => ?_,b7s xs (i + 1)⟩
      have:=((b8n xs (i + 1) i).1 hm).1
      omega
    · exact b7s xs (i + 1)

theorem b7t:∀ (l:List Nat) (j o k:Nat),l.Nodup → (c3r l j o = some k ↔ j ≤ k ∧ l[k - j]? = some o)
  | [],j,o,k,_ => by simp [c3r]
  | i :: is,j,o,k,hn => by
    rw [List.nodup_cons] at hn
    simp only [c3r]
    split
    · rename_i he
      subst he
      simp only [Option.some.injEq]
      constructor
      · rintro rfl; exact ⟨Nat.le_refl _,by simp⟩
      · rintro ⟨h1,h2⟩
        by_cases hk:j = k
        · exact hk
        · exfalso
          rw [show k - j = (k - j - 1) + 1 by omega] at h2
          simp only [List.getElem?_cons_succ] at h2
          exact hn.1 (List.mem_of_getElem? h2)
    · rename_i he
      rw [b7t is (j + 1) o k hn.2]
      constructor
      · rintro ⟨h1,h2⟩
        refine ⟨by omega,?_⟩
        rw [show k - j = (k - (j + 1)) + 1 by omega]
        simpa using h2
      · rintro ⟨h1,h2⟩
        by_cases hk:j = k
        · subst hk
          simp at h2
          exact absurd h2.symm he
        · refine ⟨by omega,?_⟩
          rw [show k - j = (k - (j + 1)) + 1 by omega] at h2
          simpa using h2

section
variable {C:Ctx} {σ:Sg} {φ:Nat → List Nat} {h:List o9} {w:World} {n0:Nat}

theorem b8o {o k:Nat}:gcF n0 h o = some k ↔ (kept n0 h 0)[k]? = some o:=by
  unfold gcF
  rw [b7t _ _ _ _ (b7s h 0)]
  simp

theorem d6f {o:Nat} {x:o9} (ho:h[o]? = some x) (hx:x.isLive = true):∃ k,gcF n0 h o = some k:=by
  have hm:o ∈ kept n0 h 0:=(b8n h 0 o).2 ⟨Nat.zero_le _,x,by simpa using ho,.inr hx⟩
  obtain ⟨k,hk⟩:=List.mem_iff_getElem?.1 hm
  exact ⟨k,b8o.2 hk⟩

theorem c2r {k:Nat} {y:o9}:(gcH n0 h)[k]? = some y ↔ ∃ o x,(kept n0 h 0)[k]? = some o ∧ h[o]? = some x ∧ y = a6a (gcF n0 h) x:=by
  unfold gcH
  rw [List.getElem?_map,Option.map_eq_some_iff]
  constructor
  · rintro ⟨o,h1,rfl⟩
    obtain ⟨_,x,h2,_⟩:=(b8n h 0 o).1 (List.mem_of_getElem? h1)
    refine ⟨o,x,h1,by simpa using h2,?_⟩
    have:h.getD o .dead = x:=by simp at h2; simp [h2]
    rw [this]
  · rintro ⟨o,x,h1,h2,rfl⟩
    refine ⟨o,h1,?_⟩
    have:h.getD o .dead = x:=by simp [h2]
    rw [this]

theorem a5n {f:Nat → Option Nat} {x:o9}:(a6a f x).isLive = x.isLive:=by cases x <;> rfl
theorem b2i {f:Nat → Option Nat} {x:o9}:(a6a f x).rw = x.rw:=by cases x <;> rfl

def gcσ (n0:Nat) (h:List o9) (σ:Sg):Sg:=fun k => match (kept n0 h 0)[k]? with
  | some o => σ o
  | none => none
def gcφ (n0:Nat) (h:List o9) (φ:Nat → List Nat):Nat → List Nat:=fun k => match (kept n0 h 0)[k]? with
  | some o => φ o
  | none => []

theorem c6m {b:Nat}:liveAt (gcH n0 h) (gcσ n0 h σ) b ↔ liveAt h σ b:=by
  constructor
  · rintro ⟨k,y,c,h1,h2,h3⟩
    obtain ⟨o,x,g1,g2,rfl⟩:=c2r.1 h1
    rw [a5n] at h2
    simp only [gcσ,g1] at h3
    exact ⟨o,x,c,g2,h2,h3⟩
  · rintro ⟨o,x,c,h1,h2,h3⟩
    obtain ⟨k,hk⟩:=d6f (n0:=n0) h1 h2
    have hk':=b8o.1 hk
    refine ⟨k,a6a (gcF n0 h) x,c,c2r.2 ⟨o,x,hk',h1,rfl⟩,by rw [a5n]; exact h2,?_⟩
    simp only [gcσ,hk']
    exact h3

mutual
theorem e1q:∀ (a:AV) (v:Value),RV C σ h w a v → RV C (gcσ n0 h σ) (gcH n0 h) w (ren (gcF n0 h) a) v
  | .undef,_,_ => by simp only [ren,RV]
  | .skip,_,hr => by simpa only [ren,RV] using hr
  | .hdr _ _ _,_,hr => by simpa only [ren,RV] using hr
  | .int _ _,_,hr => by simpa only [ren,RV] using hr
  | .bool _,_,hr => by simpa only [ren,RV] using hr
  | .str _,_,hr => by simpa only [ren,RV] using hr
  | .nil,_,hr => by simpa only [ren,RV] using hr
  | .lst z l,v,hr => by
    simp only [ren,RV] at hr ⊢
    obtain ⟨fp,h1,h2⟩:=hr
    exact ⟨fp,h1,fun b hb => ⟨(h2 b hb).1,fun hl => (h2 b hb).2 (c6m.1 hl)⟩⟩
  | .iptr l f,v,hr => by
    simp only [ren,RV] at hr ⊢
    obtain ⟨fp,h1,h2⟩:=hr
    exact ⟨fp,h1,fun b hb => ⟨(h2 b hb).1,fun hl => (h2 b hb).2 (c6m.1 hl)⟩⟩
  | .own o lo n,v,hr => by
    simp only [ren]
    cases hf:gcF n0 h o with
    | none => simp only [RV]
    | some k =>
      have hk:=b8o.1 hf
      simp only [RV] at hr ⊢
      cases ho:h[o]? with
      | none => rw [ho] at hr; exact hr.elim
      | some x =>
        rw [ho] at hr
        have hg:=c2r.2 ⟨o,x,hk,ho,rfl⟩
        rw [hg]
        have hσ:gcσ n0 h σ k = σ o:=by simp only [gcσ,hk]
        cases x with
        | dead => simp only [a6a]
        | map _ => exact hr.elim
        | box _ _ => exact hr.elim
        | row sz l =>
          simp only [a6a]
          unfold b5m at hr ⊢
          rw [hσ]
          exact hr
        | rowx sz l i el =>
          simp only [a6a]
          unfold b5m at hr ⊢
          rw [hσ]
          exact hr
  | .ptr o i f,v,hr => by
    simp only [ren]
    cases hf:gcF n0 h o with
    | none => simp only [RV]
    | some k =>
      have hk:=b8o.1 hf
      simp only [RV] at hr ⊢
      cases ho:h[o]? with
      | none => rw [ho] at hr; exact hr.elim
      | some x =>
        rw [ho] at hr
        have hg:=c2r.2 ⟨o,x,hk,ho,rfl⟩
        rw [hg]
        have hσ:gcσ n0 h σ k = σ o:=by simp only [gcσ,hk]
        cases x with
        | dead => simp only [a6a]
        | map _ => simp only [a6a]; rw [hσ]; exact hr
        | box _ _ => simp only [a6a]; rw [hσ]; exact hr
        | row sz l => simp only [a6a]; rw [hσ]; exact hr
        | rowx sz l j el => simp only [a6a]; rw [hσ]; exact hr
  | .agg as,v,hr => by
    simp only [ren,RV] at hr ⊢
    obtain ⟨vs,e,h1⟩:=hr
    exact ⟨vs,e,c8h as _ h1⟩
  | .tup as,v,hr => by
    simp only [ren,RV] at hr ⊢
    obtain ⟨vs,e,h1⟩:=hr
    exact ⟨vs,e,c8h as _ h1⟩
  | .fn f caps,v,hr => by
    simp only [ren,RV] at hr ⊢
    obtain ⟨vs,e,h1⟩:=hr
    exact ⟨vs,e,c8h caps _ h1⟩
theorem c8h:∀ (as:List AV) (vs:List Value),RVs C σ h w as vs → RVs C (gcσ n0 h σ) (gcH n0 h) w (a6w (gcF n0 h) as) vs
  | [],_,hr => by simpa only [a6w,RVs] using hr
  | a :: as,vs,hr => by
    simp only [a6w,RVs] at hr ⊢
    obtain ⟨v,vs',e,h1,h2⟩:=hr
    exact ⟨v,vs',e,e1q a v h1,c8h as vs' h2⟩
end

theorem c6n {f:Nat → Option Nat}:∀ (a:AV),(ren f a).cells = a6w f a.cells ∨ ∃ o,f o = none ∧ (ren f a) = .undef
  | .own o lo n => by
    simp only [ren]
    cases hf:f o with
    | none => exact .inr ⟨o,hf,rfl⟩
    | some k => left; simp [AV.cells,a6w,ren,hf]
  | .ptr o lo n => by
    simp only [ren]
    cases hf:f o with
    | none => exact .inr ⟨o,hf,rfl⟩
    | some k => left; simp [AV.cells,a6w,ren,hf]
  | .agg as => by left; simp [ren,AV.cells]
  | .tup as => by left; simp [ren,AV.cells,a6w]
  | .fn _ as => by left; simp [ren,AV.cells,a6w]
  | .undef => by left; simp [ren,AV.cells,a6w]
  | .skip => by left; simp [ren,AV.cells,a6w]
  | .hdr _ _ _ => by left; simp [ren,AV.cells,a6w]
  | .int _ _ => by left; simp [ren,AV.cells,a6w]
  | .bool _ => by left; simp [ren,AV.cells,a6w]
  | .str _ => by left; simp [ren,AV.cells,a6w]
  | .nil => by left; simp [ren,AV.cells,a6w]
  | .lst _ _ => by left; simp [ren,AV.cells,a6w]
  | .iptr _ _ => by left; simp [ren,AV.cells,a6w]

theorem d0a {f:Nat → Option Nat}:∀ (as:List AV),(a6w f as).length = as.length
  | [] => rfl
  | a :: as => by simp only [a6w,List.length_cons,d0a as]
theorem b1e {f:Nat → Option Nat} (a:AV):(ren f a).cells.length = a.cells.length:=by
  rcases c6n (f:=f) a with h | ⟨o,h1,h2⟩
  · rw [h,d0a]
  · have hc:a.cells = [a]:=by cases a <;> simp [ren] at h2 <;> rfl
    rw [h2,hc]; rfl
end
inductive Gh where
  | kill (o:Nat)
  | nilT (s z:Nat)
  | nilC (o i z:Nat)
  | frz (s:Nat)
  | frzC (o i:Nat)
  | nilS (s i z:Nat)
  | frzS (s i:Nat)
  /-- an own row under a new number -/
  | mv (o:Nat)
  /-- an own row,cut to what a slot's slice has of it,under a new number -/
  | trim (s:Nat)
  /-- an open row is closed -/
  | cls (o:Nat)

def nin (x:Nat):List Nat → Bool
  | [] => true
  | y :: ys => match Nat.beq x y with
    | true => false
    | false => nin x ys
def ndn:List Nat → Bool
  | [] => true
  | y :: ys => nin y ys && ndn ys
theorem c8i {x:Nat}:∀ {ys:List Nat},nin x ys = true → x ∉ ys
  | [],_ => by simp
  | y :: ys,h => by
    simp only [nin] at h
    split at h
    · cases h
    · rename_i e
      have:x ≠ y:=fun he => by subst he; rw [Nat.beq_refl] at e; cases e
      simp [this,c8i h]
theorem d3c:∀ {ys:List Nat},ndn ys = true → ys.Nodup
  | [],_ => .nil
  | y :: ys,h => by
    simp only [ndn,Bool.and_eq_true] at h
    exact List.nodup_cons.2 ⟨c8i h.1,d3c h.2⟩
def mvF (o n:Nat) (k:Nat):Option Nat:=if k = o then some n else some k
def gh1 (t:Nat → AV) (h:List o9):Gh → Option ((Nat → AV) × List o9)
  | .kill o => some (t,h.set o .dead)
  | .nilT s z => match t s,z with
    | .nil,z + 1 => some (upd t s (.own h.length 0 0),h ++ [.row (z + 1) []])
    | _,_ => none
  | .nilC o i z => match h[o]?,z with
    | some (.box n (.agg cs)),z + 1 => match cs[i]? with
      | some .nil => some (t,h.set o (.box n (.agg (cs.set i (.own h.length 0 0)))) ++ [.row (z + 1) []])
      | _ => none
    | some (.box n .nil),z + 1 => some (t,h.set o (.box n (.own h.length 0 0)) ++ [.row (z + 1) []])
    | _,_ => none
  | .frz s => match t s with
    | .own o lo n => match h[o]? with
      | some (.row z l) => some (upd t s (.lst z ((l.drop lo).take n)),h.set o .dead)
      | _ => none
    | _ => none
  | .frzC o i => match h[o]? with
    | some (.box m (.agg cs)) => match cs[i]? with
      | some (.own q lo n) => match h[q]? with
        | some (.row z l) => some (t,(h.set q .dead).set o (.box m (.agg (cs.set i (.lst z ((l.drop lo).take n))))))
        | _ => none
      | _ => none
    | _ => none
  | .nilS s i z => match t s,z with
    | .agg cs,z + 1 => match cs[i]? with
      | some .nil => some (upd t s (.agg (cs.set i (.own h.length 0 0))),h ++ [.row (z + 1) []])
      | _ => none
    | _,_ => none
  | .frzS s i => match t s with
    | .agg cs => match cs[i]? with
      | some (.own q lo n) => match h[q]? with
        | some (.row z l) => some (upd t s (.agg (cs.set i (.lst z ((l.drop lo).take n)))),h.set q .dead)
        | _ => none
      | _ => none
    | _ => none
  | .mv o => match h[o]? with
    | some (.row z l) => some (fun n => ren (mvF o h.length) (t n),(h.set o .dead).map (a6a (mvF o h.length)) ++ [.row z l])
    | _ => none
  | .trim s => match t s with
    | .own o 0 n => match h[o]? with
      | some (.row z l) => some (upd t s (.own h.length 0 (l.take n).length),h.set o .dead ++ [.row z (l.take n)])
      | _ => none
    | _ => none
  | .cls o => match h[o]? with
    | some (.rowx z l i el) => match a2u true h el with
      | some (el',ks) => match nin o ks && ndn ks && el'.isElem with
        | true => some (t,(kill h ks).set o (.row z (l.set i el')))
        | false => none
      | none => none
    | _ => none
def Gh.frzs:Gh → Bool
  | .frz _ => true
  | .frzC _ _ => true
  | .frzS _ _ => true
  | _ => false
def e0t (m:Bool) (t:Nat → AV) (h:List o9) (g:Gh):Option ((Nat → AV) × List o9):=match m with
  | false => gh1 t h g
  | true => match g.frzs with
    | true => none
    | false => gh1 t h g
def ghs (m:Bool) (t:Nat → AV) (h:List o9):List Gh → Option ((Nat → AV) × List o9)
  | [] => some (t,h)
  | g :: gs => match e0t m t h g with
    | some (t',h') => ghs m t' h' gs
    | none => none

end Go.R
