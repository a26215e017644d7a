/- Regions that draw their order: what only computes may be done as soon as it can. -/
import Derived.Test.YtldahjcikmpifaaGreatC18
set_option linter.all false
namespace Go.R
open Go Go.RowKit
set_option linter.unusedVariables false
set_option linter.unusedSimpArgs false

def AX.o (x:Option AX):List AX:=match x with
 | some x => [x]
 | none => []
def AOp.uses:AOp → List AX
 | .mov x => [x]
 | .pick c a b => [c,a,b]
 | .load _ _ a => [a]
 | .faddr _ a => [a]
 | .field _ _ _ x => [x]
 | .iaddr _ x i => [x,i]
 | .idxs x i => [x,i]
 | .slice _ x lo hi => x :: (AX.o lo ++ AX.o hi)
 | .sliceS x lo hi => x :: (AX.o lo ++ AX.o hi)
 | .bin _ x y => [x,y]
 | .eqB _ x y => [x,y]
 | .eqs _ _ x y => [x,y]
 | .not x => [x]
 | .neg x => [x]
 | .len x => [x]
 | .lenS x => [x]
 | .mnmx _ x y => [x,y]
 | .extract _ x => [x]
 | .mkfn _ caps => caps
 | .nilck x => [x]
 | .convI _ x => [x]
 | .build _ parts => parts.map (·.2.2)
 | .box _ x => [x]
 | .mkslice _ _ _ n c => [n,c]
 | .bslice _ xs => xs
 | .append _ _ s x => [s,x]
 | .store _ a x => [a,x]
 | .call _ args => args
 | .calv x args => x :: args
 | .convBS x => [x]
 | .isnil _ x => [x]
 | .clr _ _ x => [x]
 | .sl3 x a b c => [x,a,b,c]
 | .cap x => [x]
 | .appz _ _ _ s n => [s,n]
 | .mkmap => []
 | .mapset m k x => [m,k,x]
 | .mapget _ m k => [m,k]
 | .isnilp _ x => [x]
 | .never => []

theorem c8l {e e':AX → AV}:∀ (parts:List (Nat × Nat × AX)) (zero:List AV),(∀ p ∈ parts,e p.2.2 = e' p.2.2) → c5h zero e parts = c5h zero e' parts
 | [],_,_ => rfl
 | (off,sz,x) :: rest,zero,h => by
  have h1:=h _ (List.mem_cons_self ..)
  simp only at h1
  simp only [c5h,h1]
  exact c8l rest _ (fun p hp => h p (List.mem_cons_of_mem _ hp))
theorem c5l {h:List a0b} {n:Nat} {e e':AX → AV}:∀ (parts:List (Nat × Nat × AX)),(∀ p ∈ parts,e p.2.2 = e' p.2.2) → c7o h n e parts = c7o h n e' parts
 | [],_ => rfl
 | (off,sz,x) :: rest,hp => by
  have h1:=hp _ (List.mem_cons_self ..)
  simp only at h1
  simp only [c7o,h1,c5l rest (fun p hq => hp p (List.mem_cons_of_mem _ hq))]

theorem e2a {o:AOp} {h:List a0b} {e e':AX → AV} (he:∀ x ∈ o.uses,e x = e' x):aqP o e h = aqP o e' h ∧ aqV o e h = aqV o e' h:=by
 cases o
 case mkfn f caps =>
  refine ⟨rfl,?_⟩
  simp only [aqV]
  congr 1
  exact List.map_congr_left (fun x hx => he x hx)
 case build zero parts =>
  have:∀ p ∈ parts,e p.2.2 = e' p.2.2:=fun p hp => he _ (List.mem_map.2 ⟨p,hp,rfl⟩)
  exact ⟨by simp only [aqP,c5l parts this],by simp only [aqV,c8l parts zero this]⟩
 case slice sz x lo hi =>
  have h1:=he x (by simp [AOp.uses])
  have h2:lo.map e = lo.map e':=by
   cases lo with
   | none => rfl
   | some y => simp [he y (by simp [AOp.uses,AX.o])]
  have h3:hi.map e = hi.map e':=by
   cases hi with
   | none => rfl
   | some y => simp [he y (by simp [AOp.uses,AX.o])]
  simp only [aqP,aqV,h1,h2,h3,and_self]
 case sliceS x lo hi =>
  have h1:=he x (by simp [AOp.uses])
  have h2:lo.map e = lo.map e':=by
   cases lo with
   | none => rfl
   | some y => simp [he y (by simp [AOp.uses,AX.o])]
  have h3:hi.map e = hi.map e':=by
   cases hi with
   | none => rfl
   | some y => simp [he y (by simp [AOp.uses,AX.o])]
  simp only [aqP,aqV,h1,h2,h3,and_self]
 all_goals (simp only [AOp.uses,List.mem_cons,List.not_mem_nil,or_false,forall_eq_or_imp,forall_eq] at he; first | simp only [aqP,aqV,he,and_self] | exact ⟨rfl,rfl⟩)

theorem e2c {o:AOp} {h:List a0b} {e e':AX → AV} (he:∀ x ∈ o.uses,e x = e' x):mmT o e h = mmT o e' h:=by
 cases o
 case load sz ag a => simp only [mmT,he a (by simp [AOp.uses])]
 all_goals rfl
theorem d1s {m:Bool} {o:AOp} {h:List a0b} {e e':AX → AV} (he:∀ x ∈ o.uses,e x = e' x):aqQ m o e h = aqQ m o e' h ∧ aqV o e h = aqV o e' h:=by
 obtain ⟨h1,h2⟩:=e2a (h:=h) he
 refine ⟨?_,h2⟩
 cases m
 ·exact h1
 ·simp only [aqQ,h1,e2c he]

def AOp.deepQ:AOp → Bool
 | .mov _ => false
 | .pick .. => false
 | .field .. => false
 | .idxs .. => false
 | .sliceS .. => false
 | .bin .. => false
 | .eqB .. => false
 | .eqs .. => false
 | .not _ => false
 | .neg _ => false
 | .lenS _ => false
 | .mnmx .. => false
 | .extract .. => false
 | .mkfn .. => false
 | .convI .. => false
 | _ => true

theorem e5c {o:AOp} (hd:o.deepQ = false) {h h':List a0b} {e:AX → AV}:aqP o e h = aqP o e h' ∧ aqV o e h = aqV o e h':=by
 cases o <;> first | exact ⟨rfl,rfl⟩ | simp [AOp.deepQ] at hd

theorem e2d {m:Bool} {o:AOp} (hd:o.deepQ = false) {h h':List a0b} {e:AX → AV}:aqQ m o e h = aqQ m o e h' ∧ aqV o e h = aqV o e h':=by
 obtain ⟨h1,h2⟩:=e5c hd (h:=h) (h':=h') (e:=e)
 refine ⟨?_,h2⟩
 cases m
 ·exact h1
 ·have h3:mmT o e h = mmT o e h':=by cases o <;> first | rfl | simp [AOp.deepQ] at hd
  simp only [aqQ,h1,h3]

def b9i (r:a4t):List Nat :=
 (r.op.uses.filterMap fun | .t n => some n | .c _ => none) ++ (match r.guard with | some (s,_) => [s] | none => [])

theorem d5n {r:a4t} {t t':Nat → AV} (hs:∀ s ∈ b9i r,t s = t' s):∀ x ∈ r.op.uses,AX.ev t x = AX.ev t' x:=by
 intro x hx
 cases x with
 | c v => rfl
 | t n =>
  simp only [AX.ev]
  refine hs n ?_
  unfold b9i
  exact List.mem_append_left _ (List.mem_filterMap.2 ⟨_,hx,rfl⟩)

theorem c5m {m:Bool} {r:a4t} {t t':Nat → AV} {h:List a0b} (hs:∀ s ∈ b9i r,t s = t' s) (hd:∀ d,r.dst = some d → t d = t' d) (ha:again m r t h):again m r t' h:=by
 have hq:=d1s (m:=m) (h:=h) (d5n hs)
 unfold again at ha ⊢
 cases hdst:r.dst with
 | none => rw [hdst] at ha; exact ha
 | some d =>
  rw [hdst] at ha
  have hdd:=hd d hdst
  cases hg:r.guard with
  | none =>
   rw [hg] at ha
   simp only at ha ⊢
   rw [← hq.1,← hq.2,← hdd]
   exact ha
  | some sb =>
   obtain ⟨s,b⟩:=sb
   rw [hg] at ha
   have hss:t s = t' s:=hs s (by simp [b9i,hg])
   simp only at ha ⊢
   rw [← hq.1,← hq.2,← hdd,← hss]
   exact ha

theorem d7m {m:Bool} {r:a4t} {t:Nat → AV} {h h':List a0b} (hd:r.op.deepQ = false) (ha:again m r t h):again m r t h':=by
 have hq:=e2d (m:=m) hd (h:=h) (h':=h') (e:=AX.ev t)
 unfold again at ha ⊢
 rw [← hq.1,← hq.2]
 exact ha

def a7a (ops:Array Oper) (i:Nat):List Nat:=match ops[i]? with
 | some o => (o.after.toList.filter (Region.binds .any)).map (·.on)
 | none => []
def c0q (ops:Array Oper) (i:Nat):Option Nat:=(ops[i]?).bind (·.dst)
def slotsOf (ops:Array Oper) (rs:List a4t) (i:Nat):List Nat :=
 (match ops[i]? with | some o => o.looksAt ops | none => []) ++ (match rs[i]? with | some r => b9i r | none => [])
def d5o (ops:Array Oper) (rs:List a4t) (i:Nat):Bool:=match c0q ops i with
 | some s => (List.range ops.size).all fun j => !(slotsOf ops rs j).contains s || (a7a ops j).contains i
 | none => false
def e6s (ops:Array Oper) (i:Nat):Nat → List Nat → List Nat
 | 0,S => S
 | f + 1,S => match ((a7a ops i ++ S.flatMap (a7a ops)).filter fun x => !S.contains x).eraseDups with
  | [] => S
  | new => e6s ops i f (new ++ S)
def just (ops:Array Oper) (i:Nat):List Nat → Bool
 | [] => true
 | a :: S => just ops i S && ((a7a ops i).contains a || S.any fun b => (a7a ops b).contains a)
def c8m (ops:Array Oper) (i:Nat):List Nat:=match just ops i (e6s ops i ops.size []) with
 | true => e6s ops i ops.size []
 | false => []
def chk (ops:Array Oper) (rs:List a4t):Bool:=(List.range ops.size).all fun i => match c0q ops i with
 | none => true
 | some s => !(slotsOf ops rs i).contains s && (List.range ops.size).all fun j => j == i || (c0q ops j != some s && (!(slotsOf ops rs j).contains s || (a7a ops j).contains i || (c8m ops i).contains j))

def isQ (ops:Array Oper) (rs:List a4t) (i:Nat):Bool:=match rs[i]? with
 | some r => r.op.quiet && d5o ops rs i
 | none => false
def rdy (ops:Array Oper) (D:List Nat):List Nat:=(List.range ops.size).filter fun i => !D.contains i && (a7a ops i).all fun d => D.contains d
def e2e (ops:Array Oper) (rs:List a4t) (D:List Nat) (k:Nat):List a4t :=
 (D.filter fun j => isQ ops rs j && !(c8m ops k).contains j).filterMap fun j => match rs[j]? with
  | some r => match r.op.deepQ with
   | true => some r
   | false => none
  | none => none
def alts (rs:List a4t) (re:Nat → List a4t) (mk:Nat → b0o):List Nat → b0o
 | [] => .non
 | k :: ks => match rs[k]? with
  | some r => .l r (re k) (mk k) (alts rs re mk ks)
  | none => .fail
def mkT (ops:Array Oper) (rs:List a4t):Nat → List Nat → b0o
 | 0,_ => .fail
 | f + 1,D => match (rdy ops D).find? (isQ ops rs) with
  | some i => match rs[i]? with
   | some r => .q r (mkT ops rs f (i :: D))
   | none => .fail
  | none => match rdy ops D with
   | [] => match (List.range ops.size).all fun i => D.contains i with
    | true => .done
    | false => .fail
   | k :: ks => alts rs (e2e ops rs D) (fun k => mkT ops rs f (k :: D)) (k :: ks)

def b8b (ops:Array Oper):List Nat → Prop
 | [] => True
 | i :: D => b8b ops D ∧ i ∉ D ∧ i < ops.size ∧ ∀ d ∈ a7a ops i,d ∈ D

theorem c7d {ops:Array Oper} {D:List Nat} {i:Nat}:i ∈ rdy ops D ↔ i < ops.size ∧ i ∉ D ∧ ∀ d ∈ a7a ops i,d ∈ D:=by
 simp [rdy,List.mem_filter]

def LT (L:Array Bool) (i:Nat):Prop:=L.getD i false = true

theorem LT.set {L:Array Bool} {i j:Nat} (h:LT L j):LT (L.setIfInBounds i true) j:=getD_set_true h
theorem LT.of_set {L:Array Bool} {i j:Nat} (h:LT (L.setIfInBounds i true) j):j = i ∨ LT L j:=by
 by_cases he:i = j
 ·exact .inl he.symm
 ·right; unfold LT at *; rwa [getD_set_ne false he] at h
theorem LT.self {L:Array Bool} {i:Nat} (h:i < L.size):LT (L.setIfInBounds i true) i:=by
 unfold LT; simp [h]

theorem d5p {ops:Array Oper} {i:Nat} {o:Oper} (ho:ops[i]? = some o) {d:Nat}:d ∈ a7a ops i ↔ ∃ e ∈ o.after,Region.binds .any e = true ∧ e.on = d:=by
 simp only [a7a,ho,List.mem_map,List.mem_filter,Array.mem_toList_iff]
 constructor
 ·rintro ⟨e,⟨h1,h2⟩,h3⟩; exact ⟨e,h1,h2,h3⟩
 ·rintro ⟨e,h1,h2,h3⟩; exact ⟨e,⟨h1,h2⟩,h3⟩

theorem b9z {ops:Array Oper} {L:Array Bool} (hL:L.size = ops.size) {i:Nat}:i ∈ Region.ready .any ops L ↔ i < ops.size ∧ ¬ LT L i ∧ ∀ d ∈ a7a ops i,LT L d:=by
 rw [mem_ready]
 constructor
 ·rintro ⟨h0,o,ho,hall⟩
  have hlt:=(Array.getElem?_eq_some_iff.1 ho).1
  refine ⟨hlt,?_,?_⟩
  ·intro h; unfold LT at h
   have:i < L.size:=by omega
   simp [this] at h h0
   rw [h] at h0; cases h0
  ·intro d hd
   obtain ⟨e,h1,h2,rfl⟩:=(d5p ho).1 hd
   exact hall e h1 h2
 ·rintro ⟨hlt,hn,hall⟩
  refine ⟨?_,ops[i],by simp [hlt],?_⟩
  ·have:i < L.size:=by omega
   unfold LT at hn
   simp [this] at hn ⊢
   exact hn
  ·intro e he hb
   exact hall e.on ((d5p (by simp [hlt])).2 ⟨e,he,hb,rfl⟩)

theorem d8w {ops:Array Oper} {L:Array Bool} {i:Nat} (hclo:∀ j,LT L j → ∀ d ∈ a7a ops j,LT L d) (hi:∀ d ∈ a7a ops i,LT L d):∀ S,just ops i S = true → ∀ a ∈ S,LT L a
 | [],_,a,ha => by simp at ha
 | b :: S,hj,a,ha => by
  simp only [just,Bool.and_eq_true,Bool.or_eq_true,List.contains_iff_mem,List.any_eq_true] at hj
  have ih:=d8w hclo hi S hj.1
  rcases List.mem_cons.1 ha with rfl | ha
  ·rcases hj.2 with h | ⟨c,hc,h⟩
   ·exact hi a h
   ·exact hclo c (ih c hc) a h
  ·exact ih a ha

theorem e6t {ops:Array Oper} {L:Array Bool} {i:Nat} (hclo:∀ j,LT L j → ∀ d ∈ a7a ops j,LT L d) (hi:∀ d ∈ a7a ops i,LT L d):∀ a ∈ c8m ops i,LT L a:=by
 intro a ha
 unfold c8m at ha
 split at ha
 ·rename_i hj; exact d8w hclo hi _ hj a ha
 ·simp at ha
end Go.R
