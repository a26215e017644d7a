import Derived.Test.YtldahjcikmpifaaGreatC18
set_option linter.all false
namespace Go.R
open Go Go.RowKit
def AX.o (x:Option AX):List AX:=match x with
 | some x => [x]
 | none => []
def AOp.uses:AOp → List AX
 | .mov x => [x]
 | .pick c a b => [c,a,b]
 | .load _ _ a => [a]
 | .faddr _ a => [a]
 | .field _ _ _ x => [x]
 | .iaddr _ x i => [x,i]
 | .idxs x i => [x,i]
 | .slice _ x lo hi => x :: (AX.o lo ++ AX.o hi)
 | .sliceS x lo hi => x :: (AX.o lo ++ AX.o hi)
 | .bin _ x y => [x,y]
 | .eqB _ x y => [x,y]
 | .eqs _ _ x y => [x,y]
 | .not x => [x]
 | .neg x => [x]
 | .len x => [x]
 | .lenS x => [x]
 | .mnmx _ x y => [x,y]
 | .extract _ x => [x]
 | .mkfn _ caps => caps
 | .nilck x => [x]
 | .convI _ x => [x]
 | .build _ parts => parts.map (·.2.2)
 | .box _ x => [x]
 | .mkslice _ _ _ n c => [n,c]
 | .bslice _ xs => xs
 | .append _ _ s x => [s,x]
 | .store _ a x => [a,x]
 | .call _ args => args
 | .calv x args => x :: args
 | .convBS x => [x]
 | .isnil _ x => [x]
 | .clr _ _ x => [x]
 | .sl3 x a b c => [x,a,b,c]
 | .cap x => [x]
 | .appz _ _ _ s n => [s,n]
 | .mkmap => []
 | .mapset m k x => [m,k,x]
 | .mapget _ m k => [m,k]
 | .isnilp _ x => [x]
 | .never => []
theorem c6o {e e':AX → AV}:∀ (parts:List (Nat × Nat × AX)) (zero:List AV),(∀ p ∈ parts,e p.2.2 = e' p.2.2) → c4a zero e parts = c4a zero e' parts
 | [],_,_ => rfl
 | (off,sz,x) :: rest,zero,h => by
  have h1:=h _ (List.mem_cons_self ..)
  simp only at h1
  simp only [c4a,h1]
  exact c6o rest _ (fun p hp => h p (List.mem_cons_of_mem _ hp))
theorem c4e {h:List y9} {n:Nat} {e e':AX → AV}:∀ (parts:List (Nat × Nat × AX)),(∀ p ∈ parts,e p.2.2 = e' p.2.2) → c5r h n e parts = c5r h n e' parts
 | [],_ => rfl
 | (off,sz,x) :: rest,hp => by
  have h1:=hp _ (List.mem_cons_self ..)
  simp only at h1
  simp only [c5r,h1,c4e rest (fun p hq => hp p (List.mem_cons_of_mem _ hq))]
theorem d9z {o:AOp} {h:List y9} {e e':AX → AV} (he:∀ x ∈ o.uses,e x = e' x):aqP o e h = aqP o e' h ∧ aqV o e h = aqV o e' h:=by
 cases o
 case mkfn f caps =>
  refine ⟨rfl,?_⟩
  simp only [aqV]
  congr 1
  exact List.map_congr_left (fun x hx => he x hx)
 case build zero parts =>
  have:∀ p ∈ parts,e p.2.2 = e' p.2.2:=fun p hp => he _ (List.mem_map.2 ⟨p,hp,rfl⟩)
  exact ⟨by simp only [aqP,c4e parts this],by simp only [aqV,c6o parts zero this]⟩
 case slice sz x lo hi =>
  have h1:=he x (by simp [AOp.uses])
  have h2:lo.map e = lo.map e':=by
   cases lo with
   | none => rfl
   | some y => simp [he y (by simp [AOp.uses,AX.o])]
  have h3:hi.map e = hi.map e':=by
   cases hi with
   | none => rfl
   | some y => simp [he y (by simp [AOp.uses,AX.o])]
  simp only [aqP,aqV,h1,h2,h3,and_self]
 case sliceS x lo hi =>
  have h1:=he x (by simp [AOp.uses])
  have h2:lo.map e = lo.map e':=by
   cases lo with
   | none => rfl
   | some y => simp [he y (by simp [AOp.uses,AX.o])]
  have h3:hi.map e = hi.map e':=by
   cases hi with
   | none => rfl
   | some y => simp [he y (by simp [AOp.uses,AX.o])]
  simp only [aqP,aqV,h1,h2,h3,and_self]
 all_goals (simp only [AOp.uses,List.mem_cons,List.not_mem_nil,or_false,forall_eq_or_imp,forall_eq] at he; first | simp only [aqP,aqV,he,and_self] | exact ⟨rfl,rfl⟩)
theorem e0a {o:AOp} {h:List y9} {e e':AX → AV} (he:∀ x ∈ o.uses,e x = e' x):mmT o e h = mmT o e' h:=by
 cases o
 case load sz ag a => simp only [mmT,he a (by simp [AOp.uses])]
 all_goals rfl
theorem c9x {m:Bool} {o:AOp} {h:List y9} {e e':AX → AV} (he:∀ x ∈ o.uses,e x = e' x):aqQ m o e h = aqQ m o e' h ∧ aqV o e h = aqV o e' h:=by
 obtain ⟨h1,h2⟩:=d9z (h:=h) he
 refine ⟨?_,h2⟩
 cases m
 ·exact h1
 ·simp only [aqQ,h1,e0a he]
def AOp.deepQ:AOp → Bool
 | .mov _ => false
 | .pick .. => false
 | .field .. => false
 | .idxs .. => false
 | .sliceS .. => false
 | .bin .. => false
 | .eqB .. => false
 | .eqs .. => false
 | .not _ => false
 | .neg _ => false
 | .lenS _ => false
 | .mnmx .. => false
 | .extract .. => false
 | .mkfn .. => false
 | .convI .. => false
 | _ => true
theorem e2o {o:AOp} (hd:o.deepQ = false) {h h':List y9} {e:AX → AV}:aqP o e h = aqP o e h' ∧ aqV o e h = aqV o e h':=by
 cases o <;> first | exact ⟨rfl,rfl⟩ | simp [AOp.deepQ] at hd
theorem e0b {m:Bool} {o:AOp} (hd:o.deepQ = false) {h h':List y9} {e:AX → AV}:aqQ m o e h = aqQ m o e h' ∧ aqV o e h = aqV o e h':=by
 obtain ⟨h1,h2⟩:=e2o hd (h:=h) (h':=h') (e:=e)
 refine ⟨?_,h2⟩
 cases m
 ·exact h1
 ·have h3:mmT o e h = mmT o e h':=by cases o <;> first | rfl | simp [AOp.deepQ] at hd
  simp only [aqQ,h1,h3]
def b7i (r:a4q):List Nat :=
 (r.op.uses.filterMap fun | .t n => some n | .c _ => none) ++ (match r.guard with | some (s,_) => [s] | none => [])
theorem d3f {r:a4q} {t t':Nat → AV} (hs:∀ s ∈ b7i r,t s = t' s):∀ x ∈ r.op.uses,AX.ev t x = AX.ev t' x:=by
 intro x hx
 cases x with
 | c v => rfl
 | t n =>
  simp only [AX.ev]
  refine hs n ?_
  unfold b7i
  exact List.mem_append_left _ (List.mem_filterMap.2 ⟨_,hx,rfl⟩)
theorem c4f {m:Bool} {r:a4q} {t t':Nat → AV} {h:List y9} (hs:∀ s ∈ b7i r,t s = t' s) (hd:∀ d,r.dst = some d → t d = t' d) (ha:again m r t h):again m r t' h:=by
 have hq:=c9x (m:=m) (h:=h) (d3f hs)
 unfold again at ha ⊢
 cases hdst:r.dst with
 | none => rw [hdst] at ha; exact ha
 | some d =>
  rw [hdst] at ha
  have hdd:=hd d hdst
  cases hg:r.guard with
  | none =>
   rw [hg] at ha
   simp only at ha ⊢
   rw [← hq.1,← hq.2,← hdd]
   exact ha
  | some sb =>
   obtain ⟨s,b⟩:=sb
   rw [hg] at ha
   have hss:t s = t' s:=hs s (by simp [b7i,hg])
   simp only at ha ⊢
   rw [← hq.1,← hq.2,← hdd,← hss]
   exact ha
theorem d5p {m:Bool} {r:a4q} {t:Nat → AV} {h h':List y9} (hd:r.op.deepQ = false) (ha:again m r t h):again m r t h':=by
 have hq:=e0b (m:=m) hd (h:=h) (h':=h') (e:=AX.ev t)
 unfold again at ha ⊢
 rw [← hq.1,← hq.2]
 exact ha
def a6i (ops:Array Oper) (i:Nat):List Nat:=match ops[i]? with
 | some o => (o.after.toList.filter (Region.binds .any)).map (·.on)
 | none => []
def b9c (ops:Array Oper) (i:Nat):Option Nat:=(ops[i]?).bind (·.dst)
def slotsOf (ops:Array Oper) (rs:List a4q) (i:Nat):List Nat :=
 (match ops[i]? with | some o => o.looksAt ops | none => []) ++ (match rs[i]? with | some r => b7i r | none => [])
def d3g (ops:Array Oper) (rs:List a4q) (i:Nat):Bool:=match b9c ops i with
 | some s => (List.range ops.size).all fun j => !(slotsOf ops rs j).contains s || (a6i ops j).contains i
 | none => false
def e4p (ops:Array Oper) (i:Nat):Nat → List Nat → List Nat
 | 0,S => S
 | f + 1,S => match ((a6i ops i ++ S.flatMap (a6i ops)).filter fun x => !S.contains x).eraseDups with
  | [] => S
  | new => e4p ops i f (new ++ S)
def just (ops:Array Oper) (i:Nat):List Nat → Bool
 | [] => true
 | a :: S => just ops i S && ((a6i ops i).contains a || S.any fun b => (a6i ops b).contains a)
def c6p (ops:Array Oper) (i:Nat):List Nat:=match just ops i (e4p ops i ops.size []) with
 | true => e4p ops i ops.size []
 | false => []
def chk (ops:Array Oper) (rs:List a4q):Bool:=(List.range ops.size).all fun i => match b9c ops i with
 | none => true
 | some s => !(slotsOf ops rs i).contains s && (List.range ops.size).all fun j => j == i || (b9c ops j != some s && (!(slotsOf ops rs j).contains s || (a6i ops j).contains i || (c6p ops i).contains j))
def isQ (ops:Array Oper) (rs:List a4q) (i:Nat):Bool:=match rs[i]? with
 | some r => r.op.quiet && d3g ops rs i
 | none => false
def rdy (ops:Array Oper) (D:List Nat):List Nat:=(List.range ops.size).filter fun i => !D.contains i && (a6i ops i).all fun d => D.contains d
def e0c (ops:Array Oper) (rs:List a4q) (D:List Nat) (k:Nat):List a4q :=
 (D.filter fun j => isQ ops rs j && !(c6p ops k).contains j).filterMap fun j => match rs[j]? with
  | some r => match r.op.deepQ with
   | true => some r
   | false => none
  | none => none
def alts (rs:List a4q) (re:Nat → List a4q) (mk:Nat → b0f):List Nat → b0f
 | [] => .non
 | k :: ks => match rs[k]? with
  | some r => .l r (re k) (mk k) (alts rs re mk ks)
  | none => .fail
def mkT (ops:Array Oper) (rs:List a4q):Nat → List Nat → b0f
 | 0,_ => .fail
 | f + 1,D => match (rdy ops D).find? (isQ ops rs) with
  | some i => match rs[i]? with
   | some r => .q r (mkT ops rs f (i :: D))
   | none => .fail
  | none => match rdy ops D with
   | [] => match (List.range ops.size).all fun i => D.contains i with
    | true => .done
    | false => .fail
   | k :: ks => alts rs (e0c ops rs D) (fun k => mkT ops rs f (k :: D)) (k :: ks)
def b6b (ops:Array Oper):List Nat → Prop
 | [] => True
 | i :: D => b6b ops D ∧ i ∉ D ∧ i < ops.size ∧ ∀ d ∈ a6i ops i,d ∈ D
theorem c5k {ops:Array Oper} {D:List Nat} {i:Nat}:i ∈ rdy ops D ↔ i < ops.size ∧ i ∉ D ∧ ∀ d ∈ a6i ops i,d ∈ D:=by
 simp [rdy,List.mem_filter]
def LT (L:Array Bool) (i:Nat):Prop:=L.getD i false = true
theorem LT.set {L:Array Bool} {i j:Nat} (h:LT L j):LT (L.setIfInBounds i true) j:=getD_set_true h
theorem LT.of_set {L:Array Bool} {i j:Nat} (h:LT (L.setIfInBounds i true) j):j = i ∨ LT L j:=by
 by_cases he:i = j
 ·exact .inl he.symm
 ·right; unfold LT at *; rwa [getD_set_ne false he] at h
theorem LT.self {L:Array Bool} {i:Nat} (h:i < L.size):LT (L.setIfInBounds i true) i:=by
 unfold LT; simp [h]
theorem d3h {ops:Array Oper} {i:Nat} {o:Oper} (ho:ops[i]? = some o) {d:Nat}:d ∈ a6i ops i ↔ ∃ e ∈ o.after,Region.binds .any e = true ∧ e.on = d:=by
 simp only [a6i,ho,List.mem_map,List.mem_filter,Array.mem_toList_iff]
 constructor
 ·rintro ⟨e,⟨h1,h2⟩,h3⟩; exact ⟨e,h1,h2,h3⟩
 ·rintro ⟨e,h1,h2,h3⟩; exact ⟨e,⟨h1,h2⟩,h3⟩
theorem b8k {ops:Array Oper} {L:Array Bool} (hL:L.size = ops.size) {i:Nat}:i ∈ Region.ready .any ops L ↔ i < ops.size ∧ ¬ LT L i ∧ ∀ d ∈ a6i ops i,LT L d:=by
 rw [mem_ready]
 constructor
 ·rintro ⟨h0,o,ho,hall⟩
  have hlt:=(Array.getElem?_eq_some_iff.1 ho).1
  refine ⟨hlt,?_,?_⟩
  ·intro h; unfold LT at h
   have:i < L.size:=by omega
   simp [this] at h h0
   rw [h] at h0; cases h0
  ·intro d hd
   obtain ⟨e,h1,h2,rfl⟩:=(d3h ho).1 hd
   exact hall e h1 h2
 ·rintro ⟨hlt,hn,hall⟩
  refine ⟨?_,ops[i],by simp [hlt],?_⟩
  ·have:i < L.size:=by omega
   unfold LT at hn
   simp [this] at hn ⊢
   exact hn
  ·intro e he hb
   exact hall e.on ((d3h (by simp [hlt])).2 ⟨e,he,hb,rfl⟩)
theorem d6t {ops:Array Oper} {L:Array Bool} {i:Nat} (hclo:∀ j,LT L j → ∀ d ∈ a6i ops j,LT L d) (hi:∀ d ∈ a6i ops i,LT L d):∀ S,just ops i S = true → ∀ a ∈ S,LT L a
 | [],_,a,ha => by simp at ha
 | b :: S,hj,a,ha => by
  simp only [just,Bool.and_eq_true,Bool.or_eq_true,List.contains_iff_mem,List.any_eq_true] at hj
  have ih:=d6t hclo hi S hj.1
  rcases List.mem_cons.1 ha with rfl | ha
  ·rcases hj.2 with h | ⟨c,hc,h⟩
   ·exact hi a h
   ·exact hclo c (ih c hc) a h
  ·exact ih a ha
theorem e4q {ops:Array Oper} {L:Array Bool} {i:Nat} (hclo:∀ j,LT L j → ∀ d ∈ a6i ops j,LT L d) (hi:∀ d ∈ a6i ops i,LT L d):∀ a ∈ c6p ops i,LT L a:=by
 intro a ha
 unfold c6p at ha
 split at ha
 ·rename_i hj; exact d6t hclo hi _ hj a ha
 ·simp at ha
end Go.R
