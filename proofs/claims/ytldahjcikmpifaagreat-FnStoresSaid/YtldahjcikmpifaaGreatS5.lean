/- Part of the proof. -/
import Derived.Test.YtldahjcikmpifaaGreatS4
import Derived.RangeFuncBox
import Derived.Deep.RegionHeldLaw
import Derived.Deep.AppendLies
import Derived.Maps.AppendAt
import Derived.Laws.ResultCell
import Derived.Test.YtldahjcikmpifaaGreatRows
section
set_option linter.all false
namespace Go.R
open Go Go.Proofs Go.RowKit
set_option maxHeartbeats 400000
def Bx (W:World) (B:Nat) (t:TypeId) (cs:Array Value):Prop:=W.heap[B]? = some (.cells cs t (0,0))
theorem Bx.lt {W:World} {B:Nat} {t:TypeId} {cs:Array Value} (h:Bx W B t cs):B < W.heap.size:=(Array.getElem?_eq_some_iff.1 h).1
theorem Bx.kept {W W':World} {row:Option Nat} {B:Nat} {t:TypeId} {v:Array Value} (h:Bx W B t v) (hg:W.grownBy W' row) (hne:some B ≠ row):Bx W' B t v:=(hg.block B h.lt hne).trans h
theorem Bx.not_row {W:World} {B:Nat} {t e:TypeId} {u:Array Value} (h:Bx W B t u) (hte:t ≠ e) {base size k:Nat} {v:Value} {xs:List Value} (hr:W.ownsRow base e size v k xs):some B ≠ v.ownBlock:=by
  rcases hr.2 with ⟨rfl,_⟩ | ⟨g,cap,cur,rfl,_,hgb,_⟩
  · simp [Value.ownBlock]
  · intro e'
    obtain rfl:B = g:=by simpa [Value.ownBlock] using e'
    have:=(show W.heap[B]? = _ from h).symm.trans hgb
    simp at this
    exact hte this.2
theorem Bx.own {β:Type} (B:Nat) (t:TypeId) (cs:Array Value):Own (fun (_:β) W => Bx W B t cs):=by
  intro s X Y row hs hg hrow
  refine hs.kept hg fun e' => ?_
  obtain ⟨o,ho,hc⟩:=hrow B e'.symm
  rw [show X.heap[B]? = _ from hs] at ho; cases ho; cases hc
theorem Bx.setCell {W:World} {B B':Nat} {t:TypeId} {cs:Array Value} (h:Bx W B t cs) (hne:B ≠ B') (v:Value):Bx (W.setCell ⟨B',0,none⟩ v) B t cs:=h.kept (grownBy_setCell' W B' v) (by simpa using hne)
theorem Bx.alloc {W:World} {B:Nat} {t:TypeId} {cs:Array Value} (h:Bx W B t cs) (o:Obj):Bx (W.alloc o) B t cs:=h.kept (World.grownBy_alloc W o none) (by simp)
theorem Bx.new (W:World) (t:TypeId) (cs:Array Value):Bx (W.alloc (.cells cs t)) W.heap.size t cs:=World.alloc_heap_new W _
theorem Bx.below {W W':World} {n B:Nat} {t:TypeId} {cs:Array Value} (h:Bx W B t cs) (hb:Below n W W') (hn:B < n):Bx W' B t cs:=(hb.block B hn).trans h
theorem Bx.set2 {W:World} {B:Nat} {t:TypeId} {u v:Value} (h:Bx W B t #[u,v]) (x y:Value):Bx ((W.setCell ⟨B,0,none⟩ x).setCell ⟨B,1,none⟩ y) B t #[x,y]:=by
  have h1:(W.setCell ⟨B,0,none⟩ x).heap[B]? = some (.cells #[x,v] t (0,0)):=by
    obtain ⟨hlt,hk⟩:=Array.getElem?_eq_some_iff.1 h
    show (W.heap.modify B _)[B]? = _
    rw [Array.getElem?_eq_getElem (by rw [Array.size_modify]; exact hlt),Array.getElem_modify_self,hk]
    rfl
  obtain ⟨hlt,hk⟩:=Array.getElem?_eq_some_iff.1 h1
  show ((W.setCell ⟨B,0,none⟩ x).heap.modify B _)[B]? = _
  rw [Array.getElem?_eq_getElem (by rw [Array.size_modify]; exact hlt),Array.getElem_modify_self,hk]
  rfl
theorem Bx.cell2_0 {W:World} {B:Nat} {t:TypeId} {u v:Value} (h:Bx W B t #[u,v]):W.cell? ⟨B,0,none⟩ = some u:=by simp [World.cell?,show W.heap[B]? = _ from h]
theorem Bx.cell2_1 {W:World} {B:Nat} {t:TypeId} {u v:Value} (h:Bx W B t #[u,v]):W.cell? ⟨B,1,none⟩ = some v:=by simp [World.cell?,show W.heap[B]? = _ from h]
theorem Bx.cell0 {W:World} {B:Nat} {t:TypeId} {cs:Array Value} (h:Bx W B t cs) (j:Nat):W.cell? ⟨B,j,none⟩ = cs[j]?:=by simp [World.cell?,show W.heap[B]? = _ from h]
theorem Bx.frozen {W:World} {B:Nat} {t:TypeId} {cs:Array Value} (h:Bx W B t cs) (j:Nat):W.frozen? ⟨B,j,none⟩ = false:=by simp [World.frozen?,show W.heap[B]? = _ from h]
theorem Bx.setk {W:World} {B:Nat} {t:TypeId} {cs:Array Value} (h:Bx W B t cs) (j:Nat) (x:Value):Bx (W.setCell ⟨B,j,none⟩ x) B t (cs.setIfInBounds j x):=by
  obtain ⟨hlt,hk⟩:=Array.getElem?_eq_some_iff.1 h
  show (W.heap.modify B _)[B]? = _
  rw [Array.getElem?_eq_getElem (by rw [Array.size_modify]; exact hlt),Array.getElem_modify_self,hk]
  rfl
theorem Bx.setO {W:World} {B B':Nat} {t:TypeId} {cs:Array Value} (h:Bx W B t cs) (hne:B ≠ B') (j:Nat) (v:Value):Bx (W.setCell ⟨B',j,none⟩ v) B t cs:=(Below.heap_setCell _ _ _ _ hne).trans h
theorem Bx.drew {W:World} {B:Nat} {t:TypeId} {cs:Array Value} (h:Bx W B t cs):Bx W.drew B t cs:=h
end Go.R
end
section
set_option linter.all false
namespace Go.R
open Go
section
variable {P:Program} {ops:Array Oper} {Q:Exit → Act → World → Prop} {md:Region.Mode} {S:World → Prop}
def e7k (P:Program) (ops:Array Oper) (Q:Exit → Act → World → Prop) (L:Nat):Exit → Act → World → Prop
  | .normal,a,w => wpOp P ops Q L (Q .normal) a w
  | .ret,a,w => Q .ret a w
  | .exit i,a,w => Q (.exit i) a w
  | .goto t,a,w => Q (.goto t) a w
  | .panic c,a,w => Q (.panic c) a w
  | .outgrown,a,w => Q .outgrown a w
def f0x (ops:Array Oper):Bool:=(List.range ops.size).all fun i => ((ops[i]?).map fun o => o.after.all fun e => decide (e.on < i)).getD true
def f6f (md:Region.Mode) (ops:Array Oper) (L:Nat):Bool:=(List.range ops.size).all fun j => j == L || ((ops[L]?).map fun o => o.after.toList.any fun e => Region.binds md e && e.on == j).getD false
theorem f3y (h:f0x ops = true) {i:Nat} {o:Oper} (ho:ops[i]? = some o):∀ e ∈ o.after,e.on < i:=by
  intro e he
  have hlt:i < ops.size:=(Array.getElem?_eq_some_iff.1 ho).1
  have:=List.all_eq_true.1 h i (List.mem_range.2 hlt)
  rw [ho] at this
  simp only [Option.map_some,Option.getD_some,Array.all_eq_true_iff_forall_mem,decide_eq_true_eq] at this
  exact this e he
theorem e1m (h:f0x ops = true) {l:Array Bool} (hr:Region.ready md ops l = []) (hs:l.size = ops.size):∀ i,i < ops.size → l.getD i true = true:=by
  intro i
  induction i using Nat.strongRecOn with
  | _ i ih =>
    intro hi
    cases hl:l.getD i true with
    | true => rfl
    | false =>
      have:i ∈ Region.ready md ops l:=by
        refine mem_ready.2 ⟨hl,ops[i],Array.getElem?_eq_getElem hi,fun e he _ => ?_⟩
        have h1:=f3y h (Array.getElem?_eq_getElem hi) e he
        have h2:=ih e.on h1 (by omega)
        have h3:e.on < l.size:=by omega
        simp only [Array.getD_eq_getD_getElem?,Array.getElem?_eq_getElem h3,Option.getD_some] at h2 ⊢
        exact h2
      rw [hr] at this
      cases this
theorem e1n {L:Nat} (hord:f0x ops = true) (hdep:f6f md ops L = true) (hL:L < ops.size):∀ (fuel:Nat) (listed:Array Bool) (a:Act) (w:World),listed.size = ops.size → listed.getD L true = false →
    wpAny P md ops (e7k P ops Q L) fuel (listed.setIfInBounds L true) a w → wpAny P md ops Q (fuel + 1) listed a w:=by
  have deps:∀ {listed:Array Bool},listed.size = ops.size → L ∈ Region.ready md ops listed → Region.ready md ops (listed.setIfInBounds L true) = []:=by
    intro listed hs hr
    obtain ⟨_,o,ho,hall⟩:=mem_ready.1 hr
    apply List.eq_nil_iff_forall_not_mem.2
    intro j hj
    obtain ⟨h0,oj,hoj,_⟩:=mem_ready.1 hj
    have hjl:j < ops.size:=(Array.getElem?_eq_some_iff.1 hoj).1
    by_cases hjL:j = L
    · subst hjL
      simp [Array.getD_eq_getD_getElem?,hs,hL] at h0
    · have hd:=List.all_eq_true.1 hdep j (List.mem_range.2 hjl)
      rw [ho] at hd
      simp only [Bool.or_eq_true,beq_iff_eq,hjL,false_or,Option.map_some,Option.getD_some,List.any_eq_true,Bool.and_eq_true] at hd
      obtain ⟨e,he,hb,rfl⟩:=hd
      have he:e ∈ o.after:=by simpa using he
      have:=hall e he hb
      rw [getD_set_ne true (Ne.symm hjL)] at h0
      have h3:e.on < listed.size:=by omega
      simp only [Array.getD_eq_getD_getElem?,Array.getElem?_eq_getElem h3,Option.getD_some] at h0 this
      rw [this] at h0; cases h0
  have nonempty:∀ {listed:Array Bool},listed.size = ops.size → listed.getD L true = false → Region.ready md ops listed ≠ []:=by
    intro listed hs h0 hr
    have:=e1m hord hr hs L hL
    rw [this] at h0; cases h0
  intro fuel
  induction fuel with
  | zero =>
    intro listed a w hs h0 h
    refine ⟨fun hr => absurd hr (nonempty hs h0),fun i hi => ?_⟩
    by_cases hiL:i = L
    · subst hiL
      exact wpOp_mono (fun a' w' hq => ⟨h.1,hq⟩) h.2
    · have:=ready_mono hi hiL
      rw [h.1] at this; cases this
  | succ fuel ih =>
    intro listed a w hs h0 h
    refine ⟨fun hr => absurd hr (nonempty hs h0),fun i hi => ?_⟩
    by_cases hiL:i = L
    · subst hiL
      have hr:=deps hs hi
      exact wpOp_mono (fun a' w' hq => ⟨fun _ => hq,by rw [hr]; simp⟩) (h.1 hr)
    · have h1:wpOp P ops Q i _ a w:=h.2 i (ready_mono hi hiL)
      refine wpOp_mono (fun a' w' hq => ih (listed.setIfInBounds i true) a' w' (by simpa using hs) (by rw [getD_set_ne true hiL]; exact h0) ?_) h1
      rw [Array.setIfInBounds_comm _ _ hiL]
      exact hq
theorem d1b {id:Nat} {a:Act} {w:World} (L:Nat) (hm:P.follows .mixedOrders = true) (hord:f0x ops = true) (hdep:f6f .any ops L = true) (hL:L + 1 = ops.size)
    (h:wpAnyH P .any ops (e7k P ops Q L) S L ((Array.replicate ops.size false).setIfInBounds L true) a w.drew):(Code.region id ops true).wp P Q a w:=by
  refine wp_region_any hm ?_
  rw [← hL]
  exact e1n hord hdep (by omega) L _ a w.drew (by simp [hL]) (by simp [Array.getD_eq_getD_getElem?]) (by rw [hL]; exact wpAny_of_held _ _ _ _ h)
end
end Go.R
end
section
set_option linter.all false
namespace Go.R
open Go Go.Proofs Go.RowKit
set_option maxHeartbeats 400000
structure e7l (t k N:Nat) (w':World) (b tl tc:Nat) (curB:Array Value) (eB:TypeId) (g n c:Nat) (cur:Array Value) (e0:TypeId):Prop where
  hb:w'.heap[b]? = some (.cells curB eB (0,0))
  ht:curB[t]? = some (.slice (some ⟨g,0,none⟩) n c)
  tlt:t < tl
  hg:w'.heap[g]? = some (.cells cur e0 (0,0))
  kn:k < n
  nc:n ≤ c
  cM:c ≤ maxLen
  n30:n ≤ 1073741824
  bge:N ≤ b
  gge:N ≤ g
  csz:n * 2 ≤ cur.size
  one:∀ u ∈ cur.toList.take (n * 2),u.oneCell' = true
theorem U34:Tryz.prog.underlying 34 = some (.slice 39):=by kernel_rfl
theorem I39:(Tryz.prog.info? 39).map (fun i => (i.zero,i.size,i.bytes)) = some (some (.agg #[.int .i64 0,.slice none 0 0]),2,32):=by kernel_rfl
theorem step_append_any {P:Program} (w:World) {ops:Array Oper} {o:Oper} {a:Act} {K:Act → World → Prop} {Q:Exit → Act → World → Prop} {E:Prop} (hgd:o.guard = none) (s x:Operand) (t:TypeId)
    (ho:o.op = .call { callee:=.builtin .append,args:=#[s,x],argTypes:=#[t,t] })
    (base:Nat) (e:TypeId) (i:TypeInfo) (z:Value) (size bytes:Nat) (ht:P.underlying t = some (.slice e)) (hi:P.info? e = some i) (hz:i.zero = some z)
    (hsize:i.size = size) (hby:i.bytes = bytes) (hzs:z.cells.size = size) (hsz:0 < size)
    (v:Value) (n:Nat) (xs:List Value) (hown:w.ownsRow base e size v n xs) (ad:Addr) (m c:Nat) (news:List Value) (hs:a.eval s = v) (hx:a.eval x = .slice (some ad) m c)
    (hl:news.length = m * size) (hnews:∀ j u,news[j]? = some u → w.cell? (ad.add j) = some u) (h1:∀ u ∈ news,u.oneCell' = true)
    (h63:n + m ≤ maxLen) (hbytes:(n + m) * bytes ≤ 140737488355328) (hbase:base ≤ w.heap.size)
    (h:∀ y0 y1 y2 w',w'.ownsRow base e size (.slice y0 y1 y2) (n + m) (xs ++ news) → w.grownBy w' v.ownBlock → K (a.put o.dst (.slice y0 y1 y2)) w') :
    if Region.wanted o (yielded ops a.tmps) = true then Oper.wp P o a w K Q else E:=by
  have hw:Region.wanted o (yielded ops a.tmps) = true:=by simp [Region.wanted,hgd]
  rw [if_pos hw]
  obtain ⟨v',w',hr,h2,h3,_,h5⟩:=run_append_own_at (P:=P) w base t o.type e i z size bytes ht hi hz hsize hby hzs hsz v n xs hown ad m c news hl hnews h1 h63 hbytes hbase
  obtain ⟨y0,y1,y2,rfl⟩:∃ y0 y1 y2,v' = .slice y0 y1 y2:=by
    rcases h2.2 with ⟨rfl,_⟩ | ⟨g,cap,cur,rfl,_⟩
    · exact ⟨_,_,_,rfl⟩
    · exact ⟨_,_,_,rfl⟩
  unfold Oper.wp execOp
  simp only [ho,resolve,invoke,builtin,Sem.run_bind,Sem.run_pure,Result.andThen_ok,List.map_toArray,List.map_cons,List.map_nil,hs,hx,hr]
  exact h y0 y1 y2 w' h2 h3
theorem Bx.news {W:World} {B:Nat} {t:TypeId} {cs:Array Value} (h:Bx W B t cs) (off n:Nat):∀ j v,((cs.toList.take n).drop off)[j]? = some v → W.cell? ((⟨B,off,none⟩:Addr).add j) = some v:=f3m h off n
theorem Bx.grown {W W':World} {row:Option Nat} {B N:Nat} {t:TypeId} {cs:Array Value} (h:Bx W B t cs) (hB:B < N) (hg:W.grownBy W' row) (hr:∀ r,row = some r → N ≤ r):Bx W' B t cs:=h.kept hg (fun e => by have:=hr B e.symm; omega)
theorem c4d {P:Program} {ops:Array Oper} {Q:Exit → Act → World → Prop} {i:Nat} {o:Oper} {a:Act} {w w':World} {v:Value} {K:Act → World → Prop} (ho:ops[i]? = some o) (hg:o.guard = none) (hr:(execOp a.eval o).run P w = .ok (.value v) w') (hK:K (a.put o.dst v) w'):wpOp P ops Q i K a w:=by
  have hw:Region.wanted o (yielded ops a.tmps) = true:=by simp [Region.wanted,hg]
  unfold wpOp
  simp only [ho,hw,if_true,Oper.wp,hr,Oper.upon]
  exact .inl hK
theorem e4t {P:Program} {ops:Array Oper} {Q:Exit → Act → World → Prop} {i:Nat} {o:Oper} {a:Act} {w w':World} {K:Act → World → Prop} (ho:ops[i]? = some o) (hg:o.guard = none) (hr:(execOp a.eval o).run P w = .ok .skip w') (hK:K (a.put o.dst undef) w'):wpOp P ops Q i K a w:=by
  have hw:Region.wanted o (yielded ops a.tmps) = true:=by simp [Region.wanted,hg]
  unfold wpOp
  simp only [ho,hw,if_true,Oper.wp,hr,Oper.upon]
  exact .inl hK
theorem c7x {P:Program} (w:World) {o:Oper} {a:Act} (s x:Operand) (t:TypeId)
    (ho:o.op = .call { callee:=.builtin .append,args:=#[s,x],argTypes:=#[t,t] })
    (base:Nat) (e:TypeId) (i:TypeInfo) (z:Value) (size bytes:Nat) (ht:P.underlying t = some (.slice e)) (hi:P.info? e = some i) (hz:i.zero = some z)
    (hsize:i.size = size) (hby:i.bytes = bytes) (hzs:z.cells.size = size) (hsz:0 < size)
    (v:Value) (n:Nat) (xs:List Value) (hown:w.ownsRow base e size v n xs) (ad:Addr) (m c:Nat) (news:List Value) (hs:a.eval s = v) (hx:a.eval x = .slice (some ad) m c)
    (hl:news.length = m * size) (hnews:∀ j u,news[j]? = some u → w.cell? (ad.add j) = some u) (h1:∀ u ∈ news,u.oneCell' = true)
    (h63:n + m ≤ maxLen) (hbytes:(n + m) * bytes ≤ 140737488355328) (hbase:base ≤ w.heap.size) :
    ∃ y0 y1 y2 w',(execOp a.eval o).run P w = .ok (.value (.slice y0 y1 y2)) w' ∧ w'.ownsRow base e size (.slice y0 y1 y2) (n + m) (xs ++ news) ∧ w.grownBy w' v.ownBlock:=by
  obtain ⟨v',w',hr,h2,h3,_,h5⟩:=run_append_own_at (P:=P) w base t o.type e i z size bytes ht hi hz hsize hby hzs hsz v n xs hown ad m c news hl hnews h1 h63 hbytes hbase
  obtain ⟨y0,y1,y2,rfl⟩:∃ y0 y1 y2,v' = .slice y0 y1 y2:=by
    rcases h2.2 with ⟨rfl,_⟩ | ⟨g,cap,cur,rfl,_⟩
    · exact ⟨_,_,_,rfl⟩
    · exact ⟨_,_,_,rfl⟩
  refine ⟨y0,y1,y2,w',?_,h2,h3⟩
  unfold execOp
  simp only [ho,resolve,invoke,builtin,Sem.run_bind,Sem.run_pure,Result.andThen_ok,List.map_toArray,List.map_cons,List.map_nil,hs,hx,hr]
theorem c7y {P:Program} (w:World) {ops:Array Oper} {Q:Exit → Act → World → Prop} {idx:Nat} {o:Oper} {a:Act} {K:Act → World → Prop} (hio:ops[idx]? = some o) (hg:o.guard = none) (s x:Operand) (t:TypeId)
    (ho:o.op = .call { callee:=.builtin .append,args:=#[s,x],argTypes:=#[t,t] })
    (base:Nat) (e:TypeId) (i:TypeInfo) (z:Value) (size bytes:Nat) (ht:P.underlying t = some (.slice e)) (hi:P.info? e = some i) (hz:i.zero = some z)
    (hsize:i.size = size) (hby:i.bytes = bytes) (hzs:z.cells.size = size) (hsz:0 < size)
    (v:Value) (n:Nat) (xs:List Value) (hown:w.ownsRow base e size v n xs) (ad:Addr) (m c:Nat) (news:List Value) (hs:a.eval s = v) (hx:a.eval x = .slice (some ad) m c)
    (hl:news.length = m * size) (hnews:∀ j u,news[j]? = some u → w.cell? (ad.add j) = some u) (h1:∀ u ∈ news,u.oneCell' = true)
    (h63:n + m ≤ maxLen) (hbytes:(n + m) * bytes ≤ 140737488355328) (hbase:base ≤ w.heap.size)
    (h:∀ y0 y1 y2 w',w'.ownsRow base e size (.slice y0 y1 y2) (n + m) (xs ++ news) → w.grownBy w' v.ownBlock → K (a.put o.dst (.slice y0 y1 y2)) w'):wpOp P ops Q idx K a w:=by
  obtain ⟨y0,y1,y2,w',hr,h2,h3⟩:=c7x w s x t ho base e i z size bytes ht hi hz hsize hby hzs hsz v n xs hown ad m c news hs hx hl hnews h1 h63 hbytes hbase
  exact c4d hio hg hr (h y0 y1 y2 w' h2 h3)
noncomputable def ops204:Array Oper:=match Tryz.f204.body with
  | some (.seq _ (.seq _ (.seq (.region _ o _) _))) => o
  | _ => #[]
set_option maxHeartbeats 4000000 in
set_option maxRecDepth 100000 in
theorem d8l (Q:Exit → Act → World → Prop) (W:World) (N b tl tc g n c t k:Nat) (A0 A7 A8:Value) (XN:N < W.heap.size) {eB e0:TypeId} {curB cur:Array Value} (TB:Bx W b eB curB) (GB:Bx W g e0 cur) (hbN:b ≠ N) (n30:n ≤ 1073741824) (csz:n * 2 ≤ cur.size) (one:∀ u ∈ cur.toList.take (n * 2),u.oneCell' = true) (hcM:c ≤ maxLen) (hnc:n ≤ c) (hQ:∀ c a (d:Tmp) v w,Q (.panic c) (a.put (some d) v) w → Q (.panic c) a w)
    (c0:W.drew.cell? ⟨N,0,none⟩ = some (.slice (some ⟨b,0,none⟩) tl tc)) (c1:W.drew.cell? ⟨b,t,none⟩ = some (.slice (some ⟨g,0,none⟩) n c))
    (hti:(t:Int) < (tl:Int)) (hkc:(k:Int) ≤ (c:Int)) (hkc':k ≤ c) (hwk:IntKind.i64.wrap ((k:Int) + 1) = (k:Int) + 1) (hkn:(k:Int) + 1 ≤ (n:Int)) (hkn0:(0:Int) ≤ (k:Int) + 1) (htn:((k:Int) + 1).toNat = k + 1) (hkn':k + 1 ≤ n)
    (hK:∀ (a':Act) (y0:Option Addr) (y1 y2:Nat) (w2:World),a'.eval (.tmp 3) = .pointer (some ⟨N,0,none⟩) → a'.eval (.tmp 6) = .pointer (some ⟨N + 1,0,none⟩) → a'.tmps.size = 32 → a'.defers = [] → w2.ownsRow W.heap.size 39 2 (.slice y0 y1 y2) (k + (n - (k + 1))) (cur.toList.take (k * 2) ++ (cur.toList.take (n * 2)).drop ((k + 1) * 2)) → Below W.heap.size W w2 → Q .normal a' (w2.setCell ⟨b,t,none⟩ (.slice y0 y1 y2))):(Code.region 2 ops204 true).wp Tryz.prog Q { tmps:=#[A0,.int .i64 t,.int .i64 k,.pointer (some ⟨N,0,none⟩),undef,undef,.pointer (some ⟨N + 1,0,none⟩),A7,A8,undef,undef,undef,undef,undef,undef,undef,undef,undef,undef,undef,undef,undef,undef,undef,undef,undef,undef,undef,undef,undef,undef,undef],defers:=[] } W:=by
  have mixed:Tryz.prog.follows .mixedOrders = true:=by kernel_rfl
  unfold ops204 Tryz.f204
  dsimp only
  refine d1b (S:=fun w' => w'.cell? ⟨N,0,none⟩ = some (.slice (some ⟨b,0,none⟩) tl tc) ∧ w'.cell? ⟨b,t,none⟩ = some (.slice (some ⟨g,0,none⟩) n c)) 22 mixed (by kernel_rfl) (by kernel_rfl) rfl ?_
  have hS0:(fun w':World => w'.cell? ⟨N,0,none⟩ = some (.slice (some ⟨b,0,none⟩) tl tc) ∧ w'.cell? ⟨b,t,none⟩ = some (.slice (some ⟨g,0,none⟩) n c)) W.drew:=⟨c0,c1⟩
  refine wpAnyH_take (i:=0) (v:=(.pointer (some ⟨N,0,none⟩))) rfl (by kernel_rfl) (by kernel_rfl) (by kernel_rfl) (fun c a w h => hQ c a _ _ w h) (Or.inl ⟨by rfl,fun w' hS => ?_⟩) hS0 ?_
  · obtain ⟨s1,s2⟩:=hS; simp [go_sem,execOp,Act.eval,Act.put,s1,s2,hti,hkc,hkc',hwk,hkn,hkn0,htn,hkn']
  refine wpAnyH_take (i:=1) (v:=(.slice (some ⟨b,0,none⟩) tl tc)) rfl (by kernel_rfl) (by kernel_rfl) (by kernel_rfl) (fun c a w h => hQ c a _ _ w h) (Or.inl ⟨by rfl,fun w' hS => ?_⟩) hS0 ?_
  · obtain ⟨s1,s2⟩:=hS; simp [go_sem,execOp,Act.eval,Act.put,s1,s2,hti,hkc,hkc',hwk,hkn,hkn0,htn,hkn']
  refine wpAnyH_take (i:=2) (v:=(.int .i64 t)) rfl (by kernel_rfl) (by kernel_rfl) (by kernel_rfl) (fun c a w h => hQ c a _ _ w h) (Or.inl ⟨by rfl,fun w' hS => ?_⟩) hS0 ?_
  · obtain ⟨s1,s2⟩:=hS; simp [go_sem,execOp,Act.eval,Act.put,s1,s2,hti,hkc,hkc',hwk,hkn,hkn0,htn,hkn']
  refine wpAnyH_take (i:=4) (v:=(.pointer (some ⟨N,0,none⟩))) rfl (by kernel_rfl) (by kernel_rfl) (by kernel_rfl) (fun c a w h => hQ c a _ _ w h) (Or.inl ⟨by rfl,fun w' hS => ?_⟩) hS0 ?_
  · obtain ⟨s1,s2⟩:=hS; simp [go_sem,execOp,Act.eval,Act.put,s1,s2,hti,hkc,hkc',hwk,hkn,hkn0,htn,hkn']
  refine wpAnyH_take (i:=5) (v:=(.slice (some ⟨b,0,none⟩) tl tc)) rfl (by kernel_rfl) (by kernel_rfl) (by kernel_rfl) (fun c a w h => hQ c a _ _ w h) (Or.inl ⟨by rfl,fun w' hS => ?_⟩) hS0 ?_
  · obtain ⟨s1,s2⟩:=hS; simp [go_sem,execOp,Act.eval,Act.put,s1,s2,hti,hkc,hkc',hwk,hkn,hkn0,htn,hkn']
  refine wpAnyH_take (i:=6) (v:=(.int .i64 t)) rfl (by kernel_rfl) (by kernel_rfl) (by kernel_rfl) (fun c a w h => hQ c a _ _ w h) (Or.inl ⟨by rfl,fun w' hS => ?_⟩) hS0 ?_
  · obtain ⟨s1,s2⟩:=hS; simp [go_sem,execOp,Act.eval,Act.put,s1,s2,hti,hkc,hkc',hwk,hkn,hkn0,htn,hkn']
  refine wpAnyH_take (i:=7) (v:=(.pointer (some ⟨b,t,none⟩))) rfl (by kernel_rfl) (by kernel_rfl) (by kernel_rfl) (fun c a w h => hQ c a _ _ w h) (Or.inl ⟨by rfl,fun w' hS => ?_⟩) hS0 ?_
  · obtain ⟨s1,s2⟩:=hS; simp [go_sem,execOp,Act.eval,Act.put,s1,s2,hti,hkc,hkc',hwk,hkn,hkn0,htn,hkn']
  refine wpAnyH_take (i:=8) (v:=(.slice (some ⟨g,0,none⟩) n c)) rfl (by kernel_rfl) (by kernel_rfl) (by kernel_rfl) (fun c a w h => hQ c a _ _ w h) (Or.inl ⟨by rfl,fun w' hS => ?_⟩) hS0 ?_
  · obtain ⟨s1,s2⟩:=hS; simp [go_sem,execOp,Act.eval,Act.put,s1,s2,hti,hkc,hkc',hwk,hkn,hkn0,htn,hkn']
  refine wpAnyH_take (i:=9) (v:=(.int .i64 k)) rfl (by kernel_rfl) (by kernel_rfl) (by kernel_rfl) (fun c a w h => hQ c a _ _ w h) (Or.inl ⟨by rfl,fun w' hS => ?_⟩) hS0 ?_
  · obtain ⟨s1,s2⟩:=hS; simp [go_sem,execOp,Act.eval,Act.put,s1,s2,hti,hkc,hkc',hwk,hkn,hkn0,htn,hkn']
  refine wpAnyH_take (i:=10) (v:=(.slice (some ⟨g,0,none⟩) k c)) rfl (by kernel_rfl) (by kernel_rfl) (by kernel_rfl) (fun c a w h => hQ c a _ _ w h) (Or.inl ⟨by rfl,fun w' hS => ?_⟩) hS0 ?_
  · obtain ⟨s1,s2⟩:=hS; simp [go_sem,execOp,Act.eval,Act.put,s1,s2,hti,hkc,hkc',hwk,hkn,hkn0,htn,hkn']
  refine wpAnyH_take (i:=12) (v:=(.pointer (some ⟨N,0,none⟩))) rfl (by kernel_rfl) (by kernel_rfl) (by kernel_rfl) (fun c a w h => hQ c a _ _ w h) (Or.inl ⟨by rfl,fun w' hS => ?_⟩) hS0 ?_
  · obtain ⟨s1,s2⟩:=hS; simp [go_sem,execOp,Act.eval,Act.put,s1,s2,hti,hkc,hkc',hwk,hkn,hkn0,htn,hkn']
  refine wpAnyH_take (i:=13) (v:=(.slice (some ⟨b,0,none⟩) tl tc)) rfl (by kernel_rfl) (by kernel_rfl) (by kernel_rfl) (fun c a w h => hQ c a _ _ w h) (Or.inl ⟨by rfl,fun w' hS => ?_⟩) hS0 ?_
  · obtain ⟨s1,s2⟩:=hS; simp [go_sem,execOp,Act.eval,Act.put,s1,s2,hti,hkc,hkc',hwk,hkn,hkn0,htn,hkn']
  refine wpAnyH_take (i:=14) (v:=(.int .i64 t)) rfl (by kernel_rfl) (by kernel_rfl) (by kernel_rfl) (fun c a w h => hQ c a _ _ w h) (Or.inl ⟨by rfl,fun w' hS => ?_⟩) hS0 ?_
  · obtain ⟨s1,s2⟩:=hS; simp [go_sem,execOp,Act.eval,Act.put,s1,s2,hti,hkc,hkc',hwk,hkn,hkn0,htn,hkn']
  refine wpAnyH_take (i:=15) (v:=(.pointer (some ⟨b,t,none⟩))) rfl (by kernel_rfl) (by kernel_rfl) (by kernel_rfl) (fun c a w h => hQ c a _ _ w h) (Or.inl ⟨by rfl,fun w' hS => ?_⟩) hS0 ?_
  · obtain ⟨s1,s2⟩:=hS; simp [go_sem,execOp,Act.eval,Act.put,s1,s2,hti,hkc,hkc',hwk,hkn,hkn0,htn,hkn']
  refine wpAnyH_take (i:=16) (v:=(.slice (some ⟨g,0,none⟩) n c)) rfl (by kernel_rfl) (by kernel_rfl) (by kernel_rfl) (fun c a w h => hQ c a _ _ w h) (Or.inl ⟨by rfl,fun w' hS => ?_⟩) hS0 ?_
  · obtain ⟨s1,s2⟩:=hS; simp [go_sem,execOp,Act.eval,Act.put,s1,s2,hti,hkc,hkc',hwk,hkn,hkn0,htn,hkn']
  refine wpAnyH_take (i:=17) (v:=(.int .i64 k)) rfl (by kernel_rfl) (by kernel_rfl) (by kernel_rfl) (fun c a w h => hQ c a _ _ w h) (Or.inl ⟨by rfl,fun w' hS => ?_⟩) hS0 ?_
  · obtain ⟨s1,s2⟩:=hS; simp [go_sem,execOp,Act.eval,Act.put,s1,s2,hti,hkc,hkc',hwk,hkn,hkn0,htn,hkn']
  refine wpAnyH_take (i:=18) (v:=(.int .i64 ((k:Int) + 1))) rfl (by kernel_rfl) (by kernel_rfl) (by kernel_rfl) (fun c a w h => hQ c a _ _ w h) (Or.inl ⟨by rfl,fun w' hS => ?_⟩) hS0 ?_
  · obtain ⟨s1,s2⟩:=hS; simp [go_sem,execOp,Act.eval,Act.put,s1,s2,hti,hkc,hkc',hwk,hkn,hkn0,htn,hkn']
  refine wpAnyH_take (i:=19) (v:=(.slice (if c = k + 1 then some ⟨g,0,none⟩ else some ⟨g,(k + 1) * 2,none⟩) (n - (k + 1)) (c - (k + 1)))) rfl (by kernel_rfl) (by kernel_rfl) (by kernel_rfl) (fun c a w h => hQ c a _ _ w h) (Or.inl ⟨by rfl,fun w' hS => ?_⟩) hS0 ?_
  · obtain ⟨s1,s2⟩:=hS; simp [go_sem,execOp,Act.eval,Act.put,s1,s2,hti,hkc,hkc',hwk,hkn,hkn0,htn,hkn']
  obtain ⟨i0,hi,hz0,hz1,hz2⟩:=info_parts I39
  have hM:1073741824 ≤ maxLen:=by decide
  refine wpAnyH_all (rs:=[3]) (by kernel_rfl) (by simp) ?_
  intro i hi3
  obtain rfl:i = 3:=by simpa using hi3
  clear hi3
  have TB2:Bx (W.drew.alloc (.cells #[] 39)) b eB curB:=TB.drew.alloc _
  have GB2:Bx (W.drew.alloc (.cells #[] 39)) g e0 cur:=GB.drew.alloc _
  have d0:(W.drew.alloc (.cells #[] 39)).cell? ⟨N,0,none⟩ = some (.slice (some ⟨b,0,none⟩) tl tc):=(World.cell?_alloc_lt _ _ _ XN).trans c0
  have d1:(W.drew.alloc (.cells #[] 39)).cell? ⟨b,t,none⟩ = some (.slice (some ⟨g,0,none⟩) n c):=(World.cell?_alloc_lt _ _ _ TB.lt).trans c1
  have hrow0:(W.drew.alloc (.cells #[] 39)).ownsRow W.heap.size 39 2 (.slice (some ⟨W.heap.size,0,none⟩) 0 0) 0 []:=World.ownsRow_made (e:=39) (size:=2) (base:=W.heap.size) W.drew #[] 0 (Nat.le_refl _) (by decide) rfl
  have B2:Below W.heap.size W (W.drew.alloc (.cells #[] 39)):=(Below.refl _ W).drew.alloc (Nat.le_refl _) _
  have z2:(W.drew.alloc (.cells #[] 39)).heap.size = W.heap.size + 1:=by simp
  refine c4d rfl rfl (v:=.slice (some ⟨W.heap.size,0,none⟩) 0 0) (w':=W.drew.alloc (.cells #[] 39)) (by simp [go_sem,execOp,hi,hz1,hz0]) ?_
  refine ⟨⟨d0,d1⟩,?_⟩
  generalize W.drew.alloc (.cells #[] 39) = W2 at *
  refine wpAnyH_all (rs:=[11]) (by kernel_rfl) (by simp) ?_
  intro i hi3
  obtain rfl:i = 11:=by simpa using hi3
  clear hi3
  refine c7y W2 rfl rfl (.tmp 12) (.tmp 19) 34 rfl W.heap.size 39 i0 _ 2 32 U34 hi hz0 hz1 hz2 rfl (by decide) (.slice (some ⟨W.heap.size,0,none⟩) 0 0) 0 [] hrow0 ⟨g,0,none⟩ k c (cur.toList.take (k * 2)) (by simp [Act.eval,Act.put]) (by simp [Act.eval,Act.put]) (by simp; omega) (by have:=GB2.news 0 (k * 2); simpa using this) (fun u hu => one u (List.mem_of_mem_take (i:=k * 2) (by rw [List.take_take,Nat.min_eq_left (by omega)]; exact hu))) (by omega) (by omega) (by omega) ?_
  intro u0 u1 u2 W3 own1 gr1
  have hrn:∀ r,(Value.slice (some ⟨W.heap.size,0,none⟩) 0 0).ownBlock = some r → W.heap.size ≤ r:=by intro r e; simp [Value.ownBlock] at e; omega
  have TB3:=TB2.grown (N:=W.heap.size) TB.lt gr1 hrn
  have GB3:=GB2.grown (N:=W.heap.size) GB.lt gr1 hrn
  have B3:Below W.heap.size W W3:=B2.grown gr1 (by omega) hrn
  have d0':W3.cell? ⟨N,0,none⟩ = some (.slice (some ⟨b,0,none⟩) tl tc):=(World.cell?_of_block (gr1.block N (by omega) (fun e => by have:=hrn N e.symm; omega))).trans d0
  have d1':W3.cell? ⟨b,t,none⟩ = some (.slice (some ⟨g,0,none⟩) n c):=((TB3.cell0 t).trans (TB2.cell0 t).symm).trans d1
  refine ⟨⟨d0',d1'⟩,?_⟩
  refine wpAnyH_all (rs:=[20]) (by kernel_rfl) (by simp) ?_
  intro i hi3
  obtain rfl:i = 20:=by simpa using hi3
  clear hi3
  have z3:=B3.size
  refine c7y W3 rfl rfl (.tmp 20) (.tmp 28) 34 rfl W.heap.size 39 i0 _ 2 32 U34 hi hz0 hz1 hz2 rfl (by decide) (.slice u0 u1 u2) (0 + k) _ own1 (if c = k + 1 then ⟨g,0,none⟩ else ⟨g,(k + 1) * 2,none⟩) (n - (k + 1)) (c - (k + 1)) ((cur.toList.take (n * 2)).drop ((k + 1) * 2)) (by simp [Act.eval,Act.put]) (by by_cases hck:c = k + 1 <;> simp [Act.eval,Act.put,hck]) (by simp; omega) (by
      have:=GB3.news ((k + 1) * 2) (n * 2)
      by_cases hck:c = k + 1
      · intro j u h
        have h2:=(List.getElem?_eq_some_iff.1 h).1
        simp at h2; omega
      · rw [if_neg hck]; exact this) (fun u hu => one u (List.mem_of_mem_drop hu)) (by omega) (by omega) z3 ?_
  intro y0 y1 y2 W4 own2 gr2
  have hrn2:∀ r,(Value.slice u0 u1 u2).ownBlock = some r → W.heap.size ≤ r:=fun r e => (own1.lt r e).1
  have TB4:=TB3.grown (N:=W.heap.size) TB.lt gr2 hrn2
  have B4:Below W.heap.size W W4:=B3.grown gr2 z3 hrn2
  have d0'':W4.cell? ⟨N,0,none⟩ = some (.slice (some ⟨b,0,none⟩) tl tc):=(World.cell?_of_block (gr2.block N (by omega) (fun e => by have:=hrn2 N e.symm; omega))).trans d0'
  have d1'':W4.cell? ⟨b,t,none⟩ = some (.slice (some ⟨g,0,none⟩) n c):=((TB4.cell0 t).trans (TB3.cell0 t).symm).trans d1'
  refine ⟨⟨d0'',d1''⟩,?_⟩
  refine wpAnyH_all (rs:=[21]) (by kernel_rfl) (by simp) ?_
  intro i hi3
  obtain rfl:i = 21:=by simpa using hi3
  clear hi3
  refine c4d rfl rfl (v:=.pointer (some ⟨b,t,none⟩)) (w':=W4) (by simp [go_sem,execOp,Act.eval,Act.put,hti]) ?_
  refine ⟨⟨d0'',d1''⟩,wpAnyH_done (by kernel_rfl) ?_ _⟩
  have f4:=TB4.frozen t
  rw [e7k]
  refine e4t rfl rfl (w':=W4.setCell ⟨b,t,none⟩ (.slice y0 y1 y2)) (by simp [go_sem,execOp,Act.eval,Act.put,d1'',f4]) ?_
  rw [Nat.zero_add,List.nil_append] at own2
  exact hK _ y0 y1 y2 W4 (by simp [Act.eval,Act.put]) (by simp [Act.eval,Act.put]) (by simp [Act.put]) (by simp [Act.put]) own2 B4
set_option maxHeartbeats 4000000 in
set_option maxRecDepth 100000 in
theorem e7m (w:World) (p0:Option Addr) (p1 p2:Nat) (nx0:Int) (t k:Nat) (hk:k < 1073741824) (ht:t < 1073741824) (R:World → Nat → Nat → Nat → Int → Nat → Nat → Array Value → TypeId → Nat → Nat → Array Value → TypeId → Prop)
    (h147:∀ W,Below w.heap.size w W → W.heap.size = w.heap.size + 2 → Calls Tryz.prog 147 #[.agg #[.slice p0 p1 p2,.int .i64 nx0]] W fun e w' => Below W.heap.size W w' ∧ ∃ b tl tc nx curB eB g n c cur e0,e = .returned (.agg #[.slice (some ⟨b,0,none⟩) tl tc,.int .i64 nx]) ∧ e7l t k W.heap.size w' b tl tc curB eB g n c cur e0 ∧ R w' b tl tc nx g n curB eB c 0 cur e0) :
    Calls Tryz.prog 204 #[.agg #[.slice p0 p1 p2,.int .i64 nx0],.int .i64 t,.int .i64 k] w fun e w' => Below w.heap.size w w' ∧ ∃ w1 b tl tc nx curB eB g n c cur e0 y0 y1 y2,e7l t k (w.heap.size + 2) w1 b tl tc curB eB g n c cur e0 ∧ R w1 b tl tc nx g n curB eB c 0 cur e0 ∧
      e = .returned (.agg #[.slice (some ⟨b,0,none⟩) tl tc,.int .i64 nx]) ∧ w'.ownsRow w1.heap.size 39 2 (.slice y0 y1 y2) (k + (n - (k + 1))) (cur.toList.take (k * 2) ++ (cur.toList.take (n * 2)).drop ((k + 1) * 2)) ∧ (∀ q,w.heap.size + 2 ≤ q → q < w1.heap.size → q ≠ b → w'.heap[q]? = w1.heap[q]?) ∧ Bx w' b eB (curB.setIfInBounds t (.slice y0 y1 y2)):=by
  have mixed:Tryz.prog.follows .mixedOrders = true:=by kernel_rfl
  have hB1:Below w.heap.size w ((w.alloc (.cells #[.slice p0 p1 p2,.int .i64 nx0] 29)).alloc (.cells #[.slice none 0 0,.int .i64 0] 29)):=((Below.refl _ w).alloc (Nat.le_refl _) _).alloc (by simp) _
  have hxB:Bx ((w.alloc (.cells #[.slice p0 p1 p2,.int .i64 nx0] 29)).alloc (.cells #[.slice none 0 0,.int .i64 0] 29)) w.heap.size 29 #[.slice p0 p1 p2,.int .i64 nx0]:=(Bx.new w 29 _).alloc _
  have hrB:Bx ((w.alloc (.cells #[.slice p0 p1 p2,.int .i64 nx0] 29)).alloc (.cells #[.slice none 0 0,.int .i64 0] 29)) (w.heap.size + 1) 29 #[.slice none 0 0,.int .i64 0]:=by
    have:=Bx.new (w.alloc (.cells #[.slice p0 p1 p2,.int .i64 nx0] 29)) 29 #[.slice none 0 0,.int .i64 0]
    rw [World.size_alloc] at this
    exact this
  go_enter Tryz.func204,(show Tryz.f204.ntmps = 32 from rfl)
  go_wp2_with (go_at_call 147; refine (h147 _ hB1 (by simp)).mono ?_; rintro e w1 ⟨hb1,b,tl,tc,nx,curB,eB,g,n,c,cur,e0,rfl,D,hR⟩; have hx1:=hxB.below hb1 hxB.lt; have f1:=hx1.cell0 0; have f2:=hx1.cell0 1; have f3:=hx1.frozen 0; have f4:=hx1.frozen 1)
  have hN:((w.alloc (.cells #[.slice p0 p1 p2,.int .i64 nx0] 29)).alloc (.cells #[.slice none 0 0,.int .i64 0] 29)).heap.size = w.heap.size + 2:=by simp
  have hr1:=hrB.below hb1 hrB.lt
  rw [hN] at D hb1
  have kn:=D.kn
  have nc:=D.nc
  have n30:=D.n30
  have csz:=D.csz
  have hbge:=D.bge
  have hgge:=D.gge
  have hs1:=hb1.size
  rw [hN] at hs1
  have XB:=Bx.set2 hx1 (.slice (some ⟨b,0,none⟩) tl tc) (.int .i64 nx)
  have RB:=(hr1.setO (B':=w.heap.size) (by omega) 0 (.slice (some ⟨b,0,none⟩) tl tc)).setO (B':=w.heap.size) (by omega) 1 (.int .i64 nx)
  have TB:=((show Bx w1 b eB curB from D.hb).setO (B':=w.heap.size) (by omega) 0 (.slice (some ⟨b,0,none⟩) tl tc)).setO (B':=w.heap.size) (by omega) 1 (.int .i64 nx)
  have GB:=((show Bx w1 g e0 cur from D.hg).setO (B':=w.heap.size) (by omega) 0 (.slice (some ⟨b,0,none⟩) tl tc)).setO (B':=w.heap.size) (by omega) 1 (.int .i64 nx)
  have hWs:((w1.setCell ⟨w.heap.size,0,none⟩ (.slice (some ⟨b,0,none⟩) tl tc)).setCell ⟨w.heap.size,1,none⟩ (.int .i64 nx)).heap.size = w1.heap.size:=by simp
  refine d8l _ _ w.heap.size b tl tc g n c t k _ _ _ (by rw [hWs]; omega) TB GB (by omega) n30 csz D.one D.cM nc (fun _ _ _ _ _ h => h) (XB.cell0 0) ((TB.cell0 t).trans D.ht) (by have:=D.tlt; omega) (by omega) (by omega) (by rw [IntKind.wrap_i64]; omega) (by omega) (by omega) (by omega) (by omega) ?_
  intro a' y0 y1 y2 w2 t3 t6 sz hd own B
  have hbl:=TB.lt
  have XB4:=(XB.below B (by rw [hWs]; omega)).setO (B':=b) (by omega) t (.slice y0 y1 y2)
  have RB4:=(RB.below B (by rw [hWs]; omega)).setO (B':=b) (by omega) t (.slice y0 y1 y2)
  have TB4:=(TB.below B hbl).setk t (.slice y0 y1 y2)
  have hz4:(w2.setCell ⟨b,t,none⟩ (.slice y0 y1 y2)).heap.size = w2.heap.size:=by simp
  obtain ⟨tm,df⟩:=a'
  simp only at sz hd
  subst hd
  obtain ⟨l⟩:=tm
  simp only [List.size_toArray] at sz
  rcases l with _ | ⟨z0,l⟩
  · exact absurd sz (by simp)
  rcases l with _ | ⟨z1,l⟩
  · exact absurd sz (by simp)
  rcases l with _ | ⟨z2,l⟩
  · exact absurd sz (by simp)
  rcases l with _ | ⟨z3,l⟩
  · exact absurd sz (by simp)
  rcases l with _ | ⟨z4,l⟩
  · exact absurd sz (by simp)
  rcases l with _ | ⟨z5,l⟩
  · exact absurd sz (by simp)
  rcases l with _ | ⟨z6,l⟩
  · exact absurd sz (by simp)
  rcases l with _ | ⟨z7,l⟩
  · exact absurd sz (by simp)
  rcases l with _ | ⟨z8,l⟩
  · exact absurd sz (by simp)
  rcases l with _ | ⟨z9,l⟩
  · exact absurd sz (by simp)
  rcases l with _ | ⟨z10,l⟩
  · exact absurd sz (by simp)
  rcases l with _ | ⟨z11,l⟩
  · exact absurd sz (by simp)
  rcases l with _ | ⟨z12,l⟩
  · exact absurd sz (by simp)
  rcases l with _ | ⟨z13,l⟩
  · exact absurd sz (by simp)
  rcases l with _ | ⟨z14,l⟩
  · exact absurd sz (by simp)
  rcases l with _ | ⟨z15,l⟩
  · exact absurd sz (by simp)
  rcases l with _ | ⟨z16,l⟩
  · exact absurd sz (by simp)
  rcases l with _ | ⟨z17,l⟩
  · exact absurd sz (by simp)
  rcases l with _ | ⟨z18,l⟩
  · exact absurd sz (by simp)
  rcases l with _ | ⟨z19,l⟩
  · exact absurd sz (by simp)
  rcases l with _ | ⟨z20,l⟩
  · exact absurd sz (by simp)
  rcases l with _ | ⟨z21,l⟩
  · exact absurd sz (by simp)
  rcases l with _ | ⟨z22,l⟩
  · exact absurd sz (by simp)
  rcases l with _ | ⟨z23,l⟩
  · exact absurd sz (by simp)
  rcases l with _ | ⟨z24,l⟩
  · exact absurd sz (by simp)
  rcases l with _ | ⟨z25,l⟩
  · exact absurd sz (by simp)
  rcases l with _ | ⟨z26,l⟩
  · exact absurd sz (by simp)
  rcases l with _ | ⟨z27,l⟩
  · exact absurd sz (by simp)
  rcases l with _ | ⟨z28,l⟩
  · exact absurd sz (by simp)
  rcases l with _ | ⟨z29,l⟩
  · exact absurd sz (by simp)
  rcases l with _ | ⟨z30,l⟩
  · exact absurd sz (by simp)
  rcases l with _ | ⟨z31,l⟩
  · exact absurd sz (by simp)
  obtain rfl:l = []:=by apply List.eq_nil_of_length_eq_zero; simp only [List.length_cons] at sz; omega
  clear sz
  obtain rfl:z3 = .pointer (some ⟨w.heap.size,0,none⟩):=by simpa [Act.eval] using t3
  obtain rfl:z6 = .pointer (some ⟨w.heap.size + 1,0,none⟩):=by simpa [Act.eval] using t6
  have g1:=XB4.cell0 0
  have g2:=XB4.cell0 1
  have g3:=RB4.cell0 0
  have g4:=RB4.cell0 1
  have g5:=RB4.frozen 0
  have g6:=RB4.frozen 1
  clear t3 t6
  go_wp2
  have RB5:=Bx.set2 RB4 (.slice (some ⟨b,0,none⟩) tl tc) (.int .i64 nx)
  have TB5:=(TB4.setO (B':=w.heap.size + 1) (by omega) 0 (.slice (some ⟨b,0,none⟩) tl tc)).setO (B':=w.heap.size + 1) (by omega) 1 (.int .i64 nx)
  have hsame:∀ q,q ≠ b → q ≠ w.heap.size + 1 → (((w2.setCell ⟨b,t,none⟩ (.slice y0 y1 y2)).setCell ⟨w.heap.size + 1,0,none⟩ (.slice (some ⟨b,0,none⟩) tl tc)).setCell ⟨w.heap.size + 1,1,none⟩ (.int .i64 nx)).heap[q]? = w2.heap[q]?:=fun q q1 q2 =>
    (Below.heap_setCell _ _ _ _ q2).trans ((Below.heap_setCell _ _ _ _ q2).trans (Below.heap_setCell _ _ _ _ q1))
  have hsz5:(((w2.setCell ⟨b,t,none⟩ (.slice y0 y1 y2)).setCell ⟨w.heap.size + 1,0,none⟩ (.slice (some ⟨b,0,none⟩) tl tc)).setCell ⟨w.heap.size + 1,1,none⟩ (.int .i64 nx)).heap.size = w2.heap.size:=by simp
  have hsame1:∀ q,q ≠ w.heap.size → ((w1.setCell ⟨w.heap.size,0,none⟩ (.slice (some ⟨b,0,none⟩) tl tc)).setCell ⟨w.heap.size,1,none⟩ (.int .i64 nx)).heap[q]? = w1.heap[q]?:=fun q q1 =>
    (Below.heap_setCell _ _ _ _ q1).trans (Below.heap_setCell _ _ _ _ q1)
  have hbs:=B.size
  rw [hWs] at hbs B own hbl
  obtain ⟨fs,hu29⟩:∃ fs,Tryz.prog.underlying 29 = some (.struct fs):=⟨_,rfl⟩
  refine bodyPost_ret (results_cell_row rfl _ _ (w.heap.size + 1) 29 #[.slice (some ⟨b,0,none⟩) tl tc,.int .i64 nx] (0,0) _ rfl RB5 hu29 rfl (by kernel_rfl)) rfl ?_
  refine ⟨?_,w1,b,tl,tc,nx,curB,eB,g,n,c,cur,e0,y0,y1,y2,D,hR,rfl,?_,?_,TB5⟩
  · have b1:Below w.heap.size w w1:=hB1.trans (hb1.mono (by omega))
    have b2:Below w.heap.size w1 ((w1.setCell ⟨w.heap.size,0,none⟩ (.slice (some ⟨b,0,none⟩) tl tc)).setCell ⟨w.heap.size,1,none⟩ (.int .i64 nx)):=((Below.refl _ w1).setCell (p:=⟨w.heap.size,0,none⟩) (Nat.le_refl _) (.slice (some ⟨b,0,none⟩) tl tc)).setCell (p:=⟨w.heap.size,1,none⟩) (Nat.le_refl _) (.int .i64 nx)
    have b3:Below w.heap.size w2 (((w2.setCell ⟨b,t,none⟩ (.slice y0 y1 y2)).setCell ⟨w.heap.size + 1,0,none⟩ (.slice (some ⟨b,0,none⟩) tl tc)).setCell ⟨w.heap.size + 1,1,none⟩ (.int .i64 nx)) :=
      (((Below.refl _ w2).setCell (p:=⟨b,t,none⟩) (show w.heap.size ≤ b by omega) (.slice y0 y1 y2)).setCell (p:=⟨w.heap.size + 1,0,none⟩) (show w.heap.size ≤ w.heap.size + 1 by omega) (.slice (some ⟨b,0,none⟩) tl tc)).setCell (p:=⟨w.heap.size + 1,1,none⟩) (show w.heap.size ≤ w.heap.size + 1 by omega) (.int .i64 nx)
    exact ((b1.trans b2).trans (B.mono (by omega))).trans b3
  · refine ⟨own.1,?_⟩
    rcases own.2 with h | ⟨gq,cp,cu,e1,e2,e3,e4,e5,e6,e7⟩
    · exact .inl h
    · exact .inr ⟨gq,cp,cu,e1,e2,(hsame gq (by omega) (by omega)).trans e3,e4,e5,e6,e7⟩
  · intro q q1 q2 q3
    exact (hsame q q3 (by omega)).trans ((B.block q (by omega)).trans (hsame1 q (by omega)))
end Go.R
end
section
set_option linter.all false
namespace Go.R
open Go Go.Proofs Go.RowKit
set_option maxHeartbeats 1000000
theorem b6z {m:Bool} {w:World} {T:List AV} {n:Int} {cs:List Value} {f:List Nat} (h:Rep m w (.agg [.lst 1 T,.int .i64 n]) cs f):∃ a l c,cs = [.slice a l c,.int .i64 n] ∧ Rep m w (.lst 1 T) [.slice a l c] f:=by
  simp only [Rep,a0b] at h
  obtain ⟨c1,r1,p1,q1,rfl,-,h1,⟨c2,r2,p2,q2,rfl,-,⟨e2,rfl⟩,⟨rfl,rfl⟩,rfl⟩,rfl⟩:=h
  cases e2
  have h1':Rep m w (.lst 1 T) [c1] p1:=by rw [Rep]; exact h1
  rcases h1 with ⟨_,_,a,c,e,_⟩ | ⟨b,off,cap,cur,e,fz,fps,e1,_⟩
  · cases e; exact ⟨_,_,_,rfl,by simpa using h1'⟩
  · cases e1; exact ⟨_,_,_,rfl,by simpa using h1'⟩
theorem e7n {m:Bool} {w:World} {T:List AV} {n:Int} {cs:List Value} {f:List Nat} (h:Rep m w (.agg [.int .i64 n,.lst 1 T]) cs f):∃ a l c,cs = [.int .i64 n,.slice a l c]:=by
  simp only [Rep,a0b] at h
  obtain ⟨c1,r1,p1,q1,rfl,-,⟨e1,rfl⟩,⟨c2,r2,p2,q2,rfl,-,h2,⟨rfl,rfl⟩,rfl⟩,rfl⟩:=h
  cases e1
  rcases h2 with ⟨_,_,a,c,e,_⟩ | ⟨b,off,cap,cur,e,fz,fps,e1,_⟩
  · cases e; exact ⟨_,_,_,rfl⟩
  · cases e1; exact ⟨_,_,_,rfl⟩
theorem e7o {m:Bool} {w:World}:∀ (l:List AV) (cs:List Value) (fp:List Nat),a0a m w 2 l cs fp → (∀ a ∈ l,∃ n L,a = .agg [.int .i64 n,.lst 1 L]) → ∀ u ∈ cs.take (l.length * 2),u.oneCell' = true
  | [],cs,fp,_,_,u,hu => by simp at hu
  | a :: l,cs,fp,h,ha,u,hu => by
    simp only [a0a] at h
    obtain ⟨f1,f2,⟨h0,-⟩,h1,h2,rfl⟩:=h
    obtain ⟨n,L,rfl⟩:=ha a (by simp)
    obtain ⟨x,y,z,e⟩:=e7n h1
    rw [List.length_cons,Nat.add_mul,Nat.one_mul,Nat.add_comm,List.take_add,List.mem_append,e] at hu
    rcases hu with hu | hu
    · simp only [List.mem_cons,List.not_mem_nil,or_false] at hu
      rcases hu with rfl | rfl <;> rfl
    · exact e7o l _ _ h2 (fun b hb => ha b (by simp [hb])) u hu
theorem f3z {w:World} {Ts rows:List AV} {t:Nat} {a:Option Addr} {l c:Nat} {fp:List Nat} (hT:Ts[t]? = some (.lst 2 rows)) (hr:0 < rows.length) (h:Rep true w (.lst 1 Ts) [.slice a l c] fp) :
    ∃ b curB eB g n cap cur e0 fa fr fc,a = some ⟨b,0,none⟩ ∧ l = Ts.length ∧ Ts.length ≤ c ∧ c ≤ maxLen ∧ w.heap[b]? = some (.cells curB eB (0,0)) ∧ curB.size = c ∧ curB[t]? = some (.slice (some ⟨g,0,none⟩) n cap) ∧ n = rows.length ∧ n ≤ cap ∧ cap ≤ maxLen ∧
      w.heap[g]? = some (.cells cur e0 (0,0)) ∧ cur.size = cap * 2 ∧ fp = b :: (fa ++ ((g :: fr) ++ fc)) ∧ a0a true w 1 (Ts.take t) curB.toList fa ∧ a0a true w 2 rows cur.toList fr ∧ a0a true w 1 (Ts.drop (t + 1)) (curB.toList.drop (t + 1)) fc:=by
  have ht:t < Ts.length:=(List.getElem?_eq_some_iff.1 hT).1
  rw [Rep] at h
  rcases h with ⟨h1,_⟩ | ⟨b,off,cap,curB,eB,fz,fps,h1,h2,h3,h4,h5,rfl,h7,h8⟩
  · subst h1; simp at ht
  · obtain ⟨rfl,rfl,h6⟩:=h5 rfl
    cases h1
    simp only [List.drop_zero] at h8
    obtain ⟨fa,fb,rfl,ra,rb⟩:=h8.split t
    rw [Nat.mul_one,List.drop_eq_getElem_cons ht,(List.getElem?_eq_some_iff.1 hT).2,a0a] at rb
    obtain ⟨f1,fc,⟨q0,-⟩,q1,q2,rfl⟩:=rb
    rw [Rep] at q1
    rcases q1 with ⟨h1,_⟩ | ⟨g,off,cp,cur,e0,fz,fr,k1,k2,k3,k4,k5,rfl,k7,k8⟩
    · subst h1; simp at hr
    · obtain ⟨rfl,rfl,k6⟩:=k5 rfl
      simp only [List.drop_zero] at k8
      have hc:curB[t]? = some (.slice (some ⟨g,0,none⟩) rows.length cp):=by
        have:=congrArg (fun z:List Value => z[0]?) k1
        simp only [List.getElem?_take_of_lt (Nat.zero_lt_one),List.getElem?_drop,Nat.add_zero,List.getElem?_cons_zero] at this
        simpa using this
      exact ⟨b,curB,eB,g,_,cp,cur,e0,fa,fr,fc,rfl,rfl,h2,h3,h4,by simpa using h6,hc,rfl,k2,k3,k4,k6,rfl,ra,k8,by rwa [List.drop_drop] at q2⟩
set_option maxHeartbeats 4000000 in
theorem e3f {T0 Ts rows:List AV} {nx0 nx:Int} {t k:Nat} (hT:Ts[t]? = some (.lst 2 rows)) (hk:k < rows.length) (h30:rows.length ≤ 1073741824) (ht30:t < 1073741824) (hrow:∀ a ∈ rows,∃ n L,a = .agg [.int .i64 n,.lst 1 L])
    (h147:a0v Tryz.prog 147 .fresh [.agg [.lst 1 T0,.int .i64 nx0]] (.agg [.lst 1 Ts,.int .i64 nx])) :
    a0v Tryz.prog 204 .fresh [.agg [.lst 1 T0,.int .i64 nx0],.int .i64 t,.int .i64 k] (.agg [.lst 1 (Ts.set t (.lst 2 (rows.take k ++ rows.drop (k + 1)))),.int .i64 nx]):=by
  intro w vals fps hv
  simp only [a0x] at hv
  obtain ⟨cs,v1,f1,f1',rfl,hx,⟨c2,v2,f2,f2',rfl,h2,⟨c3,v3,f3,f3',rfl,h3,⟨rfl,rfl⟩,rfl⟩,rfl⟩,rfl⟩:=hv
  simp only [Rep] at h2 h3
  obtain ⟨rfl,rfl⟩:=h2
  obtain ⟨rfl,rfl⟩:=h3
  obtain ⟨p0,p1,p2,rfl,-⟩:=b6z hx
  have hlt:=Rep.lt _ _ _ hx
  have ht:t < Ts.length:=(List.getElem?_eq_some_iff.1 hT).1
  have key:=e7m w p0 p1 p2 nx0 t k (by omega) ht30
    (fun w1 b tl tc nx' g n curB eB c _ cur e0 => nx' = nx ∧ tl = Ts.length ∧ Ts.length ≤ tc ∧ tc ≤ maxLen ∧ curB.size = tc ∧ n = rows.length ∧ n ≤ c ∧ c ≤ maxLen ∧ cur.size = c * 2 ∧ ∃ fa fr fc,a0a true w1 1 (Ts.take t) curB.toList fa ∧ a0a true w1 2 rows cur.toList fr ∧ a0a true w1 1 (Ts.drop (t + 1)) (curB.toList.drop (t + 1)) fc ∧ (b :: (fa ++ ((g :: fr) ++ fc))).Nodup ∧ ∀ q ∈ b :: (fa ++ ((g :: fr) ++ fc)),w.heap.size + 2 ≤ q)
    (fun W hB hW => by
      refine (h147 W _ f1 (by
        simp only [a0x]
        exact ⟨_,[],f1,[],rfl,Rep.world _ _ _ (fun b h => hB.block b (hlt b h)) hx,⟨rfl,rfl⟩,by simp⟩)).mono ?_
      rintro ev w' hh
      cases ev with
      | returned v =>
        obtain ⟨g1,fp,⟨cs,rfl,g2⟩,g3,g4⟩:=hh
        obtain ⟨a,l,c,rfl,g5⟩:=b6z g2
        obtain ⟨b,curB,eB,g,n,cap,cur,e0,fa,fr,fc,rfl,rfl,k1,k2,k3,k4,k5,rfl,k6,k7,k8,k9,rfl,ra,rr,rc⟩:=f3z hT (by omega) g5
        have hb:W.heap.size ≤ b:=g4 b (by simp)
        have hg:W.heap.size ≤ g:=g4 g (by simp)
        exact ⟨g1,b,_,c,nx,curB,eB,g,_,cap,cur,e0,rfl,⟨k3,k5,ht,k8,hk,k6,k7,h30,hb,hg,by omega,e7o _ _ _ rr hrow⟩,rfl,rfl,k1,k2,k4,rfl,k6,k7,k9,fa,fr,fc,ra,rr,rc,g3,fun q hq => by have:=g4 q hq; omega⟩
      | panicked _ => exact hh.elim
      | outgrown => exact hh.elim)
  refine key.mono ?_
  rintro ev w' ⟨hb,w1,b,tl,tc,nx',curB,eB,g,n,c,cur,e0,y0,y1,y2,D,⟨rfl,rfl,k1,k2,k3,rfl,k4,k5,k6,fa,fr,fc,ra,rr,rc,hnd,hge⟩,rfl,own,hsame,TB⟩
  have hlta:=a0a.lt _ _ _ ra
  have hltr:=a0a.lt _ _ _ rr
  have hltc:=a0a.lt _ _ _ rc
  have hbl:b < w1.heap.size:=(Array.getElem?_eq_some_iff.1 D.hb).1
  -- the pieces of the row
  obtain ⟨fx,fy,rfl,rx,ry⟩:=rr.split k
  obtain ⟨fz,fw,rfl,rw'⟩:=ry.drop 1
  rw [List.drop_drop,List.drop_drop,Nat.one_mul] at rw'
  have hlen:=rr.length
  have hx0:(cur.toList.take (k * 2)).length = (rows.take k).length * 2:=by
    rw [List.length_take,List.length_take,Nat.min_eq_left (by omega:k ≤ rows.length)]
    have:k * 2 ≤ rows.length * 2:=by omega
    omega
  have hxk:(rows.take k).length = k:=by rw [List.length_take]; omega
  have hyk:(rows.drop (k + 1)).length = rows.length - (k + 1):=List.length_drop
  have rnew:a0a true w1 2 (rows.take k ++ rows.drop (k + 1)) (cur.toList.take (k * 2) ++ (cur.toList.take (rows.length * 2)).drop ((k + 1) * 2)) (fx ++ fw):=by
    refine a0a.append (a0a.congr (by rw [hxk,List.take_take,Nat.min_self]) rx) hx0 (a0a.congr ?_ rw')
    rw [hyk,List.drop_take,List.take_take,show k * 2 + 2 = (k + 1) * 2 by omega]
    congr 1
    omega
  have hnx:∀ q ∈ fx ++ fw,q ∈ fx ++ (fz ++ fw):=by
    intro q hq
    rcases List.mem_append.1 hq with h | h
    · exact List.mem_append.2 (.inl h)
    · exact List.mem_append.2 (.inr (List.mem_append.2 (.inr h)))
  have keep:∀ q,q ∈ fa ++ ((g :: (fx ++ (fz ++ fw))) ++ fc) → q < w1.heap.size → w'.heap[q]? = w1.heap[q]?:=by
    intro q hq hl
    refine hsame q (hge q (List.mem_cons_of_mem _ hq)) hl ?_
    rintro rfl
    exact (List.nodup_cons.1 hnd).1 hq
  have hnl:(rows.take k ++ rows.drop (k + 1)).length = k + (rows.length - (k + 1)):=by rw [List.length_append,hxk,hyk]
  have hltn:∀ q ∈ fx ++ fw,q < w1.heap.size:=fun q hq => hltr q (hnx q hq)
  have rnew':=a0a.world (w':=w') _ _ _ (fun q hq => keep q (by
    have:=hnx q hq
    simp only [List.mem_append,List.mem_cons] at this ⊢
    exact .inr (.inl (.inr this))) (hltn q hq)) rnew
  have ra':=a0a.world (w':=w') _ _ _ (fun q hq => keep q (List.mem_append.2 (.inl hq)) (hlta q hq)) ra
  have rc':=a0a.world (w':=w') _ _ _ (fun q hq => keep q (List.mem_append.2 (.inr (List.mem_append.2 (.inr hq)))) (hltc q hq)) rc
  have hnd2:(fx ++ fw).Nodup:=by
    have h1:=(List.nodup_append.1 (List.nodup_cons.1 hnd).2).2.1
    have h2:=(List.nodup_cons.1 (List.nodup_append.1 h1).1).2
    exact h2.sublist (List.Sublist.append (List.Sublist.refl _) (List.sublist_append_right fz fw))
  obtain ⟨fn,hfn,hfm,hfnd⟩:∃ fn,Rep true w' (.lst 2 (rows.take k ++ rows.drop (k + 1))) [.slice y0 y1 y2] fn ∧ (∀ q ∈ fn,q ∈ fx ++ fw ∨ w1.heap.size ≤ q) ∧ fn.Nodup:=by
    rcases own.2 with ⟨e1,e2⟩ | ⟨gq,cp,cu,e1,e2,e3,e4,e5,e6,e7⟩
    · cases e1
      refine ⟨[],?_,by simp,List.nodup_nil⟩
      rw [Rep]
      exact .inl ⟨List.eq_nil_of_length_eq_zero (by rw [hnl]; exact e2),rfl,none,0,rfl,by decide,fun _ => ⟨rfl,rfl⟩⟩
    · cases e1
      refine ⟨gq :: (fx ++ fw),?_,?_,?_⟩
      · rw [Rep]
        refine .inr ⟨gq,0,y2,cu,39,(0,0),fx ++ fw,by rw [hnl],by rw [hnl]; exact e4,e5,e3,fun _ => ⟨rfl,rfl,e6⟩,rfl,by decide,?_⟩
        rw [List.drop_zero]
        refine a0a.congr ?_ rnew'
        rw [hnl,e7]
        exact (List.take_of_length_le (by rw [own.1]; exact Nat.le_refl _)).symm
      · intro q hq
        rcases List.mem_cons.1 hq with rfl | hq
        · exact .inr e2
        · exact .inl hq
      · refine List.nodup_cons.2 ⟨fun hq => ?_,hnd2⟩
        have:=hltn _ hq; omega
  have hgt:∀ q ∈ fn,q ∈ fa → False:=by
    intro q hq hqa
    rcases hfm q hq with h | h
    · have h1:=(List.nodup_append.1 (List.nodup_cons.1 hnd).2).2.2 q hqa q (List.mem_append.2 (.inl (List.mem_cons_of_mem _ (hnx q h))))
      exact h1 rfl
    · have:=hlta q hqa; omega
  have hgc:∀ q ∈ fn,q ∈ fc → False:=by
    intro q hq hqc
    rcases hfm q hq with h | h
    · have h0:=(List.nodup_append.1 (List.nodup_cons.1 hnd).2).2.1
      have h1:=(List.nodup_append.1 h0).2.2 q (List.mem_cons_of_mem _ (hnx q h)) q hqc
      exact h1 rfl
    · have:=hltc q hqc; omega
  have hbn:∀ q ∈ fn,q ≠ b:=by
    rintro q hq rfl
    rcases hfm q hq with h | h
    · exact (List.nodup_cons.1 hnd).1 (List.mem_append.2 (.inr (List.mem_append.2 (.inl (List.mem_cons_of_mem _ (hnx q h))))))
    · omega
  have hset:Ts.set t (.lst 2 (rows.take k ++ rows.drop (k + 1))) = Ts.take t ++ .lst 2 (rows.take k ++ rows.drop (k + 1)) :: Ts.drop (t + 1):=by
    rw [List.set_eq_take_append_cons_drop,if_pos ht]
  have hcur:(curB.setIfInBounds t (.slice y0 y1 y2)).toList = curB.toList.take t ++ .slice y0 y1 y2 :: curB.toList.drop (t + 1):=by
    rw [Array.toList_setIfInBounds,List.set_eq_take_append_cons_drop,if_pos (by rw [Array.length_toList]; omega)]
  have hl:(curB.toList.take t).length = (Ts.take t).length * 1:=by
    rw [List.length_take,List.length_take,Array.length_toList]; omega
  have rall:a0a true w' 1 (Ts.set t (.lst 2 (rows.take k ++ rows.drop (k + 1)))) (curB.setIfInBounds t (.slice y0 y1 y2)).toList (fa ++ (fn ++ fc)):=by
    rw [hset,hcur]
    refine a0a.append (a0a.congr ?_ ra') hl ?_
    · rw [List.length_take,Nat.min_eq_left (by omega),Nat.mul_one,List.take_take,Nat.min_self]
    · rw [a0a]
      exact ⟨fn,fc,⟨rfl,rfl⟩,hfn,rc',rfl⟩
  have rt:Rep true w' (.lst 1 (Ts.set t (.lst 2 (rows.take k ++ rows.drop (k + 1))))) [.slice (some ⟨b,0,none⟩) Ts.length tc] (b :: (fa ++ (fn ++ fc))):=by
    rw [Rep]
    exact .inr ⟨b,0,tc,_,eB,(0,0),_,by rw [List.length_set],by rw [List.length_set]; exact k1,k2,TB,fun _ => ⟨rfl,rfl,by simpa using k3⟩,rfl,by decide,by simpa using rall⟩
  refine ⟨hb,b :: (fa ++ (fn ++ fc)),⟨[.slice (some ⟨b,0,none⟩) Ts.length tc,.int .i64 nx'],rfl,?_⟩,?_,?_⟩
  · rw [Rep,a0b]
    refine ⟨_,_,_,[],rfl,rfl,rt,?_,by simp⟩
    rw [a0b]
    refine ⟨_,_,[],[],rfl,rfl,by rw [Rep]; exact ⟨rfl,rfl⟩,?_,rfl⟩
    rw [a0b]
    exact ⟨rfl,rfl⟩
  · have h0:=(List.nodup_append.1 (List.nodup_cons.1 hnd).2)
    have h1:=List.nodup_append.1 h0.2.1
    refine List.nodup_cons.2 ⟨?_,List.nodup_append.2 ⟨h0.1,List.nodup_append.2 ⟨hfnd,h1.2.1,?_⟩,?_⟩⟩
    · intro hm
      simp only [List.mem_append] at hm
      rcases hm with hm | hm | hm
      · exact (List.nodup_cons.1 hnd).1 (List.mem_append.2 (.inl hm))
      · exact hbn b hm rfl
      · exact (List.nodup_cons.1 hnd).1 (List.mem_append.2 (.inr (List.mem_append.2 (.inr hm))))
    · rintro x hx y hy rfl
      exact hgc x hx hy
    · rintro x hx y hy rfl
      rcases List.mem_append.1 hy with h | h
      · exact hgt x h hx
      · exact h0.2.2 x hx x (List.mem_append.2 (.inr h)) rfl
  · intro q hq
    rcases List.mem_cons.1 hq with rfl | hq
    · have:=hge q (by simp); omega
    · rcases List.mem_append.1 hq with h | h
      · have:=hge q (List.mem_cons_of_mem _ (List.mem_append.2 (.inl h))); omega
      · rcases List.mem_append.1 h with h | h
        · rcases hfm q h with h | h
          · have:=hge q (List.mem_cons_of_mem _ (List.mem_append.2 (.inr (List.mem_append.2 (.inl (List.mem_cons_of_mem _ (hnx q h))))))); omega
          · have:=hge b (by simp); omega
        · have:=hge q (List.mem_cons_of_mem _ (List.mem_append.2 (.inr (List.mem_append.2 (.inr h))))); omega
end Go.R
end
