/- Part of the proof. -/
import Derived.Test.YthneidgpgfgecaaH2
import Derived.RangeFuncBox
import Derived.RangeFuncLeaves
import Derived.RangeFuncNested
import Derived.OwnWalkIn
import Derived.TacticsInMore
import Derived.LoopNIn
import Derived.LoopIn
import Derived.Laws.ResultCell
import Derived.Test.YthneidgpgfgecaaRows
set_option linter.all false
namespace Go.R
open Go Go.Proofs Go.RowKit
set_option linter.all false
set_option maxHeartbeats 400000
attribute [local go_sem] Oper.semAt_some
structure Asd (p:Prop):Prop where
  out:p
structure S6 where
  a:Int
  b:Int
  c:Int
  d0:Option Addr
  d1:Nat
  d2:Nat
  e:Int
  f0:Option Addr
  f1:Nat
  f2:Nat
def S6.l (x:S6):List Value:=[.int .i64 x.a,.int .i64 x.b,.int .i64 x.c,.slice x.d0 x.d1 x.d2,.int .i64 x.e,.slice x.f0 x.f1 x.f2]
def S6.sw (x:S6):S6:=⟨x.a,x.b,x.e,x.f0,x.f1,x.f2,x.c,x.d0,x.d1,x.d2⟩
def Bx (W:World) (B:Nat) (t:TypeId) (cs:Array Value):Prop:=W.heap[B]? = some (.cells cs t (0,0))
theorem Bx.lt {W:World} {B:Nat} {t:TypeId} {cs:Array Value} (h:Bx W B t cs):B < W.heap.size:=(Array.getElem?_eq_some_iff.1 h).1
theorem Bx.kept {W W':World} {row:Option Nat} {B:Nat} {t:TypeId} {v:Array Value} (h:Bx W B t v) (hg:W.grownBy W' row) (hne:some B ≠ row):Bx W' B t v:=(hg.block B h.lt hne).trans h
theorem Bx.not_row {W:World} {B:Nat} {t e:TypeId} {u:Array Value} (h:Bx W B t u) (hte:t ≠ e) {base size k:Nat} {v:Value} {xs:List Value} (hr:W.ownsRow base e size v k xs):some B ≠ v.ownBlock:=by
  rcases hr.2 with ⟨rfl,_⟩ | ⟨g,cap,cur,rfl,_,hgb,_⟩
  · simp [Value.ownBlock]
  · intro e'
    obtain rfl:B = g:=by simpa [Value.ownBlock] using e'
    have:=(show W.heap[B]? = _ from h).symm.trans hgb
    simp at this
    exact hte this.2
theorem Bx.own {β:Type} (B:Nat) (t:TypeId) (cs:Array Value):Own (fun (_:β) W => Bx W B t cs):=by
  intro s X Y row hs hg hrow
  refine hs.kept hg fun e' => ?_
  obtain ⟨o,ho,hc⟩:=hrow B e'.symm
  rw [show X.heap[B]? = _ from hs] at ho; cases ho; cases hc
theorem Bx.setCell {W:World} {B B':Nat} {t:TypeId} {cs:Array Value} (h:Bx W B t cs) (hne:B ≠ B') (v:Value):Bx (W.setCell ⟨B',0,none⟩ v) B t cs:=h.kept (grownBy_setCell' W B' v) (by simpa using hne)
theorem Bx.alloc {W:World} {B:Nat} {t:TypeId} {cs:Array Value} (h:Bx W B t cs) (o:Obj):Bx (W.alloc o) B t cs:=h.kept (World.grownBy_alloc W o none) (by simp)
theorem Bx.new (W:World) (t:TypeId) (cs:Array Value):Bx (W.alloc (.cells cs t)) W.heap.size t cs:=World.alloc_heap_new W _
theorem Bx.below {W W':World} {n B:Nat} {t:TypeId} {cs:Array Value} (h:Bx W B t cs) (hb:Below n W W') (hn:B < n):Bx W' B t cs:=(hb.block B hn).trans h
def At6 (W:World) (g off:Nat) (ds:List S6):Prop:=∀ (j:Nat) x,ds[j]? = some x →
  W.cell? ⟨g,off + j * 6,none⟩ = some (.int .i64 x.a) ∧ W.cell? ⟨g,off + j * 6 + 1,none⟩ = some (.int .i64 x.b) ∧ W.cell? ⟨g,off + j * 6 + 2,none⟩ = some (.int .i64 x.c) ∧
  W.cell? ⟨g,off + j * 6 + 3,none⟩ = some (.slice x.d0 x.d1 x.d2) ∧ W.cell? ⟨g,off + j * 6 + 4,none⟩ = some (.int .i64 x.e) ∧ W.cell? ⟨g,off + j * 6 + 5,none⟩ = some (.slice x.f0 x.f1 x.f2)
theorem At6.below {n₀:Nat} {A B:World} (h:Below n₀ A B) {g off:Nat} {ds:List S6} (hg:g < n₀) (ha:At6 A g off ds):At6 B g off ds:=fun j x e => by
  obtain ⟨h1,h2,h3,h4,h5,h6⟩:=ha j x e
  exact ⟨(h.cell (p:=⟨g,_,none⟩) hg).trans h1,(h.cell (p:=⟨g,_,none⟩) hg).trans h2,(h.cell (p:=⟨g,_,none⟩) hg).trans h3,(h.cell (p:=⟨g,_,none⟩) hg).trans h4,(h.cell (p:=⟨g,_,none⟩) hg).trans h5,(h.cell (p:=⟨g,_,none⟩) hg).trans h6⟩
def came (ds:List S6) (k:Nat):List S6:=(ds.drop (ds.length - k)).reverse
theorem d4z (ds:List S6) (k:Nat) (h:k < ds.length) (x:S6) (hx:ds[ds.length - 1 - k]? = some x):came ds (k + 1) = came ds k ++ [x]:=by
  unfold came
  obtain ⟨h1,rfl⟩:=List.getElem?_eq_some_iff.1 hx
  rw [show ds.length - (k + 1) = ds.length - 1 - k by omega,List.drop_eq_getElem_cons h1,List.reverse_cons,show ds.length - 1 - k + 1 = ds.length - k by omega]
theorem d7g (ds:List S6):came ds ds.length = ds.reverse:=by simp [came]
theorem d7h (ds:List S6) (k:Nat) (h:k ≤ ds.length):(came ds k).length = k:=by simp [came]; omega
def KpB (n₀ Bs:Nat) (W W':World):Prop:=Below n₀ W W' ∧ (Bs < W.heap.size → W'.heap[Bs]? = W.heap[Bs]?)
theorem KpB.t {n₀ Bs:Nat} {A B C:World} (h:KpB n₀ Bs A B) (k:KpB n₀ Bs B C):KpB n₀ Bs A C:=⟨h.1.trans k.1,fun hb => (k.2 (Nat.lt_of_lt_of_le hb h.1.size)).trans (h.2 hb)⟩
theorem KpB.b {n₀ Bs:Nat} {w:World} (hn:n₀ ≤ w.heap.size) (hB:Bs < w.heap.size) (W:World) (l:Nat) (o o':Obj) (hl:w.heap.size ≤ l) (h:W.heap[l]? = some o) (h1:o.isCells = false) (h2:o.isWalk = false):KpB n₀ Bs W (W.putObj l o') :=
  ⟨belowK_b hn W l o o' hl h h1 h2,fun _ => World.putObj_heap_other (by omega)⟩
theorem KpB.refl (n₀ Bs:Nat) (W:World):KpB n₀ Bs W W:=⟨Below.refl _ _,fun _ => rfl⟩

def e0h (x:Int × S6):Array Value:=#[.int .i64 x.1,.agg #[.int .i64 x.2.a,.int .i64 x.2.b,.int .i64 x.2.c,.slice x.2.d0 x.2.d1 x.2.d2,.int .i64 x.2.e,.slice x.2.f0 x.2.f1 x.2.f2]]
theorem d7i {n k:Nat} (hn:n ≤ maxLen) (h:k ≤ n):wrap64 ((n:Int) - 1 - k) = (n:Int) - 1 - k:=by
  have:maxLen ≤ 9223372036854775807:=by decide
  unfold wrap64; omega
set_option maxRecDepth 100000 in
set_option maxHeartbeats 4000000 in
theorem e3x (F:Fence) (n:Nat) (hf:F.fn 89) (hro:F.round = none) (hn:1 ≤ n) (l Bs n₀ g off cap:Nat) (ds:List S6) (hlen:ds.length ≤ maxLen) (hg:g < n₀) (J Jx:List (Int × S6) → World → Prop)
    (hY:∀ pre x W,J pre W → pre.length < ds.length → YieldAt F (n - 1) Try.prog l (e0h x) W fun e W' =>
      (e = .returned (.bool true) ∧ J (pre ++ [x]) W' ∧ KpB n₀ Bs W W') ∨ (e = .returned (.bool false) ∧ Jx (pre ++ [x]) W'))
    (W:World) (hBs:Boxed W Bs 49 (.slice (some ⟨g,off,none⟩) ds.length cap)) (hc:At6 W g off ds) (h0:J [] W) :
    CallsIn F n Try.prog 89 #[.func (.yield l) #[] #[],.pointer (some ⟨Bs,0,none⟩)] W fun e W' => (∃ v,e = .returned v) ∧
      ((∃ ys,ys.map Prod.snd = ds.reverse ∧ J ys W') ∨ (∃ pre,True ∧ Jx pre W')):=by
  refine callsIn_of_wp Try.func89 rfl hf ?_ hro
  simp only [(show Try.f89.ntmps = 19 from rfl),List.size_toArray,List.length_cons,List.length_nil,Nat.reduceAdd,Nat.reduceSub,Array.replicate_succ,Array.replicate_zero,List.push_toArray,List.append_toArray,List.nil_append,List.cons_append]
  have hc0:=hBs.cell
  gi_wp2
  gi_loopw [3] (fun i wr => ∃ (k:Nat) (ys:List (Int × S6)),k ≤ ds.length ∧ i = .int .i64 ((ds.length:Int) - 1 - k) ∧ ys.map Prod.snd = came ds k ∧ J ys wr ∧ KpB n₀ Bs W wr)
    (fun i _ => (intOf i + 1).toNat)
  case atStart => exact ⟨0,[],Nat.zero_le _,by rw [← d7i hlen (Nat.zero_le _)]; simp,by simp [came],h0,KpB.refl _ _ _⟩
  case round =>
    obtain ⟨k,ys,hk,rfl,hys,hJs,hnx⟩:=hrel
    have hb':Boxed wr Bs 49 (.slice (some ⟨g,off,none⟩) ds.length cap):=(hnx.2 hBs.lt).trans hBs
    have hcb:=hb'.cell
    have hyl:ys.length = k:=by rw [← d7h ds k hk,← hys,List.length_map]
    by_cases hlt:k < ds.length
    · obtain ⟨i,hi0⟩:∃ i,i = ds.length - 1 - k:=⟨_,rfl⟩
      have hyn:i < ds.length:=by omega
      obtain ⟨x,hx⟩:∃ x,ds[i]? = some x:=⟨_,List.getElem?_eq_getElem hyn⟩
      obtain ⟨c1,c2,c3,c4,c5,c6⟩:=At6.below hnx.1 hg hc _ x hx
      have hi:(ds.length:Int) - 1 - k = (i:Int):=by omega
      obtain ⟨fn,tmps,assign,body,hy,hR⟩:=hY ys ((i:Int),x) wr hJs (by omega)
      rw [hi]
      have hw:wrap64 ((i:Int) - 1) = (i:Int) - 1:=by
        have:maxLen ≤ 9223372036854775807:=by decide
        unfold wrap64; omega
      have HI:Asd (i = ds.length - 1 - k):=⟨hi0⟩
      clear hi0 hi
      dsimp only [e0h] at hy
      gi_wp2
      refine hR.mono ?_
      rintro e W3 (⟨rfl,hJ3,hk3⟩ | ⟨rfl,hJx3⟩)
      · gi_wp2
        go_roundw
        case rel => exact ⟨k + 1,ys ++ [((i:Int),x)],by omega,by rw [hw]; have:=HI.out; congr 1; omega,by rw [List.map_append,hys,d4z ds k hlt x (HI.out ▸ hx)]; rfl,hJ3,hnx.t hk3⟩
        case measure => rw [hw]; simp only [intOf]; omega
      · gi_wp2
        refine bodyPost_ret (results_none rfl _ _ _) rfl ?_
        exact ⟨⟨_,rfl⟩,.inr ⟨_,trivial,hJx3⟩⟩
    · obtain rfl:k = ds.length:=by omega
      gi_wp2
      go_end0
      exact ⟨⟨_,rfl⟩,.inl ⟨_,by rw [hys,d7g],hJs⟩⟩

set_option maxRecDepth 100000 in
set_option maxHeartbeats 4000000 in
theorem d5b (F:Fence) (n:Nat) (hf:F.fn 89) (hro:F.round = none) (l Bs:Nat) (a:Option Addr) (cap:Nat) (J:List (Int × S6) → World → Prop) (W:World) (hBs:Boxed W Bs 49 (.slice a 0 cap)) (h0:J [] W) :
    CallsIn F n Try.prog 89 #[.func (.yield l) #[] #[],.pointer (some ⟨Bs,0,none⟩)] W fun e W' => (∃ v,e = .returned v) ∧ J [] W':=by
  refine callsIn_of_wp Try.func89 rfl hf ?_ hro
  simp only [(show Try.f89.ntmps = 19 from rfl),List.size_toArray,List.length_cons,List.length_nil,Nat.reduceAdd,Nat.reduceSub,Array.replicate_succ,Array.replicate_zero,List.push_toArray,List.append_toArray,List.nil_append,List.cons_append]
  have hc0:=hBs.cell
  gi_wp2
  gi_loopw [3] (fun i wr => i = .int .i64 (-1) ∧ J [] wr) (fun _ _ => 0)
  case atStart => exact ⟨by simp,h0⟩
  case round =>
    obtain ⟨rfl,hJs⟩:=hrel
    gi_wp2
    go_end0
    exact ⟨⟨_,rfl⟩,hJs⟩
set_option maxHeartbeats 4000000 in
theorem e0i (F:Fence) (n:Nat) (h5:F.fn 67) (hro:F.round = none) (a:Option Addr) (len cap:Nat) (w:World) :
    CallsIn F n Try.prog 67 #[.slice a len cap] w fun e w' => e = .returned (.func (.func 89) #[] #[.pointer (some ⟨w.heap.size,0,none⟩)]) ∧ w' = w.alloc (.cells #[.slice a len cap] 49):=by
  refine callsIn_of_wp Try.func67 rfl h5 ?_ hro
  simp only [(show Try.f67.ntmps = 4 from rfl),List.size_toArray,List.length_cons,List.length_nil,Nat.reduceAdd,Nat.reduceSub,Array.replicate_succ,Array.replicate_zero,List.push_toArray,List.append_toArray,List.nil_append,List.cons_append]
  gi_wp2
  go_ret
  exact ⟨rfl,rfl⟩
def d5c (n₀:Nat) (W:World) (v:Value) (ds:List S6):Prop:=(∃ a cap,v = .slice a 0 cap ∧ ds = []) ∨ ∃ g off cap,v = .slice (some ⟨g,off,none⟩) ds.length cap ∧ g < n₀ ∧ At6 W g off ds
theorem d5c.below {n₀:Nat} {A B:World} (h:Below n₀ A B) {v:Value} {ds:List S6}:d5c n₀ A v ds → d5c n₀ B v ds
  | .inl e => .inl e
  | .inr ⟨g,off,cap,e,hg,ha⟩ => .inr ⟨g,off,cap,e,hg,ha.below h hg⟩
theorem d2r (F:Fence) (n:Nat) (h7:F.fn 89) (hro:F.round = none) (hn:1 ≤ n) (Bs n₀:Nat) (v:Value) (ds:List S6) (hlen:ds.length ≤ maxLen) (w:World) (hn₀:n₀ ≤ w.heap.size)
    (hB:Boxed w Bs 49 v) (hI:d5c n₀ w v ds) :
    SeqStopsK F n Try.prog 89 #[.pointer (some ⟨Bs,0,none⟩)] e0h (KpB n₀ Bs) (fun ys => ys.map Prod.snd = ds.reverse) (fun _ => True) ds.length w:=fun l J Jx W hW _ _ hY h0 => by
  have hB':Boxed W Bs 49 v:=(hW.block Bs hB.lt).trans hB
  rcases hI.below (hW.mono hn₀) with ⟨a,cap,rfl,rfl⟩ | ⟨g,off,cap,rfl,hg,hc⟩
  · exact (d5b F n h7 hro l Bs a cap J W hB' h0).mono fun e W' ⟨he,hj⟩ => ⟨he,.inl ⟨[],rfl,hj⟩⟩
  · exact e3x F n h7 hro hn l Bs n₀ g off cap ds hlen hg J Jx hY W hB' hc h0

theorem Bx.set2 {W:World} {B:Nat} {t:TypeId} {u v:Value} (h:Bx W B t #[u,v]) (x y:Value):Bx ((W.setCell ⟨B,0,none⟩ x).setCell ⟨B,1,none⟩ y) B t #[x,y]:=by
  have h1:(W.setCell ⟨B,0,none⟩ x).heap[B]? = some (.cells #[x,v] t (0,0)):=by
    obtain ⟨hlt,hk⟩:=Array.getElem?_eq_some_iff.1 h
    show (W.heap.modify B _)[B]? = _
    rw [Array.getElem?_eq_getElem (by rw [Array.size_modify]; exact hlt),Array.getElem_modify_self,hk]
    rfl
  obtain ⟨hlt,hk⟩:=Array.getElem?_eq_some_iff.1 h1
  show ((W.setCell ⟨B,0,none⟩ x).heap.modify B _)[B]? = _
  rw [Array.getElem?_eq_getElem (by rw [Array.size_modify]; exact hlt),Array.getElem_modify_self,hk]
  rfl
theorem Bx.cell2_0 {W:World} {B:Nat} {t:TypeId} {u v:Value} (h:Bx W B t #[u,v]):W.cell? ⟨B,0,none⟩ = some u:=by simp [World.cell?,show W.heap[B]? = _ from h]
theorem Bx.cell2_1 {W:World} {B:Nat} {t:TypeId} {u v:Value} (h:Bx W B t #[u,v]):W.cell? ⟨B,1,none⟩ = some v:=by simp [World.cell?,show W.heap[B]? = _ from h]
theorem U49:Try.prog.underlying 49 = some (.slice 74):=by kernel_rfl
theorem I74:(Try.prog.info? 74).map (fun i => (i.zero,i.size,i.bytes)) = some (some (.agg #[.int .i64 0,.int .i64 0,.int .i64 0,.slice none 0 0,.int .i64 0,.slice none 0 0]),6,80):=by kernel_rfl
def b4z (ds:List S6):List Value:=ds.flatMap S6.l
def d0z (w:World) (B6 Bs:Nat) (vl x0 x1:Value) (pre:List (Int × S6)) (W:World):Prop :=
  (∃ v,Boxed W B6 49 v ∧ W.ownsRow w.heap.size 74 6 v pre.length (b4z (pre.map fun p => p.2.sw)) ∧ True) ∧ (Boxed W Bs 49 vl ∧ Bx W w.heap.size 45 #[x0,x1] ∧ Bx W (w.heap.size + 1) 45 #[.slice none 0 0,.int .i64 0]) ∧ Below w.heap.size w W
theorem d0z.own (w:World) (B6 Bs:Nat) (vl x0 x1:Value) {B:Nat} (hB:w.heap.size ≤ B):OwnFrom B (d0z w B6 Bs vl x0 x1):=by
  refine OwnFrom.and (Own.from (holdsRow_own w.heap.size B6 49 74 6 (fun (pre:List (Int × S6)) => pre.length) (fun pre => b4z (pre.map fun p => p.2.sw)) (fun _ _ => True)) _) (OwnFrom.and (OwnFrom.and (Own.from (Bx.own Bs 49 #[vl]) _) (OwnFrom.and (Own.from (Bx.own _ 45 _) _) (Own.from (Bx.own _ 45 _) _))) (ownFrom_below (Nat.le_refl _) hB))
def e2d (w w1:World) (x0 x1:Value) (a:Option Addr) (len cap:Nat) (B:Nat) (x:Int × S6):Array Value :=
  #[.agg #[x0,x1],.slice a len cap,.pointer (some ⟨w.heap.size,0,none⟩),undef,.pointer (some ⟨w.heap.size + 1,0,none⟩),.int .i64 0,.pointer (some ⟨w1.heap.size + 1,0,none⟩),undef,.pointer (some ⟨B,0,none⟩),.slice a len cap,.bool true,.bool false,undef,
    .slice (some ⟨w1.heap.size,0,none⟩) 0 0,.slice a len cap,.func (.func 89) #[] #[.pointer (some ⟨w1.heap.size + 2,0,none⟩)],.int .i64 x.1,.agg #[.int .i64 x.2.a,.int .i64 x.2.b,.int .i64 x.2.c,.slice x.2.d0 x.2.d1 x.2.d2,.int .i64 x.2.e,.slice x.2.f0 x.2.f1 x.2.f2],undef,undef,undef,undef,undef,undef,undef,undef,undef,undef,undef,undef,undef,undef,undef,undef,undef]
def e3y (w w1:World) (x0 x1:Value) (a:Option Addr) (len cap:Nat) (x:Int × S6) (ac:Act) (W:World):Prop :=
  ∃ B,w.heap.size ≤ B ∧ Bx W B 74 #[.int .i64 x.2.a,.int .i64 x.2.b,.int .i64 x.2.c,.slice x.2.d0 x.2.d1 x.2.d2,.int .i64 x.2.e,.slice x.2.f0 x.2.f1 x.2.f2] ∧ ac = { tmps:=e2d w w1 x0 x1 a len cap B x,defers:=[] }
set_option maxRecDepth 100000 in
set_option maxHeartbeats 4000000 in
theorem d7j (F:Fence) (n:Nat) (f30:F.fn 30) (f61:F.fn 61) (f62:F.fn 62) (f67:F.fn 67) (f89:F.fn 89) (hro:F.round = none) (hn:3 ≤ n) (x0 x1:Value) (o0:x0.oneCell' = true) (o1:x1.oneCell' = true) (a:Option Addr) (len cap:Nat) (ds:List S6) (hlen:ds.length ≤ 100000) (w:World) (hI:d5c w.heap.size w (.slice a len cap) ds)
    (h61:∀ W,Below w.heap.size w W → CallsIn F (n - 1) Try.prog 61 #[.slice a len cap] W fun e w' => e = .returned (.bool true) ∧ Below W.heap.size W w') (G:World → World → Value → Value → Int → Prop)
    (h62:∀ W v',Below w.heap.size w W → W.ownsRow w.heap.size 74 6 v' ds.length (b4z (ds.reverse.map S6.sw)) → CallsIn F (n - 1) Try.prog 62 #[.agg #[x0,x1],v'] W fun e w' => ∃ r0 r1 r2 r3 c,e = .returned (.tuple #[.agg #[.slice r0 r1 r2,.int .i64 r3],.int .i64 c]) ∧ Below W.heap.size W w' ∧ G W w' (.slice r0 r1 r2) (.int .i64 r3) c) :
    CallsIn F n Try.prog 30 #[.agg #[x0,x1],.slice a len cap] w fun e W' => ∃ W w' r0 r1 c,e = .returned (.tuple #[.agg #[r0,r1],.int .i64 c]) ∧ Below w.heap.size w W' ∧ w.heap.size ≤ W.heap.size ∧ G W w' r0 r1 c ∧ ∀ b,W.heap.size ≤ b → W'.heap[b]? = w'.heap[b]?:=by
  have h1:1 ≤ n:=by omega
  obtain ⟨i0,hi,hz0,hz1,hz2⟩:=info_parts I74
  refine callsIn_of_wp_marks Try.func30 rfl f30 ?_ hro
  simp only [(show Try.f30.ntmps = 35 from rfl),List.size_toArray,List.length_cons,List.length_nil,Nat.reduceAdd,Nat.reduceSub,Array.replicate_succ,Array.replicate_zero,List.push_toArray,List.append_toArray,List.nil_append,List.cons_append]
  have hB1:Below w.heap.size w ((w.alloc (.cells #[x0,x1] 45)).alloc (.cells #[.slice none 0 0,.int .i64 0] 45)):=((Below.refl _ w).alloc (Nat.le_refl _) _).alloc (by simp) _
  gi_wp2_with (first | (gi_at_call 61; refine (h61 _ hB1).mono ?_; rintro e w1 ⟨rfl,hb1⟩) | (gi_at_call 67; refine (e0i F (n - 1) f67 hro _ _ _ _).mono ?_; rintro e w' ⟨rfl,rfl⟩))
  have hBw1:Below w.heap.size w w1:=hB1.trans (hb1.mono (by simp; omega))
  have hs1:w.heap.size + 2 ≤ w1.heap.size:=by have:=hb1.size; simpa using this
  have hx1:Bx w1 w.heap.size 45 #[x0,x1]:=((Bx.new w 45 #[x0,x1]).alloc _).below hb1 (by simp; omega)
  have hx2:Bx w1 (w.heap.size + 1) 45 #[.slice none 0 0,.int .i64 0]:=by
    have:=Bx.new (w.alloc (.cells #[x0,x1] 45)) 45 #[.slice none 0 0,.int .i64 0]
    rw [World.size_alloc] at this
    exact this.below hb1 (by simp)
  have b6:=Boxed.new (w1.alloc (.cells #[] 74)) 49 (.slice (some ⟨w1.heap.size,0,none⟩) 0 0)
  have bs:=Boxed.new ((w1.alloc (.cells #[] 74)).alloc (.cells #[.slice (some ⟨w1.heap.size,0,none⟩) 0 0] 49)) 49 (.slice a len cap)
  simp only [World.size_alloc] at b6 bs
  have hr0:=(World.ownsRow_made (e:=74) (size:=6) (base:=w.heap.size) w1 #[] 0 (by omega) (by decide) rfl)
  have hmx:ds.length ≤ maxLen:=Nat.le_trans hlen (by decide)
  have hBS:Below w.heap.size w (((w1.alloc (.cells #[] 74)).alloc (.cells #[.slice (some ⟨w1.heap.size,0,none⟩) 0 0] 49)).alloc (.cells #[.slice a len cap] 49)) :=
    hBw1.trans (((((Below.refl _ w1).alloc (Nat.le_refl _) _).alloc (by simp) _).alloc (by simp; omega) _).mono hBw1.size)
  refine wpIn_rangeFunc_ownH hro h1 (gf:=89) (lb:=#[.pointer (some ⟨w1.heap.size + 2,0,none⟩)]) rfl f89 (enters_of Try.func89 (by kernel_rfl) rfl)
    (d2r F (n - 1) f89 hro (by omega) (w1.heap.size + 2) w.heap.size _ ds hmx _ (by simp; omega) bs (hI.below hBS)) (fun h k => h.t k) (KpB.b (by simp; omega) (by simp)) (Below.refl _ _) (fun _ => rfl)
    (d0z w (w1.heap.size + 1) (w1.heap.size + 2) (.slice a len cap) x0 x1) (fun _ _ _ => False) (d0z.own _ _ _ _ _ _ (by simp; omega)) (fun _ _ _ _ _ hs _ _ => hs) ?h0
    (e3y w w1 x0 x1 a len cap) ?hax ?assign ?body ?done ?stop
  case h0 =>
    exact ⟨⟨_,b6.alloc _,(hr0.alloc _).alloc _,trivial⟩,⟨bs,((hx1.alloc _).alloc _).alloc _,((hx2.alloc _).alloc _).alloc _⟩,hBS⟩
  case hax =>
    rintro x a' _ X Y row ⟨B,g1,g2,g3⟩ hg hr
    exact ⟨B,g1,Bx.own (β:=Unit) B 74 _ () X Y row g2 hg (fun r e => (hr r e).2),g3⟩
  case assign =>
    rintro l pre ⟨xi,x⟩ W K hi hK
    simp only [e0h]
    gi_wp2
    refine hK _ _ ?_ ?_ ?_ ?_
    · exact (KeepsOthers.alloc W _).from _
    · exact ⟨(Below.refl _ W).alloc hi.2.2.size _,fun hb => Below.heap_alloc _ _ _ hb⟩
    · exact (d0z.own w _ _ _ x0 x1 (Nat.le_refl _)).alloc _ hi
    · exact ⟨W.heap.size,hi.2.2.size,Bx.new W 74 _,rfl⟩
  case body =>
    rintro l pre ⟨xi,x⟩ a' W hl hlp hi ⟨B,hB,hx,rfl⟩ hlt
    obtain ⟨⟨v,hv,hrow,-⟩,⟨hbs,hbx,hbr⟩,hbel⟩:=hi
    have hc:=hv.cell
    have d1:W.cell? ⟨B,0,none⟩ = some (.int .i64 x.a):=by simp [World.cell?,show W.heap[B]? = _ from hx]
    have d2:W.cell? ⟨B,1,none⟩ = some (.int .i64 x.b):=by simp [World.cell?,show W.heap[B]? = _ from hx]
    have d3:W.cell? ⟨B,2,none⟩ = some (.int .i64 x.c):=by simp [World.cell?,show W.heap[B]? = _ from hx]
    have d4:W.cell? ⟨B,3,none⟩ = some (.slice x.d0 x.d1 x.d2):=by simp [World.cell?,show W.heap[B]? = _ from hx]
    have d5:W.cell? ⟨B,4,none⟩ = some (.int .i64 x.e):=by simp [World.cell?,show W.heap[B]? = _ from hx]
    have d6:W.cell? ⟨B,5,none⟩ = some (.slice x.f0 x.f1 x.f2):=by simp [World.cell?,show W.heap[B]? = _ from hx]
    simp only [e2d]
    have hone:∀ u ∈ x.sw.l,u.oneCell' = true:=by
      intro u hu
      simp only [S6.l,S6.sw,List.mem_cons,List.not_mem_nil,or_false] at hu
      rcases hu with rfl | rfl | rfl | rfl | rfl | rfl <;> rfl
    have hlt':pre.length < 100000:=by omega
    have hl1:pre.length + 1 ≤ maxLen:=Nat.le_trans (show pre.length + 1 ≤ 100000 by omega) (by decide)
    have hsz0:=hbel.size
    have hsz1:w.heap.size ≤ w1.heap.size + 1:=by omega
    gi_wp2_with (gi_at_builtin; refine wpListIn_append_own _ rfl _ _ 49 rfl w.heap.size 74 i0 _ 6 80 U49 hi hz0 hz1 hz2 rfl (by decide) _ _ _ rfl (hrow.alloc _) ⟨W.heap.size,0,none⟩ 1 1 x.sw.l rfl rfl ?_ ?_ ?_ ?_ ?_ ?_)
    · intro j u h; exact h
    · exact hone
    · omega
    · omega
    intro v' w2 hown' hgrow _
    obtain ⟨g',cap',rfl⟩:=ownsRow_succ hown'
    obtain ⟨hv1,hv2,hr2,hk2,hb2⟩:=hv.appended (by decide) hrow hsz0 hsz1 hown' hgrow
    have hc1:=hv1.cell
    have hf1:=hv1.frozen
    gi_wp2
    have kp:∀ {K:Nat} {t:TypeId} {cs:Array Value},Bx W K t cs → t ≠ 74 → K ≠ w1.heap.size + 1 → Bx (w2.setCell ⟨w1.heap.size + 1,0,none⟩ (.slice (some ⟨g',0,none⟩) (pre.length + 1) cap')) K t cs:=fun h1 h2 h3 =>
      ((h1.alloc _).kept hgrow (h1.not_row h2 hrow)).setCell h3 _
    have kbs:=kp (K:=w1.heap.size + 2) (t:=49) (cs:=#[.slice a len cap]) hbs (by decide) (by omega)
    refine ⟨hk2.from _,⟨hb2,fun _ => kbs.trans (show W.heap[w1.heap.size + 2]? = _ from hbs).symm⟩,⟨_,hv2,?_,trivial⟩,⟨kbs,kp hbx (by decide) (by omega),kp hbr (by decide) (by omega)⟩,hbel.trans hb2⟩
    rw [List.length_append,List.map_append]
    simpa [b4z] using hr2
  case done =>
    rintro D ys W hD hys ⟨⟨v,hv,hrow,-⟩,⟨hbs,hbx,hbr⟩,hbel⟩ hK
    have hyl:ys.length = ds.length:=by rw [← List.length_map (f:=Prod.snd),hys,List.length_reverse]
    have hfl:b4z (ys.map fun p => p.2.sw) = b4z (ds.reverse.map S6.sw):=by rw [← hys,List.map_map]; rfl
    rw [hyl,hfl] at hrow
    have hc:=hv.cell
    have d1:W.cell? ⟨w.heap.size,0,none⟩ = some x0:=by simp [World.cell?,show W.heap[w.heap.size]? = _ from hbx]
    have d2:W.cell? ⟨w.heap.size,1,none⟩ = some x1:=by simp [World.cell?,show W.heap[w.heap.size]? = _ from hbx]
    gi_wp2_with (gi_at_call 62; refine (h62 _ _ hbel hrow).mono ?_; rintro e w3 ⟨r0,r1,r2,r3,c,rfl,hb3,hG⟩; have hb3':=hbr.below hb3 hbr.lt; have f1:=(show w3.cell? ⟨w.heap.size + 1,0,none⟩ = some (.slice none 0 0) by simp [World.cell?,show w3.heap[w.heap.size + 1]? = _ from hb3']); have f2:=(show w3.cell? ⟨w.heap.size + 1,1,none⟩ = some (.int .i64 0) by simp [World.cell?,show w3.heap[w.heap.size + 1]? = _ from hb3']); have f3:=(show w3.frozen? ⟨w.heap.size + 1,0,none⟩ = false by simp [World.frozen?,show w3.heap[w.heap.size + 1]? = _ from hb3']); have f4:=(show w3.frozen? ⟨w.heap.size + 1,1,none⟩ = false by simp [World.frozen?,show w3.heap[w.heap.size + 1]? = _ from hb3']))
    have hb3':Bx w3 (w.heap.size + 1) 45 #[.slice none 0 0,.int .i64 0]:=hbr.below hb3 hbr.lt
    have hD3:w3.heap[D]? = some (.deferred (some [])):=(hb3.block D (Array.getElem?_eq_some_iff.1 hK).1).trans hK
    have hne:D ≠ w.heap.size + 1:=by intro e; rw [e] at hD; simp at hD; omega
    have k1:=Bx.set2 hb3' (.slice r0 r1 r2) (.int .i64 r3)
    have hD4:((w3.setCell ⟨w.heap.size + 1,0,none⟩ (.slice r0 r1 r2)).setCell ⟨w.heap.size + 1,1,none⟩ (.int .i64 r3)).heap[D]? = some (.deferred (some [])) :=
      (Below.heap_setCell _ _ _ _ hne).trans ((Below.heap_setCell _ _ _ _ hne).trans hD3)
    have k2:Bx (((w3.setCell ⟨w.heap.size + 1,0,none⟩ (.slice r0 r1 r2)).setCell ⟨w.heap.size + 1,1,none⟩ (.int .i64 r3)).putObj D (.deferred none)) (w.heap.size + 1) 45 #[.slice r0 r1 r2,.int .i64 r3]:=(World.putObj_heap_other hne.symm).trans k1
    refine ⟨by simp,.inl ⟨_,_,rfl,run_takeDeferred hD4,?_⟩⟩
    refine ⟨.tuple #[.agg #[.slice r0 r1 r2,.int .i64 r3],.int .i64 c],?_,W,w3,_,_,_,rfl,?_,hbel.size,hG,?_⟩
    · have g1:=k2.cell2_0
      have g2:=k2.cell2_1
      generalize (((w3.setCell ⟨w.heap.size + 1,0,none⟩ (.slice r0 r1 r2)).setCell ⟨w.heap.size + 1,1,none⟩ (.int .i64 r3)).putObj D (.deferred none)) = wF at g1 g2 ⊢
      rw [results_cell_tmp rfl]
      simp [go_sem,loadVar,g1,g2]
    · refine (hbel.trans (hb3.mono hbel.size)).trans ?_
      refine (((Below.refl _ w3).setCell (p:=⟨w.heap.size + 1,0,none⟩) (by simp) (.slice r0 r1 r2)).setCell (p:=⟨w.heap.size + 1,1,none⟩) (by simp) (.int .i64 r3)).trans ?_
      exact (Below.refl _ _).grown (grownBy_putObj' _ D _) (by simp; have:=hb3.size; have:=hbel.size; omega) (fun k e => by cases e; simp at hD; omega)
    · intro b hb
      have h1:b ≠ D:=by have:=(Array.getElem?_eq_some_iff.1 hK).1; omega
      have h2:b ≠ w.heap.size + 1:=by have:=hbr.lt; omega
      exact (World.putObj_heap_other h1).trans ((Below.heap_setCell _ _ _ _ h2).trans (Below.heap_setCell _ _ _ _ h2))
  case stop =>
    rintro D c pre W _ _ h _
    exact h.elim

set_option maxRecDepth 100000 in
set_option maxHeartbeats 4000000 in
theorem d5d (F:Fence) (n:Nat) (f30:F.fn 30) (f61:F.fn 61) (hro:F.round = none) (hn:3 ≤ n) (x0 x1:Value) (o0:x0.oneCell' = true) (o1:x1.oneCell' = true) (a:Option Addr) (len cap:Nat) (w:World)
    (h61:∀ W,Below w.heap.size w W → CallsIn F (n - 1) Try.prog 61 #[.slice a len cap] W fun e w' => e = .returned (.bool false) ∧ Below W.heap.size W w') :
    CallsIn F n Try.prog 30 #[.agg #[x0,x1],.slice a len cap] w fun e W' => e = .returned (.tuple #[.agg #[.slice none 0 0,.int .i64 0],.int .i64 2]) ∧ Below w.heap.size w W':=by
  have h1:1 ≤ n:=by omega
  refine callsIn_of_wp_marks Try.func30 rfl f30 ?_ hro
  simp only [(show Try.f30.ntmps = 35 from rfl),List.size_toArray,List.length_cons,List.length_nil,Nat.reduceAdd,Nat.reduceSub,Array.replicate_succ,Array.replicate_zero,List.push_toArray,List.append_toArray,List.nil_append,List.cons_append]
  have hB1:Below w.heap.size w ((w.alloc (.cells #[x0,x1] 45)).alloc (.cells #[.slice none 0 0,.int .i64 0] 45)):=((Below.refl _ w).alloc (Nat.le_refl _) _).alloc (by simp) _
  have hx2:Bx ((w.alloc (.cells #[x0,x1] 45)).alloc (.cells #[.slice none 0 0,.int .i64 0] 45)) (w.heap.size + 1) 45 #[.slice none 0 0,.int .i64 0]:=by
    have:=Bx.new (w.alloc (.cells #[x0,x1] 45)) 45 #[.slice none 0 0,.int .i64 0]
    rw [World.size_alloc] at this
    exact this
  gi_wp2_with (gi_at_call 61; refine (h61 _ hB1).mono ?_; rintro e w3 ⟨rfl,hb1⟩; have hb3':=hx2.below hb1 hx2.lt; have f1:=(show w3.cell? ⟨w.heap.size + 1,0,none⟩ = some (.slice none 0 0) by simp [World.cell?,show w3.heap[w.heap.size + 1]? = _ from hb3']); have f2:=(show w3.cell? ⟨w.heap.size + 1,1,none⟩ = some (.int .i64 0) by simp [World.cell?,show w3.heap[w.heap.size + 1]? = _ from hb3']); have f3:=(show w3.frozen? ⟨w.heap.size + 1,0,none⟩ = false by simp [World.frozen?,show w3.heap[w.heap.size + 1]? = _ from hb3']); have f4:=(show w3.frozen? ⟨w.heap.size + 1,1,none⟩ = false by simp [World.frozen?,show w3.heap[w.heap.size + 1]? = _ from hb3']))
  have k1:=Bx.set2 hb3' (.slice none 0 0) (.int .i64 0)
  refine ⟨.tuple #[.agg #[.slice none 0 0,.int .i64 0],.int .i64 2],?_,rfl,?_⟩
  · have g1:=k1.cell2_0
    have g2:=k1.cell2_1
    generalize ((w3.setCell ⟨w.heap.size + 1,0,none⟩ (.slice none 0 0)).setCell ⟨w.heap.size + 1,1,none⟩ (.int .i64 0)) = wF at g1 g2 ⊢
    rw [results_cell_tmp rfl]
    simp [go_sem,loadVar,g1,g2]
  · refine (hB1.trans (hb1.mono (by simp; omega))).trans ?_
    exact ((Below.refl _ w3).setCell (p:=⟨w.heap.size + 1,0,none⟩) (by simp) (.slice none 0 0)).setCell (p:=⟨w.heap.size + 1,1,none⟩) (by simp) (.int .i64 0)
end Go.R
