import Derived.Test.YtldahjcikmpifaaGreatC11
import Derived.Deep.AppendSrc
set_option linter.all false
namespace Go.R
open Go Go.RowKit
section loud
variable {P:Program} {C:Ctx} {σ:Sg} {φ:Nat → List Nat} {h:List y9} {w w':World} {t:Nat → AV} {ρ:Operand → Value}
theorem b4c (t tx ty e e':TypeId) (i:TypeInfo) (ht:P.underlying t = some (.slice e)) (hi:P.info? e = some i)
  (g sLen sCap:Nat) (cur:Array Value) (hg:w.heap[g]? = some (.cells cur e' (0,0))) (x:Value) (m:Nat) (news:List Value) (hs:Src P i.size tx x m news w)
  (hroom:sLen + m ≤ sCap) (hfit:sLen * i.size + news.length ≤ cur.size) :
  (Builtin.append_ #[t,tx] ty #[.slice (some ⟨g,0,none⟩) sLen sCap,x]).run P w =
   .ok (.slice (some ⟨g,0,none⟩) (sLen + m) sCap) (w.setRow g (cur.toList.take (sLen * i.size) ++ news ++ cur.toList.drop (sLen * i.size + news.length)).toArray):=by
 have hst:=run_storeCells_at P g (sLen * i.size) e' news 0 cur w hg (by simpa using hfit) hs.one
 simp only [Nat.add_zero] at hst
 rcases hs.kind with ⟨e'',hk⟩ | hk <;> simp [Builtin.append_,run_underlying ht,run_underlying hk,sizeOf,typeInfo,hi,hs.len,hroom,hs.cells,Addr.add_lit,hst]
theorem c5x (hr:a0b C σ φ h w) (ks:List Nat) {sz:Nat} (hsz:0 < sz) :
  a0b C (upd σ h.length none) (upd φ h.length []) (kill h ks ++ [.row sz []]) w ∧ Ev σ h w (upd σ h.length none) (kill h ks ++ [.row sz []]) w:=by
 have e1:upd σ h.length none h.length = none:=by simp [upd]
 have e2:upd φ h.length ([]:List Nat) h.length = []:=by simp [upd]
 refine a0b.puts hr ?_ (Nat.le_refl _) ?_ ?_ ?_ ?_ ?_
 ·intro o ho
  have:o ≠ h.length:=by omega
  simp [upd,this]
 ·intro j x hj g c hs
  cases j with
  | zero => rw [Nat.add_zero,e1] at hs; cases hs
  | succ j => simp at hj
 ·intro b hb _; rfl
 ·intro ev j x hj
  cases j with
  | zero =>
   simp at hj
   subst hj
   rw [Nat.add_zero]
   refine ⟨hsz,?_⟩
   rw [e1,e2]
   exact ⟨rfl,rfl⟩
  | succ j => simp at hj
 ·intro j j' g c c' hj hj' hs _
  simp at hj
  subst hj
  rw [Nat.add_zero,e1] at hs
  cases hs
 ·intro hdm j y hj _
  cases j with
  | zero =>
   rw [Nat.add_zero,e2]
   exact ⟨by simp,by simp,by simp,by simp⟩
  | succ j => simp at hj
theorem c0r (h:List y9) (ks:List Nat) (x:y9):(kill h ks ++ [x])[h.length]? = some x:=by
 rw [List.getElem?_append_right (by rw [a5q]; exact Nat.le_refl _),a5q,Nat.sub_self]; rfl
theorem e4a (hr:a0b C σ φ h w) {t e':TypeId} (hk:P.underlying t = some (.slice e')) {sz m:Nat} {a:Option Addr} {c:Nat} {fp:List Nat} {l:List AV} (hlen:l.length = m)
  (hsp:(m = 0 ∧ fp = []) ∨ ∃ g off cur e fz,a = some ⟨g,off,none⟩ ∧ w.heap[g]? = some (.cells cur e fz) ∧ a0n C.dm w sz l (cur.toList.drop off) fp) :
  ∃ news,Src P sz t (.slice a m c) m news w ∧ news.length = m * sz ∧ a0n C.dm w sz l news fp:=by
 rcases hsp with ⟨rfl,rfl⟩ | ⟨g,off,cur,e,fz,rfl,hg,hrep⟩
 ·have:l = []:=List.eq_nil_of_length_eq_zero hlen
  subst this
  refine ⟨[],?_,by simp,by simp [a0n]⟩
  cases a with
  | none => exact Src.ofNil w hk c
  | some a => exact Src.ofSlice w hk a 0 c [] (by simp) (by simp) (by simp)
 ·have hl:=hrep.length
  have hnl:((cur.toList.drop off).take (m * sz)).length = m * sz:=by rw [List.length_take]; rw [hlen] at hl; omega
  refine ⟨(cur.toList.drop off).take (m * sz),Src.ofSlice w hk _ m c _ hnl ?_ ?_,hnl,a0n.congr ?_ hrep⟩
  ·intro j u hu
   rw [List.getElem?_take] at hu
   split at hu
   ·rw [List.getElem?_drop] at hu
    have hadd:(⟨g,off,none⟩:Addr).add j = ⟨g,off + j,none⟩:=by unfold Addr.add; split <;> simp_all
    rw [hadd,b5w hg]
    simpa using hu
   ·cases hu
  ·have:=hrep.oneCell
   rw [hlen] at this
   exact this
  ·rw [hlen,List.take_take,Nat.min_self]
theorem c0s (hr:a0b C σ φ h w) (hb:∀ b,w.heap.size ≤ b → C.mine b) {ty e:TypeId} {ty':TypeId} {i:TypeInfo} (ht:P.underlying ty = some (.slice e)) (hi:P.info? e = some i)
  {z:Value} (hz:i.zero = some z) (hzs:z.cells.size = i.size) (h0:0 < i.size) (hby:i.bytes ≤ 65536) {cons:Bool} {s x:AV} {vs vx:Value} (hs:RV C σ h w s vs) (hx:RV C σ h w x vx)
  {l0 l1:List AV} {n m:Nat} {ks0 ks1:List Nat} (hd:c0q h i.size s = some (l0,n,ks0)) (hsr:b4b cons h i.size x = some (l1,m,ks1))
  (hflat:C.dm = true → cons = false → ∀ a ∈ l1,R.flat a = true) (hlst:C.dm = true → ∀ z l',x = .lst z l' → ∀ a ∈ l1,R.flat a = true) (hnd:C.dm = true → (ks0 ++ ks1).Nodup) (hlim:n + m ≤ 2 ^ 30) :
  ∃ u w' σ' φ',(Builtin.append_ #[ty,ty] ty' #[vs,vx]).run P w = .ok u w' ∧ a0b C σ' φ' (kill h (ks0 ++ ks1) ++ [.row i.size (l0 ++ l1)]) w' ∧
   Ev σ h w σ' (kill h (ks0 ++ ks1) ++ [.row i.size (l0 ++ l1)]) w' ∧ RV C σ' (kill h (ks0 ++ ks1) ++ [.row i.size (l0 ++ l1)]) w' (.own h.length 0 (n + m)) u ∧ Below C.base w w':=by
 obtain ⟨hl0,hn0,fp0,ht0,hnl0,hc0⟩:=d9r hr hs hd
 obtain ⟨hl1,hn1,fp1,a,c1,rfl,ht1,hnl1,hc1⟩:=d2r hr hx hsr hflat hlst
 obtain ⟨news,hsrc,hnews,hrep1⟩:=e4a (P:=P) hr ht (c:=c1) hl1 hc1
 have htk:=ht0.append hr ht1
 have hnl:∀ b ∈ fp0 ++ fp1,¬ liveAt h σ b:=fun b hb => (List.mem_append.1 hb).elim (hnl0 b) (hnl1 b)
 have hmax:n + m ≤ maxLen:=by simp only [maxLen]; omega
 have hlt1:=a0n.lt _ _ _ hrep1
 have hbytes:(n + m) * i.bytes ≤ 140737488355328:=Nat.le_trans (Nat.mul_le_mul hlim hby) (by decide)
 have result:∀ (σ':Sg) (g c:Nat),σ' h.length = some (g,c) → n + m ≤ c → c ≤ maxLen → ∀ w',RV C σ' (kill h (ks0 ++ ks1) ++ [.row i.size (l0 ++ l1)]) w' (.own h.length 0 (n + m)) (.slice (some ⟨g,0,none⟩) (n + m) c):=by
  intro σ' g c hs' hc hm w'
  simp only [RV,c0r]
  exact ⟨_,c,rfl,by rw [List.length_append]; omega,hc,hm,by rw [hs']; simp⟩
 have grow:∀ (old:Nat) (base:Option Addr) (olds:List Value),old < n + m → (Builtin.firstCells i.size n (.slice base n old)).run P w.drew = .ok olds.toArray w.drew → olds.length = n * i.size → a0n C.dm w i.size l0 olds fp0 →
   vs = .slice base n old →
   ∃ u w' σ' φ',(Builtin.append_ #[ty,ty] ty' #[vs,.slice a m c1]).run P w = .ok u w' ∧ a0b C σ' φ' (kill h (ks0 ++ ks1) ++ [.row i.size (l0 ++ l1)]) w' ∧
    Ev σ h w σ' (kill h (ks0 ++ ks1) ++ [.row i.size (l0 ++ l1)]) w' ∧ RV C σ' (kill h (ks0 ++ ks1) ++ [.row i.size (l0 ++ l1)]) w' (.own h.length 0 (n + m)) u ∧ Below C.base w w':=by
  intro old base olds hold hrun hol hrep0 hvs
  subst hvs
  have hge:=grownCap_ge w (n + m) old e
  have hcm:=grownCap_le_maxLen w (n + m) old e hmax
  have hr':=run_append_grow_src (P:=P) w ty ty ty' e i z ht hi hz base n old olds hrun _ m news hsrc hold (by omega) (growslice_fits hold hbytes)
  have hlt0:=a0n.lt _ _ _ hrep0
  have hblk:∀ ob,∀ b,b < w.heap.size → (w.drew.alloc ob).heap[b]? = w.heap[b]?:=fun ob b hb => heap_alloc_old w.drew ob hb
  have hrep:∀ ob,a0n C.dm (w.drew.alloc ob) i.size (l0 ++ l1) ((olds ++ news).toArray ++ Builtin.zeroCells z.cells (grownCap w (n + m) old e - (n + m))).toList (fp0 ++ fp1):=by
   intro ob
   refine a0n.congr (cs:=olds ++ news) ?_ ?_
   ·rw [List.length_append,hl0,hl1]
    simp only [Array.toList_append]
    rw [List.take_append_of_le_length (by simp [hol,hnews,Nat.add_mul])]
   ·exact a0n.append (a0n.world _ _ _ (fun b hb => hblk ob b (hlt0 b hb)) hrep0) (by rw [hol,hl0]) (a0n.world _ _ _ (fun b hb => hblk ob b (hlt1 b hb)) hrep1)
  have key:=c5i (w':=w.drew.alloc (.cells ((olds ++ news).toArray ++ Builtin.zeroCells z.cells (grownCap w (n + m) old e - (n + m))) e)) hr (by simp) (g:=w.heap.size) (c:=grownCap w (n + m) old e) (ks:=ks0 ++ ks1) ⟨hb _ (Nat.le_refl _),.inl (Nat.le_refl _)⟩ (fun b hb _ => hblk _ b hb)
   (heap_alloc_new w.drew _) h0 hcm (by
    simp only [Array.size_append,List.size_toArray,size_zeroCells,hzs,List.length_append,hol,hnews,← Nat.add_mul]
    congr 1
    omega) (hrep _) htk (fun b hb => (List.mem_append.1 hb).elim (hlt0 b) (hlt1 b)) hnl hnd
  exact ⟨_,_,_,_,hr',key.1,key.2,result _ _ _ (by simp [upd]) hge hcm _,⟨rfl,rfl,rfl,by simp,fun k hk => hblk _ k (by have:=(hb _ (Nat.le_refl _)).1; omega)⟩⟩
 rcases hc0 with ⟨rfl,rfl,rfl⟩ | ⟨g,c,cur,e',o,rfl,hnc,hcm,hg,hcs,hrep0,hok,⟨y,hy1,hy2,hy3⟩,_⟩
 ·have:l0 = []:=List.eq_nil_of_length_eq_zero hl0
  subst this
  by_cases hm:m = 0
  ·subst hm
   have:l1 = []:=List.eq_nil_of_length_eq_zero hl1
   subst this
   have hnn:news = []:=List.eq_nil_of_length_eq_zero (by simpa using hnews)
   subst hnn
   have key:=c5x hr (ks0 ++ ks1) h0
   refine ⟨.slice none 0 0,w,_,_,?_,key.1,key.2,?_,Below.refl _ _⟩
   ·rcases hsrc.kind with ⟨e'',hk⟩ | hk <;> simp [Builtin.append_,run_underlying ht,run_underlying hk,sizeOf,typeInfo,hi,hsrc.len,hsrc.cells,storeCells]
   ·simp only [RV,List.append_nil,c0r]
    exact ⟨none,0,rfl,by simp,by simp,by simp,by simp [upd]⟩
  ·exact grow 0 none [] (by omega) (run_firstCells_none w.drew i.size 0 0 0) (by simp) (by simp [a0n]) rfl
 ·by_cases hroom:n + m ≤ c
  ·have hfit:n * i.size + news.length ≤ cur.size:=by rw [hnews,hcs,← Nat.add_mul]; exact Nat.mul_le_mul_right _ hroom
   have hr':=b4c (P:=P) (w:=w) ty ty ty' e e' i ht hi g n c cur hg _ m news hsrc hroom hfit
   have hlt0:=a0n.lt _ _ _ hrep0
   have hne:∀ b ∈ fp0 ++ fp1,b ≠ g:=by
    intro b hb he
    subst he
    exact hnl b hb ⟨o,y,c,hy1,hy2,hy3⟩
   have hlen0:(cur.toList.take (n * i.size)).length = n * i.size:=by rw [List.length_take,Array.length_toList]; omega
   have hrep:a0n C.dm (w.setRow g (cur.toList.take (n * i.size) ++ news ++ cur.toList.drop (n * i.size + news.length)).toArray) i.size (l0 ++ l1) (cur.toList.take (n * i.size) ++ news ++ cur.toList.drop (n * i.size + news.length)).toArray.toList (fp0 ++ fp1):=by
    refine a0n.congr (cs:=cur.toList.take (n * i.size) ++ news) ?_ ?_
    ·rw [List.length_append,hl0,hl1]
     simp only
     rw [List.take_append_of_le_length (by simp [hlen0,hnews,Nat.add_mul])]
    ·refine a0n.append (a0n.world _ _ _ (fun b hb => setRow_other w g b _ (hne b (by simp [hb]))) (a0n.congr (by rw [hl0,List.take_take,Nat.min_self]) hrep0)) (by rw [hlen0,hl0]) (a0n.world _ _ _ (fun b hb => setRow_other w g b _ (hne b (by simp [hb]))) hrep1)
   have hgb:C.mine g:=hr.base o y g c hy1 hy2 hy3
   have key:=c5i (w':=w.setRow g (cur.toList.take (n * i.size) ++ news ++ cur.toList.drop (n * i.size + news.length)).toArray) hr (by simp) (g:=g) (c:=c) (ks:=ks0 ++ ks1)
    ⟨hgb,.inr ⟨o,by simp [hok],y,c,hy1,hy2,hy3⟩⟩ (fun b _ hbg => setRow_other w g b _ hbg) (setRow_heap w g cur _ e' _ hg) h0 hcm (by
     simp only [List.size_toArray,List.length_append,hlen0,List.length_drop,Array.length_toList]
     omega) hrep htk (fun b hb => (List.mem_append.1 hb).elim (hlt0 b) (hlt1 b)) hnl hnd
   exact ⟨_,_,_,_,hr',key.1,key.2,result _ _ _ (by simp [upd]) hroom hcm _,⟨rfl,rfl,rfl,by simp,fun k hk => setRow_other w g k _ (by have:=hgb.1; omega)⟩⟩
  ·have hl:=hrep0.length
   have holds:(Builtin.firstCells i.size n (.slice (some ⟨g,0,none⟩) n c)).run P w.drew = .ok (cur.toList.take (n * i.size)).toArray w.drew:=by
    refine run_firstCells_some (P:=P) w.drew i.size n ⟨g,0,none⟩ n c _ ?_ ?_
    ·rw [List.length_take]; rw [hl0] at hl; omega
    ·intro j u hu
     rw [List.getElem?_take] at hu
     split at hu
     ·have hadd:(⟨g,0,none⟩:Addr).add j = ⟨g,j,none⟩:=by unfold Addr.add; split <;> simp_all
      rw [hadd]
      show w.cell? _ = _
      rw [b5w hg]
      simpa using hu
     ·cases hu
   exact grow c _ _ (by omega) holds (by rw [List.length_take]; rw [hl0] at hl; omega) (a0n.congr (by rw [hl0,List.take_take,Nat.min_self]) hrep0) rfl
theorem a0n.split {m:Bool} {w:World} {sz:Nat}:∀ {as:List AV} {cs:List Value} {fp:List Nat} (n:Nat),a0n m w sz as cs fp → ∃ f g,fp = f ++ g ∧ a0n m w sz (as.take n) cs f ∧ a0n m w sz (as.drop n) (cs.drop (n * sz)) g
 | [],cs,fp,n,h => by simp only [a0n] at h; subst h; exact ⟨[],[],rfl,by simp [a0n],by simp [a0n]⟩
 | a :: as,cs,fp,0,h => ⟨[],fp,rfl,by simp [a0n],by simpa using h⟩
 | a :: as,cs,fp,n + 1,h => by
  simp only [a0n] at h
  obtain ⟨f1,f2,h0,h1,h2,rfl⟩:=h
  obtain ⟨f,g,e,g1,g2⟩:=a0n.split n h2
  rw [List.drop_drop] at g2
  have e2:sz + n * sz = (n + 1) * sz:=by rw [Nat.add_mul]; omega
  rw [e2] at g2
  refine ⟨f1 ++ f,g,by rw [e]; simp,?_,by simpa using g2⟩
  simp only [List.take_succ_cons,a0n]
  exact ⟨f1,f,h0,h1,g1,rfl⟩
theorem d2s (hr:a0b C σ φ h w) (hb:∀ b,w.heap.size ≤ b → C.mine b) {ty e:TypeId} {ty':TypeId} {i:TypeInfo} (ht:P.underlying ty = some (.slice e)) (hi:P.info? e = some i) (h0:0 < i.size)
  {o lo n m:Nat} {l:List AV} {vs vx:Value} (ho:h[o]? = some (.row i.size l)) (hs:RV C σ h w (.own o 0 n) vs) (hx:RV C σ h w (.own o lo m) vx) (hnl:n ≤ lo) :
  ∃ u w' σ' φ',(Builtin.append_ #[ty,ty] ty' #[vs,vx]).run P w = .ok u w' ∧ a0b C σ' φ' (kill h [o] ++ [.row i.size (l.take n ++ (l.drop lo).take m)]) w' ∧
   Ev σ h w σ' (kill h [o] ++ [.row i.size (l.take n ++ (l.drop lo).take m)]) w' ∧ RV C σ' (kill h [o] ++ [.row i.size (l.take n ++ (l.drop lo).take m)]) w' (.own h.length 0 (n + m)) u ∧ Below C.base w w':=by
 simp only [RV,ho] at hs hx
 obtain ⟨a1,c1,rfl,s1,s2,s3,s4⟩:=hs
 obtain ⟨a2,c2,rfl,x1,x2,x3,x4⟩:=hx
 obtain ⟨hz,hob⟩:=hr.obj o _ ho
 have hl0:(l.take n).length = n:=by rw [List.length_take]; omega
 have hl1:((l.drop lo).take m).length = m:=by rw [List.length_take,List.length_drop]; omega
 cases hσ:σ o with
 | none =>
  rw [hσ] at hob s4 x4
  obtain ⟨rfl,_⟩:=hob
  obtain ⟨rfl,rfl⟩:=s4
  obtain ⟨rfl,rfl⟩:=x4
  have hn0:n = 0:=by omega
  have hm0:m = 0:=by omega
  subst hn0 hm0
  have key:=c5x hr [o] h0
  refine ⟨.slice none 0 0,w,_,_,?_,by simpa using key.1,by simpa using key.2,?_,Below.refl _ _⟩
  ·have hsrc:=Src.ofNil (P:=P) (size:=i.size) w ht 0
   rcases hsrc.kind with ⟨e'',hk⟩ | hk <;> simp [Builtin.append_,run_underlying ht,run_underlying hk,sizeOf,typeInfo,hi,hsrc.len,hsrc.cells,storeCells]
  ·simp only [RV,List.take_nil,List.drop_nil,List.append_nil,c0r]
   exact ⟨none,0,rfl,by simp,by simp,by simp,by simp [upd]⟩
 | some p =>
  obtain ⟨g,c⟩:=p
  rw [hσ] at hob s4 x4
  obtain ⟨rfl,rfl⟩:=s4.2 rfl
  obtain ⟨hcm,cur,e',hg,hcs,hrep,hf⟩:=hob
  obtain ⟨fa,fb,hfab,ra,rb⟩:=hrep.split n
  obtain ⟨fc,fd,hfcd,rd⟩:=rb.drop (lo - n)
  rw [List.drop_drop,List.drop_drop,← Nat.add_mul,show n + (lo - n) = lo by omega] at rd
  obtain ⟨g1,g2,hg12,rg⟩:=rd.take m
  have hsub:List.Sublist (fa ++ g1) (φ o):=by
   rw [hfab,hfcd,hg12]
   exact List.Sublist.append (List.Sublist.refl _) ((List.sublist_append_left g1 g2).trans (List.sublist_append_right fc _))
  have hspec:(m = 0 ∧ g1 = []) ∨ ∃ g off cur e fz,a2 = some ⟨g,off,none⟩ ∧ w.heap[g]? = some (.cells cur e fz) ∧ a0n C.dm w i.size ((l.drop lo).take m) (cur.toList.drop off) g1:=by
   by_cases hm:m = 0
   ·subst hm
    simp only [List.take_zero,a0n] at rg
    exact .inl ⟨rfl,rg⟩
   ·exact .inr ⟨g,lo * i.size,cur,e',(0,0),x4.1.resolve_left hm,hg,rg⟩
  obtain ⟨news,hsrc,hnews,hrep1⟩:=e4a (P:=P) hr ht (c:=c2) hl1 hspec
  have hlc:l.length ≤ c1:=by
   have h1:=hrep.length
   have h2:cur.toList.length = c1 * i.size:=by rw [← hcs]; simp
   rw [h2] at h1
   exact Nat.le_of_mul_le_mul_right h1 h0
  have hroom:n + m ≤ c1:=by omega
  have hfit:n * i.size + news.length ≤ cur.size:=by rw [hnews,hcs,← Nat.add_mul]; exact Nat.mul_le_mul_right _ hroom
  have hr':=b4c (P:=P) (w:=w) ty ty ty' e e' i ht hi g n c1 cur hg _ m news hsrc hroom hfit
  have hlt:∀ b ∈ fa ++ g1,b < w.heap.size:=fun b hb => a0n.lt _ _ _ hrep b (hsub.subset hb)
  have hnlv:∀ b ∈ fa ++ g1,¬ liveAt h σ b:=fun b hb => (hf b (hsub.subset hb)).2
  have hne:∀ b ∈ fa ++ g1,b ≠ g:=by
   intro b hb he
   subst he
   exact hnlv b hb ⟨o,_,c1,ho,rfl,hσ⟩
  have htk:Taken C σ φ h [o] (fa ++ g1):=⟨fun b hb => (hf b (hsub.subset hb)).1,fun b hb hl => absurd hl (hnlv b hb),fun hdm b hb => ⟨o,by simp,.inr ⟨hsub.subset hb,_,ho,rfl⟩⟩,fun hdm _ => (hr.deep hdm o _ l ho).1.sublist hsub⟩
  have hlen0:(cur.toList.take (n * i.size)).length = n * i.size:=by rw [List.length_take,Array.length_toList]; omega
  have hrepN:a0n C.dm (w.setRow g (cur.toList.take (n * i.size) ++ news ++ cur.toList.drop (n * i.size + news.length)).toArray) i.size (l.take n ++ (l.drop lo).take m) (cur.toList.take (n * i.size) ++ news ++ cur.toList.drop (n * i.size + news.length)).toArray.toList (fa ++ g1):=by
   refine a0n.congr (cs:=cur.toList.take (n * i.size) ++ news) ?_ ?_
   ·rw [List.length_append,hl0,hl1]
    simp only
    rw [List.take_append_of_le_length (by simp [hlen0,hnews,Nat.add_mul])]
   ·refine a0n.append (a0n.world _ _ _ (fun b hb => setRow_other w g b _ (hne b (by simp [hb]))) (a0n.congr (by rw [hl0,List.take_take,Nat.min_self]) ra)) (by rw [hlen0,hl0]) (a0n.world _ _ _ (fun b hb => setRow_other w g b _ (hne b (by simp [hb]))) hrep1)
  have hgb:C.mine g:=hr.base o _ g c1 ho rfl hσ
  have key:=c5i (w':=w.setRow g (cur.toList.take (n * i.size) ++ news ++ cur.toList.drop (n * i.size + news.length)).toArray) hr (by simp) (g:=g) (c:=c1) (ks:=[o])
   ⟨hgb,.inr ⟨o,by simp,_,c1,ho,rfl,hσ⟩⟩ (fun b _ hbg => setRow_other w g b _ hbg) (setRow_heap w g cur _ e' _ hg) h0 hcm (by
    simp only [List.size_toArray,List.length_append,hlen0,List.length_drop,Array.length_toList]
    omega) hrepN htk hlt hnlv (fun _ => by simp)
  refine ⟨_,_,_,_,hr',key.1,key.2,?_,⟨rfl,rfl,rfl,by simp,fun k hk => setRow_other w g k _ (by have:=hgb.1; omega)⟩⟩
  simp only [RV,c0r]
  exact ⟨_,c1,rfl,by rw [List.length_append,hl0,hl1]; omega,hroom,hcm,by simp [upd]⟩
end loud
end Go.R
