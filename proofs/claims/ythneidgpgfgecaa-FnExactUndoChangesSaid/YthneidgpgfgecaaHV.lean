/- Part of the proof. -/
import Derived.Test.YthneidgpgfgecaaHU
import Derived.Test.YthneidgpgfgecaaC16
set_option linter.all false
namespace Go.R
open Go Go.Proofs Go.RowKit
set_option linter.all false
set_option maxHeartbeats 400000
theorem c4t (d:S6) (ds:List S6):b4z (d :: ds) = d.l ++ b4z ds:=rfl
theorem e4z {w:World} {t i o n:Int} {oc nc:List AV} {cs:List Value} {f:List Nat} (h:Rep false w (.agg [.int .i64 t,.int .i64 i,.int .i64 o,.lst 1 oc,.int .i64 n,.lst 1 nc]) cs f) :
    ∃ d:S6,cs = d.l ∧ (∃ f',Rep false w (.agg [.int .i64 t,.int .i64 i,.int .i64 n,.lst 1 nc,.int .i64 o,.lst 1 oc]) d.sw.l f' ∧ ∀ b ∈ f',b ∈ f):=by
  simp only [Rep,a0m] at h
  obtain ⟨c1,r1,p1,q1,rfl,-,⟨e1,rfl⟩,⟨c2,r2,p2,q2,rfl,-,⟨e2,rfl⟩,⟨c3,r3,p3,q3,rfl,-,⟨e3,rfl⟩,⟨c4,r4,p4,q4,rfl,-,h4,⟨c5,r5,p5,q5,rfl,-,⟨e5,rfl⟩,⟨c6,r6,p6,q6,rfl,-,h6,⟨rfl,rfl⟩,rfl⟩,rfl⟩,rfl⟩,rfl⟩,rfl⟩,rfl⟩:=h
  cases e1; cases e2; cases e3; cases e5
  have k4:Rep false w (.lst 1 oc) [c4] p4:=by simp only [Rep]; exact h4
  have k6:Rep false w (.lst 1 nc) [c6] p6:=by simp only [Rep]; exact h6
  obtain ⟨a0,a1,a2,rfl⟩:∃ a0 a1 a2,c4 = .slice a0 a1 a2:=by
    rcases h4 with ⟨_,_,a,c,e,_⟩ | ⟨b,off,cap,cur,e,fz,fps,e1,_⟩
    · cases e; exact ⟨_,_,_,rfl⟩
    · cases e1; exact ⟨_,_,_,rfl⟩
  obtain ⟨b0,b1,b2,rfl⟩:∃ a0 a1 a2,c6 = .slice a0 a1 a2:=by
    rcases h6 with ⟨_,_,a,c,e,_⟩ | ⟨b,off,cap,cur,e,fz,fps,e1,_⟩
    · cases e; exact ⟨_,_,_,rfl⟩
    · cases e1; exact ⟨_,_,_,rfl⟩
  refine ⟨⟨t,i,o,a0,a1,a2,n,b0,b1,b2⟩,rfl,[] ++ ([] ++ ([] ++ (p6 ++ ([] ++ (p4 ++ []))))),?_,?_⟩
  · simp only [Rep,a0m,S6.l,S6.sw]
    simp only [Rep] at k4 k6
    exact ⟨_,_,_,_,rfl,rfl,⟨rfl,rfl⟩,⟨_,_,_,_,rfl,rfl,⟨rfl,rfl⟩,⟨_,_,_,_,rfl,rfl,⟨rfl,rfl⟩,⟨_,_,_,_,rfl,rfl,k6,⟨_,_,_,_,rfl,rfl,⟨rfl,rfl⟩,⟨_,_,_,_,rfl,rfl,k4,⟨rfl,rfl⟩,rfl⟩,rfl⟩,rfl⟩,rfl⟩,rfl⟩,rfl⟩
  · intro b hb
    simp only [List.mem_append,List.not_mem_nil,false_or,or_false] at hb ⊢
    exact Or.symm hb
def Rs {α:Type} (e:α → AV) (w:World) (fp:List Nat) (xs:List α) (ds:List S6):Prop:=xs.length = ds.length ∧ ∀ (k:Nat) x d,xs[k]? = some x → ds[k]? = some d → ∃ f,Rep false w (e x) d.l f ∧ ∀ b ∈ f,b ∈ fp
theorem Rs.reverse {α:Type} {e:α → AV} {w:World} {fp:List Nat} {xs:List α} {ds:List S6} (h:Rs e w fp xs ds):Rs e w fp xs.reverse ds.reverse:=by
  refine ⟨by rw [List.length_reverse,List.length_reverse,h.1],fun k x d h1 h2 => ?_⟩
  have hk:=(List.getElem?_eq_some_iff.1 h1).1
  rw [List.length_reverse] at hk
  rw [List.getElem?_reverse hk] at h1
  rw [List.getElem?_reverse (by rw [← h.1]; exact hk),← h.1] at h2
  exact h.2 _ _ _ h1 h2
theorem Rs.rep {α:Type} {e:α → AV} {w:World} {fp:List Nat} (he:∀ x,(e x).isElem = true):∀ {xs:List α} {ds:List S6} (R:List Value),Rs e w fp xs ds → ∃ f,a0j false w 6 (xs.map e) (b4z ds ++ R) f ∧ ∀ b ∈ f,b ∈ fp
  | [],[],R,_ => ⟨[],by simp only [List.map_nil,a0j],by simp⟩
  | [],_ :: _,R,h => by cases h.1
  | _ :: _,[],R,h => by cases h.1
  | x :: xs,d :: ds,R,h => by
    obtain ⟨f1,g1,m1⟩:=h.2 0 x d rfl rfl
    obtain ⟨f2,g2,m2⟩:=Rs.rep he (xs:=xs) (ds:=ds) R ⟨by simpa using h.1,fun k y d' a b => h.2 (k + 1) y d' a b⟩
    refine ⟨f1 ++ f2,?_,fun b hb => (List.mem_append.1 hb).elim (m1 b) (m2 b)⟩
    simp only [List.map_cons,a0j]
    have t1:(b4z (d :: ds) ++ R).take 6 = d.l:=by rw [c4t,List.append_assoc]; rfl
    have t2:(b4z (d :: ds) ++ R).drop 6 = b4z ds ++ R:=by rw [c4t,List.append_assoc]; rfl
    exact ⟨f1,f2,⟨by rw [t1]; rfl,he x⟩,by rw [t1]; exact g1,by rw [t2]; exact g2,rfl⟩
theorem Rs.of {α:Type} {e e':α → AV} {w:World} (hd:∀ x cs f,Rep false w (e x) cs f → ∃ d:S6,cs = d.l ∧ ∃ f',Rep false w (e' x) d.sw.l f' ∧ ∀ b ∈ f',b ∈ f) {g:Nat} {cur:Array Value} {el:TypeId} {fz:Nat × Nat} (hg:w.heap[g]? = some (.cells cur el fz)) :
    ∀ (xs:List α) (off:Nat) (fp:List Nat),a0j false w 6 (xs.map e) (cur.toList.drop off) fp → ∃ ds,At6 w g off ds ∧ Rs e' w fp xs (ds.map S6.sw)
  | [],off,fp,_ => ⟨[],fun j x h => by simp at h,rfl,fun k x d h => by simp at h⟩
  | x :: xs,off,fp,h => by
    simp only [List.map_cons,a0j] at h
    obtain ⟨f1,f2,⟨h0,-⟩,h1,h2,rfl⟩:=h
    obtain ⟨d,hd1,f',hd2,hm⟩:=hd x _ _ h1
    rw [List.drop_drop] at h2
    obtain ⟨ds,a1,a2⟩:=Rs.of hd hg xs (off + 6) f2 h2
    have cell:∀ k v,d.l[k]? = some v → w.cell? ⟨g,off + k,none⟩ = some v:=by
      intro k v hk
      have hk6:k < 6:=(List.getElem?_eq_some_iff.1 hk).1
      rw [← hd1,List.getElem?_take_of_lt hk6,List.getElem?_drop] at hk
      simp only [World.cell?,hg]
      simpa using hk
    refine ⟨d :: ds,?_,by simpa using a2.1,?_⟩
    · intro j y hy
      cases j with
      | zero =>
        cases hy
        exact ⟨by simpa using cell 0 _ rfl,by simpa using cell 1 _ rfl,by simpa using cell 2 _ rfl,by simpa using cell 3 _ rfl,by simpa using cell 4 _ rfl,by simpa using cell 5 _ rfl⟩
      | succ j =>
        have:=a1 j y hy
        rw [show off + 6 + j * 6 = off + (j + 1) * 6 by omega] at this
        exact this
    · intro k y d' h1 h2
      cases k with
      | zero =>
        cases h1; cases h2
        exact ⟨f',hd2,fun b hb => List.mem_append.2 (.inl (hm b hb))⟩
      | succ k =>
        obtain ⟨f,g1,g2⟩:=a2.2 k y d' h1 h2
        exact ⟨f,g1,fun b hb => List.mem_append.2 (.inr (g2 b hb))⟩
theorem c1b {m:Bool} {w:World} {T:List AV} {n:Int} {cs:List Value} {f:List Nat} (h:Rep m w (.agg [.lst 1 T,.int .i64 n]) cs f):∃ a l c,cs = [.slice a l c,.int .i64 n]:=by
  simp only [Rep,a0m] at h
  obtain ⟨c1,r1,p1,q1,rfl,-,h1,⟨c2,r2,p2,q2,rfl,-,⟨e2,rfl⟩,⟨rfl,rfl⟩,rfl⟩,rfl⟩:=h
  cases e2
  rcases h1 with ⟨_,_,a,c,e,_⟩ | ⟨b,off,cap,cur,e,fz,fps,e1,_⟩
  · cases e; exact ⟨_,_,_,rfl⟩
  · cases e1; exact ⟨_,_,_,rfl⟩
theorem d7k {w:World} {a:AV} {cs:List Value} {f:List Nat} (h:Rep false w a cs f):a1f false w [a] [mkV a cs] f:=by
  simp only [a1f]
  exact ⟨cs,[],f,[],rfl,h,⟨rfl,rfl⟩,by simp⟩
theorem e2u {w:World} {a b:AV} {cs cs':List Value} {f f':List Nat} (h:Rep false w a cs f) (h':Rep false w b cs' f'):a1f false w [a,b] [mkV a cs,mkV b cs'] (f ++ f'):=by
  simp only [a1f]
  exact ⟨cs,_,f,_,rfl,h,⟨cs',[],f',[],rfl,h',⟨rfl,rfl⟩,rfl⟩,by simp⟩
theorem e0j {α:Type} {e e':α → AV} (he:∀ x,(e' x).isElem = true) (hd:∀ w x cs f,Rep false w (e x) cs f → ∃ d:S6,cs = d.l ∧ ∃ f',Rep false w (e' x) d.sw.l f' ∧ ∀ b ∈ f',b ∈ f) {T T':List AV} {nx nx' c:Int} {xs:List α} (hn:xs.length ≤ 100000)
    (h61:a0b Try.prog 61 .flat [.lst 6 (xs.map e)] (.bool true)) (h62:a0b Try.prog 62 .fresh [.agg [.lst 1 T,.int .i64 nx],.lst 6 (xs.reverse.map e')] (.tup [.agg [.lst 1 T',.int .i64 nx'],.int .i64 c])) :
    a0b Try.prog 30 .fresh [.agg [.lst 1 T,.int .i64 nx],.lst 6 (xs.map e)] (.tup [.agg [.lst 1 T',.int .i64 nx'],.int .i64 c]):=by
  intro w vals fps hv
  simp only [a1f] at hv
  obtain ⟨cs,vs1,f1,f1',rfl,hx,⟨cl,vs2,f2,f2',rfl,hl,⟨rfl,rfl⟩,rfl⟩,rfl⟩:=hv
  obtain ⟨x0,x1,x2,rfl⟩:=c1b hx
  have hlt1:=Rep.lt _ _ _ hx
  have hlt2:=Rep.lt _ _ _ hl
  obtain ⟨a,len,cap,rfl,ds,hI,hRs⟩:∃ a len cap,cl = [.slice a len cap] ∧ ∃ ds,d5c w.heap.size w (.slice a len cap) ds ∧ Rs e' w f2 xs (ds.map S6.sw):=by
    have hl':=hl
    simp only [Rep] at hl'
    rcases hl' with ⟨h1,rfl,a,cap,rfl,-⟩ | ⟨b,off,cap,cur,el,fz,fq,rfl,h2,h3,h4,-,rfl,h6,h7⟩
    · obtain rfl:xs = []:=by simpa using h1
      exact ⟨a,0,cap,rfl,[],.inl ⟨a,cap,rfl,rfl⟩,rfl,fun k x d h => by simp at h⟩
    · obtain ⟨ds,a1,a2⟩:=Rs.of (hd w) h4 xs off fq h7
      have hlen:xs.length = ds.length:=by simpa using a2.1
      refine ⟨some ⟨b,off,none⟩,_,cap,rfl,ds,.inr ⟨b,off,cap,by rw [List.length_map,hlen],hlt2 b (by simp),a1⟩,a2.1,fun k x d h1 h2 => ?_⟩
      obtain ⟨f,g1,g2⟩:=a2.2 k x d h1 h2
      exact ⟨f,g1,fun b' hb => List.mem_cons_of_mem _ (g2 b' hb)⟩
  have hlen:ds.length = xs.length:=by simpa using hRs.1.symm
  have keepX:∀ {W},Below w.heap.size w W → Rep false W (.agg [.lst 1 T,.int .i64 nx]) [.slice x0 x1 x2,.int .i64 nx] f1:=fun hb => Rep.world _ _ _ (fun b h => hb.block b (hlt1 b h)) hx
  have keepL:∀ {W},Below w.heap.size w W → Rep false W (.lst 6 (xs.map e)) [.slice a len cap] f2:=fun hb => Rep.world _ _ _ (fun b h => hb.block b (hlt2 b h)) hl
  have keepR:∀ {W},Below w.heap.size w W → Rs e' W f2 xs.reverse (ds.reverse.map S6.sw):=by
    intro W hb
    have:=hRs.reverse
    rw [← List.map_reverse] at this
    refine ⟨this.1,fun k x d h1 h2 => ?_⟩
    obtain ⟨f,g1,g2⟩:=this.2 k x d h1 h2
    exact ⟨f,Rep.world _ _ _ (fun b h => hb.block b (hlt2 b (g2 b h))) g1,g2⟩
  have key:=d7j Fence.wide 3 trivial trivial trivial trivial trivial rfl (by decide) (.slice x0 x1 x2) (.int .i64 nx) rfl rfl a len cap ds (by omega) w hI
    (fun W hb => callsIn_wide.2 ((h61 W _ _ (d7k (keepL hb))).mono (by
      rintro ev w' hh
      cases ev with
      | returned v =>
        obtain ⟨g1,cs,rfl,g2⟩:=hh
        simp only [Rep] at g2
        obtain ⟨rfl,-⟩:=g2
        exact ⟨rfl,g1⟩
      | panicked _ => exact hh.elim
      | outgrown => exact hh.elim)))
    (fun W w' r0 r1 c' => ∃ fp,b0p true w' (.tup [.agg [.lst 1 T',.int .i64 nx'],.int .i64 c]) (.tuple #[.agg #[r0,r1],.int .i64 c']) fp ∧ fp.Nodup ∧ ∀ b ∈ fp,W.heap.size ≤ b)
    (fun W v' hb hrow => by
      have hrep:∃ f,Rep false W (.lst 6 (xs.reverse.map e')) [v'] f:=by
        rcases hrow.2 with ⟨rfl,h0⟩ | ⟨g,cap',cur,rfl,-,hg,h1,h2,h3,h4⟩
        · have:xs = []:=by apply List.eq_nil_of_length_eq_zero; omega
          subst this
          exact ⟨[],by rw [Rep]; exact .inl ⟨rfl,rfl,none,0,rfl,by decide,fun _ => ⟨rfl,rfl⟩⟩⟩
        · obtain ⟨f,g1,g2⟩:=(keepR hb).rep he (cur.toList.drop (ds.length * 6))
          rw [← h4,List.take_append_drop] at g1
          refine ⟨g :: f,?_⟩
          rw [Rep]
          refine .inr ⟨g,0,cap',cur,74,(0,0),f,?_,?_,h2,hg,(fun h => by cases h),rfl,by decide,by simpa using g1⟩
          · simp [hlen]
          · simpa [hlen] using h1
      obtain ⟨f,hrep⟩:=hrep
      refine callsIn_wide.2 ((h62 W _ _ (e2u (keepX hb) hrep)).mono ?_)
      rintro ev w' hh
      cases ev with
      | returned v =>
        obtain ⟨g1,fp,⟨cs,rfl,g2⟩,g3,g4⟩:=hh
        have g2':=g2
        simp only [Rep,a1f] at g2
        obtain ⟨c1,v1,p1,q1,rfl,k1,⟨c2,v2,p2,q2,rfl,⟨rfl,rfl⟩,⟨rfl,rfl⟩,rfl⟩,rfl⟩:=g2
        obtain ⟨y0,y1,y2,rfl⟩:=c1b (T:=T') (n:=nx') (m:=true) (w:=w') (f:=p1) (by simp only [Rep]; exact k1)
        exact ⟨y0,y1,y2,nx',c,rfl,g1,_,⟨_,rfl,g2'⟩,g3,g4⟩
      | panicked _ => exact hh.elim
      | outgrown => exact hh.elim)
  refine (callsIn_wide.1 key).mono ?_
  rintro ev W' ⟨W,w',r0,r1,c',rfl,hb,hs,⟨fp,⟨cs,g1,g2⟩,g3,g4⟩,hk⟩
  exact ⟨hb,fp,⟨cs,g1,Rep.world _ _ _ (fun b h => hk b (g4 b h)) g2⟩,g3,fun b h => Nat.le_trans hs (g4 b h)⟩
theorem c8q {xs:List AV} {T:List AV} {nx:Int} (h61:a0b Try.prog 61 .flat [.lst 6 xs] (.bool false)) :
    a0b Try.prog 30 .fresh [.agg [.lst 1 T,.int .i64 nx],.lst 6 xs] (.tup [.agg [.lst 1 [],.int .i64 0],.int .i64 2]):=by
  intro w vals fps hv
  simp only [a1f] at hv
  obtain ⟨cs,vs1,f1,f1',rfl,hx,⟨cl,vs2,f2,f2',rfl,hl,⟨rfl,rfl⟩,rfl⟩,rfl⟩:=hv
  obtain ⟨x0,x1,x2,rfl⟩:=c1b hx
  have hlt2:=Rep.lt _ _ _ hl
  obtain ⟨a,len,cap,rfl⟩:∃ a len cap,cl = [.slice a len cap]:=by
    have hl':=hl
    simp only [Rep] at hl'
    rcases hl' with ⟨h1,rfl,a,cap,rfl,-⟩ | ⟨b,off,cap,cur,el,fz,fq,rfl,h2,h3,h4,-,rfl,h6,h7⟩
    · exact ⟨_,_,_,rfl⟩
    · exact ⟨_,_,_,rfl⟩
  have keepL:∀ {W},Below w.heap.size w W → Rep false W (.lst 6 xs) [.slice a len cap] f2:=fun hb => Rep.world _ _ _ (fun b h => hb.block b (hlt2 b h)) hl
  have key:=d5d Fence.wide 3 trivial trivial rfl (by decide) (.slice x0 x1 x2) (.int .i64 nx) rfl rfl a len cap w
    (fun W hb => callsIn_wide.2 ((h61 W _ _ (d7k (keepL hb))).mono (by
      rintro ev w' hh
      cases ev with
      | returned v =>
        obtain ⟨g1,cs,rfl,g2⟩:=hh
        simp only [Rep] at g2
        obtain ⟨rfl,-⟩:=g2
        exact ⟨rfl,g1⟩
      | panicked _ => exact hh.elim
      | outgrown => exact hh.elim)))
  refine (callsIn_wide.1 key).mono ?_
  rintro ev W' ⟨rfl,hb⟩
  refine ⟨hb,[],⟨[.agg #[.slice none 0 0,.int .i64 0],.int .i64 2],rfl,?_⟩,by simp,by simp⟩
  have r0:Rep true W' (.lst 1 []) [.slice none 0 0] []:=by rw [Rep]; exact .inl ⟨rfl,rfl,none,0,rfl,by decide,fun _ => ⟨rfl,rfl⟩⟩
  have r1:Rep true W' (.int .i64 0) [.int .i64 0] []:=by rw [Rep]; exact ⟨rfl,rfl⟩
  have r2:Rep true W' (.int .i64 2) [.int .i64 2] []:=by rw [Rep]; exact ⟨rfl,rfl⟩
  have r3:Rep true W' (.agg [.lst 1 [],.int .i64 0]) [.slice none 0 0,.int .i64 0] []:=by
    rw [Rep,a0m]
    refine ⟨_,_,[],[],rfl,rfl,r0,?_,rfl⟩
    rw [a0m]
    refine ⟨_,_,[],[],rfl,rfl,r1,?_,rfl⟩
    rw [a0m]
    exact ⟨rfl,rfl⟩
  rw [Rep,a1f]
  refine ⟨_,_,[],[],rfl,r3,?_,rfl⟩
  rw [a1f]
  refine ⟨_,_,[],[],rfl,r2,?_,rfl⟩
  rw [a1f]
  exact ⟨rfl,rfl⟩
end Go.R
