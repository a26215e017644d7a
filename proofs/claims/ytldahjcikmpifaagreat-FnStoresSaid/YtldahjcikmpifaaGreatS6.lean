/- Part of the proof. -/
import Derived.Test.YtldahjcikmpifaaGreatS5
import Derived.Test.YtldahjcikmpifaaGreatRows
import Derived.LoopN
section
set_option linter.all false
namespace Go.R
open Go Go.Proofs Go.RowKit
set_option maxHeartbeats 400000
theorem c6v {w:World} {sz k:Nat} {l:List AV} {x:AV} {v:Value} {fp:List Nat} (h:Rep true w (.lst sz l) [v] fp) (nd:fp.Nodup) (hk:l[k]? = some x) :
    ∃ b c cur e fx,v = .slice (some ⟨b,0,none⟩) l.length c ∧ l.length ≤ c ∧ c ≤ maxLen ∧ Bx w b e cur ∧ cur.size = c * sz ∧ 0 < sz ∧ b ∈ fp ∧ b ∉ fx ∧ (∀ q ∈ fx,q ∈ fp) ∧ fx.Nodup ∧ ((cur.toList.drop (k * sz)).take sz).length = sz ∧ Rep true w x ((cur.toList.drop (k * sz)).take sz) fx ∧
      ∀ (w':World) (cur':Array Value) (y:AV) (fy:List Nat),Bx w' b e cur' → cur'.size = cur.size → (∀ j,(j < k * sz ∨ (k + 1) * sz ≤ j) → cur'[j]? = cur[j]?) → y.isElem = true → Rep true w' y ((cur'.toList.drop (k * sz)).take sz) fy → (∀ q ∈ fp,q ∉ fx → q ≠ b → w'.heap[q]? = w.heap[q]?) → fy.Nodup → (∀ q ∈ fy,q ∈ fx ∨ q ∉ fp) →
        ∃ fp',Rep true w' (.lst sz (l.set k y)) [v] fp' ∧ fp'.Nodup ∧ ∀ q ∈ fp',q ∈ fp ∨ q ∈ fy:=by
  obtain ⟨hkl,rfl⟩:=List.getElem?_eq_some_iff.1 hk
  rw [Rep] at h
  rcases h with ⟨h1,_⟩ | ⟨b,off,cap,cur,e,fz,fps,h1,h2,h3,h4,h5,rfl,h7,h8⟩
  · subst h1;simp at hkl
  · obtain ⟨rfl,rfl,h6⟩:=h5 rfl
    simp only [List.cons.injEq,and_true] at h1
    subst h1
    simp only [List.drop_zero] at h8
    obtain ⟨fa,fb,rfl,ra,rb⟩:=h8.split k
    rw [List.drop_eq_getElem_cons hkl,a0a] at rb
    obtain ⟨fx,fc,⟨q0,-⟩,q1,q2,rfl⟩:=rb
    obtain ⟨n1,n2⟩:=List.nodup_cons.1 nd
    obtain ⟨n3,n4,n5⟩:=List.nodup_append.1 n2
    obtain ⟨n6,n7,n8⟩:=List.nodup_append.1 n4
    refine ⟨b,cap,cur,e,fx,rfl,h2,h3,h4,h6,h7,by simp,fun hb => n1 (by simp [hb]),fun q hq => by simp [hq],n6,q0,q1,?_⟩
    intro w' cur' y fy hB hsz hcells hy hrep hw hnd hdis
    have hcell:∀ j,(j < k * sz ∨ (k + 1) * sz ≤ j) → cur'.toList[j]? = cur.toList[j]?:=fun j hj => by
      rw [Array.getElem?_toList,Array.getElem?_toList];exact hcells j hj
    have e1:cur'.toList.take (k * sz) = cur.toList.take (k * sz):=by
      apply List.ext_getElem?
      intro j
      by_cases hj:j < k * sz
      · rw [List.getElem?_take_of_lt hj,List.getElem?_take_of_lt hj,hcell j (.inl hj)]
      · rw [List.getElem?_eq_none (by rw [List.length_take];omega),List.getElem?_eq_none (by rw [List.length_take];omega)]
    have e2:(cur'.toList.drop (k * sz)).drop sz = (cur.toList.drop (k * sz)).drop sz:=by
      apply List.ext_getElem?
      intro j
      simp only [List.getElem?_drop]
      exact hcell _ (.inr (by rw [Nat.add_mul];omega))
    have hkeep:∀ q ∈ fa ++ fc,w'.heap[q]? = w.heap[q]?:=by
      intro q hq
      rcases List.mem_append.1 hq with hq | hq
      · exact hw q (by simp [hq]) (fun hx => n5 q hq q (by simp [hx]) rfl) (by rintro rfl;exact n1 (by simp [hq]))
      · exact hw q (by simp [hq]) (fun hx => n8 q hx q hq rfl) (by rintro rfl;exact n1 (by simp [hq]))
    have ra':=a0a.world (w':=w') _ _ _ (fun q hq => hkeep q (by simp [hq])) ra
    have rc':=a0a.world (w':=w') _ _ _ (fun q hq => hkeep q (by simp [hq])) q2
    have hlt:(l.take k).length = k:=by rw [List.length_take];omega
    have hsz2:k * sz + sz ≤ cur.size:=by
      have h9:k + 1 ≤ cap:=by omega
      have:=Nat.mul_le_mul_right sz h9
      rw [Nat.add_mul,Nat.one_mul] at this
      omega
    have rall:a0a true w' sz (l.set k y) cur'.toList (fa ++ (fy ++ fc)):=by
      rw [List.set_eq_take_append_cons_drop,if_pos hkl,← List.take_append_drop (k * sz) cur'.toList]
      refine a0a.append (a0a.congr (by rw [hlt,List.take_take,Nat.min_self,e1]) ra') (by rw [hlt,List.length_take,Array.length_toList];omega) ?_
      rw [a0a]
      refine ⟨fy,fc,⟨?_,hy⟩,hrep,by rw [e2];exact rc',rfl⟩
      rw [List.length_take,List.length_drop,Array.length_toList];omega
    refine ⟨b :: (fa ++ (fy ++ fc)),?_,?_,?_⟩
    · rw [Rep]
      exact .inr ⟨b,0,cap,cur',e,(0,0),_,by rw [List.length_set],by rw [List.length_set];exact h2,h3,hB,fun _ => ⟨rfl,rfl,by rw [hsz,h6]⟩,rfl,h7,by rw [List.drop_zero];exact rall⟩
    · have hyb:∀ q ∈ fy,q ≠ b ∧ q ∉ fa ∧ q ∉ fc:=by
        intro q hq
        rcases hdis q hq with h | h
        · exact ⟨by rintro rfl;exact n1 (by simp [h]),fun hx => n5 q hx q (by simp [h]) rfl,fun hx => n8 q h q hx rfl⟩
        · exact ⟨by rintro rfl;exact h (by simp),fun hx => h (by simp [hx]),fun hx => h (by simp [hx])⟩
      refine List.nodup_cons.2 ⟨?_,List.nodup_append.2 ⟨n3,List.nodup_append.2 ⟨hnd,n7,?_⟩,?_⟩⟩
      · intro hm
        simp only [List.mem_append] at hm
        rcases hm with hm | hm | hm
        · exact n1 (by simp [hm])
        · exact (hyb b hm).1 rfl
        · exact n1 (by simp [hm])
      · rintro q hq q' hq' rfl
        exact (hyb q hq).2.2 hq'
      · rintro q hq q' hq' rfl
        rcases List.mem_append.1 hq' with h | h
        · exact (hyb q h).2.1 hq
        · exact n5 q hq q (by simp [h]) rfl
    · intro q hq
      simp only [List.mem_cons,List.mem_append] at hq ⊢
      rcases hq with h | h | h | h
      · exact .inl (.inl h)
      · exact .inl (.inr (.inl h))
      · exact .inr h
      · exact .inl (.inr (.inr (.inr h)))
theorem d8m {m:Bool} {w:World} {T:List AV} {n:Int} {cs:List Value} {f:List Nat} (h:Rep m w (.agg [.int .i64 n,.lst 1 T]) cs f):∃ v,cs = [.int .i64 n,v] ∧ Rep m w (.lst 1 T) [v] f:=by
  simp only [Rep,a0b] at h
  obtain ⟨c1,r1,p1,q1,rfl,-,⟨e1,rfl⟩,⟨c2,r2,p2,q2,rfl,-,h2,⟨rfl,rfl⟩,rfl⟩,rfl⟩:=h
  cases e1
  refine ⟨c2,rfl,?_⟩
  rw [Rep]
  simpa using h2
theorem d8n {m:Bool} {w:World} {T:List AV} {n:Int} {v:Value} {f:List Nat} (h:Rep m w (.lst 1 T) [v] f):Rep m w (.agg [.int .i64 n,.lst 1 T]) [.int .i64 n,v] f:=by
  rw [Rep,a0b]
  refine ⟨_,_,[],f,rfl,rfl,by rw [Rep];exact ⟨rfl,rfl⟩,?_,by simp⟩
  rw [a0b]
  exact ⟨_,_,f,[],rfl,rfl,h,by rw [a0b];exact ⟨rfl,rfl⟩,by simp⟩
theorem c5e {w:World} {b:Nat} {e:TypeId} {cur:Array Value} {k:Nat} {u:Value} (hB:Bx w b e cur) (h:(cur.toList.drop (k * 1)).take 1 = [u]):w.cell? ⟨b,k,none⟩ = some u ∧ k < cur.size:=by
  have h0:cur.toList[k]? = some u:=by
    have:=congrArg (fun z:List Value => z[0]?) h
    simpa [List.getElem?_take_of_lt] using this
  rw [Array.getElem?_toList] at h0
  exact ⟨(hB.cell0 k).trans h0,(Array.getElem?_eq_some_iff.1 h0).1⟩
theorem d8o {w:World} {b:Nat} {e:TypeId} {cur:Array Value} {k:Nat} {u v:Value} (hB:Bx w b e cur) (h:(cur.toList.drop (k * 2)).take 2 = [u,v]):w.cell? ⟨b,k * 2,none⟩ = some u ∧ w.cell? ⟨b,k * 2 + 1,none⟩ = some v:=by
  have h0:cur.toList[k * 2]? = some u:=by
    have:=congrArg (fun z:List Value => z[0]?) h
    simpa [List.getElem?_take_of_lt] using this
  have h1:cur.toList[k * 2 + 1]? = some v:=by
    have:=congrArg (fun z:List Value => z[1]?) h
    simpa [List.getElem?_take_of_lt] using this
  rw [Array.getElem?_toList] at h0 h1
  exact ⟨(hB.cell0 _).trans h0,(hB.cell0 _).trans h1⟩
structure e7p (w:World) (T rows cells:List AV) (i k c:Nat) (id:Int) (v:Value) (fp:List Nat) (b m0 g m1 g2 m2:Nat) (vc:Value):Prop where
  v:v = .slice (some ⟨b,0,none⟩) T.length m0
  m0:T.length ≤ m0 ∧ m0 ≤ maxLen
  c0:w.cell? ⟨b,i,none⟩ = some (.slice (some ⟨g,0,none⟩) rows.length m1)
  m1:rows.length ≤ m1 ∧ m1 ≤ maxLen
  ci:w.cell? ⟨g,k * 2,none⟩ = some (.int .i64 id)
  c1:w.cell? ⟨g,k * 2 + 1,none⟩ = some (.slice (some ⟨g2,0,none⟩) cells.length m2)
  m2:cells.length ≤ m2 ∧ m2 ≤ maxLen
  c2:w.cell? ⟨g2,c,none⟩ = some vc
  f2:w.frozen? ⟨g2,c,none⟩ = false
  bp:b ∈ fp ∧ g ∈ fp ∧ g2 ∈ fp
  ne:g2 ≠ b ∧ g2 ≠ g
theorem e7q {w:World} {T rows cells:List AV} {i k c:Nat} {id:Int} {v:Value} {fp:List Nat} {z:AV}
    (h:Rep true w (.lst 1 T) [v] fp) (nd:fp.Nodup) (hi:T[i]? = some (.lst 2 rows)) (hk:rows[k]? = some (.agg [.int .i64 id,.lst 1 cells])) (hc:cells[c]? = some z) :
    ∃ b m0 g m1 g2 m2 vc fz,e7p w T rows cells i k c id v fp b m0 g m1 g2 m2 vc ∧ Rep true w z [vc] fz ∧ (∀ q ∈ fz,q ∈ fp ∧ q ≠ b ∧ q ≠ g ∧ q ≠ g2) ∧ fz.Nodup ∧
      ∀ (w':World) (y:AV) (v3:Value) (f3:List Nat),(∀ q ∈ fp,q ∉ fz → q ≠ g2 → w'.heap[q]? = w.heap[q]?) → w'.heap[g2]? = (w.setCell ⟨g2,c,none⟩ v3).heap[g2]? → y.isElem = true → Rep true w' y [v3] f3 → f3.Nodup → (∀ q ∈ f3,q ∈ fz ∨ q ∉ fp) →
        ∃ fp',Rep true w' (.lst 1 (T.set i (.lst 2 (rows.set k (.agg [.int .i64 id,.lst 1 (cells.set c y)]))))) [v] fp' ∧ fp'.Nodup ∧ ∀ q ∈ fp',q ∈ fp ∨ q ∈ f3:=by
  obtain ⟨b,m0,cur,e,fx,rfl,a1,a2,B,a4,a5,a6,a7,a8,a9,a10,a11,put1⟩:=c6v h nd hi
  obtain ⟨u1,hu1⟩:∃ u,(cur.toList.drop (i * 1)).take 1 = [u]:=by
    match hl:(cur.toList.drop (i * 1)).take 1,a10 with
    | [u],_ => exact ⟨u,rfl⟩
  rw [hu1] at a11
  obtain ⟨k1,k1'⟩:=c5e B hu1
  obtain ⟨g,m1,cur1,e1,fx1,rfl,b1,b2,B1,b4,b5,b6,b7,b8,b9,b10,b11,put2⟩:=c6v a11 a9 hk
  obtain ⟨v1,hv1,r1⟩:=d8m b11
  obtain ⟨k2,k3⟩:=d8o B1 hv1
  obtain ⟨g2,m2,cur2,e2,fx2,rfl,d1,d2,B2,d4,d5,d6,d7,d8,d9,d10,d11,put3⟩:=c6v r1 b9 hc
  obtain ⟨vc,hvc⟩:∃ u,(cur2.toList.drop (c * 1)).take 1 = [u]:=by
    match hl:(cur2.toList.drop (c * 1)).take 1,d10 with
    | [u],_ => exact ⟨u,rfl⟩
  rw [hvc] at d11
  obtain ⟨k4,k4'⟩:=c5e B2 hvc
  have ne1:g2 ≠ g:=by rintro rfl;exact b7 d6
  have ne0:g2 ≠ b:=by rintro rfl;exact a7 (b8 _ d6)
  have neg:g ≠ b:=by rintro rfl;exact a7 b6
  refine ⟨b,m0,g,m1,g2,m2,vc,fx2,⟨rfl,⟨a1,a2⟩,k1,⟨b1,b2⟩,k2,k3,⟨d1,d2⟩,k4,B2.frozen c,⟨a6,a8 _ b6,a8 _ (b8 _ d6)⟩,ne0,ne1⟩,d11,
    fun q hq => ⟨a8 _ (b8 _ (d8 _ hq)),by rintro rfl;exact a7 (b8 _ (d8 _ hq)),by rintro rfl;exact b7 (d8 _ hq),by rintro rfl;exact d7 hq⟩,d9,?_⟩
  intro w' y v3 f3 hw hg2 hy hrep hnd hdis
  have B2':Bx w' g2 e2 (cur2.setIfInBounds c v3):=hg2.trans (B2.setk c v3)
  have hcs:((cur2.setIfInBounds c v3).toList.drop (c * 1)).take 1 = [v3]:=by
    rw [Nat.mul_one,Array.toList_setIfInBounds,List.drop_eq_getElem_cons (by rw [List.length_set,Array.length_toList];exact k4')]
    simp
  obtain ⟨f2',p1,p2,p3⟩:=put3 _ _ y f3 B2' (by simp) (fun j hj => by
    rw [Array.getElem?_setIfInBounds_ne];omega) hy (by rw [hcs];exact hrep) (fun q hq hn hne => hw q (a8 _ (b8 _ hq)) hn hne) hnd (fun q hq => (hdis q hq).imp (fun h => h) (fun h hx => h (a8 _ (b8 _ hx))))
  have B1':Bx w' g e1 cur1:=(hw g (a8 _ b6) (fun hx => b7 (d8 _ hx)) (Ne.symm ne1)).trans B1
  obtain ⟨f1',s1,s2,s3⟩:=put2 _ cur1 (.agg [.int .i64 id,.lst 1 (cells.set c y)]) f2' B1' rfl (fun _ _ => rfl) rfl (by rw [hv1];exact d8n p1) (fun q hq hnx hne => hw q (a8 _ hq) (fun hx => hnx (d8 _ hx)) (by rintro rfl;exact hnx d6)) p2 (fun q hq => by
    rcases p3 q hq with h | h
    · exact .inl h
    · exact (hdis q h).imp (fun h => d8 _ h) (fun h hx => h (a8 _ hx)))
  have B0':Bx w' b e cur:=(hw b a6 (fun hx => a7 (b8 _ (d8 _ hx))) (Ne.symm ne0)).trans B
  obtain ⟨f0',t1,t2,t3⟩:=put1 _ cur (.lst 2 (rows.set k (.agg [.int .i64 id,.lst 1 (cells.set c y)]))) f1' B0' rfl (fun _ _ => rfl) rfl (by rw [hu1];exact s1) (fun q hq hnx hne => hw q hq (fun hx => hnx (b8 _ (d8 _ hx))) (by rintro rfl;exact hnx (b8 _ d6))) s2 (fun q hq => by
    rcases s3 q hq with h | h
    · exact .inl h
    · rcases p3 q h with h | h
      · exact .inl (b8 _ h)
      · exact (hdis q h).imp (fun h => b8 _ (d8 _ h)) (fun h => h))
  refine ⟨f0',t1,t2,fun q hq => ?_⟩
  rcases t3 q hq with h | h
  · exact .inl h
  · rcases s3 q h with h | h
    · exact .inl (a8 _ h)
    · rcases p3 q h with h | h
      · exact .inl (a8 _ (b8 _ h))
      · exact .inr h
theorem d8p {w:World} {T rows cells:List AV} {i k c:Nat} {id:Int} {v:Value} {fp:List Nat} {z:AV}
    (h:Rep true w (.lst 1 T) [v] fp) (nd:fp.Nodup) (hi:T[i]? = some (.lst 2 rows)) (hk:rows[k]? = some (.agg [.int .i64 id,.lst 1 cells])) (hc:cells[c]? = some z) (hz:∃ s l,z = .lst s l) :
    ∃ b m0 g m1 g2 m2 vc fz,e7p w T rows cells i k c id v fp b m0 g m1 g2 m2 vc ∧ Rep true w z [vc] fz ∧ (∀ q ∈ fz,q ∈ fp) ∧
      ∀ (y:AV) (v3:Value) (f3:List Nat),y.isElem = true → Rep true w y [v3] f3 → f3.Nodup → (∀ q ∈ f3,q ∉ fp) →
        ∃ fp',Rep true (w.setCell ⟨g2,c,none⟩ v3) (.lst 1 (T.set i (.lst 2 (rows.set k (.agg [.int .i64 id,.lst 1 (cells.set c y)]))))) [v] fp' ∧ fp'.Nodup ∧ ∀ q ∈ fp',q ∈ fp ∨ q ∈ f3:=by
  obtain ⟨b,m0,g,m1,g2,m2,vc,fz,D,hR,hs,-,put⟩:=e7q h nd hi hk hc
  refine ⟨b,m0,g,m1,g2,m2,vc,fz,D,hR,fun q hq => (hs q hq).1,fun y v3 f3 hy hrep hnd hdis => ?_⟩
  have hg2:∀ q,q ≠ g2 → (w.setCell ⟨g2,c,none⟩ v3).heap[q]? = w.heap[q]?:=fun q hq => Below.heap_setCell _ _ _ _ hq
  exact put _ y v3 f3 (fun q _ _ hne => hg2 q hne) rfl hy (Rep.world _ _ _ (fun q hq => hg2 q (by rintro rfl;exact hdis _ hq D.bp.2.2)) hrep) hnd (fun q hq => .inr (hdis q hq))
end Go.R
end
section
set_option linter.all false
namespace Go.R
open Go Go.Proofs Go.RowKit
set_option maxHeartbeats 400000
def c0i:Code → Nat → Option (Array Oper)
  | .region i o _,n => if i = n then some o else none
  | .seq a b,n => (c0i a n).or (c0i b n)
  | .cond _ a b,n => (c0i a n).or (c0i b n)
  | .block _ c,n => c0i c n
  | .loop c,n => c0i c n
  | .scope c,n => c0i c n
  | _,_ => none
theorem b5e {a:Act} {d:Nat} {v:Value} (h:d < a.tmps.size):(a.put (some d) v).eval (.tmp d) = v:=by
  simp [Act.put,Act.eval,h]
theorem b3y {a:Act} {d n:Nat} {v:Value} (h:n ≠ d):(a.put (some d) v).eval (.tmp n) = a.eval (.tmp n):=by
  simp [Act.put,Act.eval,Array.getElem?_setIfInBounds,Ne.symm h]
theorem c0j {a:Act} {d:Option Nat} {v:Value}:(a.put d v).tmps.size = a.tmps.size:=by cases d <;> simp [Act.put]
theorem f4a {a:Act} {d:Option Nat} {v:Value}:(a.put d v).defers = a.defers:=by cases d <;> rfl
theorem a0f {a:Act} {n N:Nat} {v:Value} (sz:a.tmps.size = N) (h:a.eval (.tmp n) = v) (hn:n < N:=by decide):a.tmps[n]'(by omega) = v:=by
  have hn':n < a.tmps.size:=by omega
  simpa [Act.eval,hn'] using h
theorem c0k {a:Act} {v:Value}:a.put none v = a:=rfl
structure Fr (k N:Nat) (ws:List Nat) (a a':Act):Prop where
  sz:a'.tmps.size = N
  df:a'.defers = []
  same:∀ n,n < k → n ∉ ws → a'.eval (.tmp n) = a.eval (.tmp n)
theorem Fr.rfl' {k N:Nat} {ws:List Nat} {a:Act} (h1:a.tmps.size = N) (h2:a.defers = []):Fr k N ws a a:=⟨h1,h2,fun _ _ _ => rfl⟩
theorem Fr.u {k N n:Nat} {ws:List Nat} {a a':Act} {v:Value} (F:Fr k N ws a a') (h:a.eval (.tmp n) = v) (h1:n < k:=by decide) (h2:n ∉ ws:=by simp):a'.eval (.tmp n) = v:=(F.same n h1 h2).trans h
theorem Fr.put {k N:Nat} {ws:List Nat} {a a':Act} {d:Nat} {v:Value} (h:Fr k N ws a a') (hd:k ≤ d ∨ d ∈ ws):Fr k N ws a (a'.put (some d) v) :=
  ⟨by rw [c0j];exact h.sz,by rw [f4a];exact h.df,fun n hn hw => by
    rw [b3y (by rintro rfl;rcases hd with h | h;omega;exact hw h)];exact h.same n hn hw⟩
theorem Fr.trans {k N:Nat} {ws ws':List Nat} {a b c:Act} (h:Fr k N ws a b) (h':Fr k N ws' b c):Fr k N (ws ++ ws') a c :=
  ⟨h'.sz,h'.df,fun n hn hw => (h'.same n hn (fun h => hw (List.mem_append_right _ h))).trans (h.same n hn (fun h => hw (List.mem_append_left _ h)))⟩
section
variable {P:Program} {ops:Array Oper} {Q:Exit → Act → World → Prop} {a:Act} {w w':World} {l:List Oper} {o:Oper} {v:Value}
theorem a6q (hg:o.guard = none) (hr:(execOp a.eval o).run P w = .ok (.value v) w') (h:wpList P ops Q l (a.put o.dst v) w'):wpList P ops Q (o :: l) a w:=by
  have hw:Region.wanted o (yielded ops a.tmps) = true:=by simp [Region.wanted,hg]
  rw [wpList,if_pos hw]
  left
  unfold Oper.wp
  rw [hr]
  exact h
theorem c5f (hg:o.guard = none) (hr:(execOp a.eval o).run P w = .ok .skip w') (h:wpList P ops Q l (a.put o.dst undef) w'):wpList P ops Q (o :: l) a w:=by
  have hw:Region.wanted o (yielded ops a.tmps) = true:=by simp [Region.wanted,hg]
  rw [wpList,if_pos hw]
  left
  unfold Oper.wp
  rw [hr]
  exact h
theorem d5u (hg:o.guard = none) {f:Nat} {args:Array Value} (hr:(execOp a.eval o).run P w = .ok (.enter f args) w) (hc:Calls P f args w fun e w' => ∃ v,e = .returned v ∧ wpList P ops Q l (a.put o.dst v) w'):wpList P ops Q (o :: l) a w:=by
  have hw:Region.wanted o (yielded ops a.tmps) = true:=by simp [Region.wanted,hg]
  rw [wpList,if_pos hw]
  left
  unfold Oper.wp
  rw [hr,Oper.upon_enter]
  refine hc.mono ?_
  rintro e w' ⟨v,rfl,h⟩
  exact h
end
theorem rgl {P:Program} {n:Nat} {ops o2:Array Oper} {Q:Exit → Act → World → Prop} {a:Act} {w:World} (h:wpList P o2 Q o2.toList a w) (e:ops = o2:=by conv => lhs;cbv):(Code.region n ops false).wp P Q a w:=by subst e;exact wp_region_list h
theorem wv {P:Program} {ops:Array Oper} {Q:Exit → Act → World → Prop} {a:Act} {w:World} {l:List Oper} {o:Oper} (v:Value) (h:wpList P ops Q l (a.put o.dst v) w) (hg:o.guard = none:=by rfl) (hr:(execOp a.eval o).run P w = .ok (.value v) w:=by simp [go_sem,execOp,b5e,b3y,c0j, *]):wpList P ops Q (o :: l) a w:=a6q hg hr h
theorem tkx {P:Program} {ops:Array Oper} {Q:Exit → Act → World → Prop} {md:Region.Mode} {S:World → Prop} (i:Nat) {oi:Oper} (v:Value) {fuel:Nat} {listed:Array Bool} {a:Act} {w:World} (h:wpAnyH P md ops Q S fuel (listed.setIfInBounds i true) (a.put oi.dst v) w) (hS:S w) (hi:ops[i]? = some oi:=by exact rfl) (hs:Region.noSelect ops = true:=by kernel_rfl) (hf:Region.free md ops listed i = true:=by kernel_rfl) (hr:(Region.ready md ops listed).contains i = true:=by kernel_rfl)
    (hQ:∀ c a w,Q (.panic c) (a.put oi.dst v) w → Q (.panic c) a w:=by exact fun c a w h => hQ c a _ _ w h) (hw:Region.wanted oi (yielded ops a.tmps) = true:=by rfl) (hy:∀ w',S w' → (execOp a.eval oi).run P w' = .ok (.value v) w':=by intro w' hS;(try dsimp only at hS);simp [go_sem,execOp, *]):wpAnyH P md ops Q S (fuel + 1) listed a w:=wpAnyH_take hi hs hf hr hQ (.inl ⟨hw,hy⟩) hS h
theorem fP {p:Prop} (h:p:=by (repeat refine Fr.put ?_ (by decide));exact Fr.rfl' sz df):p:=h
theorem sP {p:Prop} (h:p:=by simp [b5e,b3y,c0j, *]):p:=h
theorem RGP {p:Prop} (h:p:=by
  refine rgl ?_
  repeat (rename Act.eval a (.tmp _) = _ => e;replace e:=a0f sz e (by decide);revert e)
  intros
  repeat refine a6q rfl (w':=W) (by simp [go_sem,execOp,b5e,b3y,c0j, *];rfl) ?_
  dsimp only
  first | refine hK _ ?_ ?_ | refine hK _ ?_ ?_ ?_ | refine hK _ ?_ ?_ ?_ ?_ | refine hK _ ?_
  · exact fP
  all_goals exact sP):p:=h
end Go.R
end
section
set_option linter.all false
namespace Go.R
open Go Go.Proofs Go.RowKit
set_option maxHeartbeats 1000000
noncomputable def opsP (n:Nat):Array Oper:=(Tryz.f108.body.bind fun c => c0i c n).getD #[]
set_option maxRecDepth 100000
theorem rg6 (a:Act) (W:World) (Q:Exit → Act → World → Prop) (sz:a.tmps.size = 164) (df:a.defers = []) {N3 n0 m0 i:Nat} {ob:Option Addr} (c0:W.cell? ⟨N3,0,none⟩ = some (.slice ob n0 m0))
    (s3:a.eval (.tmp 3) = .pointer (some ⟨N3,0,none⟩)) (s6:a.eval (.tmp 6) = .int .i64 i)
    (hK:∀ a',Fr 16 164 [] a a' → a'.eval (.tmp 23) = .bool (decide ((i:Int) < (n0:Int))) → Q .normal a' W):(Code.region 6 (opsP 6) false).wp Tryz.prog Q a W:=RGP
theorem f6g (a:Act) (W:World) (Q:Exit → Act → World → Prop) (sz:a.tmps.size = 164) (df:a.defers = []) {N3 n0 m0 i:Nat} {ob:Option Addr} (c0:W.cell? ⟨N3,0,none⟩ = some (.slice ob n0 m0))
    (s3:a.eval (.tmp 3) = .pointer (some ⟨N3,0,none⟩)) (s8:a.eval (.tmp 8) = .int .i64 i)
    (hK:∀ a',Fr 16 164 [] a a' → a'.eval (.tmp 69) = .bool (decide ((i:Int) < (n0:Int))) → Q .normal a' W):(Code.region 16 (opsP 16) false).wp Tryz.prog Q a W:=RGP
theorem rg9 (a:Act) (W:World) (Q:Exit → Act → World → Prop) (sz:a.tmps.size = 164) (df:a.defers = []) {N3 b n0 m0 n1 m1 i k:Nat} {og:Option Addr} (c0:W.cell? ⟨N3,0,none⟩ = some (.slice (some ⟨b,0,none⟩) n0 m0)) (c1:W.cell? ⟨b,i,none⟩ = some (.slice og n1 m1)) (h1:(i:Int) < (n0:Int))
    (s3:a.eval (.tmp 3) = .pointer (some ⟨N3,0,none⟩)) (s6:a.eval (.tmp 6) = .int .i64 i) (s7:a.eval (.tmp 7) = .int .i64 k)
    (hK:∀ a',Fr 16 164 [] a a' → a'.eval (.tmp 33) = .bool (decide ((k:Int) < (n1:Int))) → Q .normal a' W):(Code.region 9 (opsP 9) false).wp Tryz.prog Q a W:=RGP
theorem f6h (a:Act) (W:World) (Q:Exit → Act → World → Prop) (sz:a.tmps.size = 164) (df:a.defers = []) {N3 b n0 m0 n1 m1 i k:Nat} {og:Option Addr} (c0:W.cell? ⟨N3,0,none⟩ = some (.slice (some ⟨b,0,none⟩) n0 m0)) (c1:W.cell? ⟨b,i,none⟩ = some (.slice og n1 m1)) (h1:(i:Int) < (n0:Int))
    (s3:a.eval (.tmp 3) = .pointer (some ⟨N3,0,none⟩)) (s8:a.eval (.tmp 8) = .int .i64 i) (s12:a.eval (.tmp 12) = .int .i64 k)
    (hK:∀ a',Fr 16 164 [] a a' → a'.eval (.tmp 114) = .bool (decide ((k:Int) < (n1:Int))) → Q .normal a' W):(Code.region 25 (opsP 25) false).wp Tryz.prog Q a W:=RGP
theorem f6i (a:Act) (W:World) (Q:Exit → Act → World → Prop) (sz:a.tmps.size = 164) (df:a.defers = []) {N2 b os n0 m0 n1 m1 i c:Nat} {og:Option Addr} (c0:W.cell? ⟨N2,0,none⟩ = some (.slice (some ⟨b,os,none⟩) n0 m0)) (c1:W.cell? ⟨b,os + i * 4 + 1,none⟩ = some (.slice og n1 m1)) (h1:(i:Int) < (n0:Int))
    (s2:a.eval (.tmp 2) = .pointer (some ⟨N2,0,none⟩)) (s8:a.eval (.tmp 8) = .int .i64 i) (s9:a.eval (.tmp 9) = .int .i64 c)
    (hK:∀ a',Fr 16 164 [] a a' → a'.eval (.tmp 80) = .bool (decide ((c:Int) < (n1:Int))) → Q .normal a' W):(Code.region 19 (opsP 19) false).wp Tryz.prog Q a W:=RGP
theorem f6j (a:Act) (W:World) (Q:Exit → Act → World → Prop) (sz:a.tmps.size = 164) (df:a.defers = []) {n1 m1 n:Nat} {oc:Option Addr}
    (s14:a.eval (.tmp 14) = .slice oc n1 m1) (s15:a.eval (.tmp 15) = .int .i64 n)
    (hK:∀ a',Fr 16 164 [] a a' → a'.eval (.tmp 133) = .bool (decide ((n:Int) < (n1:Int))) → Q .normal a' W):(Code.region 30 (opsP 30) false).wp Tryz.prog Q a W:=RGP
theorem rg3 (a:Act) (W:World) (Q:Exit → Act → World → Prop) (sz:a.tmps.size = 164) (df:a.defers = []) {g:Bool}
    (s5:a.eval (.tmp 5) = .bool (g))
    (hK:∀ a',Fr 16 164 [] a a' → a'.eval (.tmp 18) = .bool (g) → Q .normal a' W):(Code.region 3 (opsP 3) false).wp Tryz.prog Q a W:=RGP
theorem f9u (a:Act) (W:World) (Q:Exit → Act → World → Prop) (sz:a.tmps.size = 164) (df:a.defers = []) {N3 b n0 m0 g n1 m1 g2 n2 m2 i k c:Nat} {vc:Value} (c0:W.cell? ⟨N3,0,none⟩ = some (.slice (some ⟨b,0,none⟩) n0 m0)) (c1:W.cell? ⟨b,i,none⟩ = some (.slice (some ⟨g,0,none⟩) n1 m1)) (c2:W.cell? ⟨g,k * 2 + 1,none⟩ = some (.slice (some ⟨g2,0,none⟩) n2 m2)) (c3:W.cell? ⟨g2,c,none⟩ = some vc) (h1:(i:Int) < (n0:Int)) (h2:(k:Int) < (n1:Int)) (h3:(c:Int) < (n2:Int))
    (s3:a.eval (.tmp 3) = .pointer (some ⟨N3,0,none⟩)) (s8:a.eval (.tmp 8) = .int .i64 i) (s9:a.eval (.tmp 9) = .int .i64 c) (s12:a.eval (.tmp 12) = .int .i64 k)
    (hK:∀ a',Fr 16 164 [14] a a' → a'.eval (.tmp 14) = vc → Q .normal a' W):(Code.region 28 (opsP 28) false).wp Tryz.prog Q a W:=RGP
theorem f4b (a:Act) (W:World) (Q:Exit → Act → World → Prop) (sz:a.tmps.size = 164) (df:a.defers = []) {z:Int} (hw:IntKind.i64.wrap (z + 1) = z + 1)
    (s7:a.eval (.tmp 7) = .int .i64 z)
    (hK:∀ a',Fr 16 164 [7] a a' → a'.eval (.tmp 7) = .int .i64 ((z:Int) + 1) → Q .normal a' W):(Code.region 10 (opsP 10) false).wp Tryz.prog Q a W:=RGP
theorem rg7 (a:Act) (W:World) (Q:Exit → Act → World → Prop) (sz:a.tmps.size = 164) (df:a.defers = []) {z:Int} (hw:IntKind.i64.wrap (z + 1) = z + 1)
    (s6:a.eval (.tmp 6) = .int .i64 z)
    (hK:∀ a',Fr 16 164 [6] a a' → a'.eval (.tmp 6) = .int .i64 ((z:Int) + 1) → Q .normal a' W):(Code.region 7 (opsP 7) false).wp Tryz.prog Q a W:=RGP
theorem f6k (a:Act) (W:World) (Q:Exit → Act → World → Prop) (sz:a.tmps.size = 164) (df:a.defers = []) {z:Int} (hw:IntKind.i64.wrap (z + 1) = z + 1)
    (s15:a.eval (.tmp 15) = .int .i64 z)
    (hK:∀ a',Fr 16 164 [15] a a' → a'.eval (.tmp 15) = .int .i64 ((z:Int) + 1) → Q .normal a' W):(Code.region 31 (opsP 31) false).wp Tryz.prog Q a W:=RGP
theorem f9v (a:Act) (W:World) (Q:Exit → Act → World → Prop) (sz:a.tmps.size = 164) (df:a.defers = []) {z:Int} (hw:IntKind.i64.wrap (z + 1) = z + 1)
    (s12:a.eval (.tmp 12) = .int .i64 z)
    (hK:∀ a',Fr 16 164 [12] a a' → a'.eval (.tmp 12) = .int .i64 ((z:Int) + 1) → Q .normal a' W):(Code.region 26 (opsP 26) false).wp Tryz.prog Q a W:=RGP
theorem f9w (a:Act) (W:World) (Q:Exit → Act → World → Prop) (sz:a.tmps.size = 164) (df:a.defers = []) {z:Int} (hw:IntKind.i64.wrap (z + 1) = z + 1)
    (s9:a.eval (.tmp 9) = .int .i64 z)
    (hK:∀ a',Fr 16 164 [9] a a' → a'.eval (.tmp 9) = .int .i64 ((z:Int) + 1) → Q .normal a' W):(Code.region 20 (opsP 20) false).wp Tryz.prog Q a W:=RGP
theorem f9x (a:Act) (W:World) (Q:Exit → Act → World → Prop) (sz:a.tmps.size = 164) (df:a.defers = []) {z:Int} (hw:IntKind.i64.wrap (z + 1) = z + 1)
    (s8:a.eval (.tmp 8) = .int .i64 z)
    (hK:∀ a',Fr 16 164 [8] a a' → a'.eval (.tmp 8) = .int .i64 ((z:Int) + 1) → Q .normal a' W):(Code.region 17 (opsP 17) false).wp Tryz.prog Q a W:=RGP
theorem f9y (a:Act) (W:World) (Q:Exit → Act → World → Prop) (sz:a.tmps.size = 164) (df:a.defers = []) {z:Int} (hw:IntKind.i64.wrap (z - 1) = z - 1)
    (s7:a.eval (.tmp 7) = .int .i64 z)
    (hK:∀ a',Fr 16 164 [7] a a' → a'.eval (.tmp 7) = .int .i64 ((z:Int) - 1) → Q .normal a' W):(Code.region 14 (opsP 14) false).wp Tryz.prog Q a W:=RGP
theorem rg2 (a:Act) (W:World) (Q:Exit → Act → World → Prop) (sz:a.tmps.size = 164) (df:a.defers = []) 
    (hK:∀ a',Fr 16 164 [5] a a' → a'.eval (.tmp 5) = .bool true → Q .normal a' W):(Code.region 2 (opsP 2) false).wp Tryz.prog Q a W:=RGP
theorem rg4 (a:Act) (W:World) (Q:Exit → Act → World → Prop) (sz:a.tmps.size = 164) (df:a.defers = []) 
    (hK:∀ a',Fr 16 164 [5] a a' → a'.eval (.tmp 5) = .bool false → Q .normal a' W):(Code.region 4 (opsP 4) false).wp Tryz.prog Q a W:=RGP
theorem rg5 (a:Act) (W:World) (Q:Exit → Act → World → Prop) (sz:a.tmps.size = 164) (df:a.defers = []) 
    (hK:∀ a',Fr 16 164 [6] a a' → a'.eval (.tmp 6) = .int .i64 0 → Q .normal a' W):(Code.region 5 (opsP 5) false).wp Tryz.prog Q a W:=RGP
theorem rg8 (a:Act) (W:World) (Q:Exit → Act → World → Prop) (sz:a.tmps.size = 164) (df:a.defers = []) 
    (hK:∀ a',Fr 16 164 [7] a a' → a'.eval (.tmp 7) = .int .i64 0 → Q .normal a' W):(Code.region 8 (opsP 8) false).wp Tryz.prog Q a W:=RGP
theorem f9z (a:Act) (W:World) (Q:Exit → Act → World → Prop) (sz:a.tmps.size = 164) (df:a.defers = []) 
    (hK:∀ a',Fr 16 164 [5] a a' → a'.eval (.tmp 5) = .bool true → Q .normal a' W):(Code.region 13 (opsP 13) false).wp Tryz.prog Q a W:=RGP
theorem g0a (a:Act) (W:World) (Q:Exit → Act → World → Prop) (sz:a.tmps.size = 164) (df:a.defers = []) 
    (hK:∀ a',Fr 16 164 [8] a a' → a'.eval (.tmp 8) = .int .i64 0 → Q .normal a' W):(Code.region 15 (opsP 15) false).wp Tryz.prog Q a W:=RGP
theorem g0b (a:Act) (W:World) (Q:Exit → Act → World → Prop) (sz:a.tmps.size = 164) (df:a.defers = []) 
    (hK:∀ a',Fr 16 164 [9] a a' → a'.eval (.tmp 9) = .int .i64 0 → Q .normal a' W):(Code.region 18 (opsP 18) false).wp Tryz.prog Q a W:=RGP
theorem g0c (a:Act) (W:World) (Q:Exit → Act → World → Prop) (sz:a.tmps.size = 164) (df:a.defers = []) 
    (hK:∀ a',Fr 16 164 [12] a a' → a'.eval (.tmp 12) = .int .i64 0 → Q .normal a' W):(Code.region 24 (opsP 24) false).wp Tryz.prog Q a W:=RGP
theorem g0d (a:Act) (W:World) (Q:Exit → Act → World → Prop) (sz:a.tmps.size = 164) (df:a.defers = []) 
    (hK:∀ a',Fr 16 164 [15] a a' → a'.eval (.tmp 15) = .int .i64 0 → Q .normal a' W):(Code.region 29 (opsP 29) false).wp Tryz.prog Q a W:=RGP
end Go.R
end
section
set_option linter.all false
namespace Go.R
open Go Go.Proofs Go.RowKit
set_option maxRecDepth 100000
set_option maxHeartbeats 1000000
theorem g0e (a:Act) (W:World) (Q:Exit → Act → World → Prop) (sz:a.tmps.size = 164) (df:a.defers = []) {N3 b n0 m0 g n1 m1 g2 n2 m2:Nat} {i k c:Nat} {vc:Value} {y0:Option Addr} {y1 y2:Nat}
    (s3:a.eval (.tmp 3) = .pointer (some ⟨N3,0,none⟩)) (s8:a.eval (.tmp 8) = .int .i64 i) (s9:a.eval (.tmp 9) = .int .i64 c) (s12:a.eval (.tmp 12) = .int .i64 k) (s13:a.eval (.tmp 13) = .slice y0 y1 y2)
    (c0:W.cell? ⟨N3,0,none⟩ = some (.slice (some ⟨b,0,none⟩) n0 m0)) (c1:W.cell? ⟨b,i,none⟩ = some (.slice (some ⟨g,0,none⟩) n1 m1)) (c2:W.cell? ⟨g,k * 2 + 1,none⟩ = some (.slice (some ⟨g2,0,none⟩) n2 m2)) (c3:W.cell? ⟨g2,c,none⟩ = some vc) (f3:W.frozen? ⟨g2,c,none⟩ = false)
    (h1:(i:Int) < (n0:Int)) (h2:(k:Int) < (n1:Int)) (h3:(c:Int) < (n2:Int))
    (hK:∀ a',Fr 16 164 [] a a' → Q .normal a' (W.setCell ⟨g2,c,none⟩ (.slice y0 y1 y2))):(Code.region 34 (opsP 34) false).wp Tryz.prog Q a W:=by
  refine rgl ?_
  have t3:=a0f sz s3
  have t8:=a0f sz s8
  have t9:=a0f sz s9
  have t12:=a0f sz s12
  have t13:=a0f sz s13
  refine wv (.pointer (some ⟨N3,0,none⟩)) ?_
  refine wv (.slice (some ⟨b,0,none⟩) n0 m0) ?_
  refine wv (.int .i64 i) ?_
  refine wv (.pointer (some ⟨b,i,none⟩)) ?_
  refine wv (.slice (some ⟨g,0,none⟩) n1 m1) ?_
  refine wv (.int .i64 k) ?_
  refine wv (.pointer (some ⟨g,k * 2,none⟩)) ?_
  refine wv (.pointer (some ⟨g,k * 2 + 1,none⟩)) ?_
  refine wv (.slice (some ⟨g2,0,none⟩) n2 m2) ?_
  refine wv (.int .i64 c) ?_
  refine wv (.slice y0 y1 y2) ?_
  refine wv (.pointer (some ⟨g2,c,none⟩)) ?_
  refine c5f rfl (w':=W.setCell ⟨g2,c,none⟩ (.slice y0 y1 y2)) (by simp [go_sem,execOp,b5e,b3y,c0j,sz,t3,t8,t9,t12,t13,c0,c1,c2,c3,h1,h2,h3,f3]) ?_
  dsimp only
  simp only [c0k]
  refine hK _ ?_
  repeat refine Fr.put ?_ (.inl (by decide))
  exact Fr.rfl' sz df
end Go.R
end
section
set_option linter.all false
namespace Go.R
open Go Go.Proofs Go.RowKit
set_option maxRecDepth 100000
set_option maxHeartbeats 1000000
theorem e86 (args:Array Value) (w:World):(callFunc 86 args).run Tryz.prog w = .ok (.enter 86 args) w:=enters_of Tryz.func86 (by kernel_rfl) rfl _ _
theorem g0f (a:Act) (W:World) (Q:Exit → Act → World → Prop) (sz:a.tmps.size = 164) (df:a.defers = []) {th:Value} {bc oc n m n1:Nat} {N:Int} {R:Int → World → Prop}
    (c0:W.cell? ⟨bc,oc + n * 3 + 1,none⟩ = some (.int .i64 N)) (h1:(n:Int) < (n1:Int))
    (s11:a.eval (.tmp 11) = th) (s14:a.eval (.tmp 14) = .slice (some ⟨bc,oc,none⟩) n1 m) (s15:a.eval (.tmp 15) = .int .i64 n)
    (hc:Calls Tryz.prog 86 #[th,.int .i64 N] W fun e w' => ∃ p:Int,e = .returned (.int .i64 p) ∧ R p w')
    (hK:∀ a' w' p,R p w' → Fr 16 164 [] a a' → a'.eval (.tmp 143) = .bool (decide (p ≥ 0)) → Q .normal a' w'):(Code.region 32 (opsP 32) false).wp Tryz.prog Q a W:=by
  refine rgl ?_
  have t11:=a0f sz s11
  have t14:=a0f sz s14
  have t15:=a0f sz s15
  refine wv th ?_
  refine wv (.slice (some ⟨bc,oc,none⟩) n1 m) ?_
  refine wv (.int .i64 n) ?_
  refine wv (.pointer (some ⟨bc,oc + n * 3,none⟩)) ?_
  refine wv (.pointer (some ⟨bc,oc + n * 3 + 1,none⟩)) ?_
  refine wv (.int .i64 N) ?_
  refine d5u rfl (f:=86) (args:=#[th,.int .i64 N]) (by simp [go_sem,execOp,sz,e86]) ?_
  refine hc.mono ?_
  rintro e w' ⟨p,rfl,hR⟩
  refine ⟨_,rfl,?_⟩
  refine a6q rfl (v:=.bool (decide (p ≥ 0))) (w':=w') (by simp [go_sem,execOp,sz]) ?_
  dsimp only
  refine hK _ _ p hR ?_ ?_
  · exact fP
  · exact sP
theorem g0g (a:Act) (W:World) (Q:Exit → Act → World → Prop) (sz:a.tmps.size = 164) (df:a.defers = [])
    (hK:∀ a',Fr 16 164 [13] a a' → a'.eval (.tmp 13) = .slice (some ⟨W.heap.size,0,none⟩) 0 0 → Q .normal a' (W.alloc (.cells #[] 101))):(Code.region 27 (opsP 27) false).wp Tryz.prog Q a W:=by
  refine rgl ?_
  have f4c:∃ i,Tryz.prog.info? 101 = some i ∧ i.zero = some (.agg #[.int .i64 0,.int .i64 0,.string ⟨#[]⟩]) ∧ i.size = 3:=by
    have h:(Tryz.prog.info? 101).map (fun i => (i.zero,i.size)) = some (some (.agg #[.int .i64 0,.int .i64 0,.string ⟨#[]⟩]),3):=by kernel_rfl
    cases hi:Tryz.prog.info? 101 with
    | none => rw [hi] at h;cases h
    | some i => rw [hi] at h;simp at h;exact ⟨i,rfl,h.1,h.2⟩
  obtain ⟨i0,hi,hz0,hz1⟩:=f4c
  refine a6q rfl (v:=.slice (some ⟨W.heap.size,0,none⟩) 0 0) (w':=W.alloc (.cells #[] 101)) (by simp [go_sem,execOp,hi,hz0,hz1]) ?_
  refine a6q rfl (v:=.slice (some ⟨W.heap.size,0,none⟩) 0 0) (w':=W.alloc (.cells #[] 101)) (by simp [go_sem,execOp,sz]) ?_
  dsimp only
  exact hK _ fP sP
end Go.R
end
section
set_option linter.all false
namespace Go.R
open Go Go.Proofs Go.RowKit
set_option maxRecDepth 100000
set_option maxHeartbeats 1000000
theorem e4u {P:Program} (w:World) {ops:Array Oper} {Q:Exit → Act → World → Prop} {l:List Oper} {o:Oper} {a:Act} (hg:o.guard = none) (s x:Operand) (t:TypeId)
    (ho:o.op = .call { callee:=.builtin .append,args:=#[s,x],argTypes:=#[t,t] })
    (base:Nat) (e:TypeId) (i:TypeInfo) (z:Value) (size bytes:Nat) (ht:P.underlying t = some (.slice e)) (hi:P.info? e = some i) (hz:i.zero = some z)
    (hsize:i.size = size) (hby:i.bytes = bytes) (hzs:z.cells.size = size) (hsz:0 < size)
    (v:Value) (n:Nat) (xs:List Value) (hown:w.ownsRow base e size v n xs) (ad:Addr) (m c:Nat) (news:List Value) (hs:a.eval s = v) (hx:a.eval x = .slice (some ad) m c)
    (hl:news.length = m * size) (hnews:∀ j u,news[j]? = some u → w.cell? (ad.add j) = some u) (h1:∀ u ∈ news,u.oneCell' = true)
    (h63:n + m ≤ maxLen) (hbytes:(n + m) * bytes ≤ 140737488355328) (hbase:base ≤ w.heap.size)
    (h:∀ y0 y1 y2 w',w'.ownsRow base e size (.slice y0 y1 y2) (n + m) (xs ++ news) → w.grownBy w' v.ownBlock → wpList P ops Q l (a.put o.dst (.slice y0 y1 y2)) w'):wpList P ops Q (o :: l) a w:=by
  obtain ⟨y0,y1,y2,w',hr,h2,h3⟩:=c7x w s x t ho base e i z size bytes ht hi hz hsize hby hzs hsz v n xs hown ad m c news hs hx hl hnews h1 h63 hbytes hbase
  exact a6q hg hr (h y0 y1 y2 w' h2 h3)
theorem U92:Tryz.prog.underlying 92 = some (.slice 101):=by kernel_rfl
theorem f4c:(Tryz.prog.info? 101).map (fun i => (i.zero,i.size,i.bytes)) = some (some (.agg #[.int .i64 0,.int .i64 0,.string ⟨#[]⟩]),3,32):=by kernel_rfl
theorem g0h (a:Act) (W:World) (Q:Exit → Act → World → Prop) (sz:a.tmps.size = 164) (df:a.defers = []) {lv:Value} {bc oc n m n1 base k:Nat} {xs:List Value} {K N:Int} {T:ByteArray}
    (own:W.ownsRow base 101 3 lv k xs) (hb:base ≤ W.heap.size) (c0:W.cell? ⟨bc,oc + n * 3,none⟩ = some (.int .i64 K)) (c1:W.cell? ⟨bc,oc + n * 3 + 1,none⟩ = some (.int .i64 N)) (c2:W.cell? ⟨bc,oc + n * 3 + 2,none⟩ = some (.string T)) (h1:(n:Int) < (n1:Int)) (hk:k + 1 ≤ 1073741824)
    (s13:a.eval (.tmp 13) = lv) (s14:a.eval (.tmp 14) = .slice (some ⟨bc,oc,none⟩) n1 m) (s15:a.eval (.tmp 15) = .int .i64 n)
    (hK:∀ a' w' y0 y1 y2,Fr 16 164 [13] a a' → a'.eval (.tmp 13) = .slice y0 y1 y2 → w'.ownsRow base 101 3 (.slice y0 y1 y2) (k + 1) (xs ++ [.int .i64 K,.int .i64 N,.string T]) → Below base W w' → Q .normal a' w'):(Code.region 33 (opsP 33) false).wp Tryz.prog Q a W:=by
  refine rgl ?_
  have t13:=a0f sz s13
  have t14:=a0f sz s14
  have t15:=a0f sz s15
  obtain ⟨i0,hi,hz0,hz1,hz2⟩:=info_parts f4c
  refine wv lv ?_
  refine wv (.slice (some ⟨bc,oc,none⟩) n1 m) ?_
  refine wv (.int .i64 n) ?_
  refine wv (.pointer (some ⟨bc,oc + n * 3,none⟩)) ?_
  refine wv (.agg #[.int .i64 K,.int .i64 N,.string T]) ?_
  refine a6q rfl (v:=.slice (some ⟨W.heap.size,0,none⟩) 1 1) (w':=W.alloc (.cells #[.int .i64 K,.int .i64 N,.string T] 101)) (by simp [go_sem,execOp,sz,hi,hz0,hz1]) ?_
  have own1:=own.alloc (.cells #[.int .i64 K,.int .i64 N,.string T] 101)
  have hsz:(W.alloc (.cells #[.int .i64 K,.int .i64 N,.string T] 101)).heap.size = W.heap.size + 1:=by simp
  have hB:=Bx.new W 101 #[.int .i64 K,.int .i64 N,.string T]
  have hM:1073741824 ≤ maxLen:=by decide
  refine e4u _ rfl (.tmp 144) (.tmp 149) 92 rfl base 101 i0 _ 3 32 U92 hi hz0 hz1 hz2 rfl (by decide) lv k xs own1 ⟨W.heap.size,0,none⟩ 1 1 [.int .i64 K,.int .i64 N,.string T] (by simp [Act.eval,Act.put,sz,t13]) (by simp [Act.eval,Act.put,sz]) rfl
    (by have:=hB.news 0 3;simpa using this) (by intro u hu;simp at hu;rcases hu with rfl | rfl | rfl <;> rfl) (by omega) (by omega) (by omega) ?_
  intro y0 y1 y2 w' own2 gr
  refine a6q rfl (v:=.slice y0 y1 y2) (w':=w') (by simp [go_sem,execOp,sz]) ?_
  dsimp only
  have hlt:=own.lt
  refine hK _ _ y0 y1 y2 ?_ ?_ own2 ?_
  · exact fP
  · exact sP
  · exact ((Below.refl _ W).alloc hb _).grown gr (by omega) (fun r hr => (hlt r hr).1)
end Go.R
end
section
set_option linter.all false
namespace Go.R
open Go Go.Proofs Go.RowKit
set_option maxRecDepth 100000
set_option maxHeartbeats 1000000
theorem g0i (a:Act) (W:World) (Q:Exit → Act → World → Prop) (sz:a.tmps.size = 164) (df:a.defers = []) {N2 b os n0 m0 g og n1 m1 i c:Nat} {nm rf:ByteArray} {kd q2 q3 q4 q5:Int} {st:Bool}
    (c0:W.cell? ⟨N2,0,none⟩ = some (.slice (some ⟨b,os,none⟩) n0 m0)) (c1:W.cell? ⟨b,os + i * 4 + 1,none⟩ = some (.slice (some ⟨g,og,none⟩) n1 m1)) (h1:(i:Int) < (n0:Int)) (h2:(c:Int) < (n1:Int))
    (d0:W.cell? ⟨g,og + c * 8,none⟩ = some (.string nm)) (d1:W.cell? ⟨g,og + c * 8 + 1,none⟩ = some (.int .i64 kd)) (d2:W.cell? ⟨g,og + c * 8 + 2,none⟩ = some (.int .i64 q2)) (d3:W.cell? ⟨g,og + c * 8 + 3,none⟩ = some (.int .i64 q3)) (d4:W.cell? ⟨g,og + c * 8 + 4,none⟩ = some (.int .i64 q4)) (d5:W.cell? ⟨g,og + c * 8 + 5,none⟩ = some (.int .i64 q5)) (d6:W.cell? ⟨g,og + c * 8 + 6,none⟩ = some (.string rf)) (d7:W.cell? ⟨g,og + c * 8 + 7,none⟩ = some (.bool st))
    (s2:a.eval (.tmp 2) = .pointer (some ⟨N2,0,none⟩)) (s8:a.eval (.tmp 8) = .int .i64 i) (s9:a.eval (.tmp 9) = .int .i64 c)
    (hK:∀ a' W',Fr 16 164 [10] a a' → a'.eval (.tmp 10) = .pointer (some ⟨W.heap.size,0,none⟩) → Bx W' W.heap.size 125 #[.string nm,.int .i64 kd,.int .i64 q2,.int .i64 q3,.int .i64 q4,.int .i64 q5,.string rf,.bool st] → Below W.heap.size W W' → Q .normal a' W'):(Code.region 21 (opsP 21) false).wp Tryz.prog Q a W:=by
  refine rgl ?_
  have t2:=a0f sz s2
  have t8:=a0f sz s8
  have t9:=a0f sz s9
  refine wv (.pointer (some ⟨N2,0,none⟩)) ?_
  refine wv (.slice (some ⟨b,os,none⟩) n0 m0) ?_
  refine wv (.int .i64 i) ?_
  refine wv (.pointer (some ⟨b,os + i * 4,none⟩)) ?_
  refine wv (.pointer (some ⟨b,os + i * 4 + 1,none⟩)) ?_
  refine wv (.slice (some ⟨g,og,none⟩) n1 m1) ?_
  refine wv (.int .i64 c) ?_
  refine wv (.pointer (some ⟨g,og + c * 8,none⟩)) ?_
  refine wv (.agg #[.string nm,.int .i64 kd,.int .i64 q2,.int .i64 q3,.int .i64 q4,.int .i64 q5,.string rf,.bool st]) ?_
  refine a6q rfl (v:=.pointer (some ⟨W.heap.size,0,none⟩)) (w':=W.alloc (.cells #[.string ⟨#[]⟩,.int .i64 0,.int .i64 0,.int .i64 0,.int .i64 0,.int .i64 0,.string ⟨#[]⟩,.bool false] 125)) (by simp [go_sem,execOp,sz]) ?_
  have hB:=Bx.new W 125 #[.string ⟨#[]⟩,.int .i64 0,.int .i64 0,.int .i64 0,.int .i64 0,.int .i64 0,.string ⟨#[]⟩,.bool false]
  have hBl:=(Below.refl W.heap.size W).alloc (Nat.le_refl _) (.cells #[.string ⟨#[]⟩,.int .i64 0,.int .i64 0,.int .i64 0,.int .i64 0,.int .i64 0,.string ⟨#[]⟩,.bool false] 125)
  generalize (W.alloc (.cells #[.string ⟨#[]⟩,.int .i64 0,.int .i64 0,.int .i64 0,.int .i64 0,.int .i64 0,.string ⟨#[]⟩,.bool false] 125)) = W1 at hB hBl ⊢
  generalize hN:W.heap.size = N at hB hBl hK ⊢
  have g0:=hB.setk 0 (.string nm)
  have g1:=g0.setk 1 (.int .i64 kd)
  have g2:=g1.setk 2 (.int .i64 q2)
  have g3:=g2.setk 3 (.int .i64 q3)
  have g4:=g3.setk 4 (.int .i64 q4)
  have g5:=g4.setk 5 (.int .i64 q5)
  have g6:=g5.setk 6 (.string rf)
  have g7:=g6.setk 7 (.bool st)
  refine c5f rfl (w':=(((((((W1.setCell ⟨N,0,none⟩ (.string nm)).setCell ⟨N,1,none⟩ (.int .i64 kd)).setCell ⟨N,2,none⟩ (.int .i64 q2)).setCell ⟨N,3,none⟩ (.int .i64 q3)).setCell ⟨N,4,none⟩ (.int .i64 q4)).setCell ⟨N,5,none⟩ (.int .i64 q5)).setCell ⟨N,6,none⟩ (.string rf)).setCell ⟨N,7,none⟩ (.bool st))
    (by simp [go_sem,execOp,sz,hB.cell0,hB.frozen,g0.cell0,g0.frozen,g1.cell0,g1.frozen,g2.cell0,g2.frozen,g3.cell0,g3.frozen,g4.cell0,g4.frozen,g5.cell0,g5.frozen,g6.cell0,g6.frozen]) ?_
  dsimp only
  simp only [c0k]
  refine hK _ _ ?_ ?_ g7 ?_
  · exact fP
  · exact sP
  · exact (((((((hBl.setCell (p:=⟨N,0,none⟩) (Nat.le_refl _) _).setCell (p:=⟨N,1,none⟩) (Nat.le_refl _) _).setCell (p:=⟨N,2,none⟩) (Nat.le_refl _) _).setCell (p:=⟨N,3,none⟩) (Nat.le_refl _) _).setCell (p:=⟨N,4,none⟩) (Nat.le_refl _) _).setCell (p:=⟨N,5,none⟩) (Nat.le_refl _) _).setCell (p:=⟨N,6,none⟩) (Nat.le_refl _) _).setCell (p:=⟨N,7,none⟩) (Nat.le_refl _) _
end Go.R
end
section
set_option linter.all false
namespace Go.R
open Go Go.Proofs Go.RowKit
set_option maxRecDepth 100000
set_option maxHeartbeats 1000000
section
variable {P:Program} {ops:Array Oper} {Q:Exit → Act → World → Prop} {a:Act} {w w':World} {l:List Oper} {o:Oper} {v:Value}
theorem d3z (hw:Region.wanted o (yielded ops a.tmps) = true) (hr:(execOp a.eval o).run P w = .ok (.value v) w') (h:wpList P ops Q l (a.put o.dst v) w'):wpList P ops Q (o :: l) a w:=by
  rw [wpList,if_pos hw]
  left
  unfold Oper.wp
  rw [hr]
  exact h
theorem e3g (hw:Region.wanted o (yielded ops a.tmps) = false) (h:wpList P ops Q l (a.put o.dst undef) w):wpList P ops Q (o :: l) a w:=by
  rw [wpList,if_neg (by simp [hw])]
  exact h
end
theorem g0j (a:Act) (W:World) (Q:Exit → Act → World → Prop) (sz:a.tmps.size = 164) (df:a.defers = []) {N:Nat} {kd:Int} {st:Bool}
    (c1:W.cell? ⟨N,1,none⟩ = some (.int .i64 kd)) (c7:W.cell? ⟨N,7,none⟩ = some (.bool st))
    (s10:a.eval (.tmp 10) = .pointer (some ⟨N,0,none⟩))
    (hK:∀ a',Fr 16 164 [] a a' → a'.eval (.tmp 98) = .bool (decide (kd ≠ 4) || st) → Q .normal a' W):(Code.region 22 (opsP 22) false).wp Tryz.prog Q a W:=by
  refine rgl ?_
  have t10:=a0f sz s10
  refine wv (.pointer (some ⟨N,1,none⟩)) ?_
  refine wv (.int .i64 kd) ?_
  refine a6q rfl (v:=.bool (decide (kd ≠ 4))) (w':=W) (by simp [go_sem,execOp,sz];rfl) ?_
  refine wv (.bool (decide (kd ≠ 4))) ?_
  by_cases hk:kd = 4
  · subst hk
    refine d3z (by simp [Region.wanted,yielded,Act.put,sz]) (v:=.pointer (some ⟨N,7,none⟩)) (w':=W) (by simp [go_sem,execOp,sz,t10]) ?_
    refine d3z (by simp [Region.wanted,yielded,Act.put,sz]) (v:=.bool st) (w':=W) (by simp [go_sem,execOp,sz,c7]) ?_
    refine wv (.bool st) ?_
    dsimp only
    refine hK _ ?_ ?_
    · exact fP
    · exact sP
  · refine e3g (by simp [Region.wanted,yielded,Act.put,sz,hk]) ?_
    refine e3g (by simp [Region.wanted,yielded,Act.put,sz,hk]) ?_
    refine wv (.bool true) ?_
    dsimp only
    refine hK _ ?_ ?_
    · exact fP
    · simp [b5e,b3y,c0j,sz,hk]
theorem e204 (args:Array Value) (w:World):(callFunc 204 args).run Tryz.prog w = .ok (.enter 204 args) w:=enters_of Tryz.func204 (by kernel_rfl) rfl _ _
theorem g0k (a:Act) (W:World) (Q:Exit → Act → World → Prop) (sz:a.tmps.size = 164) (df:a.defers = []) {N3 i k:Nat} {p0:Option Addr} {p1 p2:Nat} {nx:Int} {R:Option Addr → Nat → Nat → World → Prop}
    (x0:Bx W N3 29 #[.slice p0 p1 p2,.int .i64 nx])
    (s3:a.eval (.tmp 3) = .pointer (some ⟨N3,0,none⟩)) (s6:a.eval (.tmp 6) = .int .i64 i) (s7:a.eval (.tmp 7) = .int .i64 k)
    (hc:Calls Tryz.prog 204 #[.agg #[.slice p0 p1 p2,.int .i64 nx],.int .i64 i,.int .i64 k] W fun e w' => ∃ y0 y1 y2,e = .returned (.agg #[.slice y0 y1 y2,.int .i64 nx]) ∧ Bx w' N3 29 #[.slice p0 p1 p2,.int .i64 nx] ∧ R y0 y1 y2 w')
    (hK:∀ a' w' y0 y1 y2,R y0 y1 y2 w' → Bx w' N3 29 #[.slice p0 p1 p2,.int .i64 nx] → Fr 16 164 [] a a' → Q .normal a' ((w'.setCell ⟨N3,0,none⟩ (.slice y0 y1 y2)).setCell ⟨N3,1,none⟩ (.int .i64 nx))):(Code.region 12 (opsP 12) false).wp Tryz.prog Q a W:=by
  refine rgl ?_
  have t3:=a0f sz s3
  have t6:=a0f sz s6
  have t7:=a0f sz s7
  refine a6q rfl (v:=.agg #[.slice p0 p1 p2,.int .i64 nx]) (w':=W) (by simp [go_sem,execOp,sz,t3,x0.cell0]) ?_
  refine wv (.int .i64 i) ?_
  refine wv (.int .i64 k) ?_
  refine d5u rfl (f:=204) (args:=#[.agg #[.slice p0 p1 p2,.int .i64 nx],.int .i64 i,.int .i64 k]) (by simp [go_sem,execOp,sz,e204]) ?_
  refine hc.mono ?_
  rintro e w' ⟨y0,y1,y2,rfl,hx,hR⟩
  refine ⟨_,rfl,?_⟩
  have g1:=hx.setk 0 (.slice y0 y1 y2)
  refine c5f rfl (w':=(w'.setCell ⟨N3,0,none⟩ (.slice y0 y1 y2)).setCell ⟨N3,1,none⟩ (.int .i64 nx)) (by simp [go_sem,execOp,sz,t3,hx.cell0,hx.frozen,g1.cell0,g1.frozen]) ?_
  dsimp only
  simp only [c0k]
  refine hK _ _ y0 y1 y2 hR hx ?_
  repeat refine Fr.put ?_ (by decide)
  exact Fr.rfl' sz df
theorem g0l (a:Act) (W:World) (Q:Exit → Act → World → Prop) (sz:a.tmps.size = 164) (df:a.defers = []) {N3 N4:Nat} {p0:Option Addr} {p1 p2:Nat} {nx:Int} {u1 u2:Value}
    (x0:Bx W N3 29 #[.slice p0 p1 p2,.int .i64 nx]) (y0:Bx W N4 29 #[u1,u2])
    (s3:a.eval (.tmp 3) = .pointer (some ⟨N3,0,none⟩)) (s4:a.eval (.tmp 4) = .pointer (some ⟨N4,0,none⟩))
    (hK:∀ a',Fr 16 164 [] a a' → Q .normal a' ((W.setCell ⟨N4,0,none⟩ (.slice p0 p1 p2)).setCell ⟨N4,1,none⟩ (.int .i64 nx))):(Code.region 35 (opsP 35) false).wp Tryz.prog Q a W:=by
  refine rgl ?_
  have t3:=a0f sz s3
  have t4:=a0f sz s4
  refine a6q rfl (v:=.agg #[.slice p0 p1 p2,.int .i64 nx]) (w':=W) (by simp [go_sem,execOp,sz,t3,x0.cell0]) ?_
  have g1:=y0.setk 0 (.slice p0 p1 p2)
  refine c5f rfl (w':=(W.setCell ⟨N4,0,none⟩ (.slice p0 p1 p2)).setCell ⟨N4,1,none⟩ (.int .i64 nx)) (by simp [go_sem,execOp,sz,t4,y0.cell0,y0.frozen,g1.cell0,g1.frozen]) ?_
  dsimp only
  simp only [c0k]
  refine hK _ ?_
  repeat refine Fr.put ?_ (by decide)
  exact Fr.rfl' sz df
end Go.R
end
section
set_option linter.all false
namespace Go.R
open Go Go.Proofs Go.RowKit
set_option maxRecDepth 100000
set_option maxHeartbeats 2000000
theorem d4a {P:Program} {ops:Array Oper} {Q:Exit → Act → World → Prop} {i:Nat} {o:Oper} {a:Act} {w:World} {f:Nat} {args:Array Value} {K:Act → World → Prop} (ho:ops[i]? = some o) (hw:Region.wanted o (yielded ops a.tmps) = true) (hr:(execOp a.eval o).run P w = .ok (.enter f args) w)
    (hc:Calls P f args w fun e w' => ∃ v,e = .returned v ∧ K (a.put o.dst v) w'):wpOp P ops Q i K a w:=by
  unfold wpOp
  simp only [ho,hw,if_true]
  left
  unfold Oper.wp
  rw [hr,Oper.upon_enter]
  refine hc.mono ?_
  rintro e w' ⟨v,rfl,h⟩
  exact h
theorem g0m (args:Array Value) (w:World):(callFunc 182 args).run Tryz.prog w = .ok (.enter 182 args) w:=enters_of Tryz.func182 (by kernel_rfl) rfl _ _
theorem g0n (a:Act) (W:World) (Q:Exit → Act → World → Prop) (sz:a.tmps.size = 164) (df:a.defers = []) (hQ:∀ c a (d:Tmp) v w,Q (.panic c) (a.put (some d) v) w → Q (.panic c) a w) {N2 N3 N b n0 m0 f:Nat} {sv th:Value} {rf:ByteArray} {R:World → Prop}
    (s2:a.eval (.tmp 2) = .pointer (some ⟨N2,0,none⟩)) (s3:a.eval (.tmp 3) = .pointer (some ⟨N3,0,none⟩)) (s10:a.eval (.tmp 10) = .pointer (some ⟨N,0,none⟩))
    (c0:W.cell? ⟨N3,0,none⟩ = some (.slice (some ⟨b,0,none⟩) n0 m0)) (c2:W.cell? ⟨N2,0,none⟩ = some sv) (c6:W.cell? ⟨N,6,none⟩ = some (.string rf)) (c1:W.cell? ⟨b,f,none⟩ = some th) (h1:(f:Int) < (n0:Int))
    (hc:Calls Tryz.prog 182 #[.agg #[sv],.string rf] W.drew fun e w' => e = .returned (.int .i64 f) ∧ (w'.cell? ⟨N3,0,none⟩ = some (.slice (some ⟨b,0,none⟩) n0 m0) ∧ w'.cell? ⟨N2,0,none⟩ = some sv ∧ w'.cell? ⟨N,6,none⟩ = some (.string rf) ∧ w'.cell? ⟨b,f,none⟩ = some th) ∧ R w')
    (hK:∀ a' w',R w' → Fr 16 164 [11] a a' → a'.eval (.tmp 11) = th → Q .normal a' w'):(Code.region 23 (opsP 23) true).wp Tryz.prog Q a W:=by
  have mixed:Tryz.prog.follows .mixedOrders = true:=by kernel_rfl
  unfold opsP Tryz.f108
  simp only [Option.bind_some,c0i,Nat.reduceEqDiff,reduceIte,Option.none_or,Option.or_none,Option.some_or,Option.getD_some,reduceCtorEq]
  have t2:=a0f sz s2
  have t3:=a0f sz s3
  have t10:=a0f sz s10
  refine wp_region_held (S:=fun w' => w'.cell? ⟨N3,0,none⟩ = some (.slice (some ⟨b,0,none⟩) n0 m0) ∧ w'.cell? ⟨N2,0,none⟩ = some sv ∧ w'.cell? ⟨N,6,none⟩ = some (.string rf) ∧ w'.cell? ⟨b,f,none⟩ = some th) mixed ?_
  have hS0:(fun w':World => w'.cell? ⟨N3,0,none⟩ = some (.slice (some ⟨b,0,none⟩) n0 m0) ∧ w'.cell? ⟨N2,0,none⟩ = some sv ∧ w'.cell? ⟨N,6,none⟩ = some (.string rf) ∧ w'.cell? ⟨b,f,none⟩ = some th) W.drew:=⟨c0,c2,c6,c1⟩
  change wpAnyH _ _ _ _ _ _ _ _ W.drew
  refine tkx 0 (.pointer (some ⟨N3,0,none⟩)) ?_ hS0
  refine tkx 1 (.slice (some ⟨b,0,none⟩) n0 m0) ?_ hS0
  refine tkx 2 (.agg #[sv]) ?_ hS0
  refine tkx 3 (.pointer (some ⟨N,6,none⟩)) ?_ hS0
  refine tkx 4 (.string rf) ?_ hS0
  refine wpAnyH_all (rs:=[5]) (by kernel_rfl) (by simp) ?_
  intro i hi3
  obtain rfl:i = 5:=by simpa using hi3
  clear hi3
  refine d4a rfl (by rfl) (f:=182) (args:=#[.agg #[sv],.string rf]) (by simp [go_sem,execOp,sz,g0m]) ?_
  refine hc.mono ?_
  rintro e w' ⟨rfl,hS1,hR⟩
  refine ⟨_,rfl,hS1,?_⟩
  refine tkx 6 (.pointer (some ⟨b,f,none⟩)) ?_ hS1
  refine tkx 7 (th) ?_ hS1
  refine tkx 8 (th) ?_ hS1
  refine wpAnyH_done (by kernel_rfl) ?_ _
  refine hK _ _ hR ?_ ?_
  · exact fP
  · exact sP
end Go.R
end
section
set_option linter.all false
namespace Go.R
open Go Go.Proofs Go.RowKit
set_option maxHeartbeats 1000000
abbrev b3b:=Int × Int × List UInt8
def eA (x:b3b):AV:=.agg [.int .i64 x.1,.int .i64 x.2.1,.str x.2.2]
def wA (x:b3b):List Value:=[.int .i64 x.1,.int .i64 x.2.1,.string ⟨x.2.2.toArray⟩]
theorem d8q {m:Bool} {w:World}:∀ (l:List b3b) (cs:List Value) (fp:List Nat),a0a m w 3 (l.map eA) cs fp →
    fp = [] ∧ (∀ x ∈ l,x.2.2.length ≤ maxLen) ∧ cs.take (l.length * 3) = l.flatMap wA
  | [],cs,fp,h => by simp only [List.map_nil,a0a] at h; exact ⟨h,by simp,by simp⟩
  | x :: l,cs,fp,h => by
    simp only [List.map_cons,a0a] at h
    obtain ⟨f1,f2,⟨h1,_⟩,hr,hs,rfl⟩:=h
    obtain ⟨rfl,i2,i3⟩:=d8q l _ _ hs
    simp only [eA,Rep,a0b] at hr
    obtain ⟨c1,r1,g1,g2,e1,_,⟨p1,rfl⟩,⟨c2,r2,g3,g4,e2,_,⟨p2,rfl⟩,⟨c3,r3,g5,g6,e3,_,⟨p3,p4,rfl⟩,⟨e4,rfl⟩,rfl⟩,rfl⟩,rfl⟩:=hr
    subst e2 e3 e4
    simp only [List.cons.injEq,and_true] at p1 p2 p3
    subst p1 p2 p3
    refine ⟨rfl,?_,?_⟩
    · intro y hy
      rcases List.mem_cons.1 hy with rfl | hy
      · exact p4
      · exact i2 y hy
    · rw [List.length_cons,Nat.add_mul,Nat.one_mul,Nat.add_comm,List.take_add,e1,i3]
      rfl
theorem d8r {m:Bool} {w:World}:∀ (l:List b3b) (cs:List Value),(∀ x ∈ l,x.2.2.length ≤ maxLen) → cs.take (l.length * 3) = l.flatMap wA → a0a m w 3 (l.map eA) cs []
  | [],cs,_,_ => by simp only [List.map_nil,a0a]
  | x :: l,cs,h,hc => by
    rw [List.length_cons,Nat.add_mul,Nat.one_mul,Nat.add_comm,List.take_add,List.flatMap_cons] at hc
    have hl:(cs.take 3).length = 3:=by
      have:=congrArg List.length hc
      simp only [List.length_append,List.length_take,List.length_drop,wA,List.length_cons,List.length_nil] at this ⊢
      omega
    obtain ⟨h1,h2⟩:=List.append_inj hc (by rw [hl]; rfl)
    simp only [List.map_cons,a0a]
    refine ⟨[],[],⟨hl,rfl⟩,?_,d8r l _ (fun y hy => h y (List.mem_cons_of_mem _ hy)) h2,rfl⟩
    rw [h1]
    simp only [eA,wA,Rep,a0b]
    exact ⟨_,_,[],[],rfl,rfl,⟨rfl,rfl⟩,⟨_,_,[],[],rfl,rfl,⟨rfl,rfl⟩,⟨_,_,[],[],rfl,rfl,⟨rfl,h x (List.mem_cons_self ..),rfl⟩,⟨rfl,rfl⟩,rfl⟩,rfl⟩,rfl⟩
theorem e7s {l:List b3b} {cs:List Value} (h:cs.take (l.length * 3) = l.flatMap wA) {j:Nat} {x:b3b} (hj:l[j]? = some x):cs[j * 3]? = some (.int .i64 x.1) ∧ cs[j * 3 + 1]? = some (.int .i64 x.2.1) ∧ cs[j * 3 + 2]? = some (.string ⟨x.2.2.toArray⟩):=by
  induction l generalizing cs j with
  | nil => simp at hj
  | cons y l ih =>
    rw [List.length_cons,Nat.add_mul,Nat.one_mul,Nat.add_comm,List.take_add,List.flatMap_cons] at h
    have hl:(cs.take 3).length = 3:=by
      have:=congrArg List.length h
      simp only [List.length_append,List.length_take,List.length_drop,wA,List.length_cons,List.length_nil] at this ⊢
      omega
    obtain ⟨h1,h2⟩:=List.append_inj h (by rw [hl]; rfl)
    cases j with
    | zero =>
      simp only [List.getElem?_cons_zero,Option.some.injEq] at hj
      subst hj
      have k0:=congrArg (fun z:List Value => z[0]?) h1
      have k1:=congrArg (fun z:List Value => z[1]?) h1
      have k2:=congrArg (fun z:List Value => z[2]?) h1
      simp [wA,List.getElem?_take_of_lt] at k0 k1 k2
      exact ⟨by simpa using k0,by simpa using k1,by simpa using k2⟩
    | succ j =>
      simp only [List.getElem?_cons_succ] at hj
      have:=ih h2 hj
      simp only [List.getElem?_drop] at this
      rw [show (j + 1) * 3 = 3 + j * 3 by omega]
      exact this
theorem Fr.mono {k N:Nat} {ws ws':List Nat} {a a':Act} (h:Fr k N ws a a') (hs:∀ n ∈ ws,n ∈ ws'):Fr k N ws' a a':=⟨h.sz,h.df,fun n hn hw => h.same n hn (fun hm => hw (hs n hm))⟩
theorem own_below {W w':World} {base:Nat} {e:TypeId} {size:Nat} {v:Value} {n:Nat} {xs:List Value} (h:W.ownsRow base e size v n xs) (hb:Below W.heap.size W w'):w'.ownsRow base e size v n xs:=by
  refine h.kept (row:=none) ⟨hb.os,hb.tape,hb.output,hb.size,fun k hk _ => hb.block k hk⟩ ?_
  cases hv:v.ownBlock with
  | none => exact .inl rfl
  | some g => exact .inr (by simp)
theorem c8a {z:Int} (h:-9223372036854775808 ≤ z ∧ z < 9223372036854775808):IntKind.i64.wrap z = z:=a0w h
def b8d (fp:Int → Option Int):List b3b → List b3b → Option (List b3b)
  | [],acc => some acc
  | x :: xs,acc => (fp x.2.1).bind fun p => if p ≥ 0 then (if acc.length + 1 ≤ 2 ^ 30 then b8d fp xs (acc ++ [x]) else none) else b8d fp xs acc
noncomputable def R (n:Nat) (d:Bool):Code:=.region n (opsP n) d
noncomputable def bodyN:Code:=.seq (.seq (R 30 false) (.cond (.tmp 133) .skip (.exit 12))) (.seq (.block 13 (.seq (R 32 false) (.cond (.tmp 143) (R 33 false) .skip))) (R 31 false))
theorem e7t {Q:Exit → Act → World → Prop} {W0:World} {th:Value} {oc:Option Addr} {n1 m1 base:Nat} {cs:List b3b} {fp:Int → Option Int} {r:List b3b} (hn1:n1 = cs.length) (h63:n1 ≤ maxLen)
    (hcells:∀ j x,cs[j]? = some x → ∃ b o,oc = some ⟨b,o,none⟩ ∧ b < base ∧ W0.cell? ⟨b,o + j * 3,none⟩ = some (.int .i64 x.1) ∧ W0.cell? ⟨b,o + j * 3 + 1,none⟩ = some (.int .i64 x.2.1) ∧ W0.cell? ⟨b,o + j * 3 + 2,none⟩ = some (.string ⟨x.2.2.toArray⟩))
    (hfp:∀ N p W,fp N = some p → Below base W0 W → base ≤ W.heap.size → Calls Tryz.prog 86 #[th,.int .i64 N] W fun e w' => e = .returned (.int .i64 p) ∧ Below W.heap.size W w') :
    ∀ (xs:List b3b) (j:Nat) (acc:List b3b) (a:Act) (W:World) (lv:Value),cs.drop j = xs → b8d fp xs acc = some r → a.tmps.size = 164 → a.defers = [] → Below base W0 W → base ≤ W.heap.size →
      a.eval (.tmp 11) = th → a.eval (.tmp 13) = lv → a.eval (.tmp 14) = .slice oc n1 m1 → a.eval (.tmp 15) = .int .i64 j → W.ownsRow base 101 3 lv acc.length (acc.flatMap wA) →
      (∀ a' W' lv',Fr 16 164 [13,15] a a' → a'.eval (.tmp 13) = lv' → W'.ownsRow base 101 3 lv' r.length (r.flatMap wA) → Below base W0 W' → base ≤ W'.heap.size → Q (.exit 12) a' W') → Code.rounds Tryz.prog bodyN Q (xs.length + 1) a W
  | [],j,acc,a,W,lv,hd,hk,sz,df,hB,hsz,s11,s13,s14,s15,own,hQ => by
    have hj:cs.length ≤ j:=List.drop_eq_nil_iff.1 hd
    rw [rounds_succ]
    unfold bodyN
    refine wp_seq (wp_seq (f6j a W _ sz df s14 s15 ?_))
    intro a1 F1 e1
    refine wp_cond_split e1 (fun h => ?_) (fun h => ?_)
    · simp only [decide_eq_true_eq] at h; omega
    · simp only [b8d,Option.some.injEq] at hk
      subst hk
      refine wp_exit ?_
      exact hQ a1 W lv (F1.trans (ws':=[13,15]) ⟨F1.sz,F1.df,fun _ _ _ => rfl⟩) (F1.u s13) own hB hsz
  | x :: xs,j,acc,a,W,lv,hd,hk,sz,df,hB,hsz,s11,s13,s14,s15,own,hQ => by
    have hj:j < cs.length:=by
      rcases Nat.lt_or_ge j cs.length with h | h
      · exact h
      · rw [List.drop_eq_nil_iff.2 h] at hd; cases hd
    rw [List.drop_eq_getElem_cons hj] at hd
    simp only [List.cons.injEq] at hd
    obtain ⟨hx,hd⟩:=hd
    have hxj:cs[j]? = some x:=by rw [List.getElem?_eq_getElem hj,hx]
    obtain ⟨b,o,rfl,hb,k0,k1,k2⟩:=hcells j x hxj
    simp only [b8d] at hk
    cases hp:fp x.2.1 with
    | none => rw [hp] at hk; cases hk
    | some p =>
      rw [hp,Option.bind_some] at hk
      rw [List.length_cons,rounds_succ]
      unfold bodyN
      refine wp_seq (wp_seq (f6j a W _ sz df s14 s15 ?_))
      intro a1 F1 e1
      refine wp_cond_split e1 (fun h => ?_) (fun h => ?_)
      · refine wp_skip ?_
        have v11:=F1.u s11
        have v13:=F1.u s13
        have v14:=F1.u s14
        have v15:=F1.u s15
        have q1:W.cell? ⟨b,o + j * 3 + 1,none⟩ = some (.int .i64 x.2.1):=(hB.cell (p:=⟨b,o + j * 3 + 1,none⟩) hb).trans k1
        have hw:IntKind.i64.wrap ((j:Int) + 1) = (j:Int) + 1:=by
          refine c8a ?_
          have:(j:Int) + 1 ≤ 9223372036854775807:=by unfold maxLen at h63; omega
          omega
        refine wp_seq (wp_block (wp_seq (g0f a1 W _ F1.sz F1.df (R:=fun q w' => q = p ∧ Below W.heap.size W w') q1 (by omega) v11 v14 v15 ((hfp x.2.1 p W hp hB hsz).mono ?_) ?_)))
        · rintro e w' ⟨rfl,hb⟩
          exact ⟨p,rfl,rfl,hb⟩
        · rintro a2 w2 _ ⟨rfl,hb2⟩ F2 e2
          have u11:=F2.u v11
          have u13:=F2.u v13
          have u14:=F2.u v14
          have u15:=F2.u v15
          have own2:=own_below own hb2
          have hB2:Below base W0 w2:=hB.trans (hb2.mono hsz)
          have hsz2:base ≤ w2.heap.size:=Nat.le_trans hsz hb2.size
          refine wp_cond_split e2 (fun hp0 => ?_) (fun hp0 => ?_)
          · simp only [decide_eq_true_eq] at hp0
            rw [if_pos hp0] at hk
            split at hk
            · rename_i h30
              have z0:w2.cell? ⟨b,o + j * 3,none⟩ = some (.int .i64 x.1):=(hB2.cell (p:=⟨b,o + j * 3,none⟩) hb).trans k0
              have z1:w2.cell? ⟨b,o + j * 3 + 1,none⟩ = some (.int .i64 x.2.1):=(hB2.cell (p:=⟨b,o + j * 3 + 1,none⟩) hb).trans k1
              have z2:w2.cell? ⟨b,o + j * 3 + 2,none⟩ = some (.string ⟨x.2.2.toArray⟩):=(hB2.cell (p:=⟨b,o + j * 3 + 2,none⟩) hb).trans k2
              refine g0h a2 w2 _ F2.sz F2.df own2 hsz2 z0 z1 z2 (by omega) (by simpa using h30) u13 u14 u15 ?_
              intro a3 w3 y0 y1 y2 F3 e3 own3 hb3
              have r15:=F3.u u15
              refine f6k a3 w3 _ F3.sz F3.df hw r15 ?_
              intro a4 F4 e4
              refine e7t hn1 h63 hcells hfp xs (j + 1) (acc ++ [x]) a4 w3 (.slice y0 y1 y2) hd hk F4.sz F4.df (hB2.trans hb3) (Nat.le_trans hsz2 hb3.size) ((F4.same 11 (by decide) (by simp)).trans (F3.u u11)) (F4.u e3) ((F4.same 14 (by decide) (by simp)).trans (F3.u u14)) e4 (by simpa [wA] using own3) ?_
              intro a' W' lv' F5
              exact hQ a' W' lv' (((((F1.trans F2).trans F3).trans F4).trans F5).mono (by simp))
            · cases hk
          · simp only [decide_eq_false_iff_not] at hp0
            rw [if_neg hp0] at hk
            refine wp_skip ?_
            refine f6k a2 w2 _ F2.sz F2.df hw u15 ?_
            intro a4 F4 e4
            refine e7t hn1 h63 hcells hfp xs (j + 1) acc a4 w2 lv hd hk F4.sz F4.df hB2 hsz2 (F4.u u11) (F4.u u13) (F4.u u14) e4 own2 ?_
            intro a' W' lv' F5
            exact hQ a' W' lv' ((((F1.trans F2).trans F4).trans F5).mono (by simp))
      · simp only [decide_eq_false_iff_not] at h; omega
end Go.R
end
section
set_option linter.all false
namespace Go.R
open Go Go.Proofs Go.RowKit
set_option maxHeartbeats 1000000
abbrev a1n:=Int × List (List b3b)
def b8e (d:List b3b):AV:=.lst 3 (d.map eA)
def d1c (r:a1n):AV:=.agg [.int .i64 r.1,.lst 1 (r.2.map b8e)]
def b6b (t:List a1n):AV:=.lst 2 (t.map d1c)
def a3t (ts:List (List a1n)):AV:=.lst 1 (ts.map b6b)
theorem b3z {m:Bool} {w:World} {sz:Nat} {l:List AV} {v:Value} {fp:List Nat} (h:Rep m w (.lst sz l) [v] fp):∃ o c,v = .slice o l.length c ∧ l.length ≤ maxLen:=by
  rw [Rep] at h
  rcases h with ⟨rfl,_,a,c,e,_⟩ | ⟨b,off,cap,cur,e,fz,fps,e1,h2,h3,_⟩
  · cases e; exact ⟨_,_,rfl,by simp⟩
  · cases e1; exact ⟨_,_,rfl,by omega⟩
theorem d1d {w:World} {ts:List (List a1n)} {v:Value} {fp:List Nat} {i:Nat} {t:List a1n} (h:Rep true w (a3t ts) [v] fp) (nd:fp.Nodup) (hi:ts[i]? = some t) :
    ∃ b m0 og m1 fi,v = .slice (some ⟨b,0,none⟩) ts.length m0 ∧ w.cell? ⟨b,i,none⟩ = some (.slice og t.length m1) ∧ Rep true w (b6b t) [.slice og t.length m1] fi ∧ (∀ q ∈ fi,q ∈ fp) ∧ b ∈ fp ∧ t.length ≤ maxLen ∧ ts.length ≤ maxLen:=by
  obtain ⟨b,c,cur,e,fx,rfl,a1,a2,B,a4,a5,a6,a7,a8,a9,a10,a11,-⟩:=c6v h nd (k:=i) (x:=b6b t) (by rw [List.getElem?_map,hi]; rfl)
  obtain ⟨u1,hu1⟩:∃ u,(cur.toList.drop (i * 1)).take 1 = [u]:=by
    match hl:(cur.toList.drop (i * 1)).take 1,a10 with
    | [u],_ => exact ⟨u,rfl⟩
  rw [hu1] at a11
  obtain ⟨k1,-⟩:=c5e B hu1
  obtain ⟨o,c1,rfl,hl⟩:=b3z a11
  rw [List.length_map] at *
  exact ⟨b,c,o,c1,fx,rfl,k1,a11,a8,a6,hl,by omega⟩
theorem e7u {m:Bool} {w:World} {d:List b3b} {v:Value} {fp:List Nat} (h:Rep m w (b8e d) [v] fp):∃ oc m1,v = .slice oc d.length m1 ∧ d.length ≤ maxLen ∧ (∀ x ∈ d,x.2.2.length ≤ maxLen) ∧
    ∀ j x,d[j]? = some x → ∃ b o,oc = some ⟨b,o,none⟩ ∧ b ∈ fp ∧ w.cell? ⟨b,o + j * 3,none⟩ = some (.int .i64 x.1) ∧ w.cell? ⟨b,o + j * 3 + 1,none⟩ = some (.int .i64 x.2.1) ∧ w.cell? ⟨b,o + j * 3 + 2,none⟩ = some (.string ⟨x.2.2.toArray⟩):=by
  unfold b8e at h
  rw [Rep] at h
  rcases h with ⟨h1,_,a,c,e,_⟩ | ⟨b,off,cap,cur,e,fz,fps,e1,h2,h3,h4,h5,rfl,h7,h8⟩
  · have hd:d = []:=by simpa using h1
    subst hd
    cases e
    exact ⟨_,_,rfl,by simp,by simp,fun j x hj => by simp at hj⟩
  · cases e1
    rw [List.length_map] at *
    obtain ⟨rfl,hm,hc⟩:=d8q d _ _ h8
    refine ⟨_,_,rfl,by omega,hm,fun j x hj => ?_⟩
    obtain ⟨k0,k1,k2⟩:=e7s hc hj
    rw [List.getElem?_drop,Array.getElem?_toList] at k0 k1 k2
    refine ⟨b,off,rfl,by simp,?_,?_,?_⟩
    · simp [World.cell?,h4,k0]
    · simp [World.cell?,h4,show off + j * 3 + 1 = off + (j * 3 + 1) by omega,k1]
    · simp [World.cell?,h4,show off + j * 3 + 2 = off + (j * 3 + 2) by omega,k2]
theorem e7v {w:World} {base:Nat} {d:List b3b} {v:Value} (h:w.ownsRow base 101 3 v d.length (d.flatMap wA)) (hm:∀ x ∈ d,x.2.2.length ≤ maxLen):∃ fp,Rep true w (b8e d) [v] fp ∧ fp.Nodup ∧ ∀ q ∈ fp,base ≤ q:=by
  unfold b8e
  rcases h.2 with ⟨rfl,h2⟩ | ⟨g,cap,cur,rfl,e2,e3,e4,e5,e6,e7⟩
  · have hd:d = []:=List.eq_nil_of_length_eq_zero h2
    subst hd
    exact ⟨[],by rw [Rep]; exact .inl ⟨rfl,rfl,none,0,rfl,by decide,fun _ => ⟨rfl,rfl⟩⟩,List.nodup_nil,by simp⟩
  · refine ⟨[g],?_,by simp,by simpa using e2⟩
    rw [Rep]
    exact .inr ⟨g,0,cap,cur,101,(0,0),[],by rw [List.length_map],by rw [List.length_map]; exact e4,e5,e3,fun _ => ⟨rfl,rfl,e6⟩,rfl,by decide,by rw [List.drop_zero]; exact d8r d _ hm e7⟩
theorem c6w {fp:Int → Option Int}:∀ (xs acc r:List b3b),b8d fp xs acc = some r → ∀ x ∈ r,x ∈ acc ∨ x ∈ xs
  | [],acc,r,h,x,hx => by simp only [b8d,Option.some.injEq] at h; subst h; exact .inl hx
  | y :: xs,acc,r,h,x,hx => by
    simp only [b8d] at h
    cases hp:fp y.2.1 with
    | none => rw [hp] at h; cases h
    | some p =>
      rw [hp,Option.bind_some] at h
      split at h
      · split at h
        · rcases c6w xs _ r h x hx with h | h
          · simp only [List.mem_append,List.mem_cons,List.not_mem_nil,or_false] at h
            rcases h with h | rfl
            · exact .inl h
            · exact .inr (by simp)
          · exact .inr (by simp [h])
        · cases h
      · rcases c6w xs _ r h x hx with h | h
        · exact .inl h
        · exact .inr (by simp [h])
def b7a (fpl:List a1n → Int → Option Int) (i c f:Nat):Nat → Nat → List (List a1n) → Option (List (List a1n))
  | 0,_,ts => some ts
  | n + 1,k,ts => (ts[i]?).bind fun rows => (rows[k]?).bind fun r => (r.2[c]?).bind fun d => (ts[f]?).bind fun there => (b8d (fpl there) d []).bind fun d' => b7a fpl i c f n (k + 1) (ts.set i (rows.set k (r.1,r.2.set c d')))
noncomputable def bodyK:Code:=.seq (.seq (R 25 false) (.cond (.tmp 114) .skip (.exit 10))) (.seq (.block 11 (.seq (R 27 false) (.seq (R 28 false) (.seq (.seq (R 29 false) (.block 12 (.loop bodyN))) (R 34 false))))) (R 26 false))
theorem f2n {Q:Exit → Act → World → Prop} {B0 N3 i c f:Nat} {v th:Value} {nx:Int} {fpl:List a1n → Int → Option Int} {r:List (List a1n)} (hN3:N3 < B0)
    (hpl:∀ rows N p,fpl rows N = some p → a0v Tryz.prog 86 .flat [b6b rows,.int .i64 N] (.int .i64 p)) :
    ∀ (n k:Nat) (ts:List (List a1n)) (fp:List Nat) (a:Act) (W:World) (t:List a1n),b7a fpl i c f n k ts = some r → ts[i]? = some t → t.length = n + k → a.tmps.size = 164 → a.defers = [] →
      Rep true W (a3t ts) [v] fp → fp.Nodup → (∀ q ∈ fp,B0 ≤ q) → B0 ≤ W.heap.size → Bx W N3 29 #[v,.int .i64 nx] →
      a.eval (.tmp 3) = .pointer (some ⟨N3,0,none⟩) → a.eval (.tmp 8) = .int .i64 i → a.eval (.tmp 9) = .int .i64 c → a.eval (.tmp 11) = th → a.eval (.tmp 12) = .int .i64 k →
      (∀ b n0 m0,v = .slice (some ⟨b,0,none⟩) n0 m0 → W.cell? ⟨b,f,none⟩ = some th) →
      (∀ a' W' fp',Fr 16 164 [12,13,14,15] a a' → Rep true W' (a3t r) [v] fp' → fp'.Nodup → (∀ q ∈ fp',B0 ≤ q) → Below B0 W W' → B0 ≤ W'.heap.size → Q (.exit 10) a' W') → Code.rounds Tryz.prog bodyK Q (n + 1) a W
  | 0,k,ts,fp,a,W,t,hk,ht,hl,sz,df,hR,nd,hge,hsz,hX,s3,s8,s9,s11,s12,hth,hQ => by
    obtain ⟨b,m0,og,m1,fi,rfl,q1,q2,q3,q4,q5,q6⟩:=d1d hR nd ht
    have hil:i < ts.length:=(List.getElem?_eq_some_iff.1 ht).1
    rw [rounds_succ]
    unfold bodyK
    refine wp_seq (wp_seq (f6h a W _ sz df (hX.cell0 0) q1 (by omega) s3 s8 s12 ?_))
    intro a1 F1 e1
    refine wp_cond_split e1 (fun h => ?_) (fun h => ?_)
    · simp only [decide_eq_true_eq] at h; omega
    · simp only [b7a,Option.some.injEq] at hk
      subst hk
      refine wp_exit ?_
      exact hQ a1 W fp (F1.mono (by simp)) hR nd hge (Below.refl _ _) hsz
  | n + 1,k,ts,fp,a,W,t,hk,ht,hl,sz,df,hR,nd,hge,hsz,hX,s3,s8,s9,s11,s12,hth,hQ => by
    obtain ⟨b,m0,og,m1,fi,hv,q1,q2,q3,q4,q5,q6⟩:=d1d hR nd ht
    subst hv
    have hil:i < ts.length:=(List.getElem?_eq_some_iff.1 ht).1
    simp only [b7a,ht,Option.bind_some] at hk
    cases hrow:t[k]? with
    | none => rw [hrow] at hk; cases hk
    | some rw0 =>
    rw [hrow,Option.bind_some] at hk
    cases hd:rw0.2[c]? with
    | none => rw [hd] at hk; cases hk
    | some d =>
    rw [hd,Option.bind_some] at hk
    cases hf:ts[f]? with
    | none => rw [hf] at hk; cases hk
    | some there =>
    rw [hf,Option.bind_some] at hk
    cases hkeep:b8d (fpl there) d [] with
    | none => rw [hkeep] at hk; cases hk
    | some d' =>
    rw [hkeep,Option.bind_some] at hk
    rw [rounds_succ]
    unfold bodyK
    refine wp_seq (wp_seq (f6h a W _ sz df (hX.cell0 0) q1 (by omega) s3 s8 s12 ?_))
    intro a1 F1 e1
    refine wp_cond_split e1 (fun h => ?_) (fun h => ?_)
    · refine wp_skip ?_
      refine wp_seq (wp_block (wp_seq (g0g a1 W _ F1.sz F1.df ?_)))
      intro a2 F2 e2
      have hlt:=Rep.lt _ _ _ hR
      have v3:=fun {ws:List Nat} {x:Act} (h:Fr 16 164 ws a x) (hw:3 ∉ ws) => (h.same 3 (by decide) hw).trans s3
      have v8:=fun {ws:List Nat} {x:Act} (h:Fr 16 164 ws a x) (hw:8 ∉ ws) => (h.same 8 (by decide) hw).trans s8
      have v9:=fun {ws:List Nat} {x:Act} (h:Fr 16 164 ws a x) (hw:9 ∉ ws) => (h.same 9 (by decide) hw).trans s9
      have v11:=fun {ws:List Nat} {x:Act} (h:Fr 16 164 ws a x) (hw:11 ∉ ws) => (h.same 11 (by decide) hw).trans s11
      have v12:=fun {ws:List Nat} {x:Act} (h:Fr 16 164 ws a x) (hw:12 ∉ ws) => (h.same 12 (by decide) hw).trans s12
      have F12:=F1.trans F2
      have own0:(W.alloc (.cells #[] 101)).ownsRow W.heap.size 101 3 (.slice (some ⟨W.heap.size,0,none⟩) 0 0) 0 []:=World.ownsRow_made (e:=101) (size:=3) (base:=W.heap.size) W #[] 0 (Nat.le_refl _) (by decide) rfl
      have B1:Below W.heap.size W (W.alloc (.cells #[] 101)):=(Below.refl _ W).alloc (Nat.le_refl _) _
      have z1:(W.alloc (.cells #[] 101)).heap.size = W.heap.size + 1:=by simp
      generalize W.alloc (.cells #[] 101) = W1 at own0 B1 z1 ⊢
      have hR1:Rep true W1 (a3t ts) [.slice (some ⟨b,0,none⟩) ts.length m0] fp:=Rep.world _ _ _ (fun q hq => B1.block q (hlt q hq)) hR
      have gi:(ts.map b6b)[i]? = some (.lst 2 (t.map d1c)):=by rw [List.getElem?_map,ht]; rfl
      have gk:(t.map d1c)[k]? = some (.agg [.int .i64 rw0.1,.lst 1 (rw0.2.map b8e)]):=by rw [List.getElem?_map,hrow]; rfl
      have gc:(rw0.2.map b8e)[c]? = some (b8e d):=by rw [List.getElem?_map,hd]; rfl
      obtain ⟨b',m0',g,mm1,g2,mm2,vc,fz,DA,hz,hzs,-⟩:=d8p hR1 nd gi gk gc ⟨3,d.map eA,rfl⟩
      obtain ⟨rfl,rfl⟩:b = b' ∧ m0 = m0':=by have:=DA.v; simp at this; exact ⟨this.1,this.2⟩
      obtain ⟨oc,cm,rfl,hd63,hdm,hcells⟩:=e7u hz
      have hX1:Bx W1 N3 29 #[.slice (some ⟨b,0,none⟩) ts.length m0,.int .i64 nx]:=hX.below B1 (by omega)
      have hkl:k < t.length:=(List.getElem?_eq_some_iff.1 hrow).1
      have hcl:c < rw0.2.length:=(List.getElem?_eq_some_iff.1 hd).1
      have d1:=DA.c0
      have d2:=DA.c1
      rw [List.length_map] at d1 d2
      refine wp_seq (f9u a2 W1 _ F2.sz F2.df (hX1.cell0 0) d1 d2 DA.c2 (by omega) (by omega) (by omega) (v3 F12 (by simp)) (v8 F12 (by simp)) (v9 F12 (by simp)) (v12 F12 (by simp)) ?_)
      intro a3 F3 e14
      have F13:=F12.trans F3
      refine wp_seq (wp_seq (g0d a3 W1 _ F3.sz F3.df ?_))
      intro a4 F4 e15
      have F14:=F13.trans F4
      -- where the referred rows are
      obtain ⟨bf,m0f,ogf,m1f,ff,hvf,y1,y2,y3,-,-,-⟩:=d1d hR nd hf
      obtain ⟨rfl,-⟩:b = bf ∧ m0 = m0f:=by simpa using hvf
      have hth':th = .slice ogf there.length m1f:=by
        have:=(hth b ts.length m0 rfl).symm.trans y1
        simpa using this
      have hfp:∀ N p Wx,fpl there N = some p → Below W.heap.size W1 Wx → W.heap.size ≤ Wx.heap.size → Calls Tryz.prog 86 #[th,.int .i64 N] Wx fun e w' => e = .returned (.int .i64 p) ∧ Below Wx.heap.size Wx w':=by
        intro N p Wx hp hBx hsx
        have hT:Rep false Wx (b6b there) [th] ff:=by
          rw [hth']
          exact (Rep.world (w':=Wx) _ _ _ (fun q hq => ((B1.trans hBx).block q (hlt q (y3 q hq)))) y2).weak'
        refine (hpl there N p hp Wx [th,.int .i64 N] ff ?_).mono ?_
        · simp only [a0x]
          exact ⟨[th],_,ff,[],rfl,hT,⟨[.int .i64 N],[],[],[],rfl,by simp [Rep],⟨rfl,rfl⟩,rfl⟩,by simp⟩
        · intro ev w' hh
          cases ev with
          | returned u =>
            obtain ⟨g1,cs,rfl,g2⟩:=hh
            simp only [Rep] at g2
            obtain ⟨rfl,-⟩:=g2
            exact ⟨rfl,g1⟩
          | panicked _ => exact hh.elim
          | outgrown => exact hh.elim
      have r13:a4.eval (.tmp 13) = .slice (some ⟨W.heap.size,0,none⟩) 0 0:=(F4.same 13 (by decide) (by simp)).trans (F3.u e2)
      have r14:a4.eval (.tmp 14) = .slice oc d.length cm:=F4.u e14
      refine wp_block (wp_loop_rounds _ (e7t (base:=W.heap.size) (W0:=W1) (cs:=d) (r:=d') rfl hd63 (fun j x hj => ?_) hfp d 0 [] a4 W1 _ (by simp) hkeep F4.sz F4.df (Below.refl _ _) (by omega) (v11 F14 (by simp)) r13 r14 e15 (by simpa using own0) ?_))
      · obtain ⟨bb,o,x1,x2,x3,x4,x5⟩:=hcells j x hj
        exact ⟨bb,o,x1,hlt _ (hzs _ x2),x3,x4,x5⟩
      · intro a5 W5 lv F5 e13 own5 hB5 hs5
        simp only [Exit.inBlock,if_true]
        have F15:=F14.trans F5
        have hBW5:Below W.heap.size W W5:=B1.trans hB5
        have hR5:Rep true W5 (a3t ts) [.slice (some ⟨b,0,none⟩) ts.length m0] fp:=Rep.world _ _ _ (fun q hq => hBW5.block q (hlt q hq)) hR
        obtain ⟨b',m0',g',n1',g3,n2',vc',fz',DB,hz',-,put⟩:=d8p hR5 nd gi gk gc ⟨3,d.map eA,rfl⟩
        obtain ⟨rfl,rfl⟩:b = b' ∧ m0 = m0':=by have:=DB.v; simp at this; exact ⟨this.1,this.2⟩
        obtain ⟨y0',y1',y2',rfl⟩:∃ p q s,lv = .slice p q s:=by
          rcases own5.2 with ⟨rfl,_⟩ | ⟨gg,cp,cu,rfl,_⟩ <;> exact ⟨_,_,_,rfl⟩
        have hX5:Bx W5 N3 29 #[.slice (some ⟨b,0,none⟩) ts.length m0,.int .i64 nx]:=hX.below hBW5 (by omega)
        have e1:=DB.c0
        have e2':=DB.c1
        rw [List.length_map] at e1 e2'
        refine g0e a5 W5 _ F5.sz F5.df (v3 F15 (by simp)) (v8 F15 (by simp)) (v9 F15 (by simp)) (v12 F15 (by simp)) e13 (hX5.cell0 0) e1 e2' DB.c2 DB.f2 (by omega) (by omega) (by omega) ?_
        intro a6 F6
        have F16:=F15.trans F6
        obtain ⟨f3,hf3,hn3,hg3⟩:=e7v own5 (fun x hx => by
          rcases c6w d [] d' hkeep x hx with h | h
          · simp at h
          · exact hdm x h)
        obtain ⟨fp',p1,p2,p3⟩:=put (b8e d') _ f3 rfl hf3 hn3 (fun q hq hq' => by have:=hg3 q hq; have:=hlt q hq'; omega)
        have hg3B:B0 ≤ g3:=hge _ DB.bp.2.2
        have hBW6:Below B0 W (W5.setCell ⟨g3,c,none⟩ (.slice y0' y1' y2')):=(hBW5.mono hsz).setCell (p:=⟨g3,c,none⟩) hg3B _
        have hw:IntKind.i64.wrap ((k:Int) + 1) = (k:Int) + 1:=c8a (by unfold maxLen at q5; omega)
        refine f9v a6 _ _ F6.sz F6.df hw (v12 F16 (by simp)) ?_
        intro a7 F7 e12
        have F17:=F16.trans F7
        have hsz6:(W5.setCell ⟨g3,c,none⟩ (.slice y0' y1' y2')).heap.size = W5.heap.size:=by simp
        have hset:a3t (ts.set i (t.set k (rw0.1,rw0.2.set c d'))) = .lst 1 ((ts.map b6b).set i (.lst 2 ((t.map d1c).set k (.agg [.int .i64 rw0.1,.lst 1 ((rw0.2.map b8e).set c (b8e d'))])))):=by
          simp [a3t,b6b,d1c,List.map_set]
        refine f2n hN3 hpl n (k + 1) _ fp' a7 _ (t.set k (rw0.1,rw0.2.set c d')) hk (by rw [List.getElem?_set_self hil]) (by rw [List.length_set]; omega) F7.sz F7.df (by rw [hset]; exact p1) p2
          (fun q hq => (p3 q hq).elim (hge q) (fun h => by have:=hg3 q h; omega)) (by omega) (hX.below hBW6 hN3) (v3 F17 (by simp)) (v8 F17 (by simp)) (v9 F17 (by simp)) (v11 F17 (by simp)) e12 (fun bb n0 mm hbb => ?_) ?_
        · obtain ⟨rfl,-,-⟩:b = bb ∧ ts.length = n0 ∧ m0 = mm:=by simpa using hbb
          rw [World.cell?_setCell_far _ _ _ _ (by simpa using DB.ne.1)]
          exact (hBW5.cell (p:=⟨b,f,none⟩) (hlt _ q4)).trans (hth b ts.length m0 rfl)
        · intro a' W' fp'' F8 k1 k2 k3 k4 k5
          exact hQ a' W' fp'' ((F17.trans F8).mono (by simp)) k1 k2 k3 (hBW6.trans k4) k5
    · simp only [decide_eq_false_iff_not] at h; omega
end Go.R
end
section
set_option linter.all false
namespace Go.R
open Go Go.Proofs Go.RowKit
set_option maxHeartbeats 1000000
structure e1o where
  nm:List UInt8
  kd:Int
  q2:Int
  q3:Int
  q4:Int
  q5:Int
  rf:List UInt8
  st:Bool
structure b7i where
  nm:List UInt8
  cols:List e1o
  uq:List Int
  root:Bool
def eCol (c:e1o):AV:=.agg [.str c.nm,.int .i64 c.kd,.int .i64 c.q2,.int .i64 c.q3,.int .i64 c.q4,.int .i64 c.q5,.str c.rf,.bool c.st]
def eTb (t:b7i):AV:=.agg [.str t.nm,.lst 8 (t.cols.map eCol),.lst 1 (t.uq.map (AV.int .i64)),.bool t.root]
def c2f (ss:List b7i):AV:=.agg [.lst 4 (ss.map eTb)]
theorem f6l {m:Bool} {w:World} {sz k:Nat} {l:List AV} {x:AV} {v:Value} {fp:List Nat} (h:Rep m w (.lst sz l) [v] fp) (hk:l[k]? = some x) :
    ∃ b off c cur e fz fx,v = .slice (some ⟨b,off,none⟩) l.length c ∧ l.length ≤ maxLen ∧ w.heap[b]? = some (.cells cur e fz) ∧ b ∈ fp ∧ (∀ q ∈ fx,q ∈ fp) ∧ Rep m w x ((cur.toList.drop (off + k * sz)).take sz) fx:=by
  obtain ⟨hkl,rfl⟩:=List.getElem?_eq_some_iff.1 hk
  rw [Rep] at h
  rcases h with ⟨h1,_⟩ | ⟨b,off,cap,cur,e,fz,fps,h1,h2,h3,h4,h5,rfl,h7,h8⟩
  · subst h1; simp at hkl
  · simp only [List.cons.injEq,and_true] at h1
    subst h1
    obtain ⟨fa,fb,rfl,ra,rb⟩:=h8.split k
    rw [List.drop_eq_getElem_cons hkl,a0a] at rb
    obtain ⟨fx,fc,-,q1,q2,rfl⟩:=rb
    refine ⟨b,off,cap,cur,e,fz,fx,rfl,by omega,h4,by simp,fun q hq => by simp [hq],?_⟩
    rw [List.drop_drop] at q1
    exact q1
theorem c2u {w:World} {b off k j:Nat} {cur:Array Value} {e:TypeId} {fz:Nat × Nat} {sz:Nat} {u:Value} {l:List Value} (hb:w.heap[b]? = some (.cells cur e fz)) (h:(cur.toList.drop (off + k * sz)).take sz = l) (hj:l[j]? = some u):w.cell? ⟨b,off + k * sz + j,none⟩ = some u:=by
  have h0:((cur.toList.drop (off + k * sz)).take sz)[j]? = some u:=by rw [h]; exact hj
  rw [List.getElem?_take] at h0
  split at h0
  · rw [List.getElem?_drop,Array.getElem?_toList] at h0
    simp [World.cell?,hb,h0]
  · cases h0
theorem e7w {w:World} {ss:List b7i} {sv:Value} {fs:List Nat} {i:Nat} {s:b7i} (h:Rep false w (.lst 4 (ss.map eTb)) [sv] fs) (hi:ss[i]? = some s) :
    ∃ b os m0 og m1 f1,sv = .slice (some ⟨b,os,none⟩) ss.length m0 ∧ b ∈ fs ∧ w.cell? ⟨b,os + i * 4 + 1,none⟩ = some (.slice og s.cols.length m1) ∧ w.cell? ⟨b,os + i * 4 + 3,none⟩ = some (.bool s.root) ∧ Rep false w (.lst 8 (s.cols.map eCol)) [.slice og s.cols.length m1] f1 ∧ (∀ q ∈ f1,q ∈ fs) ∧ s.cols.length ≤ maxLen:=by
  obtain ⟨b,off,c,cur,e,fz,fx,rfl,k1,k2,k3,k4,k5⟩:=f6l h (k:=i) (x:=eTb s) (by rw [List.getElem?_map,hi]; rfl)
  unfold eTb at k5
  simp only [Rep,a0b] at k5
  obtain ⟨c1,r1,p1,q1,hcs,-,-,⟨c2,r2,p2,q2,rfl,-,h2,⟨c3,r3,p3,q3,rfl,-,-,⟨c4,r4,p4,q4,rfl,-,⟨rfl',rfl⟩,⟨rfl,rfl⟩,rfl⟩,rfl⟩,rfl⟩,rfl⟩:=k5
  have h2':Rep false w (.lst 8 (s.cols.map eCol)) [c2] p2:=by rw [Rep]; exact h2
  simp only [List.cons.injEq,and_true] at rfl'
  subst rfl'
  obtain ⟨o,c',rfl,hl⟩:=b3z h2'
  rw [List.length_map] at *
  exact ⟨b,off,c,o,c',p2,rfl,k3,c2u k2 hcs rfl,c2u k2 hcs rfl,h2',fun q hq => k4 q (by simp [hq]),hl⟩
theorem f4d {w:World} {cs:List e1o} {v:Value} {fs:List Nat} {c:Nat} {col:e1o} (h:Rep false w (.lst 8 (cs.map eCol)) [v] fs) (hi:cs[c]? = some col) :
    ∃ g og m1,v = .slice (some ⟨g,og,none⟩) cs.length m1 ∧ g ∈ fs ∧ w.cell? ⟨g,og + c * 8,none⟩ = some (.string ⟨col.nm.toArray⟩) ∧ w.cell? ⟨g,og + c * 8 + 1,none⟩ = some (.int .i64 col.kd) ∧ w.cell? ⟨g,og + c * 8 + 2,none⟩ = some (.int .i64 col.q2) ∧ w.cell? ⟨g,og + c * 8 + 3,none⟩ = some (.int .i64 col.q3) ∧ w.cell? ⟨g,og + c * 8 + 4,none⟩ = some (.int .i64 col.q4) ∧ w.cell? ⟨g,og + c * 8 + 5,none⟩ = some (.int .i64 col.q5) ∧ w.cell? ⟨g,og + c * 8 + 6,none⟩ = some (.string ⟨col.rf.toArray⟩) ∧ w.cell? ⟨g,og + c * 8 + 7,none⟩ = some (.bool col.st) ∧ col.rf.length ≤ maxLen:=by
  obtain ⟨b,off,m,cur,e,fz,fx,rfl,k1,k2,k3,k4,k5⟩:=f6l h (k:=c) (x:=eCol col) (by rw [List.getElem?_map,hi]; rfl)
  unfold eCol at k5
  simp only [Rep,a0b] at k5
  obtain ⟨c0,r0,p0,q0,hcs,-,⟨z0,-,-⟩,⟨c1,r1,p1,q1,rfl,-,⟨z1,-⟩,⟨c2,r2,p2,q2,rfl,-,⟨z2,-⟩,⟨c3,r3,p3,q3,rfl,-,⟨z3,-⟩,⟨c4,r4,p4,q4,rfl,-,⟨z4,-⟩,⟨c5,r5,p5,q5,rfl,-,⟨z5,-⟩,⟨c6,r6,p6,q6,rfl,-,⟨z6,hl,-⟩,⟨c7,r7,p7,q7,rfl,-,⟨z7,-⟩,⟨rfl,-⟩,-⟩,-⟩,-⟩,-⟩,-⟩,-⟩,-⟩,-⟩:=k5
  simp only [List.cons.injEq,and_true] at z0 z1 z2 z3 z4 z5 z6 z7
  subst z0 z1 z2 z3 z4 z5 z6 z7
  rw [List.length_map] at *
  exact ⟨b,off,m,rfl,k3,c2u (j:=0) k2 hcs rfl,c2u k2 hcs rfl,c2u k2 hcs rfl,c2u k2 hcs rfl,c2u k2 hcs rfl,c2u k2 hcs rfl,c2u k2 hcs rfl,c2u k2 hcs rfl,hl⟩
def b7b (fnd:List UInt8 → Option Int) (fpl:List a1n → Int → Option Int) (i:Nat):List e1o → Nat → List (List a1n) → Option (List (List a1n))
  | [],_,ts => some ts
  | col :: cs,c,ts => if (decide (col.kd ≠ 4) || col.st) = true then b7b fnd fpl i cs (c + 1) ts else
    (fnd col.rf).bind fun f => if 0 ≤ f ∧ f < (ts.length:Int) then (ts[i]?).bind fun t => (b7a fpl i c f.toNat t.length 0 ts).bind fun ts' => b7b fnd fpl i cs (c + 1) ts' else none
noncomputable def bodyC:Code:=.seq (.seq (R 19 false) (.cond (.tmp 80) .skip (.exit 8))) (.seq (.block 9 (.seq (R 21 false) (.seq (.seq (R 22 false) (.cond (.tmp 98) (.exit 9) .skip)) (.seq (R 23 true) (.seq (R 24 false) (.block 10 (.loop bodyK))))))) (R 20 false))
theorem e7x {fnd:List UInt8 → Option Int} {ss:List b7i} (hfnd:∀ rf f,fnd rf = some f → a0v Tryz.prog 182 .flat [c2f ss,.str rf] (.int .i64 f)) {W:World} {sv:Value} {fs:List Nat} (hS:Rep false W (.lst 4 (ss.map eTb)) [sv] fs) {rf:List UInt8} {f:Int} (h:fnd rf = some f) (hl:rf.length ≤ maxLen) :
    Calls Tryz.prog 182 #[.agg #[sv],.string ⟨rf.toArray⟩] W fun e w' => e = .returned (.int .i64 f) ∧ Below W.heap.size W w':=by
  refine (hfnd rf f h W [.agg #[sv],.string ⟨rf.toArray⟩] fs ?_).mono ?_
  · simp only [a0x]
    refine ⟨[sv],_,fs,[],rfl,?_,⟨[.string ⟨rf.toArray⟩],[],[],[],rfl,by simp [Rep,hl],⟨rfl,rfl⟩,rfl⟩,by simp⟩
    unfold c2f
    rw [Rep,a0b]
    exact ⟨sv,[],fs,[],rfl,rfl,hS,by rw [a0b]; exact ⟨rfl,rfl⟩,by simp⟩
  · intro ev w' hh
    cases ev with
    | returned u =>
      obtain ⟨g1,cs,rfl,g2⟩:=hh
      simp only [Rep] at g2
      obtain ⟨rfl,-⟩:=g2
      exact ⟨rfl,g1⟩
    | panicked _ => exact hh.elim
    | outgrown => exact hh.elim
theorem d1e {fpl:List a1n → Int → Option Int} {i c f:Nat}:∀ (n k:Nat) (ts r:List (List a1n)),b7a fpl i c f n k ts = some r → r.length = ts.length
  | 0,k,ts,r,h => by simp only [b7a,Option.some.injEq] at h; rw [h]
  | n + 1,k,ts,r,h => by
    simp only [b7a,Option.bind_eq_some_iff] at h
    obtain ⟨rows,_,r0,_,d,_,there,_,d',_,h⟩:=h
    rw [d1e n _ _ r h,List.length_set]
theorem f2o {Q:Exit → Act → World → Prop} (hP:∀ c a (d:Tmp) v w,Q (.panic c) (a.put (some d) v) w → Q (.panic c) a w) {B0 N2 N3 i:Nat} {v sv:Value} {nx:Int} {ss:List b7i} {s:b7i} {fs:List Nat} {fnd:List UInt8 → Option Int} {fpl:List a1n → Int → Option Int} {r:List (List a1n)} (hN2:N2 < B0) (hN3:N3 < B0) (hfs:∀ q ∈ fs,q < B0) (hs:ss[i]? = some s)
    (hpl:∀ rows N p,fpl rows N = some p → a0v Tryz.prog 86 .flat [b6b rows,.int .i64 N] (.int .i64 p))
    (hfnd:∀ rf f,fnd rf = some f → a0v Tryz.prog 182 .flat [c2f ss,.str rf] (.int .i64 f)) :
    ∀ (cs:List e1o) (c:Nat) (ts:List (List a1n)) (fp:List Nat) (a:Act) (W:World),s.cols.drop c = cs → b7b fnd fpl i cs c ts = some r → i < ts.length → a.tmps.size = 164 → a.defers = [] →
      Rep true W (a3t ts) [v] fp → fp.Nodup → (∀ q ∈ fp,B0 ≤ q) → B0 ≤ W.heap.size → Bx W N3 29 #[v,.int .i64 nx] → Bx W N2 25 #[sv] → Rep false W (.lst 4 (ss.map eTb)) [sv] fs →
      a.eval (.tmp 2) = .pointer (some ⟨N2,0,none⟩) → a.eval (.tmp 3) = .pointer (some ⟨N3,0,none⟩) → a.eval (.tmp 8) = .int .i64 i → a.eval (.tmp 9) = .int .i64 c →
      (∀ a' W' fp',Fr 16 164 [9,10,11,12,13,14,15] a a' → Rep true W' (a3t r) [v] fp' → fp'.Nodup → (∀ q ∈ fp',B0 ≤ q) → Below B0 W W' → B0 ≤ W'.heap.size → r.length = ts.length → Q (.exit 8) a' W') → Code.rounds Tryz.prog bodyC Q (cs.length + 1) a W
  | [],c,ts,fp,a,W,hd,hk,hil,sz,df,hR,nd,hge,hsz,hX,hXs,hS,s2,s3,s8,s9,hQ => by
    have hc:s.cols.length ≤ c:=List.drop_eq_nil_iff.1 hd
    obtain ⟨b,os,m0,og,m1,f1,rfl,k0,k1,k2,k3,k4,k5⟩:=e7w hS hs
    rw [rounds_succ]
    unfold bodyC
    refine wp_seq (wp_seq (f6i a W _ sz df (hXs.cell0 0) k1 (by have:=(List.getElem?_eq_some_iff.1 hs).1; omega) s2 s8 s9 ?_))
    intro a1 F1 e1
    refine wp_cond_split e1 (fun h => ?_) (fun h => ?_)
    · simp only [decide_eq_true_eq] at h; omega
    · simp only [b7b,Option.some.injEq] at hk
      subst hk
      refine wp_exit ?_
      exact hQ a1 W fp (F1.mono (by simp)) hR nd hge (Below.refl _ _) hsz rfl
  | col :: cs,c,ts,fp,a,W,hd,hk,hil,sz,df,hR,nd,hge,hsz,hX,hXs,hS,s2,s3,s8,s9,hQ => by
    have hc:c < s.cols.length:=by
      rcases Nat.lt_or_ge c s.cols.length with h | h
      · exact h
      · rw [List.drop_eq_nil_iff.2 h] at hd; cases hd
    rw [List.drop_eq_getElem_cons hc] at hd
    simp only [List.cons.injEq] at hd
    obtain ⟨hx,hd⟩:=hd
    have hcol:s.cols[c]? = some col:=by rw [List.getElem?_eq_getElem hc,hx]
    obtain ⟨b,os,m0,og,m1,f1,hsv,k0,k1,k2,k3,k4,k5⟩:=e7w hS hs
    subst hsv
    have hiss:i < ss.length:=(List.getElem?_eq_some_iff.1 hs).1
    rw [List.length_cons,rounds_succ]
    unfold bodyC
    refine wp_seq (wp_seq (f6i a W _ sz df (hXs.cell0 0) k1 (by omega) s2 s8 s9 ?_))
    intro a1 F1 e1
    refine wp_cond_split e1 (fun h => ?_) (fun h => ?_)
    · refine wp_skip ?_
      obtain ⟨g,ogg,m2,hg,y0,d0,d1,d2,d3,d4,d5,d6,d7,hrl⟩:=f4d k3 hcol
      obtain ⟨rfl,rfl⟩:og = some ⟨g,ogg,none⟩ ∧ m1 = m2:=by simpa using hg
      have v2:=fun {ws:List Nat} {x:Act} (h:Fr 16 164 ws a x) (hw:2 ∉ ws) => (h.same 2 (by decide) hw).trans s2
      have v3:=fun {ws:List Nat} {x:Act} (h:Fr 16 164 ws a x) (hw:3 ∉ ws) => (h.same 3 (by decide) hw).trans s3
      have v8:=fun {ws:List Nat} {x:Act} (h:Fr 16 164 ws a x) (hw:8 ∉ ws) => (h.same 8 (by decide) hw).trans s8
      have v9:=fun {ws:List Nat} {x:Act} (h:Fr 16 164 ws a x) (hw:9 ∉ ws) => (h.same 9 (by decide) hw).trans s9
      have hw:IntKind.i64.wrap ((c:Int) + 1) = (c:Int) + 1:=c8a (by unfold maxLen at k5; omega)
      have hlt:=Rep.lt _ _ _ hR
      have hlts:=Rep.lt _ _ _ hS
      -- behind the block: the next column
      have next:∀ (ts':List (List a1n)) (fp':List Nat) (a5:Act) (W5:World),Fr 16 164 [10,11,12,13,14,15] a a5 → b7b fnd fpl i cs (c + 1) ts' = some r → ts'.length = ts.length → Rep true W5 (a3t ts') [v] fp' → fp'.Nodup → (∀ q ∈ fp',B0 ≤ q) → Below B0 W W5 → B0 ≤ W5.heap.size →
          (R 20 false).wp Tryz.prog (Exit.then (Code.rounds Tryz.prog bodyC Q (cs.length + 1)) Q) a5 W5:=by
        intro ts' fp' a5 W5 F5 hk' hlen hR5 nd5 hge5 hB5 hs5
        refine f9w a5 W5 _ F5.sz F5.df hw (v9 F5 (by simp)) ?_
        intro a6 F6 e9
        have F56:=F5.trans F6
        refine f2o hP hN2 hN3 hfs hs hpl hfnd cs (c + 1) ts' fp' a6 W5 hd hk' (by omega) F6.sz F6.df hR5 nd5 hge5 hs5 (hX.below hB5 hN3) (hXs.below hB5 hN2) (Rep.world _ _ _ (fun q hq => hB5.block q (hfs q hq)) hS) (v2 F56 (by simp)) (v3 F56 (by simp)) (v8 F56 (by simp)) e9 ?_
        intro a' W' fp'' F7 z1 z2 z3 z4 z5 z6
        exact hQ a' W' fp'' ((F56.trans F7).mono (by simp)) z1 z2 z3 (hB5.trans z4) z5 (by omega)
      refine wp_seq (wp_block (wp_seq (g0i a1 W _ F1.sz F1.df (hXs.cell0 0) k1 (by omega) (by omega) d0 d1 d2 d3 d4 d5 d6 d7 (v2 F1 (by simp)) (v8 F1 (by simp)) (v9 F1 (by simp)) ?_)))
      intro a2 W2 F2 e10 hC hB2
      have F12:=F1.trans F2
      have hB02:Below B0 W W2:=hB2.mono hsz
      have hs2:B0 ≤ W2.heap.size:=Nat.le_trans hsz hB2.size
      have hR2:Rep true W2 (a3t ts) [v] fp:=Rep.world _ _ _ (fun q hq => hB2.block q (hlt q hq)) hR
      refine wp_seq (wp_seq (g0j a2 W2 _ F2.sz F2.df (hC.cell0 1) (hC.cell0 7) e10 ?_))
      intro a3 F3 e98
      have F13:=F12.trans F3
      refine wp_cond_split e98 (fun hcc => ?_) (fun hcc => ?_)
      · refine wp_exit ?_
        simp only [b7b] at hk
        rw [if_pos hcc] at hk
        simp only [Exit.then,Exit.inBlock,if_true]
        exact next ts fp a3 W2 (F13.mono (by simp)) hk rfl hR2 nd hge hB02 hs2
      · simp only [b7b] at hk
        rw [if_neg (by rw [hcc]; exact Bool.false_ne_true)] at hk
        cases hf:fnd col.rf with
        | none => rw [hf] at hk; cases hk
        | some f =>
        rw [hf,Option.bind_some] at hk
        split at hk
        · rename_i hfl
          obtain ⟨t,ht⟩:∃ t,ts[i]? = some t:=⟨_,List.getElem?_eq_getElem hil⟩
          rw [ht,Option.bind_some] at hk
          cases hK:b7a fpl i c f.toNat t.length 0 ts with
          | none => rw [hK] at hk; cases hk
          | some ts' =>
          rw [hK,Option.bind_some] at hk
          refine wp_skip ?_
          obtain ⟨fn,hfn⟩:∃ fn:Nat,f = (fn:Int):=⟨f.toNat,by omega⟩
          subst hfn
          simp only [Int.toNat_natCast] at hK
          have hfl2:fn < ts.length:=by omega
          obtain ⟨there,hth⟩:∃ t,ts[fn]? = some t:=⟨_,List.getElem?_eq_getElem hfl2⟩
          obtain ⟨bx,mx,ogx,m1x,fx,hv,x1,x2,x3,x4,x5,x6⟩:=d1d hR2 nd hth
          subst hv
          have hX2:Bx W2 N3 29 #[.slice (some ⟨bx,0,none⟩) ts.length mx,.int .i64 nx]:=hX.below hB02 hN3
          have hXs2:Bx W2 N2 25 #[.slice (some ⟨b,os,none⟩) ss.length m0]:=hXs.below hB02 hN2
          have hS2:=Rep.world (w':=W2) _ _ _ (fun q hq => hB02.block q (hfs q hq)) hS
          have hlt2:=Rep.lt _ _ _ hR2
          refine wp_seq (g0n a3 W2 _ F3.sz F3.df (fun cc aa dd vv ww hh => hP cc aa dd vv ww hh) (R:=fun w' => Below W2.heap.size W2 w') (v2 F13 (by simp)) (v3 F13 (by simp)) (F3.u e10) (hX2.cell0 0) (hXs2.cell0 0) (hC.cell0 6) x1 (by omega) ((e7x hfnd (W:=W2.drew) (Rep.world (w:=W2) _ _ _ (fun _ _ => rfl) hS2) hf hrl).mono ?_) ?_)
          · rintro e w' ⟨rfl,hb⟩
            have hb':Below W2.heap.size W2 w':=(Below.refl _ W2).drew.trans hb
            exact ⟨rfl,⟨(hb'.cell (p:=⟨N3,0,none⟩) (by show N3 < _; omega)).trans (hX2.cell0 0),(hb'.cell (p:=⟨N2,0,none⟩) (by show N2 < _; omega)).trans (hXs2.cell0 0),(hb'.cell (p:=⟨W.heap.size,6,none⟩) hC.lt).trans (hC.cell0 6),(hb'.cell (p:=⟨bx,fn,none⟩) (hlt2 _ x4)).trans x1⟩,hb'⟩
          · intro a4 W4 hB4 F4 e11
            have F14:=F13.trans F4
            have hB04:Below B0 W W4:=hB02.trans (hB4.mono hs2)
            have hs4:B0 ≤ W4.heap.size:=Nat.le_trans hs2 hB4.size
            have hR4:Rep true W4 (a3t ts) [.slice (some ⟨bx,0,none⟩) ts.length mx] fp:=Rep.world _ _ _ (fun q hq => hB4.block q (hlt2 q hq)) hR2
            refine wp_seq (g0c a4 W4 _ F4.sz F4.df ?_)
            intro a5 F5 e12
            have F15:=F14.trans F5
            refine wp_block (wp_loop_rounds _ (f2n (B0:=B0) (i:=i) (c:=c) (f:=fn) (r:=ts') (nx:=nx) hN3 hpl t.length 0 ts fp a5 W4 t hK ht (by omega) F5.sz F5.df hR4 nd hge hs4 (hX.below hB04 hN3) (v3 F15 (by simp)) (v8 F15 (by simp)) (v9 F15 (by simp)) (F5.u e11) e12 (fun bb n0 mm hbb => ?_) ?_))
            · obtain ⟨rfl,-,-⟩:bx = bb ∧ ts.length = n0 ∧ mx = mm:=by simpa using hbb
              exact (hB4.cell (p:=⟨bx,fn,none⟩) (hlt2 _ x4)).trans x1
            · intro a6 W6 fp6 F6 w1 w2 w3 w4 w5
              simp only [Exit.inBlock,Exit.then,if_true]
              exact next ts' fp6 a6 W6 ((F15.trans F6).mono (by simp)) hk (d1e _ _ _ _ hK) w1 w2 w3 (hB04.trans w4) w5
        · cases hk
    · simp only [decide_eq_false_iff_not] at h; omega
end Go.R
end
section
set_option linter.all false
namespace Go.R
open Go Go.Proofs Go.RowKit
set_option maxRecDepth 100000
set_option maxHeartbeats 8000000
theorem e87 (args:Array Value) (w:World):(callFunc 87 args).run Tryz.prog w = .ok (.enter 87 args) w:=enters_of Tryz.func87 (by kernel_rfl) rfl _ _
theorem a9a {P:Program} {ops:Array Oper} {Q:Exit → Act → World → Prop} {md:Region.Mode} {S:World → Prop} {fuel:Nat} {listed:Array Bool} {A:Act} {w:World} (C:Act → Prop) (hA:C A) (h:∀ x,C x → wpAnyH P md ops Q S fuel listed x w):wpAnyH P md ops Q S fuel listed A w:=h A hA
theorem f6m (a:Act) (W:World) (Q:Exit → Act → World → Prop) (sz:a.tmps.size = 164) (df:a.defers = []) (hQ:∀ c a (d:Tmp) v w,Q (.panic c) (a.put (some d) v) w → Q (.panic c) a w) {N2 N3 bs os ns ms b n0 m0 g n1 m1 i k:Nat} {nx id cnt:Int} {rt:Bool} {R:World → Prop} (hrt:rt = true)
    (s2:a.eval (.tmp 2) = .pointer (some ⟨N2,0,none⟩)) (s3:a.eval (.tmp 3) = .pointer (some ⟨N3,0,none⟩)) (s6:a.eval (.tmp 6) = .int .i64 i) (s7:a.eval (.tmp 7) = .int .i64 k)
    (hS0:W.cell? ⟨N2,0,none⟩ = some (.slice (some ⟨bs,os,none⟩) ns ms) ∧ W.cell? ⟨bs,os + i * 4 + 3,none⟩ = some (.bool rt) ∧ W.cell? ⟨N3,0,none⟩ = some (.slice (some ⟨b,0,none⟩) n0 m0) ∧ W.cell? ⟨N3,1,none⟩ = some (.int .i64 nx) ∧ W.cell? ⟨b,i,none⟩ = some (.slice (some ⟨g,0,none⟩) n1 m1) ∧ W.cell? ⟨g,k * 2,none⟩ = some (.int .i64 id)) (h1:(i:Int) < (ns:Int))
    (hK:∀ a',Fr 16 164 [] a a' → a'.eval (.tmp 58) = .bool false → Q .normal a' W.drew):(Code.region 11 (opsP 11) true).wp Tryz.prog Q a W:=by
  have mixed:Tryz.prog.follows .mixedOrders = true:=by kernel_rfl
  unfold opsP Tryz.f108
  simp only [Option.bind_some,c0i,Nat.reduceEqDiff,reduceIte,Option.none_or,Option.or_none,Option.some_or,Option.getD_some,reduceCtorEq]
  have t2:=a0f sz s2
  have t3:=a0f sz s3
  have t6:=a0f sz s6
  have t7:=a0f sz s7
  refine wp_region_held (S:=fun w' => w'.cell? ⟨N2,0,none⟩ = some (.slice (some ⟨bs,os,none⟩) ns ms) ∧ w'.cell? ⟨bs,os + i * 4 + 3,none⟩ = some (.bool rt) ∧ w'.cell? ⟨N3,0,none⟩ = some (.slice (some ⟨b,0,none⟩) n0 m0) ∧ w'.cell? ⟨N3,1,none⟩ = some (.int .i64 nx) ∧ w'.cell? ⟨b,i,none⟩ = some (.slice (some ⟨g,0,none⟩) n1 m1) ∧ w'.cell? ⟨g,k * 2,none⟩ = some (.int .i64 id)) mixed ?_
  change wpAnyH _ _ _ _ _ _ _ _ W.drew
  replace hS0:(fun w':World => w'.cell? ⟨N2,0,none⟩ = some (.slice (some ⟨bs,os,none⟩) ns ms) ∧ w'.cell? ⟨bs,os + i * 4 + 3,none⟩ = some (.bool rt) ∧ w'.cell? ⟨N3,0,none⟩ = some (.slice (some ⟨b,0,none⟩) n0 m0) ∧ w'.cell? ⟨N3,1,none⟩ = some (.int .i64 nx) ∧ w'.cell? ⟨b,i,none⟩ = some (.slice (some ⟨g,0,none⟩) n1 m1) ∧ w'.cell? ⟨g,k * 2,none⟩ = some (.int .i64 id)) W.drew:=hS0
  refine tkx 0 (.pointer (some ⟨N2,0,none⟩)) ?_ hS0
  refine tkx 1 (.slice (some ⟨bs,os,none⟩) ns ms) ?_ hS0
  refine tkx 2 (.int .i64 i) ?_ hS0
  refine tkx 3 (.pointer (some ⟨bs,os + i * 4,none⟩)) ?_ hS0
  refine a9a (C:=fun x => Fr 16 164 [] a x ∧ x.eval (.tmp 39) = .pointer (some ⟨bs,os + i * 4,none⟩)) ⟨?_,?_⟩ ?_
  · exact fP
  · simp [Act.eval,Act.put,sz]
  rintro a1 ⟨F1,e1_39⟩
  have sz1:=F1.sz
  have t1_39:=a0f sz1 e1_39
  have t1_2:=a0f sz1 (F1.u s2)
  have t1_3:=a0f sz1 (F1.u s3)
  have t1_6:=a0f sz1 (F1.u s6)
  have t1_7:=a0f sz1 (F1.u s7)
  refine tkx 4 (.pointer (some ⟨bs,os + i * 4 + 3,none⟩)) ?_ hS0
  refine tkx 5 (.bool rt) ?_ hS0
  refine tkx 6 (.bool (!rt)) ?_ hS0
  refine tkx 7 (.bool (!rt)) ?_ hS0
  refine a9a (C:=fun x => Fr 16 164 [] a x ∧ x.eval (.tmp 43) = .bool (!rt)) ⟨?_,?_⟩ ?_
  · repeat refine Fr.put ?_ (by decide)
    exact F1
  · simp [Act.eval,Act.put,sz1,t1_39]
  rintro a2 ⟨F2,e2_43⟩
  have sz2:=F2.sz
  have t2_43:=a0f sz2 e2_43
  have t2_2:=a0f sz2 (F2.u s2)
  have t2_3:=a0f sz2 (F2.u s3)
  have t2_6:=a0f sz2 (F2.u s6)
  have t2_7:=a0f sz2 (F2.u s7)
  have u2:a2.tmps[43]? = some (.bool (!rt)):=by rw [Array.getElem?_eq_getElem (by rw [sz2]; decide),t2_43]
  refine wpAnyH_take (i:=8) (v:=undef) rfl (by kernel_rfl) (by kernel_rfl) (by kernel_rfl) (fun c a w h => hQ c a _ _ w h) (Or.inr ⟨by simp [Region.wanted,yielded,Act.put,sz2,t2_43,hrt],rfl⟩) hS0 ?_
  refine wpAnyH_take (i:=9) (v:=undef) rfl (by kernel_rfl) (by kernel_rfl) (by kernel_rfl) (fun c a w h => hQ c a _ _ w h) (Or.inr ⟨by simp [Region.wanted,yielded,Act.put,sz2,t2_43,hrt],rfl⟩) hS0 ?_
  refine wpAnyH_take (i:=10) (v:=undef) rfl (by kernel_rfl) (by kernel_rfl) (by kernel_rfl) (fun c a w h => hQ c a _ _ w h) (Or.inr ⟨by simp [Region.wanted,yielded,Act.put,sz2,t2_43,hrt],rfl⟩) hS0 ?_
  refine wpAnyH_take (i:=11) (v:=undef) rfl (by kernel_rfl) (by kernel_rfl) (by kernel_rfl) (fun c a w h => hQ c a _ _ w h) (Or.inr ⟨by simp [Region.wanted,yielded,Act.put,sz2,t2_43,hrt],rfl⟩) hS0 ?_
  refine a9a (C:=fun x => Fr 16 164 [] a x ∧ x.eval (.tmp 43) = .bool (!rt)) ⟨?_,?_⟩ ?_
  · repeat refine Fr.put ?_ (by decide)
    exact F2
  · simp [Act.eval,Act.put,sz2,t2_43]
  rintro a3 ⟨F3,e3_43⟩
  have sz3:=F3.sz
  have t3_43:=a0f sz3 e3_43
  have t3_2:=a0f sz3 (F3.u s2)
  have t3_3:=a0f sz3 (F3.u s3)
  have t3_6:=a0f sz3 (F3.u s6)
  have t3_7:=a0f sz3 (F3.u s7)
  have u3:a3.tmps[43]? = some (.bool (!rt)):=by rw [Array.getElem?_eq_getElem (by rw [sz3]; decide),t3_43]
  refine wpAnyH_take (i:=12) (v:=undef) rfl (by kernel_rfl) (by kernel_rfl) (by kernel_rfl) (fun c a w h => hQ c a _ _ w h) (Or.inr ⟨by simp [Region.wanted,yielded,Act.put,sz3,t3_43,hrt],rfl⟩) hS0 ?_
  refine wpAnyH_take (i:=13) (v:=undef) rfl (by kernel_rfl) (by kernel_rfl) (by kernel_rfl) (fun c a w h => hQ c a _ _ w h) (Or.inr ⟨by simp [Region.wanted,yielded,Act.put,sz3,t3_43,hrt],rfl⟩) hS0 ?_
  refine wpAnyH_take (i:=14) (v:=undef) rfl (by kernel_rfl) (by kernel_rfl) (by kernel_rfl) (fun c a w h => hQ c a _ _ w h) (Or.inr ⟨by simp [Region.wanted,yielded,Act.put,sz3,t3_43,hrt],rfl⟩) hS0 ?_
  refine wpAnyH_take (i:=15) (v:=undef) rfl (by kernel_rfl) (by kernel_rfl) (by kernel_rfl) (fun c a w h => hQ c a _ _ w h) (Or.inr ⟨by simp [Region.wanted,yielded,Act.put,sz3,t3_43,hrt],rfl⟩) hS0 ?_
  refine a9a (C:=fun x => Fr 16 164 [] a x ∧ x.eval (.tmp 43) = .bool (!rt)) ⟨?_,?_⟩ ?_
  · repeat refine Fr.put ?_ (by decide)
    exact F3
  · simp [Act.eval,Act.put,sz3,t3_43]
  rintro a4 ⟨F4,e4_43⟩
  have sz4:=F4.sz
  have t4_43:=a0f sz4 e4_43
  have t4_2:=a0f sz4 (F4.u s2)
  have t4_3:=a0f sz4 (F4.u s3)
  have t4_6:=a0f sz4 (F4.u s6)
  have t4_7:=a0f sz4 (F4.u s7)
  have u4:a4.tmps[43]? = some (.bool (!rt)):=by rw [Array.getElem?_eq_getElem (by rw [sz4]; decide),t4_43]
  refine wpAnyH_take (i:=16) (v:=undef) rfl (by kernel_rfl) (by kernel_rfl) (by kernel_rfl) (fun c a w h => hQ c a _ _ w h) (Or.inr ⟨by simp [Region.wanted,yielded,Act.put,sz4,t4_43,hrt],rfl⟩) hS0 ?_
  refine wpAnyH_take (i:=17) (v:=undef) rfl (by kernel_rfl) (by kernel_rfl) (by kernel_rfl) (fun c a w h => hQ c a _ _ w h) (Or.inr ⟨by simp [Region.wanted,yielded,Act.put,sz4,t4_43,hrt],rfl⟩) hS0 ?_
  refine wpAnyH_take (i:=18) (v:=undef) rfl (by kernel_rfl) (by kernel_rfl) (by kernel_rfl) (fun c a w h => hQ c a _ _ w h) (Or.inr ⟨by simp [Region.wanted,yielded,Act.put,sz4,t4_43,hrt],rfl⟩) hS0 ?_
  refine wpAnyH_take (i:=19) (v:=undef) rfl (by kernel_rfl) (by kernel_rfl) (by kernel_rfl) (fun c a w h => hQ c a _ _ w h) (Or.inr ⟨by simp [Region.wanted,yielded,Act.put,sz4,t4_43,hrt],rfl⟩) hS0 ?_
  refine a9a (C:=fun x => Fr 16 164 [] a x ∧ x.eval (.tmp 43) = .bool (!rt)) ⟨?_,?_⟩ ?_
  · repeat refine Fr.put ?_ (by decide)
    exact F4
  · simp [Act.eval,Act.put,sz4,t4_43]
  rintro a5 ⟨F5,e5_43⟩
  have sz5:=F5.sz
  have t5_43:=a0f sz5 e5_43
  have t5_2:=a0f sz5 (F5.u s2)
  have t5_3:=a0f sz5 (F5.u s3)
  have t5_6:=a0f sz5 (F5.u s6)
  have t5_7:=a0f sz5 (F5.u s7)
  have u5:a5.tmps[43]? = some (.bool (!rt)):=by rw [Array.getElem?_eq_getElem (by rw [sz5]; decide),t5_43]
  refine wpAnyH_take (i:=20) (v:=undef) rfl (by kernel_rfl) (by kernel_rfl) (by kernel_rfl) (fun c a w h => hQ c a _ _ w h) (Or.inr ⟨by simp [Region.wanted,yielded,Act.put,sz5,t5_43,hrt],rfl⟩) hS0 ?_
  refine wpAnyH_take (i:=21) (v:=undef) rfl (by kernel_rfl) (by kernel_rfl) (by kernel_rfl) (fun c a w h => hQ c a _ _ w h) (Or.inr ⟨by simp [Region.wanted,yielded,Act.put,sz5,t5_43,hrt],rfl⟩) hS0 ?_
  refine tkx 22 (.bool false) ?_ hS0
  refine wpAnyH_done (by kernel_rfl) ?_ _
  refine hK _ ?_ ?_
  · repeat refine Fr.put ?_ (by decide)
    exact F5
  · simp [b5e,b3y,c0j,sz5]
theorem f6n (a:Act) (W:World) (Q:Exit → Act → World → Prop) (sz:a.tmps.size = 164) (df:a.defers = []) (hQ:∀ c a (d:Tmp) v w,Q (.panic c) (a.put (some d) v) w → Q (.panic c) a w) {N2 N3 bs os ns ms b n0 m0 g n1 m1 i k:Nat} {nx id cnt:Int} {rt:Bool} {R:World → Prop} (hrt:rt = false)
    (s2:a.eval (.tmp 2) = .pointer (some ⟨N2,0,none⟩)) (s3:a.eval (.tmp 3) = .pointer (some ⟨N3,0,none⟩)) (s6:a.eval (.tmp 6) = .int .i64 i) (s7:a.eval (.tmp 7) = .int .i64 k)
    (hS0:W.cell? ⟨N2,0,none⟩ = some (.slice (some ⟨bs,os,none⟩) ns ms) ∧ W.cell? ⟨bs,os + i * 4 + 3,none⟩ = some (.bool rt) ∧ W.cell? ⟨N3,0,none⟩ = some (.slice (some ⟨b,0,none⟩) n0 m0) ∧ W.cell? ⟨N3,1,none⟩ = some (.int .i64 nx) ∧ W.cell? ⟨b,i,none⟩ = some (.slice (some ⟨g,0,none⟩) n1 m1) ∧ W.cell? ⟨g,k * 2,none⟩ = some (.int .i64 id)) (h1:(i:Int) < (ns:Int)) (h2:(i:Int) < (n0:Int)) (h3:(k:Int) < (n1:Int))
    (hc:Calls Tryz.prog 87 #[.agg #[.slice (some ⟨bs,os,none⟩) ns ms],.agg #[.slice (some ⟨b,0,none⟩) n0 m0,.int .i64 nx],.int .i64 i,.int .i64 id] W.drew fun e w' => e = .returned (.int .i64 cnt) ∧ (w'.cell? ⟨N2,0,none⟩ = some (.slice (some ⟨bs,os,none⟩) ns ms) ∧ w'.cell? ⟨bs,os + i * 4 + 3,none⟩ = some (.bool rt) ∧ w'.cell? ⟨N3,0,none⟩ = some (.slice (some ⟨b,0,none⟩) n0 m0) ∧ w'.cell? ⟨N3,1,none⟩ = some (.int .i64 nx) ∧ w'.cell? ⟨b,i,none⟩ = some (.slice (some ⟨g,0,none⟩) n1 m1) ∧ w'.cell? ⟨g,k * 2,none⟩ = some (.int .i64 id)) ∧ R w')
    (hK:∀ a' w',R w' → Fr 16 164 [] a a' → a'.eval (.tmp 58) = .bool (decide (cnt = 0)) → Q .normal a' w'):(Code.region 11 (opsP 11) true).wp Tryz.prog Q a W:=by
  have mixed:Tryz.prog.follows .mixedOrders = true:=by kernel_rfl
  unfold opsP Tryz.f108
  simp only [Option.bind_some,c0i,Nat.reduceEqDiff,reduceIte,Option.none_or,Option.or_none,Option.some_or,Option.getD_some,reduceCtorEq]
  have t2:=a0f sz s2
  have t3:=a0f sz s3
  have t6:=a0f sz s6
  have t7:=a0f sz s7
  refine wp_region_held (S:=fun w' => w'.cell? ⟨N2,0,none⟩ = some (.slice (some ⟨bs,os,none⟩) ns ms) ∧ w'.cell? ⟨bs,os + i * 4 + 3,none⟩ = some (.bool rt) ∧ w'.cell? ⟨N3,0,none⟩ = some (.slice (some ⟨b,0,none⟩) n0 m0) ∧ w'.cell? ⟨N3,1,none⟩ = some (.int .i64 nx) ∧ w'.cell? ⟨b,i,none⟩ = some (.slice (some ⟨g,0,none⟩) n1 m1) ∧ w'.cell? ⟨g,k * 2,none⟩ = some (.int .i64 id)) mixed ?_
  change wpAnyH _ _ _ _ _ _ _ _ W.drew
  replace hS0:(fun w':World => w'.cell? ⟨N2,0,none⟩ = some (.slice (some ⟨bs,os,none⟩) ns ms) ∧ w'.cell? ⟨bs,os + i * 4 + 3,none⟩ = some (.bool rt) ∧ w'.cell? ⟨N3,0,none⟩ = some (.slice (some ⟨b,0,none⟩) n0 m0) ∧ w'.cell? ⟨N3,1,none⟩ = some (.int .i64 nx) ∧ w'.cell? ⟨b,i,none⟩ = some (.slice (some ⟨g,0,none⟩) n1 m1) ∧ w'.cell? ⟨g,k * 2,none⟩ = some (.int .i64 id)) W.drew:=hS0
  refine tkx 0 (.pointer (some ⟨N2,0,none⟩)) ?_ hS0
  refine tkx 1 (.slice (some ⟨bs,os,none⟩) ns ms) ?_ hS0
  refine tkx 2 (.int .i64 i) ?_ hS0
  refine tkx 3 (.pointer (some ⟨bs,os + i * 4,none⟩)) ?_ hS0
  refine a9a (C:=fun x => Fr 16 164 [] a x ∧ x.eval (.tmp 39) = .pointer (some ⟨bs,os + i * 4,none⟩)) ⟨?_,?_⟩ ?_
  · exact fP
  · simp [Act.eval,Act.put,sz]
  rintro a1 ⟨F1,e1_39⟩
  have sz1:=F1.sz
  have t1_39:=a0f sz1 e1_39
  have t1_2:=a0f sz1 (F1.u s2)
  have t1_3:=a0f sz1 (F1.u s3)
  have t1_6:=a0f sz1 (F1.u s6)
  have t1_7:=a0f sz1 (F1.u s7)
  refine tkx 4 (.pointer (some ⟨bs,os + i * 4 + 3,none⟩)) ?_ hS0
  refine tkx 5 (.bool rt) ?_ hS0
  refine tkx 6 (.bool (!rt)) ?_ hS0
  refine tkx 7 (.bool (!rt)) ?_ hS0
  refine a9a (C:=fun x => Fr 16 164 [] a x ∧ x.eval (.tmp 43) = .bool (!rt)) ⟨?_,?_⟩ ?_
  · repeat refine Fr.put ?_ (by decide)
    exact F1
  · simp [Act.eval,Act.put,sz1,t1_39]
  rintro a2 ⟨F2,e2_43⟩
  have sz2:=F2.sz
  have t2_43:=a0f sz2 e2_43
  have t2_2:=a0f sz2 (F2.u s2)
  have t2_3:=a0f sz2 (F2.u s3)
  have t2_6:=a0f sz2 (F2.u s6)
  have t2_7:=a0f sz2 (F2.u s7)
  have u2:a2.tmps[43]? = some (.bool (!rt)):=by rw [Array.getElem?_eq_getElem (by rw [sz2]; decide),t2_43]
  refine wpAnyH_take (i:=8) (v:=.agg #[.slice (some ⟨bs,os,none⟩) ns ms]) rfl (by kernel_rfl) (by kernel_rfl) (by kernel_rfl) (fun c a w h => hQ c a _ _ w h) (Or.inl ⟨by simp [Region.wanted,yielded,Act.put,sz2,t2_43,hrt],fun w' hS => ?_⟩) hS0 ?_
  · obtain ⟨k1,k2,k3,k4,k5,k6⟩:=hS; simp [go_sem,execOp,sz2,t2_2,t2_3,t2_6,t2_7,t2_43,k1,k2,k3,k4,k5,k6,h1,h2,h3]
  refine wpAnyH_take (i:=9) (v:=.agg #[.slice (some ⟨b,0,none⟩) n0 m0,.int .i64 nx]) rfl (by kernel_rfl) (by kernel_rfl) (by kernel_rfl) (fun c a w h => hQ c a _ _ w h) (Or.inl ⟨by simp [Region.wanted,yielded,Act.put,sz2,t2_43,hrt],fun w' hS => ?_⟩) hS0 ?_
  · obtain ⟨k1,k2,k3,k4,k5,k6⟩:=hS; simp [go_sem,execOp,sz2,t2_2,t2_3,t2_6,t2_7,t2_43,k1,k2,k3,k4,k5,k6,h1,h2,h3]
  refine wpAnyH_take (i:=10) (v:=.int .i64 i) rfl (by kernel_rfl) (by kernel_rfl) (by kernel_rfl) (fun c a w h => hQ c a _ _ w h) (Or.inl ⟨by simp [Region.wanted,yielded,Act.put,sz2,t2_43,hrt],fun w' hS => ?_⟩) hS0 ?_
  · obtain ⟨k1,k2,k3,k4,k5,k6⟩:=hS; simp [go_sem,execOp,sz2,t2_2,t2_3,t2_6,t2_7,t2_43,k1,k2,k3,k4,k5,k6,h1,h2,h3]
  refine wpAnyH_take (i:=11) (v:=.pointer (some ⟨N3,0,none⟩)) rfl (by kernel_rfl) (by kernel_rfl) (by kernel_rfl) (fun c a w h => hQ c a _ _ w h) (Or.inl ⟨by simp [Region.wanted,yielded,Act.put,sz2,t2_43,hrt],fun w' hS => ?_⟩) hS0 ?_
  · obtain ⟨k1,k2,k3,k4,k5,k6⟩:=hS; simp [go_sem,execOp,sz2,t2_2,t2_3,t2_6,t2_7,t2_43,k1,k2,k3,k4,k5,k6,h1,h2,h3]
  refine a9a (C:=fun x => Fr 16 164 [] a x ∧ x.eval (.tmp 43) = .bool (!rt) ∧ x.eval (.tmp 44) = .agg #[.slice (some ⟨bs,os,none⟩) ns ms] ∧ x.eval (.tmp 45) = .agg #[.slice (some ⟨b,0,none⟩) n0 m0,.int .i64 nx] ∧ x.eval (.tmp 46) = .int .i64 i ∧ x.eval (.tmp 47) = .pointer (some ⟨N3,0,none⟩)) ⟨?_,?_,?_,?_,?_,?_⟩ ?_
  · repeat refine Fr.put ?_ (by decide)
    exact F2
  · simp [Act.eval,Act.put,sz2,t2_43]
  · simp [Act.eval,Act.put,sz2,t2_43]
  · simp [Act.eval,Act.put,sz2,t2_43]
  · simp [Act.eval,Act.put,sz2,t2_43]
  · simp [Act.eval,Act.put,sz2,t2_43]
  rintro a3 ⟨F3,e3_43,e3_44,e3_45,e3_46,e3_47⟩
  have sz3:=F3.sz
  have t3_43:=a0f sz3 e3_43
  have t3_44:=a0f sz3 e3_44
  have t3_45:=a0f sz3 e3_45
  have t3_46:=a0f sz3 e3_46
  have t3_47:=a0f sz3 e3_47
  have t3_2:=a0f sz3 (F3.u s2)
  have t3_3:=a0f sz3 (F3.u s3)
  have t3_6:=a0f sz3 (F3.u s6)
  have t3_7:=a0f sz3 (F3.u s7)
  have u3:a3.tmps[43]? = some (.bool (!rt)):=by rw [Array.getElem?_eq_getElem (by rw [sz3]; decide),t3_43]
  refine wpAnyH_take (i:=12) (v:=.slice (some ⟨b,0,none⟩) n0 m0) rfl (by kernel_rfl) (by kernel_rfl) (by kernel_rfl) (fun c a w h => hQ c a _ _ w h) (Or.inl ⟨by simp [Region.wanted,yielded,Act.put,sz3,t3_43,hrt],fun w' hS => ?_⟩) hS0 ?_
  · obtain ⟨k1,k2,k3,k4,k5,k6⟩:=hS; simp [go_sem,execOp,sz3,t3_2,t3_3,t3_6,t3_7,t3_43,t3_44,t3_45,t3_46,t3_47,k1,k2,k3,k4,k5,k6,h1,h2,h3]
  refine wpAnyH_take (i:=13) (v:=.int .i64 i) rfl (by kernel_rfl) (by kernel_rfl) (by kernel_rfl) (fun c a w h => hQ c a _ _ w h) (Or.inl ⟨by simp [Region.wanted,yielded,Act.put,sz3,t3_43,hrt],fun w' hS => ?_⟩) hS0 ?_
  · obtain ⟨k1,k2,k3,k4,k5,k6⟩:=hS; simp [go_sem,execOp,sz3,t3_2,t3_3,t3_6,t3_7,t3_43,t3_44,t3_45,t3_46,t3_47,k1,k2,k3,k4,k5,k6,h1,h2,h3]
  refine wpAnyH_take (i:=14) (v:=.pointer (some ⟨b,i,none⟩)) rfl (by kernel_rfl) (by kernel_rfl) (by kernel_rfl) (fun c a w h => hQ c a _ _ w h) (Or.inl ⟨by simp [Region.wanted,yielded,Act.put,sz3,t3_43,hrt],fun w' hS => ?_⟩) hS0 ?_
  · obtain ⟨k1,k2,k3,k4,k5,k6⟩:=hS; simp [go_sem,execOp,sz3,t3_2,t3_3,t3_6,t3_7,t3_43,t3_44,t3_45,t3_46,t3_47,k1,k2,k3,k4,k5,k6,h1,h2,h3]
  refine wpAnyH_take (i:=15) (v:=.slice (some ⟨g,0,none⟩) n1 m1) rfl (by kernel_rfl) (by kernel_rfl) (by kernel_rfl) (fun c a w h => hQ c a _ _ w h) (Or.inl ⟨by simp [Region.wanted,yielded,Act.put,sz3,t3_43,hrt],fun w' hS => ?_⟩) hS0 ?_
  · obtain ⟨k1,k2,k3,k4,k5,k6⟩:=hS; simp [go_sem,execOp,sz3,t3_2,t3_3,t3_6,t3_7,t3_43,t3_44,t3_45,t3_46,t3_47,k1,k2,k3,k4,k5,k6,h1,h2,h3]
  refine a9a (C:=fun x => Fr 16 164 [] a x ∧ x.eval (.tmp 43) = .bool (!rt) ∧ x.eval (.tmp 44) = .agg #[.slice (some ⟨bs,os,none⟩) ns ms] ∧ x.eval (.tmp 45) = .agg #[.slice (some ⟨b,0,none⟩) n0 m0,.int .i64 nx] ∧ x.eval (.tmp 46) = .int .i64 i ∧ x.eval (.tmp 51) = .slice (some ⟨g,0,none⟩) n1 m1) ⟨?_,?_,?_,?_,?_,?_⟩ ?_
  · repeat refine Fr.put ?_ (by decide)
    exact F3
  · simp [Act.eval,Act.put,sz3,t3_43,t3_44,t3_45,t3_46,t3_47]
  · simp [Act.eval,Act.put,sz3,t3_43,t3_44,t3_45,t3_46,t3_47]
  · simp [Act.eval,Act.put,sz3,t3_43,t3_44,t3_45,t3_46,t3_47]
  · simp [Act.eval,Act.put,sz3,t3_43,t3_44,t3_45,t3_46,t3_47]
  · simp [Act.eval,Act.put,sz3,t3_43,t3_44,t3_45,t3_46,t3_47]
  rintro a4 ⟨F4,e4_43,e4_44,e4_45,e4_46,e4_51⟩
  have sz4:=F4.sz
  have t4_43:=a0f sz4 e4_43
  have t4_44:=a0f sz4 e4_44
  have t4_45:=a0f sz4 e4_45
  have t4_46:=a0f sz4 e4_46
  have t4_51:=a0f sz4 e4_51
  have t4_2:=a0f sz4 (F4.u s2)
  have t4_3:=a0f sz4 (F4.u s3)
  have t4_6:=a0f sz4 (F4.u s6)
  have t4_7:=a0f sz4 (F4.u s7)
  have u4:a4.tmps[43]? = some (.bool (!rt)):=by rw [Array.getElem?_eq_getElem (by rw [sz4]; decide),t4_43]
  refine wpAnyH_take (i:=16) (v:=.int .i64 k) rfl (by kernel_rfl) (by kernel_rfl) (by kernel_rfl) (fun c a w h => hQ c a _ _ w h) (Or.inl ⟨by simp [Region.wanted,yielded,Act.put,sz4,t4_43,hrt],fun w' hS => ?_⟩) hS0 ?_
  · obtain ⟨k1,k2,k3,k4,k5,k6⟩:=hS; simp [go_sem,execOp,sz4,t4_2,t4_3,t4_6,t4_7,t4_43,t4_44,t4_45,t4_46,t4_51,k1,k2,k3,k4,k5,k6,h1,h2,h3]
  refine wpAnyH_take (i:=17) (v:=.pointer (some ⟨g,k * 2,none⟩)) rfl (by kernel_rfl) (by kernel_rfl) (by kernel_rfl) (fun c a w h => hQ c a _ _ w h) (Or.inl ⟨by simp [Region.wanted,yielded,Act.put,sz4,t4_43,hrt],fun w' hS => ?_⟩) hS0 ?_
  · obtain ⟨k1,k2,k3,k4,k5,k6⟩:=hS; simp [go_sem,execOp,sz4,t4_2,t4_3,t4_6,t4_7,t4_43,t4_44,t4_45,t4_46,t4_51,k1,k2,k3,k4,k5,k6,h1,h2,h3]
  refine wpAnyH_take (i:=18) (v:=.pointer (some ⟨g,k * 2,none⟩)) rfl (by kernel_rfl) (by kernel_rfl) (by kernel_rfl) (fun c a w h => hQ c a _ _ w h) (Or.inl ⟨by simp [Region.wanted,yielded,Act.put,sz4,t4_43,hrt],fun w' hS => ?_⟩) hS0 ?_
  · obtain ⟨k1,k2,k3,k4,k5,k6⟩:=hS; simp [go_sem,execOp,sz4,t4_2,t4_3,t4_6,t4_7,t4_43,t4_44,t4_45,t4_46,t4_51,k1,k2,k3,k4,k5,k6,h1,h2,h3]
  refine wpAnyH_take (i:=19) (v:=.int .i64 id) rfl (by kernel_rfl) (by kernel_rfl) (by kernel_rfl) (fun c a w h => hQ c a _ _ w h) (Or.inl ⟨by simp [Region.wanted,yielded,Act.put,sz4,t4_43,hrt],fun w' hS => ?_⟩) hS0 ?_
  · obtain ⟨k1,k2,k3,k4,k5,k6⟩:=hS; simp [go_sem,execOp,sz4,t4_2,t4_3,t4_6,t4_7,t4_43,t4_44,t4_45,t4_46,t4_51,k1,k2,k3,k4,k5,k6,h1,h2,h3]
  refine a9a (C:=fun x => Fr 16 164 [] a x ∧ x.eval (.tmp 43) = .bool (!rt) ∧ x.eval (.tmp 44) = .agg #[.slice (some ⟨bs,os,none⟩) ns ms] ∧ x.eval (.tmp 45) = .agg #[.slice (some ⟨b,0,none⟩) n0 m0,.int .i64 nx] ∧ x.eval (.tmp 46) = .int .i64 i ∧ x.eval (.tmp 55) = .int .i64 id) ⟨?_,?_,?_,?_,?_,?_⟩ ?_
  · repeat refine Fr.put ?_ (by decide)
    exact F4
  · simp [Act.eval,Act.put,sz4,t4_43,t4_44,t4_45,t4_46,t4_51]
  · simp [Act.eval,Act.put,sz4,t4_43,t4_44,t4_45,t4_46,t4_51]
  · simp [Act.eval,Act.put,sz4,t4_43,t4_44,t4_45,t4_46,t4_51]
  · simp [Act.eval,Act.put,sz4,t4_43,t4_44,t4_45,t4_46,t4_51]
  · simp [Act.eval,Act.put,sz4,t4_43,t4_44,t4_45,t4_46,t4_51]
  rintro a5 ⟨F5,e5_43,e5_44,e5_45,e5_46,e5_55⟩
  have sz5:=F5.sz
  have t5_43:=a0f sz5 e5_43
  have t5_44:=a0f sz5 e5_44
  have t5_45:=a0f sz5 e5_45
  have t5_46:=a0f sz5 e5_46
  have t5_55:=a0f sz5 e5_55
  have t5_2:=a0f sz5 (F5.u s2)
  have t5_3:=a0f sz5 (F5.u s3)
  have t5_6:=a0f sz5 (F5.u s6)
  have t5_7:=a0f sz5 (F5.u s7)
  have u5:a5.tmps[43]? = some (.bool (!rt)):=by rw [Array.getElem?_eq_getElem (by rw [sz5]; decide),t5_43]
  refine wpAnyH_all (rs:=[20]) (by kernel_rfl) (by simp) ?_
  intro i hi3
  obtain rfl:i = 20:=by simpa using hi3
  clear hi3
  refine d4a rfl (by simp [Region.wanted,yielded,Act.put,sz5,t5_43,hrt]) (f:=87) (args:=#[.agg #[.slice (some ⟨bs,os,none⟩) ns ms],.agg #[.slice (some ⟨b,0,none⟩) n0 m0,.int .i64 nx],.int .i64 i,.int .i64 id]) (by simp [go_sem,execOp,sz5,e87,t5_43,t5_44,t5_45,t5_46,t5_55]) ?_
  refine hc.mono ?_
  rintro e w' ⟨rfl,hS1,hR⟩
  refine ⟨_,rfl,hS1,?_⟩
  refine wpAnyH_take (i:=21) (v:=.bool (decide (cnt = 0))) rfl (by kernel_rfl) (by kernel_rfl) (by kernel_rfl) (fun c a w h => hQ c a _ _ w h) (Or.inl ⟨by simp [Region.wanted,yielded,Act.put,sz5,t5_43,hrt],fun w' hS => ?_⟩) hS1 ?_
  · obtain ⟨k1,k2,k3,k4,k5,k6⟩:=hS; simp [go_sem,execOp,sz5,t5_43,k1,k2,k3,k4,k5,k6,h1,h2,h3]; rfl
  refine tkx 22 (.bool (decide (cnt = 0))) ?_ hS1
  refine wpAnyH_done (by kernel_rfl) ?_ _
  refine hK _ _ hR ?_ ?_
  · repeat refine Fr.put ?_ (by decide)
    exact F5
  · simp [b5e,b3y,c0j,sz5]
end Go.R
end
section
set_option linter.all false
namespace Go.R
open Go Go.Proofs Go.RowKit
set_option maxHeartbeats 1000000
def c0l (fnd:List UInt8 → Option Int) (fpl:List a1n → Int → Option Int) (ss:List b7i):Nat → Nat → List (List a1n) → Option (List (List a1n))
  | 0,_,ts => some ts
  | n + 1,i,ts => (ss[i]?).bind fun s => (b7b fnd fpl i s.cols 0 ts).bind fun ts' => c0l fnd fpl ss n (i + 1) ts'
noncomputable def bodyI:Code:=.seq (.seq (R 16 false) (.cond (.tmp 69) .skip (.exit 6))) (.seq (.block 7 (.seq (R 18 false) (.block 8 (.loop bodyC)))) (R 17 false))
theorem f2p {Q:Exit → Act → World → Prop} (hP:∀ c a (d:Tmp) v w,Q (.panic c) (a.put (some d) v) w → Q (.panic c) a w) {B0 N2 N3:Nat} {v sv:Value} {nx:Int} {ss:List b7i} {fs:List Nat} {fnd:List UInt8 → Option Int} {fpl:List a1n → Int → Option Int} {r:List (List a1n)} (hN2:N2 < B0) (hN3:N3 < B0) (hfs:∀ q ∈ fs,q < B0)
    (hpl:∀ rows N p,fpl rows N = some p → a0v Tryz.prog 86 .flat [b6b rows,.int .i64 N] (.int .i64 p))
    (hfnd:∀ rf f,fnd rf = some f → a0v Tryz.prog 182 .flat [c2f ss,.str rf] (.int .i64 f)) :
    ∀ (n i:Nat) (ts:List (List a1n)) (fp:List Nat) (a:Act) (W:World),c0l fnd fpl ss n i ts = some r → ts.length = n + i → a.tmps.size = 164 → a.defers = [] →
      Rep true W (a3t ts) [v] fp → fp.Nodup → (∀ q ∈ fp,B0 ≤ q) → B0 ≤ W.heap.size → Bx W N3 29 #[v,.int .i64 nx] → Bx W N2 25 #[sv] → Rep false W (.lst 4 (ss.map eTb)) [sv] fs →
      a.eval (.tmp 2) = .pointer (some ⟨N2,0,none⟩) → a.eval (.tmp 3) = .pointer (some ⟨N3,0,none⟩) → a.eval (.tmp 8) = .int .i64 i →
      (∀ a' W' fp',Fr 16 164 [8,9,10,11,12,13,14,15] a a' → Rep true W' (a3t r) [v] fp' → fp'.Nodup → (∀ q ∈ fp',B0 ≤ q) → Below B0 W W' → B0 ≤ W'.heap.size → Q (.exit 6) a' W') → Code.rounds Tryz.prog bodyI Q (n + 1) a W
  | 0,i,ts,fp,a,W,hk,hl,sz,df,hR,nd,hge,hsz,hX,hXs,hS,s2,s3,s8,hQ => by
    have hR':=hR
    unfold a3t at hR'
    obtain ⟨o,m,rfl,hlm⟩:=b3z hR'
    rw [List.length_map] at *
    rw [rounds_succ]
    unfold bodyI
    refine wp_seq (wp_seq (f6g a W _ sz df (hX.cell0 0) s3 s8 ?_))
    intro a1 F1 e1
    refine wp_cond_split e1 (fun h => ?_) (fun h => ?_)
    · simp only [decide_eq_true_eq] at h; omega
    · simp only [c0l,Option.some.injEq] at hk
      subst hk
      refine wp_exit ?_
      exact hQ a1 W fp (F1.mono (by simp)) hR nd hge (Below.refl _ _) hsz
  | n + 1,i,ts,fp,a,W,hk,hl,sz,df,hR,nd,hge,hsz,hX,hXs,hS,s2,s3,s8,hQ => by
    have hR':=hR
    unfold a3t at hR'
    obtain ⟨o,m,rfl,hlm⟩:=b3z hR'
    rw [List.length_map] at *
    simp only [c0l] at hk
    cases hs:ss[i]? with
    | none => rw [hs] at hk; cases hk
    | some s =>
    rw [hs,Option.bind_some] at hk
    cases hC:b7b fnd fpl i s.cols 0 ts with
    | none => rw [hC] at hk; cases hk
    | some ts' =>
    rw [hC,Option.bind_some] at hk
    have hw:IntKind.i64.wrap ((i:Int) + 1) = (i:Int) + 1:=c8a (by unfold maxLen at hlm; omega)
    rw [rounds_succ]
    unfold bodyI
    refine wp_seq (wp_seq (f6g a W _ sz df (hX.cell0 0) s3 s8 ?_))
    intro a1 F1 e1
    refine wp_cond_split e1 (fun h => ?_) (fun h => ?_)
    · refine wp_skip ?_
      have v2:=fun {ws:List Nat} {x:Act} (h:Fr 16 164 ws a x) (hw:2 ∉ ws) => (h.same 2 (by decide) hw).trans s2
      have v3:=fun {ws:List Nat} {x:Act} (h:Fr 16 164 ws a x) (hw:3 ∉ ws) => (h.same 3 (by decide) hw).trans s3
      have v8:=fun {ws:List Nat} {x:Act} (h:Fr 16 164 ws a x) (hw:8 ∉ ws) => (h.same 8 (by decide) hw).trans s8
      refine wp_seq (wp_block (wp_seq (g0b a1 W _ F1.sz F1.df ?_)))
      intro a2 F2 e9
      have F12:=F1.trans F2
      refine wp_block (wp_loop_rounds _ (f2o (by intro cc aa dd vv ww hh; exact hP cc aa dd vv ww hh) (B0:=B0) (r:=ts') (nx:=nx) hN2 hN3 hfs hs hpl hfnd s.cols 0 ts fp a2 W (by simp) hC (by omega) F2.sz F2.df hR nd hge hsz hX hXs hS (v2 F12 (by simp)) (v3 F12 (by simp)) (v8 F12 (by simp)) e9 ?_))
      intro a3 W3 fp3 F3 z1 z2 z3 z4 z5 z6
      have F13:=F12.trans F3
      simp only [Exit.inBlock,Exit.then,if_true]
      refine f9x a3 W3 _ F3.sz F3.df hw (v8 F13 (by simp)) ?_
      intro a4 F4 e8
      have F14:=F13.trans F4
      refine f2p hP hN2 hN3 hfs hpl hfnd n (i + 1) ts' fp3 a4 W3 hk (by omega) F4.sz F4.df z1 z2 z3 z5 (hX.below z4 hN3) (hXs.below z4 hN2) (Rep.world _ _ _ (fun q hq => z4.block q (hfs q hq)) hS) (v2 F14 (by simp)) (v3 F14 (by simp)) e8 ?_
      intro a' W' fp'' F5 y1 y2 y3 y4 y5
      exact hQ a' W' fp'' ((F14.trans F5).mono (by simp)) y1 y2 y3 (z4.trans y4) y5
    · simp only [decide_eq_false_iff_not] at h; omega
end Go.R
end
section
set_option linter.all false
namespace Go.R
open Go Go.Proofs Go.RowKit
set_option maxHeartbeats 1000000
structure PSt (N0:Nat) (w0:World) (sv:Value) (fs:List Nat) (ss:List b7i) (nx:Int) (ts:List (List a1n)) (a:Act) (W:World):Prop where
  sz:a.tmps.size = 164
  df:a.defers = []
  s2:a.eval (.tmp 2) = .pointer (some ⟨N0,0,none⟩)
  s3:a.eval (.tmp 3) = .pointer (some ⟨N0 + 1,0,none⟩)
  s4:a.eval (.tmp 4) = .pointer (some ⟨N0 + 2,0,none⟩)
  xs:Bx W N0 25 #[sv]
  rs:Rep false W (.lst 4 (ss.map eTb)) [sv] fs
  x:∃ v fp,Bx W (N0 + 1) 29 #[v,.int .i64 nx] ∧ Rep true W (a3t ts) [v] fp ∧ fp.Nodup ∧ ∀ q ∈ fp,N0 + 3 ≤ q
  xr:∃ u1 u2,Bx W (N0 + 2) 29 #[u1,u2]
  B:N0 + 3 ≤ W.heap.size
  bel:Below N0 w0 W
theorem PSt.fr {N0:Nat} {w0:World} {sv:Value} {fs:List Nat} {ss:List b7i} {nx:Int} {ts:List (List a1n)} {a a':Act} {W:World} {ws:List Nat} (h:PSt N0 w0 sv fs ss nx ts a W) (F:Fr 16 164 ws a a') (h2:2 ∉ ws) (h3:3 ∉ ws) (h4:4 ∉ ws):PSt N0 w0 sv fs ss nx ts a' W :=
  ⟨F.sz,F.df,(F.same 2 (by decide) h2).trans h.s2,(F.same 3 (by decide) h3).trans h.s3,(F.same 4 (by decide) h4).trans h.s4,h.xs,h.rs,h.x,h.xr,h.B,h.bel⟩
theorem PSt.grew {N0:Nat} {w0:World} {sv:Value} {fs:List Nat} {ss:List b7i} {nx:Int} {ts:List (List a1n)} {a:Act} {W W':World} (h:PSt N0 w0 sv fs ss nx ts a W) (hb:Below W.heap.size W W'):PSt N0 w0 sv fs ss nx ts a W':=by
  obtain ⟨v,fp,x1,x2,x3,x4⟩:=h.x
  obtain ⟨u1,u2,hr⟩:=h.xr
  have hB:=h.B
  exact ⟨h.sz,h.df,h.s2,h.s3,h.s4,h.xs.below hb (by omega),Rep.world _ _ _ (fun q hq => hb.block q (Rep.lt _ _ _ h.rs q hq)) h.rs,⟨v,fp,x1.below hb (by omega),Rep.world _ _ _ (fun q hq => hb.block q (Rep.lt _ _ _ x2 q hq)) x2,x3,x4⟩,⟨u1,u2,hr.below hb (by omega)⟩,Nat.le_trans hB hb.size,h.bel.trans (hb.mono (by omega))⟩
theorem row_in {w:World} {ts:List (List a1n)} {v:Value} {fp:List Nat} {i k:Nat} {t:List a1n} {r:a1n} (h:Rep true w (a3t ts) [v] fp) (nd:fp.Nodup) (hi:ts[i]? = some t) (hk:t[k]? = some r) :
    ∃ b m0 g m1,v = .slice (some ⟨b,0,none⟩) ts.length m0 ∧ w.cell? ⟨b,i,none⟩ = some (.slice (some ⟨g,0,none⟩) t.length m1) ∧ w.cell? ⟨g,k * 2,none⟩ = some (.int .i64 r.1) ∧ b ∈ fp ∧ g ∈ fp ∧ t.length ≤ maxLen:=by
  obtain ⟨b,c,cur,e,fx,rfl,a1,a2,B,a4,a5,a6,a7,a8,a9,a10,a11,-⟩:=c6v h nd (k:=i) (x:=b6b t) (by rw [List.getElem?_map,hi]; rfl)
  obtain ⟨u1,hu1⟩:∃ u,(cur.toList.drop (i * 1)).take 1 = [u]:=by
    match hl:(cur.toList.drop (i * 1)).take 1,a10 with
    | [u],_ => exact ⟨u,rfl⟩
  rw [hu1] at a11
  obtain ⟨k1,-⟩:=c5e B hu1
  obtain ⟨g,c1,cur1,e1,fx1,rfl,b1,b2,B1,b4,b5,b6,b7,b8,b9,b10,b11,-⟩:=c6v a11 a9 (k:=k) (x:=d1c r) (by rw [List.getElem?_map,hk]; rfl)
  obtain ⟨v1,hv1,-⟩:=d8m b11
  obtain ⟨k2,-⟩:=d8o B1 hv1
  rw [List.length_map] at *
  exact ⟨b,c,g,c1,rfl,k1,k2,a6,a8 _ b6,by omega⟩
def b6c (ss:List b7i) (fst:List (List a1n) → Nat → Int → Option Int) (fown:List (List a1n) → Option (List (List a1n))) (i:Nat):Nat → Nat → List (List a1n) → Bool → Option (List (List a1n) × Bool)
  | 0,_,_,_ => none
  | n + 1,k,ts,g => (ts[i]?).bind fun t => match t[k]? with
    | none => if k = t.length then some (ts,g) else none
    | some r => (ss[i]?).bind fun s => if s.root = true then b6c ss fst fown i n (k + 1) ts g else (fst ts i r.1).bind fun cnt => if cnt = 0 then (fown ts).bind fun ts' => (ts'[i]?).bind fun t' => if k < t'.length ∧ t'.length ≤ 1073741824 ∧ i < 1073741824 then b6c ss fst fown i n k (ts'.set i (t'.take k ++ t'.drop (k + 1))) true else none
      else b6c ss fst fown i n (k + 1) ts g
noncomputable def bodyA:Code:=.seq (.seq (R 9 false) (.cond (.tmp 33) .skip (.exit 4))) (.seq (.block 5 (.seq (R 11 true) (.cond (.tmp 58) (.seq (R 12 false) (.seq (R 13 false) (R 14 false))) .skip))) (R 10 false))
theorem c6x {m:Bool} {w:World} {ts:List (List a1n)} {v:Value} {fp:List Nat} {nx:Int} (h:Rep m w (a3t ts) [v] fp):Rep m w (.agg [a3t ts,.int .i64 nx]) [v,.int .i64 nx] fp:=by
  rw [Rep,a0b]
  refine ⟨v,_,fp,[],rfl,rfl,h,?_,by simp⟩
  rw [a0b]
  exact ⟨_,[],[],[],rfl,rfl,by rw [Rep]; exact ⟨rfl,rfl⟩,by rw [a0b]; exact ⟨rfl,rfl⟩,rfl⟩
theorem f0y {m:Bool} {w:World} {ss:List b7i} {v:Value} {fp:List Nat} (h:Rep m w (.lst 4 (ss.map eTb)) [v] fp):Rep m w (c2f ss) [v] fp:=by
  unfold c2f
  rw [Rep,a0b]
  exact ⟨v,[],fp,[],rfl,rfl,h,by rw [a0b]; exact ⟨rfl,rfl⟩,by simp⟩
theorem e3h {Q:Exit → Act → World → Prop} (hP:∀ c a (d:Tmp) v w,Q (.panic c) (a.put (some d) v) w → Q (.panic c) a w) {N0 i:Nat} {w0:World} {sv:Value} {fs:List Nat} {ss:List b7i} {nx:Int} {fst:List (List a1n) → Nat → Int → Option Int} {fown:List (List a1n) → Option (List (List a1n))} {r:List (List a1n) × Bool} (hfs:∀ q ∈ fs,q < N0)
    (hst:∀ ts i id n,fst ts i id = some n → a0v Tryz.prog 87 .flat [c2f ss,.agg [a3t ts,.int .i64 nx],.int .i64 i,.int .i64 id] (.int .i64 n))
    (hown:∀ ts ts',fown ts = some ts' → a0v Tryz.prog 147 .fresh [.agg [a3t ts,.int .i64 nx]] (.agg [a3t ts',.int .i64 nx])) :
    ∀ (n k:Nat) (ts:List (List a1n)) (g:Bool) (a:Act) (W:World),b6c ss fst fown i n k ts g = some r → PSt N0 w0 sv fs ss nx ts a W → a.eval (.tmp 5) = .bool g → a.eval (.tmp 6) = .int .i64 i → a.eval (.tmp 7) = .int .i64 k →
      (∀ a' W',PSt N0 w0 sv fs ss nx r.1 a' W' → a'.eval (.tmp 5) = .bool r.2 → a'.eval (.tmp 6) = .int .i64 i → Q (.exit 4) a' W') → Code.rounds Tryz.prog bodyA Q n a W
  | 0,k,ts,g,a,W,hk,hp,s5,s6,s7,hQ => by simp only [b6c] at hk; cases hk
  | n + 1,k,ts,g,a,W,hk,hp,s5,s6,s7,hQ => by
    simp only [b6c] at hk
    cases ht:ts[i]? with
    | none => rw [ht] at hk; cases hk
    | some t =>
    rw [ht,Option.bind_some] at hk
    have hil:i < ts.length:=(List.getElem?_eq_some_iff.1 ht).1
    obtain ⟨v,fp,hX,hR,nd,hge⟩:=hp.x
    obtain ⟨b,m0,og,m1,fi,hv,q1,q2,q3,q4,q5,q6⟩:=d1d hR nd ht
    subst hv
    rw [rounds_succ]
    unfold bodyA
    refine wp_seq (wp_seq (rg9 a W _ hp.sz hp.df (hX.cell0 0) q1 (by omega) hp.s3 s6 s7 ?_))
    intro a1 F1 e1
    have hp1:=hp.fr F1 (by simp) (by simp) (by simp)
    have v5:=F1.u s5
    have v6:=F1.u s6
    have v7:=F1.u s7
    cases hr:t[k]? with
    | none =>
      rw [hr] at hk
      simp only at hk
      split at hk
      · rename_i hkl
        simp only [Option.some.injEq] at hk
        subst hk
        refine wp_cond_split e1 (fun h => ?_) (fun h => ?_)
        · simp only [decide_eq_true_eq] at h; omega
        · exact wp_exit (hQ a1 W hp1 v5 v6)
      · cases hk
    | some rr =>
      rw [hr] at hk
      simp only at hk
      have hkl:k < t.length:=(List.getElem?_eq_some_iff.1 hr).1
      have hw:IntKind.i64.wrap ((k:Int) + 1) = (k:Int) + 1:=c8a (by unfold maxLen at q5; omega)
      refine wp_cond_split e1 (fun h => ?_) (fun h => ?_)
      · refine wp_skip ?_
        cases hs:ss[i]? with
        | none => rw [hs] at hk; cases hk
        | some s =>
        rw [hs,Option.bind_some] at hk
        obtain ⟨bs,os,ms,ogs,m1s,f1,hsv,k0,k1,k2,k3,k4,k5⟩:=e7w hp.rs hs
        subst hsv
        have hiss:i < ss.length:=(List.getElem?_eq_some_iff.1 hs).1
        obtain ⟨b',m0',g2,m2,hv',r1,r2,r3,r4,r5⟩:=row_in hR nd ht hr
        obtain ⟨rfl,rfl⟩:b = b' ∧ m0 = m0':=by simpa using hv'
        have hS:W.cell? ⟨N0,0,none⟩ = some (.slice (some ⟨bs,os,none⟩) ss.length ms) ∧ W.cell? ⟨bs,os + i * 4 + 3,none⟩ = some (.bool s.root) ∧ W.cell? ⟨N0 + 1,0,none⟩ = some (.slice (some ⟨b,0,none⟩) ts.length m0) ∧ W.cell? ⟨N0 + 1,1,none⟩ = some (.int .i64 nx) ∧ W.cell? ⟨b,i,none⟩ = some (.slice (some ⟨g2,0,none⟩) t.length m2) ∧ W.cell? ⟨g2,k * 2,none⟩ = some (.int .i64 rr.1) :=
          ⟨hp.xs.cell0 0,k2,hX.cell0 0,hX.cell0 1,r1,r2⟩
        cases hrt:s.root with
        | true =>
          rw [if_pos hrt] at hk
          refine wp_seq (wp_block (wp_seq (f6m a1 W _ (R:=fun _ => True) (cnt:=0) F1.sz F1.df (by intro cc aa dd vv ww hh; exact hP cc aa dd vv ww hh) hrt hp1.s2 hp1.s3 v6 v7 hS (by omega) ?_)))
          intro a2 F2 e2
          refine wp_cond_false e2 (wp_skip ?_)
          have hp2:PSt N0 w0 (.slice (some ⟨bs,os,none⟩) ss.length ms) fs ss nx ts a2 W.drew:=(hp1.fr F2 (by simp) (by simp) (by simp)).grew (Below.refl _ W).drew
          refine f4b a2 W.drew _ F2.sz F2.df hw (F2.u v7) ?_
          intro a3 F3 e7
          exact e3h hP hfs hst hown n (k + 1) ts g a3 W.drew hk (hp2.fr F3 (by simp) (by simp) (by simp)) ((F3.same 5 (by decide) (by simp)).trans (F2.u v5)) ((F3.same 6 (by decide) (by simp)).trans (F2.u v6)) e7 hQ
        | false =>
          rw [if_neg (by rw [hrt]; exact Bool.false_ne_true)] at hk
          cases hc0:fst ts i rr.1 with
          | none => rw [hc0] at hk; cases hk
          | some cnt =>
          rw [hc0,Option.bind_some] at hk
          have hltf:=Rep.lt _ _ _ hR
          have hlts:=Rep.lt _ _ _ hp.rs
          have hBW:=hp.B
          have hcall:Calls Tryz.prog 87 #[.agg #[.slice (some ⟨bs,os,none⟩) ss.length ms],.agg #[.slice (some ⟨b,0,none⟩) ts.length m0,.int .i64 nx],.int .i64 i,.int .i64 rr.1] W.drew fun e w' => e = .returned (.int .i64 cnt) ∧ (w'.cell? ⟨N0,0,none⟩ = some (.slice (some ⟨bs,os,none⟩) ss.length ms) ∧ w'.cell? ⟨bs,os + i * 4 + 3,none⟩ = some (.bool s.root) ∧ w'.cell? ⟨N0 + 1,0,none⟩ = some (.slice (some ⟨b,0,none⟩) ts.length m0) ∧ w'.cell? ⟨N0 + 1,1,none⟩ = some (.int .i64 nx) ∧ w'.cell? ⟨b,i,none⟩ = some (.slice (some ⟨g2,0,none⟩) t.length m2) ∧ w'.cell? ⟨g2,k * 2,none⟩ = some (.int .i64 rr.1)) ∧ Below W.heap.size W w':=by
            refine (hst ts i rr.1 cnt hc0 W.drew [.agg #[.slice (some ⟨bs,os,none⟩) ss.length ms],.agg #[.slice (some ⟨b,0,none⟩) ts.length m0,.int .i64 nx],.int .i64 i,.int .i64 rr.1] (fs ++ (fp ++ ([] ++ ([] ++ [])))) ?_).mono ?_
            · simp only [a0x]
              exact ⟨[.slice (some ⟨bs,os,none⟩) ss.length ms],_,fs,_,rfl,Rep.world (w:=W) _ _ _ (fun _ _ => rfl) (f0y hp.rs),⟨[.slice (some ⟨b,0,none⟩) ts.length m0,.int .i64 nx],_,fp,_,rfl,Rep.world (w:=W) _ _ _ (fun _ _ => rfl) (c6x hR).weak',⟨[.int .i64 i],_,[],_,rfl,by simp [Rep],⟨[.int .i64 rr.1],[],[],[],rfl,by simp [Rep],⟨rfl,rfl⟩,rfl⟩,rfl⟩,rfl⟩,rfl⟩
            · intro ev w' hh
              cases ev with
              | returned u =>
                obtain ⟨g1,cs,rfl,gg⟩:=hh
                simp only [Rep] at gg
                obtain ⟨rfl,-⟩:=gg
                have hb':Below W.heap.size W w':=(Below.refl _ W).drew.trans g1
                refine ⟨rfl,⟨(hb'.cell (p:=⟨N0,0,none⟩) (by show N0 < _; omega)).trans hS.1,(hb'.cell (p:=⟨bs,os + i * 4 + 3,none⟩) (hlts _ k0)).trans hS.2.1,(hb'.cell (p:=⟨N0 + 1,0,none⟩) (by show N0 + 1 < _; omega)).trans hS.2.2.1,(hb'.cell (p:=⟨N0 + 1,1,none⟩) (by show N0 + 1 < _; omega)).trans hS.2.2.2.1,(hb'.cell (p:=⟨b,i,none⟩) (hltf _ r3)).trans hS.2.2.2.2.1,(hb'.cell (p:=⟨g2,k * 2,none⟩) (hltf _ r4)).trans hS.2.2.2.2.2⟩,hb'⟩
              | panicked _ => exact hh.elim
              | outgrown => exact hh.elim
          refine wp_seq (wp_block (wp_seq (f6n a1 W _ (R:=fun w' => Below W.heap.size W w') F1.sz F1.df (by intro cc aa dd vv ww hh; exact hP cc aa dd vv ww hh) hrt hp1.s2 hp1.s3 v6 v7 hS (by omega) (by omega) (by omega) hcall ?_)))
          intro a2 W2 hb2 F2 e58
          have hp2:=(hp1.fr F2 (by simp) (by simp) (by simp)).grew hb2
          have u5:=F2.u v5
          have u6:=F2.u v6
          have u7:=F2.u v7
          refine wp_cond_split e58 (fun hz => ?_) (fun hz => ?_)
          · simp only [decide_eq_true_eq] at hz
            rw [if_pos hz] at hk
            cases ho:fown ts with
            | none => rw [ho] at hk; cases hk
            | some ts' =>
            rw [ho,Option.bind_some] at hk
            cases ht':ts'[i]? with
            | none => rw [ht'] at hk; cases hk
            | some t' =>
            rw [ht',Option.bind_some] at hk
            split at hk
            · rename_i hcond
              obtain ⟨v2,fp2,hX2,hR2,nd2,hge2⟩:=hp2.x
              have hR2':=hR2
              unfold a3t at hR2'
              obtain ⟨o2,m22,rfl,-⟩:=b3z hR2'
              have hd:=e3f (T0:=ts.map b6b) (Ts:=ts'.map b6b) (rows:=t'.map d1c) (nx0:=nx) (nx:=nx) (t:=i) (k:=k) (by rw [List.getElem?_map,ht']; rfl) (by rw [List.length_map]; exact hcond.1) (by rw [List.length_map]; exact hcond.2.1) hcond.2.2 (by
                intro x hx
                obtain ⟨y,-,rfl⟩:=List.mem_map.1 hx
                exact ⟨_,_,rfl⟩) (hown ts ts' ho)
              have hset:AV.lst 1 ((ts'.map b6b).set i (.lst 2 ((t'.map d1c).take k ++ (t'.map d1c).drop (k + 1)))) = a3t (ts'.set i (t'.take k ++ t'.drop (k + 1))):=by
                simp [a3t,b6b,List.map_set,List.map_take,List.map_drop]
              rw [hset] at hd
              refine wp_seq (g0k a2 W2 _ F2.sz F2.df (R:=fun y0 y1 y2 w' => Below W2.heap.size W2 w' ∧ ∃ fp',Rep true w' (a3t (ts'.set i (t'.take k ++ t'.drop (k + 1)))) [.slice y0 y1 y2] fp' ∧ fp'.Nodup ∧ ∀ q ∈ fp',W2.heap.size ≤ q) hX2 hp2.s3 u6 u7 ((hd W2 [.agg #[.slice o2 (ts.map b6b).length m22,.int .i64 nx],.int .i64 i,.int .i64 k] (fp2 ++ ([] ++ ([] ++ []))) ?_).mono ?_) ?_)
              · simp only [a0x]
                exact ⟨[.slice o2 (ts.map b6b).length m22,.int .i64 nx],_,fp2,_,rfl,(c6x hR2).weak',⟨[.int .i64 i],_,[],_,rfl,by simp [Rep],⟨[.int .i64 k],[],[],[],rfl,by simp [Rep],⟨rfl,rfl⟩,rfl⟩,rfl⟩,rfl⟩
              · intro ev w' hh
                cases ev with
                | returned u =>
                  obtain ⟨g1,fp',⟨cs,rfl,gg⟩,gn,gge⟩:=hh
                  obtain ⟨y0,y1,y2,rfl,gr⟩:=b6z gg
                  exact ⟨y0,y1,y2,rfl,hX2.below g1 (by have:=hp2.B; omega),g1,fp',gr,gn,gge⟩
                | panicked _ => exact hh.elim
                | outgrown => exact hh.elim
              · rintro a3 w3 y0 y1 y2 ⟨hb3,fp',z1,z2,z3⟩ hX3 F3
                have hp23:=(hp2.fr F3 (by simp) (by simp) (by simp)).grew hb3
                obtain ⟨w1,w2,hxr⟩:=hp23.xr
                have hsame:∀ q,q ≠ N0 + 1 → ((w3.setCell ⟨N0 + 1,0,none⟩ (.slice y0 y1 y2)).setCell ⟨N0 + 1,1,none⟩ (.int .i64 nx)).heap[q]? = w3.heap[q]?:=fun q hq => (Below.heap_setCell _ _ _ _ hq).trans (Below.heap_setCell _ _ _ _ hq)
                have hBW2:=hp2.B
                have hp3:PSt N0 w0 (.slice (some ⟨bs,os,none⟩) ss.length ms) fs ss nx (ts'.set i (t'.take k ++ t'.drop (k + 1))) a3 ((w3.setCell ⟨N0 + 1,0,none⟩ (.slice y0 y1 y2)).setCell ⟨N0 + 1,1,none⟩ (.int .i64 nx)) :=
                  ⟨hp23.sz,hp23.df,hp23.s2,hp23.s3,hp23.s4,(hsame N0 (by omega)).trans hp23.xs,Rep.world _ _ _ (fun q hq => hsame q (by have:=hfs q hq; omega)) hp23.rs,
                    ⟨.slice y0 y1 y2,fp',Bx.set2 hX3 _ _,Rep.world _ _ _ (fun q hq => hsame q (by have:=z3 q hq; omega)) z1,z2,fun q hq => by have:=z3 q hq; omega⟩,⟨w1,w2,(hsame (N0 + 2) (by omega)).trans hxr⟩,by have:=hp23.B; simpa using this,
                    (hp23.bel.setCell (p:=⟨N0 + 1,0,none⟩) (Nat.le_succ _) _).setCell (p:=⟨N0 + 1,1,none⟩) (Nat.le_succ _) _⟩
                generalize ((w3.setCell ⟨N0 + 1,0,none⟩ (.slice y0 y1 y2)).setCell ⟨N0 + 1,1,none⟩ (.int .i64 nx)) = W3 at hp3 ⊢
                refine wp_seq (f9z a3 W3 _ F3.sz F3.df ?_)
                intro a4 F4 e5
                refine f9y a4 W3 _ F4.sz F4.df (c8a (by unfold maxLen at q5; omega)) ((F4.same 7 (by decide) (by simp)).trans (F3.u u7)) ?_
                intro a5 F5 e7
                refine f4b a5 W3 _ F5.sz F5.df (c8a (by unfold maxLen at q5; omega)) e7 ?_
                intro a6 F6 e7'
                have F36:=(F4.trans F5).trans F6
                exact e3h hP hfs hst hown n k _ true a6 W3 hk (hp3.fr F36 (by simp) (by simp) (by simp)) ((F6.same 5 (by decide) (by simp)).trans (F5.u e5)) ((F36.same 6 (by decide) (by simp)).trans (F3.u u6)) (by simpa using e7') hQ
            · cases hk
          · simp only [decide_eq_false_iff_not] at hz
            rw [if_neg hz] at hk
            refine wp_skip ?_
            refine f4b a2 W2 _ F2.sz F2.df hw u7 ?_
            intro a3 F3 e7
            exact e3h hP hfs hst hown n (k + 1) ts g a3 W2 hk (hp2.fr F3 (by simp) (by simp) (by simp)) (F3.u u5) (F3.u u6) e7 hQ
      · simp only [decide_eq_false_iff_not] at h; omega
end Go.R
end
section
set_option linter.all false
namespace Go.R
open Go Go.Proofs Go.RowKit
set_option maxHeartbeats 1000000
def b8s (ss:List b7i) (fst:List (List a1n) → Nat → Int → Option Int) (fown:List (List a1n) → Option (List (List a1n))):Nat → Nat → List (List a1n) → Bool → Option (List (List a1n) × Bool)
  | 0,_,_,_ => none
  | n + 1,i,ts,g => if i < ts.length then (b6c ss fst fown i FUEL 0 ts g).bind fun r => b8s ss fst fown n (i + 1) r.1 r.2 else some (ts,g)
def b8t (ss:List b7i) (fst:List (List a1n) → Nat → Int → Option Int) (fown:List (List a1n) → Option (List (List a1n))):Nat → List (List a1n) → Bool → Option (List (List a1n))
  | 0,_,_ => none
  | n + 1,ts,g => if g = true then (b8s ss fst fown FUEL 0 ts false).bind fun r => b8t ss fst fown n r.1 r.2 else some ts
noncomputable def bodyB:Code:=.seq (.seq (R 6 false) (.cond (.tmp 23) .skip (.exit 2))) (.seq (.block 3 (.seq (R 8 false) (.block 4 (.loop bodyA)))) (R 7 false))
noncomputable def bodyG:Code:=.seq (.seq (R 3 false) (.cond (.tmp 18) .skip (.exit 0))) (.block 1 (.seq (R 4 false) (.seq (R 5 false) (.block 2 (.loop bodyB)))))
theorem f2r {Q:Exit → Act → World → Prop} (hP:∀ c a (d:Tmp) v w,Q (.panic c) (a.put (some d) v) w → Q (.panic c) a w) {N0:Nat} {w0:World} {sv:Value} {fs:List Nat} {ss:List b7i} {nx:Int} {fst:List (List a1n) → Nat → Int → Option Int} {fown:List (List a1n) → Option (List (List a1n))} {r:List (List a1n) × Bool} (hfs:∀ q ∈ fs,q < N0)
    (hst:∀ ts i id n,fst ts i id = some n → a0v Tryz.prog 87 .flat [c2f ss,.agg [a3t ts,.int .i64 nx],.int .i64 i,.int .i64 id] (.int .i64 n))
    (hown:∀ ts ts',fown ts = some ts' → a0v Tryz.prog 147 .fresh [.agg [a3t ts,.int .i64 nx]] (.agg [a3t ts',.int .i64 nx])) :
    ∀ (n i:Nat) (ts:List (List a1n)) (g:Bool) (a:Act) (W:World),b8s ss fst fown n i ts g = some r → PSt N0 w0 sv fs ss nx ts a W → a.eval (.tmp 5) = .bool g → a.eval (.tmp 6) = .int .i64 i →
      (∀ a' W',PSt N0 w0 sv fs ss nx r.1 a' W' → a'.eval (.tmp 5) = .bool r.2 → Q (.exit 2) a' W') → Code.rounds Tryz.prog bodyB Q n a W
  | 0,i,ts,g,a,W,hk,hp,s5,s6,hQ => by simp only [b8s] at hk; cases hk
  | n + 1,i,ts,g,a,W,hk,hp,s5,s6,hQ => by
    simp only [b8s] at hk
    obtain ⟨v,fp,hX,hR,nd,hge⟩:=hp.x
    have hR':=hR
    unfold a3t at hR'
    obtain ⟨o,m,rfl,hlm⟩:=b3z hR'
    rw [List.length_map] at *
    rw [rounds_succ]
    unfold bodyB
    refine wp_seq (wp_seq (rg6 a W _ hp.sz hp.df (hX.cell0 0) hp.s3 s6 ?_))
    intro a1 F1 e1
    have hp1:=hp.fr F1 (by simp) (by simp) (by simp)
    have v5:=F1.u s5
    have v6:=F1.u s6
    refine wp_cond_split e1 (fun h => ?_) (fun h => ?_)
    · have hil:i < ts.length:=by simp only [decide_eq_true_eq] at h; omega
      rw [if_pos hil] at hk
      cases hA:b6c ss fst fown i FUEL 0 ts g with
      | none => rw [hA] at hk; cases hk
      | some r1 =>
      rw [hA,Option.bind_some] at hk
      refine wp_skip ?_
      refine wp_seq (wp_block (wp_seq (rg8 a1 W _ F1.sz F1.df ?_)))
      intro a2 F2 e7
      refine wp_block (wp_loop_rounds FUEL (e3h (by intro cc aa dd vv ww hh; exact hP cc aa dd vv ww hh) (r:=r1) hfs hst hown FUEL 0 ts g a2 W hA (hp1.fr F2 (by simp) (by simp) (by simp)) (F2.u v5) (F2.u v6) e7 ?_))
      intro a3 W3 hp3 e5 e6
      simp only [Exit.inBlock,Exit.then,if_true]
      refine rg7 a3 W3 _ hp3.sz hp3.df (c8a (by unfold maxLen at hlm; omega)) e6 ?_
      intro a4 F4 e6'
      exact f2r hP hfs hst hown n (i + 1) r1.1 r1.2 a4 W3 hk (hp3.fr F4 (by simp) (by simp) (by simp)) (F4.u e5) e6' hQ
    · have hil:¬ i < ts.length:=by simp only [decide_eq_false_iff_not] at h; omega
      rw [if_neg hil] at hk
      simp only [Option.some.injEq] at hk
      subst hk
      exact wp_exit (hQ a1 W hp1 v5)
theorem f2s {Q:Exit → Act → World → Prop} (hP:∀ c a (d:Tmp) v w,Q (.panic c) (a.put (some d) v) w → Q (.panic c) a w) {N0:Nat} {w0:World} {sv:Value} {fs:List Nat} {ss:List b7i} {nx:Int} {fst:List (List a1n) → Nat → Int → Option Int} {fown:List (List a1n) → Option (List (List a1n))} {r:List (List a1n)} (hfs:∀ q ∈ fs,q < N0)
    (hst:∀ ts i id n,fst ts i id = some n → a0v Tryz.prog 87 .flat [c2f ss,.agg [a3t ts,.int .i64 nx],.int .i64 i,.int .i64 id] (.int .i64 n))
    (hown:∀ ts ts',fown ts = some ts' → a0v Tryz.prog 147 .fresh [.agg [a3t ts,.int .i64 nx]] (.agg [a3t ts',.int .i64 nx])) :
    ∀ (n:Nat) (ts:List (List a1n)) (g:Bool) (a:Act) (W:World),b8t ss fst fown n ts g = some r → PSt N0 w0 sv fs ss nx ts a W → a.eval (.tmp 5) = .bool g →
      (∀ a' W',PSt N0 w0 sv fs ss nx r a' W' → Q (.exit 0) a' W') → Code.rounds Tryz.prog bodyG Q n a W
  | 0,ts,g,a,W,hk,hp,s5,hQ => by simp only [b8t] at hk; cases hk
  | n + 1,ts,g,a,W,hk,hp,s5,hQ => by
    simp only [b8t] at hk
    rw [rounds_succ]
    unfold bodyG
    refine wp_seq (wp_seq (rg3 a W _ hp.sz hp.df s5 ?_))
    intro a1 F1 e1
    have hp1:=hp.fr F1 (by simp) (by simp) (by simp)
    refine wp_cond_split e1 (fun h => ?_) (fun h => ?_)
    · rw [if_pos h] at hk
      cases hB:b8s ss fst fown FUEL 0 ts false with
      | none => rw [hB] at hk; cases hk
      | some r1 =>
      rw [hB,Option.bind_some] at hk
      refine wp_skip ?_
      refine wp_block (wp_seq (rg4 a1 W _ F1.sz F1.df ?_))
      intro a2 F2 e5
      refine wp_seq (rg5 a2 W _ F2.sz F2.df ?_)
      intro a3 F3 e6
      have F13:=F2.trans F3
      refine wp_block (wp_loop_rounds FUEL (f2r (by intro cc aa dd vv ww hh; exact hP cc aa dd vv ww hh) (r:=r1) hfs hst hown FUEL 0 ts false a3 W hB (hp1.fr F13 (by simp) (by simp) (by simp)) (F3.u e5) e6 ?_))
      intro a4 W4 hp4 e5'
      simp only [Exit.inBlock,Exit.then,if_true]
      exact f2s hP hfs hst hown n r1.1 r1.2 a4 W4 hk hp4 e5' hQ
    · rw [if_neg (by rw [h]; exact Bool.false_ne_true)] at hk
      simp only [Option.some.injEq] at hk
      subst hk
      exact wp_exit (hQ a1 W hp1)
end Go.R
end
section
set_option linter.all false
namespace Go.R
open Go Go.Proofs Go.RowKit
set_option maxRecDepth 100000
set_option maxHeartbeats 1000000
noncomputable def skelP:Code:=.seq (R 0 false) (.seq (R 1 false) (.seq (.seq (R 2 false) (.block 0 (.loop bodyG))) (.seq (.seq (R 15 false) (.block 6 (.loop bodyI))) (.seq (R 35 false) .ret))))
theorem f0z:Tryz.f108.body = some skelP:=by kernel_rfl
theorem g0o (args:Array Value) (w:World):(callFunc 147 args).run Tryz.prog w = .ok (.enter 147 args) w:=enters_of Tryz.func147 (by kernel_rfl) rfl _ _
theorem rg0 (a:Act) (W:World) (Q:Exit → Act → World → Prop) (sz:a.tmps.size = 164) (df:a.defers = []) {sv v0:Value} {nx:Int} {p0:Option Addr} {p1 p2:Nat} {r0:Option Addr} {r1 r2:Nat}
  (s0:a.eval (.tmp 0) = .agg #[.slice r0 r1 r2]) (s1:a.eval (.tmp 1) = .agg #[.slice p0 p1 p2,.int .i64 nx])
  (hK:∀ a',Fr 16 164 [2,3,4] a a' → a'.eval (.tmp 2) = .pointer (some ⟨W.heap.size,0,none⟩) → a'.eval (.tmp 3) = .pointer (some ⟨W.heap.size + 1,0,none⟩) → a'.eval (.tmp 4) = .pointer (some ⟨W.heap.size + 2,0,none⟩) →
   Q .normal a' (((W.alloc (.cells #[.slice r0 r1 r2] 25)).alloc (.cells #[.slice p0 p1 p2,.int .i64 nx] 29)).alloc (.cells #[.slice none 0 0,.int .i64 0] 29))):(Code.region 0 (opsP 0) false).wp Tryz.prog Q a W:=by
 refine rgl ?_
 have t0:=a0f sz s0
 have t1:=a0f sz s1
 refine a6q rfl (v:=.pointer (some ⟨W.heap.size,0,none⟩)) (w':=W.alloc (.cells #[.slice r0 r1 r2] 25)) (by simp [go_sem,execOp,sz,t0]) ?_
 refine a6q rfl (v:=.pointer (some ⟨W.heap.size + 1,0,none⟩)) (w':=(W.alloc (.cells #[.slice r0 r1 r2] 25)).alloc (.cells #[.slice p0 p1 p2,.int .i64 nx] 29)) (by simp [go_sem,execOp,sz,t1]) ?_
 refine a6q rfl (v:=.pointer (some ⟨W.heap.size + 2,0,none⟩)) (w':=((W.alloc (.cells #[.slice r0 r1 r2] 25)).alloc (.cells #[.slice p0 p1 p2,.int .i64 nx] 29)).alloc (.cells #[.slice none 0 0,.int .i64 0] 29)) (by simp [go_sem,execOp,sz]) ?_
 dsimp only
 exact hK _ fP sP sP sP
theorem rg1 (a:Act) (W:World) (Q:Exit → Act → World → Prop) (sz:a.tmps.size = 164) (df:a.defers = []) {N3:Nat} {p0:Option Addr} {p1 p2:Nat} {nx:Int} {R:Option Addr → Nat → Nat → World → Prop}
  (x0:Bx W N3 29 #[.slice p0 p1 p2,.int .i64 nx])
  (s3:a.eval (.tmp 3) = .pointer (some ⟨N3,0,none⟩))
  (hc:Calls Tryz.prog 147 #[.agg #[.slice p0 p1 p2,.int .i64 nx]] W fun e w' => ∃ y0 y1 y2,e = .returned (.agg #[.slice y0 y1 y2,.int .i64 nx]) ∧ Bx w' N3 29 #[.slice p0 p1 p2,.int .i64 nx] ∧ R y0 y1 y2 w')
  (hK:∀ a' w' y0 y1 y2,R y0 y1 y2 w' → Bx w' N3 29 #[.slice p0 p1 p2,.int .i64 nx] → Fr 16 164 [] a a' → Q .normal a' ((w'.setCell ⟨N3,0,none⟩ (.slice y0 y1 y2)).setCell ⟨N3,1,none⟩ (.int .i64 nx))):(Code.region 1 (opsP 1) false).wp Tryz.prog Q a W:=by
 refine rgl ?_
 have t3:=a0f sz s3
 refine a6q rfl (v:=.agg #[.slice p0 p1 p2,.int .i64 nx]) (w':=W) (by simp [go_sem,execOp,sz,t3,x0.cell0]) ?_
 refine d5u rfl (f:=147) (args:=#[.agg #[.slice p0 p1 p2,.int .i64 nx]]) (by simp [go_sem,execOp,sz,g0o]) ?_
 refine hc.mono ?_
 rintro e w' ⟨y0,y1,y2,rfl,hx,hR⟩
 refine ⟨_,rfl,?_⟩
 have g1:=hx.setk 0 (.slice y0 y1 y2)
 refine c5f rfl (w':=(w'.setCell ⟨N3,0,none⟩ (.slice y0 y1 y2)).setCell ⟨N3,1,none⟩ (.int .i64 nx)) (by simp [go_sem,execOp,sz,t3,hx.cell0,hx.frozen,g1.cell0,g1.frozen]) ?_
 dsimp only
 simp only [c0k]
 refine hK _ _ y0 y1 y2 hR hx ?_
 repeat refine Fr.put ?_ (by decide)
 exact Fr.rfl' sz df
def c5g (ss:List b7i) (fst:List (List a1n) → Nat → Int → Option Int) (fown:List (List a1n) → Option (List (List a1n))) (fnd:List UInt8 → Option Int) (fpl:List a1n → Int → Option Int) (ts:List (List a1n)):Option (List (List a1n)) :=
 (fown ts).bind fun ts1 => (b8t ss fst fown FUEL ts1 true).bind fun ts2 => c0l fnd fpl ss ts2.length 0 ts2
theorem e7y {ss:List b7i} {nx:Int} {fst:List (List a1n) → Nat → Int → Option Int} {fown:List (List a1n) → Option (List (List a1n))} {fnd:List UInt8 → Option Int} {fpl:List a1n → Int → Option Int} {ts r:List (List a1n)}
  (hst:∀ ts i id n,fst ts i id = some n → a0v Tryz.prog 87 .flat [c2f ss,.agg [a3t ts,.int .i64 nx],.int .i64 i,.int .i64 id] (.int .i64 n))
  (hown:∀ ts ts',fown ts = some ts' → a0v Tryz.prog 147 .fresh [.agg [a3t ts,.int .i64 nx]] (.agg [a3t ts',.int .i64 nx]))
  (hpl:∀ rows N p,fpl rows N = some p → a0v Tryz.prog 86 .flat [b6b rows,.int .i64 N] (.int .i64 p))
  (hfnd:∀ rf f,fnd rf = some f → a0v Tryz.prog 182 .flat [c2f ss,.str rf] (.int .i64 f))
  (hr:c5g ss fst fown fnd fpl ts = some r):a0v Tryz.prog 108 .fresh [c2f ss,.agg [a3t ts,.int .i64 nx]] (.agg [a3t r,.int .i64 nx]):=by
 unfold c5g at hr
 cases ho:fown ts with
 | none => rw [ho] at hr; cases hr
 | some ts1 =>
 rw [ho,Option.bind_some] at hr
 cases hG:b8t ss fst fown FUEL ts1 true with
 | none => rw [hG] at hr; cases hr
 | some ts2 =>
 rw [hG,Option.bind_some] at hr
 intro w vals fps hv
 simp only [a0x] at hv
 obtain ⟨cs,v1,fs,f1',rfl,hs,⟨c2,v2,f2,f2',rfl,hx,⟨rfl,rfl⟩,rfl⟩,rfl⟩:=hv
 have hs':∃ r0 r1 r2,cs = [.slice r0 r1 r2] ∧ Rep false w (.lst 4 (ss.map eTb)) [.slice r0 r1 r2] fs:=by
  unfold c2f at hs
  rw [Rep,a0b] at hs
  obtain ⟨c,r,p,q,rfl,-,h1,h2,rfl⟩:=hs
  rw [a0b] at h2
  obtain ⟨rfl,rfl⟩:=h2
  obtain ⟨o,cc,rfl,-⟩:=b3z h1
  exact ⟨_,_,_,rfl,by simpa using h1⟩
 obtain ⟨r0,r1,r2,rfl,hS⟩:=hs'
 obtain ⟨p0,p1,p2,rfl,hX⟩:=b6z hx
 have hlts:=Rep.lt _ _ _ hS
 have hltx:=Rep.lt _ _ _ hX
 refine calls_of_wp Tryz.func108 f0z ?_
 refine (fun key => key _ (by rw [show Tryz.f108.ntmps = 164 from rfl]; simp) rfl (by simp [Act.eval,c2f,mkV]) (by simp [Act.eval,mkV])) (?_:∀ a:Act,a.tmps.size = 164 → a.defers = [] → a.eval (.tmp 0) = .agg #[.slice r0 r1 r2] → a.eval (.tmp 1) = .agg #[.slice p0 p1 p2,.int .i64 nx] → skelP.wp Tryz.prog _ a w)
 intro a sz df s0 s1
 unfold skelP
 refine wp_seq (rg0 (sv:=undef) (v0:=undef) a w _ sz df s0 s1 ?_)
 intro a1 F1 e2 e3 e4
 have b1:=((Bx.new w 25 #[.slice r0 r1 r2]).alloc (.cells #[.slice p0 p1 p2,.int .i64 nx] 29)).alloc (.cells #[.slice none 0 0,.int .i64 0] 29)
 have b2:=(Bx.new (w.alloc (.cells #[.slice r0 r1 r2] 25)) 29 #[.slice p0 p1 p2,.int .i64 nx]).alloc (.cells #[.slice none 0 0,.int .i64 0] 29)
 have b3:=Bx.new ((w.alloc (.cells #[.slice r0 r1 r2] 25)).alloc (.cells #[.slice p0 p1 p2,.int .i64 nx] 29)) 29 #[.slice none 0 0,.int .i64 0]
 have hW:(((w.alloc (.cells #[.slice r0 r1 r2] 25)).alloc (.cells #[.slice p0 p1 p2,.int .i64 nx] 29)).alloc (.cells #[.slice none 0 0,.int .i64 0] 29)).heap.size = w.heap.size + 3:=by simp
 have hB1:Below w.heap.size w (((w.alloc (.cells #[.slice r0 r1 r2] 25)).alloc (.cells #[.slice p0 p1 p2,.int .i64 nx] 29)).alloc (.cells #[.slice none 0 0,.int .i64 0] 29)):=(((Below.refl _ w).alloc (Nat.le_refl _) _).alloc (by rw [World.size_alloc]; omega) _).alloc (by rw [World.size_alloc,World.size_alloc]; omega) _
 rw [World.size_alloc] at b2
 rw [World.size_alloc,World.size_alloc] at b3
 generalize (((w.alloc (.cells #[.slice r0 r1 r2] 25)).alloc (.cells #[.slice p0 p1 p2,.int .i64 nx] 29)).alloc (.cells #[.slice none 0 0,.int .i64 0] 29)) = W1 at b1 b2 b3 hW hB1 ⊢
 have hS1:Rep false W1 (.lst 4 (ss.map eTb)) [.slice r0 r1 r2] fs:=Rep.world _ _ _ (fun q hq => hB1.block q (hlts q hq)) hS
 refine wp_seq (rg1 a1 W1 _ F1.sz F1.df (R:=fun y0 y1 y2 w' => Below W1.heap.size W1 w' ∧ ∃ fp',Rep true w' (a3t ts1) [.slice y0 y1 y2] fp' ∧ fp'.Nodup ∧ ∀ q ∈ fp',W1.heap.size ≤ q) b2 e3 ((hown ts ts1 ho W1 [.agg #[.slice p0 p1 p2,.int .i64 nx]] (f2 ++ []) ?_).mono ?_) ?_)
 ·simp only [a0x]
  exact ⟨[.slice p0 p1 p2,.int .i64 nx],_,f2,_,rfl,Rep.world (w:=w) _ _ _ (fun q hq => hB1.block q (Rep.lt _ _ _ hx q hq)) hx,⟨rfl,rfl⟩,rfl⟩
 ·intro ev w' hh
  cases ev with
  | returned u =>
   obtain ⟨g1,fp',⟨cs,rfl,gg⟩,gn,gge⟩:=hh
   obtain ⟨y0,y1,y2,rfl,gr⟩:=b6z gg
   exact ⟨y0,y1,y2,rfl,b2.below g1 (by omega),g1,fp',gr,gn,gge⟩
  | panicked _ => exact hh.elim
  | outgrown => exact hh.elim
 ·rintro a2 w2 y0 y1 y2 ⟨hb2,fp',z1,z2,z3⟩ hX2 F2
  have hs2:=hb2.size
  have hsame:∀ q,q ≠ w.heap.size + 1 → ((w2.setCell ⟨w.heap.size + 1,0,none⟩ (.slice y0 y1 y2)).setCell ⟨w.heap.size + 1,1,none⟩ (.int .i64 nx)).heap[q]? = w2.heap[q]?:=fun q hq => (Below.heap_setCell _ _ _ _ hq).trans (Below.heap_setCell _ _ _ _ hq)
  have hp2:PSt w.heap.size w (.slice r0 r1 r2) fs ss nx ts1 a2 ((w2.setCell ⟨w.heap.size + 1,0,none⟩ (.slice y0 y1 y2)).setCell ⟨w.heap.size + 1,1,none⟩ (.int .i64 nx)) :=
   ⟨F2.sz,F2.df,(F2.same 2 (by decide) (by simp)).trans e2,(F2.same 3 (by decide) (by simp)).trans e3,(F2.same 4 (by decide) (by simp)).trans e4,(hsame _ (by omega)).trans (b1.below hb2 (by omega)),
    Rep.world _ _ _ (fun q hq => hsame q (by have:=hlts q hq; omega)) (Rep.world (w:=W1) _ _ _ (fun q hq => hb2.block q (by have:=hlts q hq; omega)) hS1),
    ⟨.slice y0 y1 y2,fp',Bx.set2 hX2 _ _,Rep.world _ _ _ (fun q hq => hsame q (by have:=z3 q hq; omega)) z1,z2,fun q hq => by have:=z3 q hq; omega⟩,⟨_,_,(hsame _ (by omega)).trans (b3.below hb2 (by omega))⟩,by simp; omega,
    ((hB1.trans (hb2.mono (by omega))).setCell (p:=⟨w.heap.size + 1,0,none⟩) (Nat.le_succ _) _).setCell (p:=⟨w.heap.size + 1,1,none⟩) (Nat.le_succ _) _⟩
  generalize ((w2.setCell ⟨w.heap.size + 1,0,none⟩ (.slice y0 y1 y2)).setCell ⟨w.heap.size + 1,1,none⟩ (.int .i64 nx)) = W2 at hp2 ⊢
  refine wp_seq (wp_seq (rg2 a2 W2 _ F2.sz F2.df ?_))
  intro a3 F3 e5
  refine wp_block (wp_loop_rounds FUEL (f2s (by intro cc aa dd vv ww hh; exact hh) (r:=ts2) hlts hst hown FUEL ts1 true a3 W2 hG (hp2.fr F3 (by simp) (by simp) (by simp)) e5 ?_))
  intro a4 W4 hp4
  simp only [Exit.inBlock,Exit.then,if_true]
  refine wp_seq (wp_seq (g0a a4 W4 _ hp4.sz hp4.df ?_))
  intro a5 F5 e8
  have hp5:=hp4.fr F5 (by simp) (by simp) (by simp)
  obtain ⟨v,fp,hX5,hR5,nd5,hge5⟩:=hp5.x
  have hR5':=hR5
  unfold a3t at hR5'
  obtain ⟨o,m,rfl,-⟩:=b3z hR5'
  refine wp_block (wp_loop_rounds _ (f2p (by intro cc aa dd vv ww hh; exact hh) (B0:=w.heap.size + 3) (r:=r) (nx:=nx) (by omega) (by omega) (fun q hq => by have:=hlts q hq; omega) hpl hfnd ts2.length 0 ts2 fp a5 W4 hr (by omega) hp5.sz hp5.df hR5 nd5 hge5 hp5.B hX5 hp5.xs hp5.rs hp5.s2 hp5.s3 e8 ?_))
  intro a6 W6 fp6 F6 w1 w2' w3 w4 w5
  simp only [Exit.inBlock,Exit.then,if_true]
  have hX6:=hX5.below w4 (by omega)
  obtain ⟨u1,u2,hr4⟩:=hp5.xr
  have hr6:=hr4.below w4 (by omega)
  refine wp_seq (g0l a6 W6 _ F6.sz F6.df hX6 hr6 ((F6.same 3 (by decide) (by simp)).trans hp5.s3) ((F6.same 4 (by decide) (by simp)).trans hp5.s4) ?_)
  intro a7 F7
  have e47:=(F7.same 4 (by decide) (by simp)).trans ((F6.same 4 (by decide) (by simp)).trans hp5.s4)
  have hr7:=Bx.set2 hr6 (.slice o (ts2.map b6b).length m) (.int .i64 nx)
  have hsame7:∀ q,q ≠ w.heap.size + 2 → ((W6.setCell ⟨w.heap.size + 2,0,none⟩ (.slice o (ts2.map b6b).length m)).setCell ⟨w.heap.size + 2,1,none⟩ (.int .i64 nx)).heap[q]? = W6.heap[q]?:=fun q hq => (Below.heap_setCell _ _ _ _ hq).trans (Below.heap_setCell _ _ _ _ hq)
  obtain ⟨fz,hu29⟩:∃ fz,Tryz.prog.underlying 29 = some (.struct fz):=⟨_,rfl⟩
  refine wp_ret ?_
  refine bodyPost_ret (results_cell_row rfl _ _ (w.heap.size + 2) 29 #[.slice o (ts2.map b6b).length m,.int .i64 nx] (0,0) _ (by simpa [Act.eval] using e47) hr7 hu29 rfl (by kernel_rfl)) F7.df ?_
  refine ⟨?_,fp6,⟨[.slice o (ts2.map b6b).length m,.int .i64 nx],rfl,c6x (Rep.world _ _ _ (fun q hq => hsame7 q (by have:=w3 q hq; omega)) w1)⟩,w2',fun q hq => by have:=w3 q hq; omega⟩
  exact ((hp5.bel.trans (w4.mono (by omega))).setCell (p:=⟨w.heap.size + 2,0,none⟩) (by show _ ≤ w.heap.size + 2; omega) _).setCell (p:=⟨w.heap.size + 2,1,none⟩) (by show _ ≤ w.heap.size + 2; omega) _
end Go.R
end
