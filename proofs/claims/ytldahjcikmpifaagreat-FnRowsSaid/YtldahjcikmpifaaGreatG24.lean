/- Part of the proof. -/
import Derived.Test.YtldahjcikmpifaaGreatG17
import Derived.Test.YtldahjcikmpifaaGreatG18

section
set_option linter.all false
namespace Go.R
open Go Go.Proofs
set_option maxRecDepth 100000
set_option maxHeartbeats 8000000
instance w_laws_sameRow (A:o5) (B:o5) (r:Bool):Wk Tryz.prog (b0w A B = some r) 63 [(o6 A),(o6 B)] (.bool r):=⟨fun hf => by
 unfold b0w at hf;refine coA [5,13,31] [cZ [2,3] fun v:Unit => (fun _ _ _ _ _ => ([(19,(.bool (bif (A.Id != B.Id) then true else ((A.Cells.length:Int) != (B.Cells.length:Int)))))],none)),zI0 [2,3] fun i => (fun _ _ _ _ _ => ([(5,(.int .i64 (i:Int)))],none)),fZ [] fun v:Unit => (fun _ _ _ _ _ => ([],some []))] Tryz.func63 ?_ (sp:=[(1,[[6,19]]),(5,[[27,36],[37,0],[38]])]);exact Z⟩
instance w_laws_sameRows (A:(List o5)) (B:(List o5)) (r:Bool):Wk Tryz.prog (b1n A B = some r) 246 [(.lst 2 (A.map o6)),(.lst 2 (B.map o6))] (.bool r):=⟨fun hf => by
 unfold b1n at hf;refine coA [13,31] [zI0 [0,1] fun i => (fun _ _ _ _ _ => ([(5,(.int .i64 (i:Int)))],none)),fZ [] fun v:Unit => (fun _ _ _ _ _ => ([],none))] Tryz.func246 ?_ (sp:=[(5,[[17,24],[25,0],[26]])]);exact Z⟩
section
open Go.RowKit Go.Lib
set_option maxHeartbeats 4000000 in
set_option maxRecDepth 100000 in
theorem b1p (kf:Nat) (lb:Array Value) (v:Value) (w:World)
    (hidx:Calls Tryz.prog 178 #[v,.func (.func kf) #[] lb] w fun e w' => e = .returned (.int .i64 (-1)) ∧ Below w.heap.size w w') :
    Calls Tryz.prog 250 #[v,.func (.func kf) #[] lb] w fun e w' => e = .returned v ∧ Below w.heap.size w w':=by
  have mixed:Tryz.prog.follows .mixedOrders = true:=by kernel_rfl
  go_enter Tryz.func250,(show Tryz.f250.ntmps = 42 from rfl)
  go_wp2_with (go_at_call 178;refine hidx.mono ?_;rintro e w' ⟨rfl,hb⟩)
  go_ret
  exact ⟨rfl,hb⟩
set_option maxHeartbeats 4000000 in
set_option maxRecDepth 100000 in
theorem b9u (kf:Nat) (lb:Array Value) (eg:∀ args w,(callFunc kf args).run Tryz.prog w = .ok (.enter kf args) w) (w:World) (g n c:Nat) (e:TypeId) (rest:List Value) (d:Array (Value × Value)) (kp:Nat → Bool) (k0:Nat) (hn:d.size = n) (hnc:n ≤ c) (hc:c ≤ maxLen)
    (hrow:DW w g e rest d w) (hone:∀ x ∈ d.toList,x.1.oneCell' = true ∧ x.2.oneCell' = true) (hkeep:∀ j,j < k0 → kp j = true) (hdrop:kp k0 = false) (hk0:k0 < n)
    (hidx:Calls Tryz.prog 178 #[.slice (some ⟨g,0,none⟩) n c,.func (.func kf) #[] lb] w fun e w' => e = .returned (.int .i64 k0) ∧ Below w.heap.size w w')
    (hcall:∀ (W:World) (dk:Array (Value × Value)) (j:Nat),j < n → DW w g e rest dk W → Calls Tryz.prog kf (#[.agg #[(d[j]!).1,(d[j]!).2]] ++ lb) W fun e w' => e = .returned (.bool (!kp j)) ∧ Below W.heap.size W w')
    (hcl:∀ (W:World) (dk:Array (Value × Value)) (i:Nat),i < n → dk.size = n → DW w g e rest dk W → ∃ dk' W2,(∀ ty,(Builtin.clear_ #[34] ty #[.slice (some ⟨g,i * 2,none⟩) (n - i) (c - i)]).run Tryz.prog W = .ok (.tuple #[]) W2) ∧ DW w g e rest dk' W2 ∧ dk'.size = n ∧ dk'.toList.take i = dk.toList.take i) :
    Calls Tryz.prog 250 #[.slice (some ⟨g,0,none⟩) n c,.func (.func kf) #[] lb] w fun e' w' =>
      e' = .returned (.slice (some ⟨g,0,none⟩) (keptUpTo kp d n).length c) ∧ ∃ dk,DW w g e rest dk w' ∧ dk.size = n ∧ dk.toList.take (keptUpTo kp d n).length = keptUpTo kp d n:=by
  have mixed:Tryz.prog.follows .mixedOrders = true:=by kernel_rfl
  have hc63:c ≤ 9223372036854775807:=by unfold maxLen at hc;omega
  have hne1:((k0:Int) == -1) = false:=beq_eq_false_iff_ne.2 (by omega)
  have HC:Aside _:=hcall
  have HCL:Aside _:=hcl
  have HO:Aside _:=hone
  have H0:Aside _:=hrow
  clear hcall hcl hone hrow
  go_enter Tryz.func250,(show Tryz.f250.ntmps = 42 from rfl)
  go_wp2_with (go_at_call 178;refine hidx.mono ?_;rintro e w' ⟨rfl,hb0⟩)
  have D0:Aside (DW w g e rest d w'):=H0.out.below hb0
  clear hb0
  go_loopg [5,6,7] n (fun gg s5 s6 _ wr => ∃ (i j:Nat) (dk:Array (Value × Value)),s5 = .int .i64 i ∧ s6 = .int .i64 j ∧ j ≤ n ∧ n - j ≤ gg ∧ Aside (DW w g e rest dk wr) ∧ Aside (KeptInv kp d j i dk))
  case atStart => exact ⟨k0,k0 + 1,d,rfl,by go_num,by omega,by omega,D0,KeptInv.start hkeep hdrop⟩
  case round =>
    obtain ⟨i,j,dk,rfl,rfl,hjd,hgg,S1,I⟩:=hrel
    have hij:=I.out.lt
    have hds:=I.out.size
    by_cases hlt:j < n
    · have hltz:(j:Int) < (n:Int):=by omega
      obtain ⟨c1,c2⟩:=S1.out.cells j (by omega)
      rw [I.out.high j (by omega)] at c1 c2
      have hm:d[j]! ∈ d.toList:=by rw [getElem!_pos d j (by omega)];simp
      obtain ⟨o1,o2⟩:=HO.out _ hm
      have X:Aside (d[j]! = ((d[j]!).1,(d[j]!).2)):=rfl
      clear hm
      generalize (d[j]!).1 = x1 at c1 c2 o1 o2 X
      generalize (d[j]!).2 = x2 at c1 c2 o1 o2 X
      have st1:∀ a m W,Sem.run Tryz.prog (store a x1 m) W = stored Tryz.prog W a x1 m:=fun a m W => run_store _ _ _ _ _ o1
      have st2:∀ a m W,Sem.run Tryz.prog (store a x2 m) W = stored Tryz.prog W a x2 m:=fun a m W => run_store _ _ _ _ _ o2
      have D1:Aside (DW w g e rest dk (wr.alloc (.cells #[x1,x2] 39))):=S1.out.alloc _
      have hcall:=HC.out (wr.alloc (.cells #[x1,x2] 39)) dk j hlt D1.out
      rw [X.out] at hcall
      have hsz:(wr.alloc (.cells #[x1,x2] 39)).heap.size = wr.heap.size + 1:=Array.size_push ..
      cases hq:kp j with
      | true =>
        rw [hq] at hcall
        go_wp2_with fail
        refine hcall.mono ?_
        rintro e' w2 ⟨rfl,hb⟩
        have D2:Aside (DW w g e rest dk w2):=D1.out.below hb
        have b1:w2.cell? ⟨wr.heap.size,0,none⟩ = some x1:=by
          rw [hb.cell (p:=⟨wr.heap.size,0,none⟩) (by rw [hsz];exact Nat.lt_succ_self _)]
          exact (World.cell?_alloc_at (w:=wr) _ _ _ _ rfl).trans rfl
        have b2:w2.cell? ⟨wr.heap.size,1,none⟩ = some x2:=by
          rw [hb.cell (p:=⟨wr.heap.size,1,none⟩) (by rw [hsz];exact Nat.lt_succ_self _)]
          exact (World.cell?_alloc_at (w:=wr) _ _ _ _ rfl).trans rfl
        obtain ⟨i1,i2⟩:=D2.out.cells i (by omega)
        have f1:=D2.out.frozen (i * 2)
        have f2:=D2.out.frozen (i * 2 + 1)
        have D3:Aside _:=D2.out.put i (by omega) x1 x2
        generalize (dk[i]!).1 = y1 at i1
        generalize (dk[i]!).2 = y2 at i2
        clear hb hcall hsz c1 c2 D1 D2
        generalize wr.heap.size = bx at b1 b2 ⊢
        have hin:(i:Int) < (n:Int):=by omega
        go_wp2_with fail
        go_roundg (n - (j + 1))
        case measure => omega
        case rel =>
          have hk:=I.out.keep (by omega) hq
          rw [X.out] at hk
          exact ⟨i + 1,j + 1,dk.setIfInBounds i (x1,x2),by go_num,by go_num,by omega,Nat.le_refl _,D3,hk⟩
      | false =>
        rw [hq] at hcall
        go_wp2_with (refine hcall.mono ?_;rintro e' w2 ⟨rfl,hb⟩)
        go_roundg (n - (j + 1))
        case measure => omega
        case rel => exact ⟨i,j + 1,dk,rfl,by go_num,by omega,Nat.le_refl _,D1.out.below hb,I.out.skip hq⟩
    · have hjn:j = n:=by omega
      subst hjn
      have hltz:¬ (j:Int) < (j:Int):=by omega
      have hin:(i:Int) ≤ (j:Int):=by omega
      have hin2:i ≤ j:=by omega
      have hic:(i:Int) ≤ (c:Int):=by omega
      have hicn:i ≤ c:=by omega
      have hci:¬ c = i:=by omega
      obtain ⟨d',W2,hc1,hd,hs,ht⟩:∃ d' W2,(∀ ty,(Builtin.clear_ #[34] ty #[.slice (some ⟨g,i * 2,none⟩) (j - i) (c - i)]).run Tryz.prog wr = .ok (.tuple #[]) W2) ∧ DW w g e rest d' W2 ∧ d'.size = j ∧ d'.toList.take i = dk.toList.take i:=HCL.out wr dk i hij (by omega) S1.out
      have D:Aside (DW w g e rest d' W2 ∧ d'.size = j ∧ d'.toList.take i = dk.toList.take i):=⟨hd,hs,ht⟩
      clear hd hs ht
      go_wp2_with fail
      go_ret
      have hl:=I.out.len
      refine ⟨by rw [hl];rfl,d',D.out.1,D.out.2.1,?_⟩
      rw [hl,D.out.2.2]
      apply List.ext_getElem?
      intro t
      by_cases htt:t < i
      · rw [List.getElem?_take_of_lt htt,I.out.low t htt,getElem!_pos dk t (by omega)]
        simp
      · rw [List.getElem?_eq_none (by rw [List.length_take];omega),List.getElem?_eq_none (by omega)]
theorem b9v:∃ i:TypeInfo,Tryz.prog.info? 39 = some i ∧ i.size = 2 ∧ i.bytes = 32 ∧ i.zero = some (.agg #[.int .i64 0,.slice none 0 0]):=d9q (by kernel_rfl)
theorem c1m:Tryz.prog.underlying 34 = some (.slice 39):=by kernel_rfl
set_option maxHeartbeats 4000000 in
set_option maxRecDepth 100000 in
theorem b0s (w:World) (v:Value) (id:Int) (R:Value → World → Prop)
    (h:Calls Tryz.prog 250 #[v,.func (.func 251) #[] #[.pointer (some ⟨w.heap.size,0,none⟩)]] (w.alloc (.cells #[.int .i64 id] 3)) fun e w' => ∃ r,e = .returned r ∧ R r w') :
    Calls Tryz.prog 151 #[v,.int .i64 id] w fun e w' => ∃ r,e = .returned r ∧ R r w':=by
  have mixed:Tryz.prog.follows .mixedOrders = true:=by kernel_rfl
  go_enter Tryz.func151,(show Tryz.f151.ntmps = 8 from rfl)
  go_wp2_with (go_at_call 250;refine h.mono ?_;rintro e w' ⟨r,rfl,hr⟩)
  go_ret
  exact ⟨_,rfl,hr⟩
set_option maxHeartbeats 4000000 in
set_option maxRecDepth 100000 in
theorem b7n (dm:Md) (xs:List o5) (id:Int):a2a Tryz.prog dm 151 [.own 0 0 xs.length,.int .i64 id] [.row 2 (xs.map o6)] (.own 1 0 (xs.filter fun x => !(x.Id == id)).length) [.dead,.row 2 ((xs.filter fun x => !(x.Id == id)).map o6)]:=by
  intro C σ φ w vals _ _ hok hb hr hv
  simp only [RVs] at hv
  obtain ⟨v1,_,rfl,h1,v2,_,rfl,h2,rfl⟩:=hv
  have e2:v2 = .int .i64 id:=by simpa only [RV] using h2
  subst e2
  obtain ⟨ti,hti,hts,htb,htz⟩:=b9v
  have hsz:(w.alloc (.cells #[.int .i64 id] 3)).heap.size = w.heap.size + 1:=Array.size_push ..
  have hbel:Below w.heap.size w (w.alloc (.cells #[.int .i64 id] 3)):=(Below.refl _ _).alloc (Nat.le_refl _) _
  have hbx:(w.alloc (.cells #[.int .i64 id] 3)).heap[w.heap.size]? = some (.cells #[.int .i64 id] 3 (0,0)):=by
    show (w.heap.push _)[w.heap.size]? = _
    rw [Array.getElem?_push,if_pos rfl]
  have hcap:∀ W,W.heap[w.heap.size]? = some (.cells #[.int .i64 id] 3 (0,0)) → Rep false W (.iptr (.int .i64 id) 0) [.pointer (some ⟨w.heap.size,0,none⟩)] [w.heap.size]:=by
    intro W hW
    simp only [Rep]
    exact ⟨w.heap.size,0,1,_,_,_,[],rfl,hW,rfl,rfl,rfl,rfl⟩
  have hfn:∀ W,W.heap[w.heap.size]? = some (.cells #[.int .i64 id] 3 (0,0)) → Rep false W (.fn 251 [.iptr (.int .i64 id) 0]) [.func (.func 251) #[] #[.pointer (some ⟨w.heap.size,0,none⟩)]] [w.heap.size]:=by
    intro W hW
    simp only [Rep,a1c]
    exact ⟨_,rfl,_,[],[w.heap.size],[],rfl,hcap W hW,⟨rfl,rfl⟩,rfl⟩
  have hidx:∀ r,a1y xs (fun x => a5g x id) = some r → ∀ fp,b3q false (w.alloc (.cells #[.int .i64 id] 3)) (.lst 2 (xs.map o6)) v1 fp →
      Calls Tryz.prog 178 #[v1,.func (.func 251) #[] #[.pointer (some ⟨w.heap.size,0,none⟩)]] (w.alloc (.cells #[.int .i64 id] 3)) fun e w' => e = .returned (.int .i64 r) ∧ Below (w.alloc (.cells #[.int .i64 id] 3)).heap.size (w.alloc (.cells #[.int .i64 id] 3)) w':=by
    intro r hr0 fp hfp
    have kf:K1 Tryz.prog (fun x => a5g x id) (fun a0 => o6 a0) (fun r => .bool r) 251 [.iptr (.int .i64 id) 0]:={hp:=fun x r h => w_impl_drop_1 x id r h}
    have hc:=w_slices_IndexFunc_impl_Row_impl_Row xs (fun x => a5g x id) r hr0
    have:=hc (w.alloc (.cells #[.int .i64 id] 3)) [v1,.func (.func 251) #[] #[.pointer (some ⟨w.heap.size,0,none⟩)]] (fp ++ [w.heap.size]) (by
      obtain ⟨cs,rfl,hcs⟩:=hfp
      simp only [a1c]
      exact ⟨cs,_,fp,[w.heap.size],rfl,hcs,⟨_,[],[w.heap.size],[],rfl,hfn _ hbx,⟨rfl,rfl⟩,rfl⟩,rfl⟩)
    refine this.mono ?_
    intro e w' he
    cases e with
    | returned v =>
      obtain ⟨q1,cs,rfl,q2⟩:=he
      simp only [Rep] at q2
      obtain ⟨rfl,_⟩:=q2
      exact ⟨rfl,q1⟩
    | panicked _ => exact he.elim
    | outgrown => exact he.elim
  rcases d2m hr rfl h1 (by simp) with ⟨rfl,hl,hs0,hp0⟩ | ⟨g,c,cur,e,hσ,rfl,hnc,hcm,hg,hcs,hrep⟩
  · have hx:xs = []:=by simpa using hl
    subst hx
    have hi:=hidx (-1) rfl [] ⟨_,rfl,by simp only [Rep,List.map_nil];exact .inl ⟨trivial,trivial,none,0,rfl,Nat.zero_le _,fun _ => ⟨rfl,rfl⟩⟩⟩
    refine (b0s w _ id (fun r w' => r = .slice none 0 0 ∧ Below (w.alloc (.cells #[.int .i64 id] 3)).heap.size (w.alloc (.cells #[.int .i64 id] 3)) w') ((b1p 251 _ _ _ hi).mono (fun e w' h => ⟨_,h.1,rfl,h.2⟩))).mono ?_
    rintro e' w' ⟨r,rfl,rfl,hb1⟩
    have hb2:Below w.heap.size w w':=hbel.trans (hb1.mono (by omega))
    obtain ⟨σ',φ',k1,k2,k3⟩:=e7q hr hb2
    refine ⟨σ',φ',k1,k2.x,?_,hb2.mono ?_⟩
    · simp only [List.filter_nil,List.map_nil,List.length_nil,RV,List.getElem?_cons_succ,List.getElem?_cons_zero]
      exact ⟨none,0,rfl,by simp,Nat.zero_le _,Nat.zero_le _,by rw [k3];exact ⟨rfl,rfl⟩⟩
    · exact (hb _ (Nat.le_refl _)).1
  · have hlen:=hrep.length
    rw [List.length_map] at hlen
    have hcl:cur.toList.length = c * 2:=by rw [← hcs];simp
    have hgl:g < w.heap.size:=by
      rcases Nat.lt_or_ge g w.heap.size with h | h
      · exact h
      · rw [Array.getElem?_eq_none h] at hg;cases hg
    have hge:C.mine g:=hr.base 0 _ g c rfl rfl hσ
    have hCb:C.base ≤ w.heap.size:=(hb _ (Nat.le_refl _)).1
    obtain ⟨d,hd1,hd2⟩:=d7w xs.length (cur.toList.take (xs.length * 2)) (by rw [List.length_take];omega)
    obtain ⟨rest,hrest⟩:∃ rest,rest = cur.toList.drop (xs.length * 2):=⟨_,rfl⟩
    have hcur:cur.toList = fl2 d ++ rest:=by rw [← hd2,hrest,List.take_append_drop]
    have D0:DW w g e rest d.toArray w:=⟨rfl,rfl,rfl,Nat.le_refl _,fun _ _ _ => rfl,hgl,by rw [hg];congr 2;rw [← hcur]⟩
    have D1:DW (w.alloc (.cells #[.int .i64 id] 3)) g e rest d.toArray (w.alloc (.cells #[.int .i64 id] 3)) :=
      ⟨rfl,rfl,rfl,Nat.le_refl _,fun _ _ _ => rfl,by rw [hsz];omega,(D0.alloc _).row⟩
    have hrepd:y7 C.dm w 2 (xs.map o6) (fl2 d) (φ 0):=y7.congr (by rw [List.length_map,← hd2,List.take_take,Nat.min_self]) hrep
    have hphi:∀ b ∈ φ 0,b < w.heap.size ∧ b ≠ g:=fun b hb' => ⟨y7.lt _ _ _ hrep b hb',b7h hr rfl hb' rfl rfl hσ⟩
    have hlst:b3q false (w.alloc (.cells #[.int .i64 id] 3)) (.lst 2 (xs.map o6)) (.slice (some ⟨g,0,none⟩) xs.length c) (g :: φ 0):=by
      refine ⟨[.slice (some ⟨g,0,none⟩) xs.length c],rfl,?_⟩
      simp only [Rep]
      refine .inr ⟨g,0,c,cur,e,(0,0),φ 0,by rw [List.length_map],by rw [List.length_map];exact hnc,hcm,by rw [hbel.block g hgl];exact hg,by simp,rfl,by decide,?_⟩
      exact y7.weak _ _ _ (y7.world (w:=w) _ _ _ (fun b hb' => hbel.block b (hphi b hb').1) (by simpa using hrep))
    have base:∀ w',DW (w.alloc (.cells #[.int .i64 id] 3)) g e rest d.toArray w' ∨ True → True:=fun _ _ => trivial
    have fin:∀ (w':World) (dk:List (Value × Value)) (xs':List o5) (f:List Nat),DW (w.alloc (.cells #[.int .i64 id] 3)) g e rest dk.toArray w' → dk.length = xs.length → xs'.length ≤ xs.length → y7 C.dm w 2 (xs'.map o6) (fl2 (dk.take xs'.length)) f → List.Sublist f (φ 0) →
        ∃ σ' φ',o9 C σ' φ' [.dead,.row 2 (xs'.map o6)] w' ∧ EvX C σ [.row 2 (xs.map o6)] w σ' [.dead,.row 2 (xs'.map o6)] w' ∧ RV C σ' [.dead,.row 2 (xs'.map o6)] w' (.own 1 0 xs'.length) (.slice (some ⟨g,0,none⟩) xs'.length c) ∧ Below C.base w w':=by
      intro w' dk xs' f D hdk hx' hf hsub
      have hblk:∀ b,b < w.heap.size → b ≠ g → w'.heap[b]? = w.heap[b]?:=fun b hb' hbg => (D.block b (by rw [hsz];omega) hbg).trans (hbel.block b hb')
      have hdl:dk.length ≤ c:=by omega
      have hcs':(fl2 dk ++ rest).toArray.size = c * 2:=by
        have:(fl2 d ++ rest).length = c * 2:=by rw [← hcur];exact hcl
        rw [List.size_toArray,List.length_append,a9y,hdk,← hd1,← a9y,← List.length_append,this]
      obtain ⟨σ',φ',k1,k2,k3⟩:=e7o (w':=w') (l':=xs'.map o6) hr (Nat.le_trans (by rw [hsz];omega) D.size) hσ hcm hblk D.row hcs' hsub hf (by
        rw [List.length_map]
        simp only [List.toList_toArray]
        rw [← c8d _ _ (by omega),List.take_take,Nat.min_self,List.take_append_of_le_length (by rw [a9y];omega)])
      refine ⟨σ',φ',k1,k2.x,?_,⟨D.os,D.tape,D.output,Nat.le_trans (by rw [hsz];omega) D.size,fun k hk => hblk k (by omega) (by have:=hge.1;omega)⟩⟩
      simp only [RV,List.getElem?_cons_succ,List.getElem?_cons_zero]
      exact ⟨_,c,rfl,by rw [List.length_map];omega,by omega,hcm,by rw [k3];simp⟩
    have hidx178:=b4j id xs 0
    rcases hidx178 with ⟨q1,q2⟩ | ⟨k,q0,q1,q2,q3⟩
    · have hi:=hidx (-1) (by unfold a1y;rw [q1];rfl) _ hlst
      refine (b0s w _ id (fun r w' => r = .slice (some ⟨g,0,none⟩) xs.length c ∧ Below (w.alloc (.cells #[.int .i64 id] 3)).heap.size (w.alloc (.cells #[.int .i64 id] 3)) w') ((b1p 251 _ _ _ hi).mono (fun e w' h => ⟨_,h.1,rfl,h.2⟩))).mono ?_
      rintro e' w' ⟨r,rfl,rfl,hb1⟩
      have hfe:(xs.filter fun x => !(x.Id == id)) = xs:=List.filter_eq_self.2 (fun x hx => by rw [q2 x hx];rfl)
      rw [hfe]
      exact fin w' d xs (φ 0) (D1.below hb1) hd1 (Nat.le_refl _) (by rw [← hd1,List.take_length];exact hrepd) (List.Sublist.refl _)
    · obtain ⟨kp,hkp⟩:∃ kp:Nat → Bool,kp = fun j => !((xs[j]?).map (fun x => x.Id == id)).getD false:=⟨_,rfl⟩
      have hkx:∀ (j:Nat) x,xs[j]? = some x → kp j = !(x.Id == id):=fun j x hj => by rw [hkp];simp only [hj,Option.map_some,Option.getD_some]
      have hkg:∀ j (hj:j < xs.length),kp j = !(xs[j].Id == id):=fun j hj => hkx j _ (List.getElem?_eq_getElem hj)
      have hi:=hidx (k:Int) (by unfold a1y;rw [q1,Nat.zero_add];rfl) _ hlst
      obtain ⟨f,hf1,hf2⟩:=c8e (xs.map o6) d (φ 0) kp (by rw [List.length_map,hd1]) hrepd
      rw [← c0z (fun x => !(x.Id == id)) xs kp hkx] at hf1
      have hkept:keptUpTo kp d.toArray d.toArray.size = ((List.range d.length).filter kp).map (d.toArray[·]!):=by unfold keptUpTo;rw [List.size_toArray]
      have hkl:(keptUpTo kp d.toArray d.toArray.size).length = (xs.filter fun x => !(x.Id == id)).length:=by
        rw [hkept,List.length_map]
        have:=congrArg List.length (c0z (enc:=o6) (fun x => !(x.Id == id)) xs kp hkx)
        rw [List.length_map,List.length_map,List.length_map] at this
        rw [this,hd1]
      have hdel:=b9u 251 #[.pointer (some ⟨w.heap.size,0,none⟩)] (enters_of Tryz.func251 (by kernel_rfl) rfl) (w.alloc (.cells #[.int .i64 id] 3)) g xs.length c e rest d.toArray kp k (by rw [List.size_toArray,hd1]) hnc hcm D1
        (by
          have h1c:=y7.oneCell hrepd
          rw [List.length_map,← hd1,← a9y,List.take_length] at h1c
          intro x hx
          simp only [List.toList_toArray] at hx
          refine ⟨h1c _ ?_,h1c _ ?_⟩ <;> exact List.mem_flatMap.2 ⟨x,hx,by simp⟩)
        (fun j hj => by rw [hkg j (by omega),q2 j _ hj (List.getElem?_eq_getElem (by omega))];rfl)
        (by rw [hkg k q0,q3 _ (List.getElem?_eq_getElem q0)];rfl) q0 hi
        (by
          intro W dk j hj DWk
          have hxj:(xs.map o6)[j]? = some (o6 xs[j]):=by rw [List.getElem?_map,List.getElem?_eq_getElem hj];rfl
          obtain ⟨fj,r1,r2,r3⟩:=hrepd.get hxj
          have hjd:j < d.length:=by omega
          have hdj:d.toArray[j]! = d[j]:=by rw [getElem!_pos d.toArray j (by simpa using hjd)];simp
          rw [c2h d j hjd] at r1
          have r1':Rep false W (o6 xs[j]) [d[j].1,d[j].2] fj:=Rep.weak _ _ _ (Rep.world (w:=w) _ _ _ (fun b hb' => (DWk.block b (by rw [hsz];have:=(hphi b (r2 b hb')).1;omega) (hphi b (r2 b hb')).2).trans (hbel.block b (hphi b (r2 b hb')).1)) r1)
          have hbW:W.heap[w.heap.size]? = some (.cells #[.int .i64 id] 3 (0,0)):=(DWk.block _ (by rw [hsz];omega) (by omega)).trans hbx
          have hc:=w_impl_drop_1 xs[j] id (xs[j].Id == id) rfl W [.agg #[d[j].1,d[j].2],.pointer (some ⟨w.heap.size,0,none⟩)] (fj ++ [w.heap.size]) (by
            simp only [a1c]
            exact ⟨_,_,fj,[w.heap.size],rfl,r1',⟨_,[],[w.heap.size],[],rfl,hcap W hbW,⟨rfl,rfl⟩,rfl⟩,rfl⟩)
          rw [hdj]
          refine hc.mono ?_
          intro e w' he
          cases e with
          | returned v =>
            obtain ⟨q1,cs,rfl,q2⟩:=he
            simp only [Rep] at q2
            obtain ⟨rfl,_⟩:=q2
            exact ⟨by rw [hkg j hj,Bool.not_not];rfl,q1⟩
          | panicked _ => exact he.elim
          | outgrown => exact he.elim)
        (by
          intro W dk i hi hn' DWk
          have hrs:(fl2 dk.toList ++ rest).toArray.size = c * 2:=by
            have:(fl2 d ++ rest).length = c * 2:=by rw [← hcur];exact hcl
            have h2:dk.toList.length = d.length:=by rw [Array.length_toList,hn',hd1]
            rw [List.size_toArray,List.length_append,a9y,h2,← a9y,← List.length_append,this]
          have hclr:=fun ty => c8a (P:=Tryz.prog) W 34 ty 39 ti _ g (i * 2) (xs.length - i) (c - i) _ e c1m hti htz (by rw [hts];rfl) (by decide) DWk.row (by omega) (by rw [hts,hrs,← Nat.add_mul];exact Nat.mul_le_mul_right _ (by omega))
          simp only [hts,List.toList_toArray] at hclr
          obtain ⟨dk',g1,g2,g3⟩:=DWk.clear i xs.length (by omega) hn' (Builtin.zeroCells (Value.agg #[.int .i64 0,.slice none 0 0]).cells (xs.length - i)).toList (by rw [Array.length_toList,size_zeroCells];rfl)
          exact ⟨dk',_,hclr,g1,g2,g3⟩)
      refine (b0s w _ id (fun r w' => r = .slice (some ⟨g,0,none⟩) (keptUpTo kp d.toArray d.toArray.size).length c ∧ ∃ dk,DW (w.alloc (.cells #[.int .i64 id] 3)) g e rest dk w' ∧ dk.size = xs.length ∧ dk.toList.take (keptUpTo kp d.toArray d.toArray.size).length = keptUpTo kp d.toArray d.toArray.size) (hdel.mono (fun e w' h => by
        obtain ⟨h1,h2⟩:=h
        rw [show xs.length = d.toArray.size by rw [List.size_toArray,hd1]] at h1 h2 ⊢
        exact ⟨_,h1,rfl,h2⟩))).mono ?_
      rintro e' w' ⟨r,rfl,rfl,dk,g1,g2,g3⟩
      rw [hkl] at g3 ⊢
      refine fin w' dk.toList _ f (by simpa using g1) (by simpa using g2) (List.length_filter_le _ _) ?_ hf2
      rw [g3,hkept]
      exact hf1
end
instance w_impl_drop_h1 (a0:List o5) (a1:Int) (r:List o5):Wh Tryz.prog (b4t a0 a1 = some r) ⟨true,true,false⟩ 151 [.own 0 0 a0.length,.int .i64 a1] [.row 2 (a0.map o6)] (.own 1 0 r.length) [.dead,.row 2 (r.map o6)]:=⟨fun hf => by
  unfold b4t at hf
  obtain rfl:=os hf
  exact b7n ⟨true,true,false⟩ a0 a1⟩
instance w_impl_sameRow (A:o5) (B:o5) (r:Bool):Wk Tryz.prog (a7r A B = some r) 253 [(o6 A),(o6 B)] (.bool r):=⟨fun hf => by
 unfold a7r at hf;refine coA [] [] Tryz.func253 ?_;exact Z⟩
instance c_impl_sameRow :K2 Tryz.prog a7r (fun a0 => (o6 a0)) (fun a1 => (o6 a1)) (fun r => (.bool r)) 253 []:={hp:=fun a0 a1 r h => w_impl_sameRow a0 a1 r h}
end Go.R
end
