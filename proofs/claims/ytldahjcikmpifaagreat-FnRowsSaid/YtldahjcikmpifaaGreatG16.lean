/- Part of the proof. -/
import Derived.Test.YtldahjcikmpifaaGreatG9

section
set_option linter.all false
namespace Go.R
open Go Go.Proofs
set_option maxRecDepth 100000
set_option maxHeartbeats 8000000
instance w_slices_Clone_impl_Atom_impl_Atom (A:(List o7)) (r:(List o7)):Wf Tryz.prog (a3c A = some r) 244 [(.lst 3 (A.map l9))] (.lst 3 (r.map l9)):=⟨fun hf => by
 unfold a3c at hf;refine co [] Tryz.func244 ?_;refine gq 1 ?_;refine go 1 ?_;refine f2r (l:=A.map l9) rfl ?_
 intro b hb3
 rcases b with _ | _
 ·refine dk<|wg rfl<|a4s<|a4g<|a0n<|a5h ?_
  obtain ⟨g2,hf⟩:=og hf
  refine a2z (a2m (j:=0) (as':=[]) rfl (fun _ => by decide) tr .r rfl rfl rfl) ?_;refine go 1 ?_
  refine a2z (a7w (j:=1) (L:=(([] ++ A).map l9)) (len:=([] ++ A).length) rfl false rfl rfl (fun _ => flm (fun _ => rfl) _) (fun _ _ _ => flm (fun _ => rfl) _) (by decide) ((by simp)) (by simp <;> omega) g2 rfl rfl) ?_
  refine gq 1 ?_;refine a7u ?_;cases hf;exact b3n ⟨tr,tr⟩ rfl (by decide) (.of_eq (congrArg (AV.lst _) (tk (enc:=l9) ([] ++ A))))
 ·have he4:A = []:=f0f (hb3 rfl)
  have hE:(if ([] ++ A).length ≤ 2 ^ 30 then some ([] ++ A) else none) = (some []):=by simp [he4]
  rw [hE] at hf;refine dk<|wt rfl ?_;refine gq 1 ?_;refine a7u ?_;cases hf;exact b3n ⟨tr,tr⟩ rfl (by decide) (.nil _)⟩
instance w_slices_BinarySearchFunc_impl_Row_impl_Row_int (D:(List o5)) (A:Int) (B:(o5 → Int → Option Int)) (r:(Int × Bool)) {k:Nat} {cs:List AV} [kf:K2 Tryz.prog B (fun a0 => (o6 a0)) (fun a1 => (.int .i64 a1)) (fun r => (.int .i64 r)) k cs]:Wk Tryz.prog (a1q D A B = some r) 247 [(.lst 2 (D.map o6)),(.int .i64 A),(.fn k cs)] (.tup [(.int .i64 r.1),(.bool r.2)]):=⟨fun hf => by
 unfold a1q at hf;refine coA [7,23] [zF2 [0,1,2,8] fun v:(Int × Int) => (fun _ _ _ _ _ => ([(9,(.int .i64 v.1)),(10,(.int .i64 v.2))],none)),cZ [0,1,2,8] fun v:Int => (fun _ _ _ _ _ => ([(9,(.int .i64 v))],none))] Tryz.func247 ?_;exact Z⟩
instance w_cmp_isNaN_int (A:Int) (r:Bool):Wk Tryz.prog (cmp_isNaN_int A = some r) 311 [(.int .i64 A)] (.bool r):=⟨fun hf => by
 unfold cmp_isNaN_int at hf;refine coA [] [] Tryz.func311 ?_;exact Z⟩
section
open Go.RowKit
theorem a0w:Tryz.prog.underlying 34 = some (.slice 39):=by kernel_rfl
theorem b0c:Tryz.prog.underlying 3 = some (.int .i64):=by kernel_rfl
theorem a4z:∃ i:TypeInfo,Tryz.prog.info? 39 = some i ∧ i.size = 2 ∧ i.bytes = 32 ∧ i.zero = some (.agg #[.int .i64 0,.slice none 0 0]):=d9q (by kernel_rfl)
theorem b1b (w:World) (g vb o m vc lb cb:Nat) (cur curv:Array Value) (e ev:TypeId) (hg:w.heap[g]? = some (.cells cur e (0,0))) (hv:w.heap[vb]? = some (.cells curv ev (0,0))) (hne:vb ≠ g) (hs:cur.size ≠ 0) :
    (callFunc 309 #[.slice (some ⟨vb,0,none⟩) m vc,.slice (some ⟨g,o,none⟩) lb cb]).run Tryz.prog w = .ok (.value (.bool false)) w:=by
  obtain ⟨ti,hti,hts,htb,htz⟩:=a4z
  rw [run_callFunc_extern Tryz.func309 (by kernel_rfl) (by kernel_rfl) (by kernel_rfl) (e:=Extern.SlicesOverlaps.overlaps #[34,34] #[4]) (by kernel_rfl),
    Lib.run_overlaps_apart w 34 4 39 a0w 2 (fun w => by simp [sizeOf,typeInfo,hti,hts]) ⟨vb,0,none⟩ ⟨g,o,none⟩ m vc lb cb hne ev e curv.size cur.size (by simp [World.shape?,hv]) (by simp [World.shape?,hg]) hs (by simp [World.frozen?,hv]) (by simp [World.frozen?,hv])]
  rfl
set_option maxRecDepth 100000 in
theorem a9b (w:World) (a b:Option Addr) (n c m vc:Nat) (u:Value) (w':World) (hm:0 < m)
    (hap:(Builtin.append_ #[34,34] 34 #[.slice a n c,.slice b m vc]).run Tryz.prog w = .ok u w') (hu:a ≠ none ∨ (n = 0 ∧ c = 0)) :
    Calls Tryz.prog 243 #[.slice a n c,.int .i64 n,.slice b m vc] w fun e' w'' => e' = .returned u ∧ w'' = w':=by
  have hz1:¬ ((m:Int) = 0):=by omega
  have mixed:Tryz.prog.follows .mixedOrders = true:=by kernel_rfl
  go_enter Tryz.func243,(show Tryz.f243.ntmps = 95 from rfl)
  cases a with
  | none =>
    obtain ⟨rfl,rfl⟩:=hu.resolve_left (fun h => h rfl)
    go_wp2_with (at_builtin;refine Lib.wpList_append_run _ rfl _ _ _ _ rfl _ _ rfl rfl _ _ hap ?_)
    go_ret
    exact ⟨rfl,rfl⟩
  | some a =>
    obtain ⟨ab,ao,asp⟩:=a
    go_wp2_with (at_builtin;refine Lib.wpList_append_run _ rfl _ _ _ _ rfl _ _ rfl rfl _ _ hap ?_)
    all_goals (go_ret;exact ⟨rfl,rfl⟩)
set_option maxRecDepth 100000 in
theorem a8q (w:World) (g n c i vb m vc:Nat) (A1 A2:Array Value) (hi:i < n) (hm:0 < m) (hroom:n + m ≤ c) (hc:c ≤ maxLen)
    (hov:∀ o lb cb,(callFunc 309 #[.slice (some ⟨vb,0,none⟩) m vc,.slice (some ⟨g,o,none⟩) lb cb]).run Tryz.prog w = .ok (.value (.bool false)) w)
    (h1:∀ ty dc sc,(Builtin.copy_ #[34,34] ty #[.slice (some ⟨g,(i + m) * 2,none⟩) (n + m - (i + m)) dc,.slice (some ⟨g,i * 2,none⟩) (n + m - i) sc]).run Tryz.prog w.drew = .ok (goInt (n - i:Nat)) (w.drew.setRow g A1))
    (h2:∀ ty dc,(Builtin.copy_ #[34,34] ty #[.slice (some ⟨g,i * 2,none⟩) (n + m - i) dc,.slice (some ⟨vb,0,none⟩) m vc]).run Tryz.prog (w.drew.setRow g A1) = .ok (goInt m) ((w.drew.setRow g A1).setRow g A2)) :
    Calls Tryz.prog 243 #[.slice (some ⟨g,0,none⟩) n c,.int .i64 i,.slice (some ⟨vb,0,none⟩) m vc] w fun e' w' =>
      e' = .returned (.slice (some ⟨g,0,none⟩) (n + m) c) ∧ w' = (w.drew.setRow g A1).setRow g A2:=by
  have hc63:c ≤ 9223372036854775807:=by unfold maxLen at hc;omega
  have hz1:¬ ((m:Int) = 0):=by omega
  have hz2:¬ ((i:Int) = (n:Int)):=by omega
  have hw1:IntKind.i64.wrap ((i:Int) + (m:Int)) = (i:Int) + (m:Int):=by rw [IntKind.wrap_i64];omega
  have hb1:(0:Int) ≤ (i:Int) + (m:Int):=by omega
  have hin:i ≤ n:=by omega
  have htn:((i:Int) + (m:Int)).toNat = i + m:=by omega
  have hb2:¬ (c = i + m):=by omega
  have hb3:(i:Int) ≤ (n:Int) + (m:Int):=by omega
  have hb4:¬ (c = i):=by omega
  have mixed:Tryz.prog.follows .mixedOrders = true:=by kernel_rfl
  go_enter Tryz.func243,(show Tryz.f243.ntmps = 95 from rfl)
  go_wp2_with (simp only [hov])
  go_region_law_o (refine step_copy_runI rfl _ _ 34 34 rfl _ _ (by simp [Act.eval,Act.put]) (by simp [Act.eval,Act.put]) (h1 _ _ _) ?_)
  go_wp2_with (simp only [h2])
  go_ret
  exact ⟨rfl,rfl⟩
set_option maxRecDepth 100000 in
theorem a8s (w:World) (g n c i vb m vc G:Nat) (W1 W2 W3:World) (hi:i < n) (hm:0 < m) (hnc:n ≤ c) (hroom:c < n + m) (hG:n + m ≤ G) (hGm:G ≤ maxLen)
    (h0:∀ ty,(Builtin.append_ #[34,3] ty #[.slice (some ⟨g,0,none⟩) i c,.int .i64 ((n:Int) + (m:Int) - (i:Int))]).run Tryz.prog w = .ok (.slice (some ⟨w.heap.size,0,none⟩) (n + m) G) W1)
    (h1:∀ ty dc,(Builtin.copy_ #[34,34] ty #[.slice (some ⟨w.heap.size,i * 2,none⟩) (n + m - i) dc,.slice (some ⟨vb,0,none⟩) m vc]).run Tryz.prog W1 = .ok (goInt m) W2)
    (h2:∀ ty dc sc,(Builtin.copy_ #[34,34] ty #[.slice (some ⟨w.heap.size,(i + m) * 2,none⟩) (n + m - (i + m)) dc,.slice (some ⟨g,i * 2,none⟩) (n - i) sc]).run Tryz.prog W2.drew = .ok (goInt (n - i:Nat)) W3) :
    Calls Tryz.prog 243 #[.slice (some ⟨g,0,none⟩) n c,.int .i64 i,.slice (some ⟨vb,0,none⟩) m vc] w fun e' w' =>
      e' = .returned (.slice (some ⟨w.heap.size,0,none⟩) (n + m) G) ∧ w' = W3:=by
  have hG63:G ≤ 9223372036854775807:=by unfold maxLen at hGm;omega
  have hz1:¬ ((m:Int) = 0):=by omega
  have hz2:¬ ((i:Int) = (n:Int)):=by omega
  have hz3:(c:Int) < (n:Int) + (m:Int):=by omega
  have hGi:¬ (G = i):=by omega
  have hGim:¬ (G = i + m):=by omega
  have hci:¬ (c = i):=by omega
  have hw1:IntKind.i64.wrap ((i:Int) + (m:Int)) = (i:Int) + (m:Int):=by rw [IntKind.wrap_i64];omega
  have hb1:(0:Int) ≤ (i:Int) + (m:Int):=by omega
  have hin:i ≤ n:=by omega
  have htn:((i:Int) + (m:Int)).toNat = i + m:=by omega
  have hb3:(i:Int) ≤ (n:Int):=by omega
  have mixed:Tryz.prog.follows .mixedOrders = true:=by kernel_rfl
  go_enter Tryz.func243,(show Tryz.f243.ntmps = 95 from rfl)
  go_wp2_with (first
    | (at_builtin;refine Lib.wpList_append_run _ rfl _ _ _ _ rfl _ _ rfl rfl _ _ (h0 _) ?_)
    | simp only [h1])
  go_region_law_o (refine step_copy_runI rfl _ _ 34 34 rfl (.slice (some ⟨w.heap.size,(i + m) * 2,none⟩) (n + m - (i + m)) (G - (i + m))) (.slice (some ⟨g,i * 2,none⟩) (n - i) (c - i)) (by simp [Act.eval,Act.put]) (by simp [Act.eval,Act.put]) (h2 _ _ _) ?_)
  go_wp2
  go_ret
  exact ⟨rfl,rfl⟩
theorem b0d (dm:Md) (l v:List AV) (i:Nat) (hi:i ≤ l.length) (hm:0 < v.length) (hlim:l.length + v.length ≤ 2 ^ 30) :
    a2a Tryz.prog dm 243 [.own 0 0 l.length,.int .i64 i,.own 1 0 v.length] [.row 2 l,.row 2 v] (.own 2 0 (l.length + v.length)) [.dead,.dead,.row 2 (l.take i ++ v ++ l.drop i)]:=by
  intro C σ φ w vals _ _ hok hb hr hv
  simp only [RVs] at hv
  obtain ⟨v1,_,rfl,h1,v2,_,rfl,h2,v3,_,rfl,h3,rfl⟩:=hv
  have e2:v2 = .int .i64 i:=by simpa only [RV] using h2
  subst e2
  obtain ⟨ti,hti,hts,htb,htz⟩:=a4z
  rcases d2m hr (o:=1) rfl h3 rfl with ⟨_,rfl,_⟩ | ⟨vb,vc,curv,ev,hσv,rfl,hmc,hvcm,hgv,hcsv,hrepv⟩
  · simp at hm
  have hraw:=d2m hr (o:=0) rfl h1 rfl
  by_cases hin:i = l.length
  · subst hin
    obtain ⟨u,w',σ',φ',k1,k2,k3,k4,k5⟩:=b6m (P:=Tryz.prog) hr hb (ty':=34) a0w hti htz (by rw [hts];rfl) (by omega) (by omega) (cons:=true) h1 h3
      (l0:=l) (l1:=v) (n:=l.length) (m:=v.length) (ks0:=[0]) (ks1:=[1]) (by simp [b7g,hts]) (by simp [b3t,hts]) (fun _ h => by cases h) (fun _ _ _ h => by cases h) (fun _ => by decide) hlim
    have key:∀ a c,v1 = .slice a l.length c → (a ≠ none ∨ (l.length = 0 ∧ c = 0)) → Calls Tryz.prog 243 #[.slice a l.length c,.int .i64 l.length,.slice (some ⟨vb,0,none⟩) v.length vc] w fun e' w'' => e' = .returned u ∧ w'' = w':=by
      rintro a c rfl hu
      exact a9b w a _ l.length c v.length vc u w' hm k1 hu
    have:Calls Tryz.prog 243 #[v1,.int .i64 l.length,.slice (some ⟨vb,0,none⟩) v.length vc] w fun e' w'' => e' = .returned u ∧ w'' = w':=by
      rcases hraw with ⟨rfl,rfl,_⟩ | ⟨g,c,cur,e,_,rfl,_⟩
      · exact key _ _ rfl (.inr ⟨rfl,rfl⟩)
      · exact key _ _ rfl (.inl (by simp))
    refine this.mono ?_
    rintro e' w'' ⟨rfl,rfl⟩
    rw [hts] at k2 k3 k4
    have hL:l.take l.length ++ v ++ l.drop l.length = l ++ v:=by simp
    rw [hL]
    exact ⟨σ',φ',k2,k3.x,k4,k5⟩
  · have hil:i < l.length:=by omega
    rcases hraw with ⟨_,rfl,_⟩ | ⟨g,c,cur,e,hσ,rfl,hnc,hcm,hg,hcs,hrep⟩
    · simp at hil
    obtain ⟨n,hn⟩:∃ n,n = l.length:=⟨_,rfl⟩
    obtain ⟨m,hmm⟩:∃ m,m = v.length:=⟨_,rfl⟩
    rw [← hn] at hil hnc hi hlim h1 ⊢
    rw [← hmm] at hm hmc hlim h3 ⊢
    have hlen:=hrep.length
    have hlenv:=hrepv.length
    rw [← hn] at hlen
    rw [← hmm] at hlenv
    have hcl:cur.toList.length = c * 2:=by rw [← hcs];simp
    have hone0:=hrep.oneCell
    have honev:=hrepv.oneCell
    rw [← hn] at hone0
    rw [← hmm] at honev
    have hvl:(curv.toList.take (m * 2)).length = m * 2:=by rw [List.length_take];omega
    have hcl2:((cur.toList.take (n * 2)).drop (i * 2)).length = (n - i) * 2:=by rw [List.length_drop,List.length_take];omega
    have hvg:vb ≠ g:=by
      rintro rfl
      have:=hr.inj 0 1 _ _ vb c vc rfl rfl rfl rfl hσ hσv
      cases this
    have hgb:C.mine g:=hr.base 0 _ g c rfl rfl hσ
    have hsv:∀ j x,(curv.toList.take (m * 2))[j]? = some x → ∀ W:World,W.heap[vb]? = some (.cells curv ev (0,0)) → W.cell? ((⟨vb,0,none⟩:Addr).add j) = some x:=fun j x hj W hW => c8b hW 0 (m * 2) j x (by simpa using hj)
    by_cases hroom:n + m ≤ c
    · have hmin1:Nat.min (n + m - i) (n + m - (i + m)) = n - i:=by simp only [Nat.min_def];split <;> omega
      have hmin2:Nat.min m (n + m - i) = m:=by simp only [Nat.min_def];split <;> omega
      obtain ⟨A1,hA1⟩:∃ A1,A1 = (cur.toList.take ((i + m) * 2) ++ (cur.toList.take (n * 2)).drop (i * 2) ++ cur.toList.drop ((i + m) * 2 + ((cur.toList.take (n * 2)).drop (i * 2)).length)).toArray:=⟨_,rfl⟩
      obtain ⟨A2,hA2⟩:∃ A2,A2 = (A1.toList.take (i * 2) ++ curv.toList.take (m * 2) ++ A1.toList.drop (i * 2 + (curv.toList.take (m * 2)).length)).toArray:=⟨_,rfl⟩
      obtain ⟨s1,s2,s3⟩:=e1k (z:=2) hi (by omega) hvl hA1 hA2
      have hg1:w.drew.heap[g]? = some (.cells cur e (0,0)):=hg
      have hg2:(w.drew.setRow g A1).heap[g]? = some (.cells A1 e (0,0)):=setRow_heap _ g cur A1 e _ hg1
      have hv2:(w.drew.setRow g A1).heap[vb]? = some (.cells curv ev (0,0)):=(setRow_other _ g vb A1 hvg).trans hgv
      have c1:=fun ty dc sc => b3o (P:=Tryz.prog) (ty:=ty) w.drew 34 34 39 ti g ((i + m) * 2) (n + m - (i + m)) dc ⟨g,i * 2,none⟩ (n + m - i) sc cur e ((cur.toList.take (n * 2)).drop (i * 2)) a0w hti hg1 (by rw [hmin1,hts];exact hcl2) (c8b hg1 (i * 2) (n * 2)) (by omega) (fun x hx => hone0 x (List.mem_of_mem_drop hx))
      rw [← hA1,hmin1] at c1
      have c2:=fun ty dc => b3o (P:=Tryz.prog) (ty:=ty) (w.drew.setRow g A1) 34 34 39 ti g (i * 2) (n + m - i) dc ⟨vb,0,none⟩ m vc A1 e (curv.toList.take (m * 2)) a0w hti hg2 (by rw [hmin2,hts];exact hvl) (fun j x hj => hsv j x hj _ hv2) (by rw [hvl];omega) honev
      rw [← hA2,hmin2] at c2
      refine (a8q w g n c i vb m vc A1 A2 hil hm hroom hcm (fun o lb cb => b1b w g vb o m vc lb cb cur curv e ev hg hgv hvg (by omega)) c1 c2).mono ?_
      rintro e' w' ⟨rfl,rfl⟩
      obtain ⟨σ',φ',k1,k2,k3⟩:=d9p (w':=(w.drew.setRow g A1).setRow g A2) hr hb (by simp) hrep hrepv i (by omega) (.inr ⟨c,hσ⟩) (fun b _ hbg => by rw [setRow_other _ _ _ _ hbg,setRow_other _ _ _ _ hbg];rfl) (setRow_heap _ g A1 A2 e _ hg2) (by omega) hcm (by rw [← hn,← hmm];exact s3.trans (by simp))
      refine ⟨σ',φ',k1,k2.x,?_,⟨rfl,rfl,rfl,by simp,fun k hk => by rw [setRow_other _ _ _ _ (by have:=hgb.1;omega),setRow_other _ _ _ _ (by have:=hgb.1;omega)];rfl⟩⟩
      simp only [RV,List.getElem?_cons_succ,List.getElem?_cons_zero]
      exact ⟨_,c,rfl,by simp only [List.length_append,List.length_take,List.length_drop];omega,by omega,hcm,by rw [k3];simp⟩
    · have hmin1:Nat.min (n - i) (n + m - (i + m)) = n - i:=by simp only [Nat.min_def];split <;> omega
      have hmin2:Nat.min m (n + m - i) = m:=by simp only [Nat.min_def];split <;> omega
      obtain ⟨G,hG⟩:∃ G,G = grownCap w (n + m) c 39:=⟨_,rfl⟩
      have hGe:n + m ≤ G:=by rw [hG];exact grownCap_ge w (n + m) c 39
      have hGm:G ≤ maxLen:=by rw [hG];exact grownCap_le_maxLen w (n + m) c 39 (by simp only [maxLen];omega)
      have hoT:(cur.toList.take (i * 2)).length = i * 2:=by rw [List.length_take];omega
      have hold:(Builtin.firstCells ti.size i (.slice (some ⟨g,0,none⟩) i c)).run Tryz.prog w.drew = .ok (cur.toList.take (i * 2)).toArray w.drew:=by
        refine run_firstCells_some (P:=Tryz.prog) w.drew ti.size i ⟨g,0,none⟩ i c _ (by rw [hoT,hts]) ?_
        intro j x hj
        have:=c8b (w:=w.drew) hg 0 (i * 2) j x (by simpa using hj)
        exact this
      have hik:i + (n + m - i) = n + m:=by omega
      have hkk:(n:Int) + (m:Int) - (i:Int) = ((n + m - i:Nat):Int):=by omega
      have hz:=fun ty => Lib.run_append_grow_zeros (P:=Tryz.prog) w 34 3 ty 39 ti _ .i64 .i64 a0w b0c hti htz (some ⟨g,0,none⟩) i c _ hold (n + m - i) (by omega) (by omega) (by omega) (by omega) (by rw [htb];omega) (by rw [htb,hik];exact growslice_fits (by omega) (by omega))
      rw [hik,← hG] at hz
      obtain ⟨R,hR⟩:∃ R,R = (Builtin.zeroCells (Value.agg #[.int .i64 0,.slice none 0 0]).cells (n + m - i)).toList ++ (Builtin.zeroCells (Value.agg #[.int .i64 0,.slice none 0 0]).cells (G - (n + m))).toList:=⟨_,rfl⟩
      have hRl:R.length = (n + m - i) * 2 + (G - (n + m)) * 2:=by
        rw [hR,List.length_append,Array.length_toList,Array.length_toList,size_zeroCells,size_zeroCells]
        rfl
      have hrow:((cur.toList.take (i * 2)).toArray ++ Builtin.zeroCells (Value.agg #[.int .i64 0,.slice none 0 0]).cells (n + m - i) ++ Builtin.zeroCells (Value.agg #[.int .i64 0,.slice none 0 0]).cells (G - (n + m))) = (cur.toList.take (i * 2) ++ R).toArray:=by
        rw [hR]
        apply Array.toList_inj.1
        simp
      rw [hrow] at hz
      obtain ⟨W1,hW1⟩:∃ W1,W1 = w.drew.alloc (.cells (cur.toList.take (i * 2) ++ R).toArray 39):=⟨_,rfl⟩
      rw [← hW1] at hz
      have hn1:W1.heap[w.heap.size]? = some (.cells (cur.toList.take (i * 2) ++ R).toArray 39 (0,0)):=by rw [hW1];exact heap_alloc_new w.drew _
      have hold1:∀ b,b < w.heap.size → W1.heap[b]? = w.heap[b]?:=fun b hb => by rw [hW1];exact heap_alloc_old w.drew _ hb
      have hgl:g < w.heap.size:=lt_of_heap hg
      have hvl2:vb < w.heap.size:=lt_of_heap hgv
      obtain ⟨B1,hB1⟩:∃ B1,B1 = (cur.toList.take (i * 2) ++ curv.toList.take (m * 2) ++ R.drop (curv.toList.take (m * 2)).length).toArray:=⟨_,rfl⟩
      obtain ⟨B2,hB2⟩:∃ B2,B2 = (B1.toList.take ((i + m) * 2) ++ (cur.toList.take (n * 2)).drop (i * 2) ++ B1.toList.drop ((i + m) * 2 + ((cur.toList.take (n * 2)).drop (i * 2)).length)).toArray:=⟨_,rfl⟩
      obtain ⟨s1,s2,s3⟩:=d7v (z:=2) (R:=R) hi hlen hvl (by omega) hB1 hB2
      have c1:=fun ty dc => b3o (P:=Tryz.prog) (ty:=ty) W1 34 34 39 ti w.heap.size (i * 2) (n + m - i) dc ⟨vb,0,none⟩ m vc _ 39 (curv.toList.take (m * 2)) a0w hti hn1 (by rw [hmin2,hts];exact hvl) (fun j x hj => hsv j x hj _ ((hold1 vb hvl2).trans hgv)) (by rw [hvl,List.size_toArray,List.length_append,hoT,hRl];omega) honev
      have hb1:((cur.toList.take (i * 2) ++ R).toArray.toList.take (i * 2) ++ curv.toList.take (m * 2) ++ (cur.toList.take (i * 2) ++ R).toArray.toList.drop (i * 2 + (curv.toList.take (m * 2)).length)).toArray = B1:=by
        rw [hB1]
        simp only []
        rw [List.take_left' hoT,← List.drop_drop,List.drop_left' hoT]
      rw [hb1,hmin2] at c1
      obtain ⟨W2,hW2⟩:∃ W2,W2 = W1.setRow w.heap.size B1:=⟨_,rfl⟩
      rw [← hW2] at c1
      have hn2:W2.drew.heap[w.heap.size]? = some (.cells B1 39 (0,0)):=by rw [hW2];exact setRow_heap W1 _ _ B1 39 _ hn1
      have hg2:W2.drew.heap[g]? = some (.cells cur e (0,0)):=by rw [hW2];exact (setRow_other W1 _ g B1 (by omega)).trans ((hold1 g hgl).trans hg)
      have c2:=fun ty dc sc => b3o (P:=Tryz.prog) (ty:=ty) W2.drew 34 34 39 ti w.heap.size ((i + m) * 2) (n + m - (i + m)) dc ⟨g,i * 2,none⟩ (n - i) sc B1 39 ((cur.toList.take (n * 2)).drop (i * 2)) a0w hti hn2 (by rw [hmin1,hts];exact hcl2) (c8b hg2 (i * 2) (n * 2)) (by omega) (fun x hx => hone0 x (List.mem_of_mem_drop hx))
      rw [← hB2,hmin1] at c2
      rw [← hkk] at hz
      refine (a8s w g n c i vb m vc G W1 W2 _ hil hm hnc (by omega) hGe hGm hz c1 c2).mono ?_
      rintro e' w' ⟨rfl,rfl⟩
      have hblk:∀ b,b < w.heap.size → (W2.drew.setRow w.heap.size B2).heap[b]? = w.heap[b]?:=fun b hb => by
        rw [setRow_other _ _ _ _ (by omega)]
        show W2.heap[b]? = _
        rw [hW2,setRow_other _ _ _ _ (by omega),hold1 b hb]
      have hsz:(W2.drew.setRow w.heap.size B2).heap.size = w.heap.size + 1:=by
        rw [hW2,hW1]
        simp [World.alloc]
      obtain ⟨σ',φ',k1,k2,k3⟩:=d9p (w':=W2.drew.setRow w.heap.size B2) (c':=G) hr hb (by omega) hrep hrepv i (by omega) (.inl (Nat.le_refl _)) (fun b hb _ => hblk b hb) (setRow_heap _ _ B1 B2 39 _ hn2) (by omega) hGm (by rw [← hn,← hmm];exact s3.trans (by simp))
      refine ⟨σ',φ',k1,k2.x,?_,⟨by rw [hW2,hW1];rfl,by rw [hW2,hW1];rfl,by rw [hW2,hW1];rfl,by omega,fun k hk => hblk k (by have:=(hb _ (Nat.le_refl _)).1;omega)⟩⟩
      simp only [RV,List.getElem?_cons_succ,List.getElem?_cons_zero]
      exact ⟨_,G,rfl,by simp only [List.length_append,List.length_take,List.length_drop];omega,hGe,hGm,by rw [k3];simp⟩
instance w_slices_Insert_impl_Row_impl_Row_h1 (a0:List o5) (a1:Int) (a2:List o5) (r:List o5):Wh Tryz.prog (a2s a0 a1 a2 = some r) ⟨true,true,false⟩ 243 [.own 0 0 a0.length,.int .i64 a1,.own 1 0 a2.length] [.row 2 (a0.map o6),.row 2 (a2.map o6)] (.own 2 0 r.length) [.dead,.dead,.row 2 (r.map o6)]:=⟨fun hf => by
  unfold a2s at hf
  split at hf
  · rename_i h
    obtain rfl:=os hf
    obtain ⟨i,rfl⟩:∃ i:Nat,a1 = i:=⟨a1.toNat,by omega⟩
    have:=b0d ⟨true,true,false⟩ (a0.map o6) (a2.map o6) i (by rw [List.length_map];omega) (by rw [List.length_map];omega) (by rw [List.length_map,List.length_map];omega)
    rw [List.length_map,List.length_map] at this
    simp only [Int.toNat_natCast,List.map_append,List.map_take,List.map_drop,List.length_append,List.length_take,List.length_drop]
    rw [Nat.min_eq_left (by omega),show i + a2.length + (a0.length - i) = a0.length + a2.length by omega]
    exact this
  · cases hf⟩
end
end Go.R
end
