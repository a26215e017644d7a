import Derived.Test.YtldahjcikmpifaaGreatC10
set_option linter.all false
namespace Go.R
open Go Go.RowKit
mutual
def flat:AV → Bool
 | .int _ _ => true
 | .bool _ => true
 | .str _ => true
 | .nil => true
 | .agg as => b6q as
 | _ => false
def b6q:List AV → Bool
 | [] => true
 | a :: as => flat a && b6q as
end
def c0q (h:List y9) (sz:Nat) (x:AV):Option (List AV × Nat × List Nat) :=
 match x with
 | .nil => some ([],0,[])
 | .own o lo n => match lo,h[o]? with
  | 0,some (.row z l) => if z = sz then some (l.take n,n,[o]) else none
  | _,_ => none
 | _ => none
def b4b (cons:Bool) (h:List y9) (sz:Nat) (x:AV):Option (List AV × Nat × List Nat) :=
 match x with
 | .nil => some ([],0,[])
 | .lst z l => if z = sz then some (l,l.length,[]) else none
 | .own o lo n => match h[o]? with
  | some (.row z l) => if z = sz then some ((l.drop lo).take n,n,match cons with | true => [o] | false => []) else none
  | _ => none
 | _ => none
section loud
variable {P:Program} {C:Ctx} {σ:Sg} {φ:Nat → List Nat} {h:List y9} {w w':World} {t:Nat → AV} {ρ:Operand → Value}
mutual
theorem Rep.flat {m:Bool}:∀ (a:AV) (cs:List Value) (fp:List Nat),flat a = true → Rep m w a cs fp → fp = []
 | .int k n,cs,fp,_,hr => by simp only [Rep] at hr; exact hr.2
 | .bool n,cs,fp,_,hr => by simp only [Rep] at hr; exact hr.2
 | .str n,cs,fp,_,hr => by simp only [Rep] at hr; exact hr.2.2
 | .nil,cs,fp,_,hr => by simp only [Rep] at hr; exact hr.2
 | .agg as,cs,fp,hf,hr => by simp only [R.flat] at hf; simp only [Rep] at hr; exact a0o.flat as cs fp hf hr
 | .lst _ _,_,_,hf,_ => by simp [R.flat] at hf
 | .tup _,_,_,hf,_ => by simp [R.flat] at hf
 | .fn _ _,_,_,hf,_ => by simp [R.flat] at hf
 | .iptr _ _,_,_,hf,_ => by simp [R.flat] at hf
 | .ptr _ _ _,_,_,hf,_ => by simp [R.flat] at hf
 | .own _ _ _,_,_,hf,_ => by simp [R.flat] at hf
 | .undef,_,_,hf,_ => by simp [R.flat] at hf
 | .skip,_,_,hf,_ => by simp [R.flat] at hf
 | .hdr _ _ _,_,_,hf,_ => by simp [R.flat] at hf
theorem a0o.flat {m:Bool}:∀ (as:List AV) (cs:List Value) (fp:List Nat),b6q as = true → a0o m w as cs fp → fp = []
 | [],cs,fp,_,hr => by simp only [a0o] at hr; exact hr.2
 | a :: as,cs,fp,hf,hr => by
  simp only [b6q,Bool.and_eq_true] at hf
  simp only [a0o] at hr
  obtain ⟨c,cs',f1,f2,rfl,_,h1,h2,rfl⟩:=hr
  rw [Rep.flat a _ _ hf.1 h1,a0o.flat as _ _ hf.2 h2]
  rfl
end
mutual
theorem Rep.flatOwn {m m':Bool}:∀ (a:AV) (cs:List Value) (fp:List Nat),flat a = true → Rep m w a cs fp → Rep m' w a cs fp
 | .int k n,cs,fp,_,hr => by simpa only [Rep] using hr
 | .bool n,cs,fp,_,hr => by simpa only [Rep] using hr
 | .str n,cs,fp,_,hr => by simpa only [Rep] using hr
 | .nil,cs,fp,_,hr => by simpa only [Rep] using hr
 | .agg as,cs,fp,hf,hr => by simp only [R.flat] at hf; simp only [Rep] at hr ⊢; exact a0o.flatOwn as cs fp hf hr
 | .lst _ _,_,_,hf,_ => by simp [R.flat] at hf
 | .tup _,_,_,hf,_ => by simp [R.flat] at hf
 | .fn _ _,_,_,hf,_ => by simp [R.flat] at hf
 | .iptr _ _,_,_,hf,_ => by simp [R.flat] at hf
 | .ptr _ _ _,_,_,hf,_ => by simp [R.flat] at hf
 | .own _ _ _,_,_,hf,_ => by simp [R.flat] at hf
 | .undef,_,_,hf,_ => by simp [R.flat] at hf
 | .skip,_,_,hf,_ => by simp [R.flat] at hf
 | .hdr _ _ _,_,_,hf,_ => by simp [R.flat] at hf
theorem a0o.flatOwn {m m':Bool}:∀ (as:List AV) (cs:List Value) (fp:List Nat),b6q as = true → a0o m w as cs fp → a0o m' w as cs fp
 | [],cs,fp,_,hr => by simpa only [a0o] using hr
 | a :: as,cs,fp,hf,hr => by
  simp only [b6q,Bool.and_eq_true] at hf
  simp only [a0o] at hr ⊢
  obtain ⟨c,cs',f1,f2,rfl,hc,h1,h2,rfl⟩:=hr
  exact ⟨c,cs',f1,f2,rfl,hc,Rep.flatOwn a _ _ hf.1 h1,a0o.flatOwn as _ _ hf.2 h2,rfl⟩
end
theorem a0n.flat {m:Bool} {sz:Nat}:∀ (as:List AV) (cs:List Value) (fp:List Nat),(∀ a ∈ as,R.flat a = true) → a0n m w sz as cs fp → fp = []
 | [],cs,fp,_,hr => by simpa only [a0n] using hr
 | a :: as,cs,fp,hf,hr => by
  simp only [a0n] at hr
  obtain ⟨f1,f2,h0,h1,h2,rfl⟩:=hr
  rw [Rep.flat a _ _ (hf a (by simp)) h1,a0n.flat as _ _ (fun x hx => hf x (by simp [hx])) h2]
  rfl
theorem a0n.flatOwn {m m':Bool} {sz:Nat}:∀ (as:List AV) (cs:List Value) (fp:List Nat),(∀ a ∈ as,R.flat a = true) → a0n m w sz as cs fp → a0n m' w sz as cs fp
 | [],cs,fp,_,hr => by simpa only [a0n] using hr
 | a :: as,cs,fp,hf,hr => by
  simp only [a0n] at hr ⊢
  obtain ⟨f1,f2,h0,h1,h2,rfl⟩:=hr
  exact ⟨f1,f2,h0,Rep.flatOwn a _ _ (hf a (by simp)) h1,a0n.flatOwn as _ _ (fun x hx => hf x (by simp [hx])) h2,rfl⟩
theorem d9r (hr:a0b C σ φ h w) {sz n:Nat} {x:AV} {v:Value} {l:List AV} {ks:List Nat} (hv:RV C σ h w x v) (hd:c0q h sz x = some (l,n,ks)) :
  l.length = n ∧ ks.Nodup ∧ ∃ fp,Taken C σ φ h ks fp ∧ (∀ b ∈ fp,¬ liveAt h σ b) ∧
  ((v = .slice none 0 0 ∧ n = 0 ∧ fp = []) ∨ ∃ g c cur e o,v = .slice (some ⟨g,0,none⟩) n c ∧ n ≤ c ∧ c ≤ maxLen ∧ w.heap[g]? = some (.cells cur e (0,0)) ∧ cur.size = c * sz ∧ a0n C.dm w sz l cur.toList fp ∧
   o ∈ ks ∧ (∃ y,h[o]? = some y ∧ y.isLive = true ∧ σ o = some (g,c)) ∧ 0 < sz):=by
 cases x with
 | nil =>
  simp only [c0q,Option.some.injEq,Prod.mk.injEq] at hd
  obtain ⟨rfl,rfl,rfl⟩:=hd
  simp only [RV] at hv
  exact ⟨rfl,by simp,[],Taken.nil,by simp,.inl ⟨hv,rfl,rfl⟩⟩
 | own o lo m =>
  simp only [c0q] at hd
  split at hd
  ·rename_i z l' ho
   split at hd
   ·rename_i hz
    subst hz
    simp only [Option.some.injEq,Prod.mk.injEq] at hd
    obtain ⟨rfl,rfl,rfl⟩:=hd
    simp only [RV,ho] at hv
    obtain ⟨a,cap,rfl,g1,g2,g3,g4⟩:=hv
    obtain ⟨h0,hob⟩:=hr.obj o _ ho
    have hlen:(l'.take m).length = m:=by rw [List.length_take]; omega
    refine ⟨hlen,by simp,?_⟩
    cases hs:σ o with
    | none =>
     rw [hs] at g4
     obtain ⟨rfl,rfl⟩:=g4
     have:m = 0:=by omega
     subst this
     exact ⟨[],⟨by simp,by simp,by simp,by simp⟩,by simp,.inl ⟨rfl,rfl,rfl⟩⟩
    | some p =>
     obtain ⟨g,c⟩:=p
     rw [hs] at g4 hob
     obtain ⟨rfl,rfl⟩:=g4.2 rfl
     obtain ⟨h1,cur,e,h2,h3,h4,h5⟩:=hob
     obtain ⟨f1,f2,hf,h6⟩:=h4.take m
     have hsub:List.Sublist f1 (φ o):=by rw [hf]; exact List.sublist_append_left f1 f2
     refine ⟨f1,⟨?_,?_,?_,?_⟩,fun b hb => (h5 b (hsub.subset hb)).2,.inr ⟨g,cap,cur,e,o,rfl,g2,g3,h2,h3,h6,by simp,⟨_,ho,rfl,hs⟩,h0⟩⟩
     ·exact fun b hb => (h5 b (hsub.subset hb)).1
     ·exact fun b hb hl => absurd hl (h5 b (hsub.subset hb)).2
     ·exact fun hdm b hb => ⟨o,by simp,.inr ⟨hsub.subset hb,_,ho,rfl⟩⟩
     ·exact fun hdm _ => (hr.deep hdm o _ l' ho).1.sublist hsub
   ·cases hd
  ·cases hd
 | _ => simp [c0q] at hd
theorem d2r (hr:a0b C σ φ h w) {sz m:Nat} {cons:Bool} {x:AV} {v:Value} {l:List AV} {ks:List Nat} (hv:RV C σ h w x v) (hd:b4b cons h sz x = some (l,m,ks))
  (hflat:C.dm = true → cons = false → ∀ a ∈ l,R.flat a = true) (hlst:C.dm = true → ∀ z l',x = .lst z l' → ∀ a ∈ l,R.flat a = true) :
  l.length = m ∧ ks.Nodup ∧ ∃ fp a c,v = .slice a m c ∧ Taken C σ φ h ks fp ∧ (∀ b ∈ fp,¬ liveAt h σ b) ∧
  ((m = 0 ∧ fp = []) ∨ ∃ g off cur e fz,a = some ⟨g,off,none⟩ ∧ w.heap[g]? = some (.cells cur e fz) ∧ a0n C.dm w sz l (cur.toList.drop off) fp):=by
 cases x with
 | nil =>
  simp only [b4b,Option.some.injEq,Prod.mk.injEq] at hd
  obtain ⟨rfl,rfl,rfl⟩:=hd
  simp only [RV] at hv
  exact ⟨rfl,by simp,[],none,0,hv,Taken.nil,by simp,.inl ⟨rfl,rfl⟩⟩
 | lst z l' =>
  simp only [b4b] at hd
  split at hd
  ·rename_i hz
   subst hz
   simp only [Option.some.injEq,Prod.mk.injEq] at hd
   obtain ⟨rfl,rfl,rfl⟩:=hd
   refine ⟨rfl,by simp,?_⟩
   simp only [RV] at hv
   obtain ⟨fp,⟨cs,rfl,hrep⟩,hf⟩:=hv
   simp only [Rep] at hrep
   rcases hrep with ⟨rfl,rfl,a,cap,rfl,h3,_⟩ | ⟨b,off,cap,cur,el,fz,fps,rfl,h2,h3,h4,h5,rfl,h7,h8⟩
   ·exact ⟨[],a,cap,rfl,Taken.nil,by simp,.inl ⟨rfl,rfl⟩⟩
   ·cases hdm:C.dm with
    | true =>
     have hfl:=hlst hdm _ _ rfl
     have:=a0n.flat _ _ _ hfl h8
     subst this
     exact ⟨[],_,cap,rfl,Taken.nil,by simp,.inr ⟨b,off,cur,el,fz,rfl,h4,a0n.flatOwn _ _ _ hfl h8⟩⟩
    | false =>
     refine ⟨fps,_,cap,rfl,⟨fun x hx => (hf x (by simp [hx])).1.1,fun x hx hl => absurd hl (hf x (by simp [hx])).2,by simp [hdm],by simp [hdm]⟩,fun x hx => (hf x (by simp [hx])).2,.inr ⟨b,off,cur,el,fz,rfl,h4,h8⟩⟩
  ·cases hd
 | own o lo n =>
  simp only [b4b] at hd
  split at hd
  ·rename_i z l' ho
   split at hd
   ·rename_i hz
    subst hz
    simp only [Option.some.injEq,Prod.mk.injEq] at hd
    obtain ⟨rfl,rfl,rfl⟩:=hd
    simp only [RV,ho] at hv
    obtain ⟨a,cap,rfl,g1,g2,g3,g4⟩:=hv
    obtain ⟨h0,hob⟩:=hr.obj o _ ho
    have hlen:((l'.drop lo).take n).length = n:=by rw [List.length_take,List.length_drop]; omega
    refine ⟨hlen,by cases cons <;> simp,?_⟩
    cases hs:σ o with
    | none =>
     rw [hs] at g4
     have:n = 0:=by omega
     exact ⟨[],a,cap,rfl,⟨by simp,by simp,by simp,by simp⟩,by simp,.inl ⟨this,rfl⟩⟩
    | some p =>
     obtain ⟨g,c⟩:=p
     rw [hs] at g4 hob
     obtain ⟨h1,cur,e,h2,h3,h4,h5⟩:=hob
     by_cases hn0:n = 0
     ·exact ⟨[],a,cap,rfl,⟨by simp,by simp,by simp,by simp⟩,by simp,.inl ⟨hn0,rfl⟩⟩
     ·have ha:=g4.1.resolve_left hn0
      obtain ⟨f1,f2,hf,h6⟩:=h4.drop lo
      obtain ⟨f3,f4,hf',h7⟩:=h6.take n
      have hsub:List.Sublist f3 (φ o):=by rw [hf,hf']; exact (List.sublist_append_left f3 f4).trans (List.sublist_append_right f1 _)
      refine ⟨f3,a,cap,rfl,?_,fun b hb => (h5 b (hsub.subset hb)).2,.inr ⟨g,lo * z,cur,e,(0,0),ha,h2,h7⟩⟩
      cases cons with
      | true =>
       refine ⟨?_,?_,?_,?_⟩
       ·exact fun b hb => (h5 b (hsub.subset hb)).1
       ·exact fun b hb hl => absurd hl (h5 b (hsub.subset hb)).2
       ·exact fun hdm b hb => ⟨o,by simp,.inr ⟨hsub.subset hb,_,ho,rfl⟩⟩
       ·exact fun hdm _ => (hr.deep hdm o _ l' ho).1.sublist hsub
      | false =>
       refine ⟨fun b hb => (h5 b (hsub.subset hb)).1,fun b hb hl => absurd hl (h5 b (hsub.subset hb)).2,?_,?_⟩
       ·intro hdm b hb
        rw [a0n.flat _ _ _ (hflat hdm rfl) h7] at hb
        simp at hb
       ·intro hdm _
        rw [a0n.flat _ _ _ (hflat hdm rfl) h7]
        simp
   ·cases hd
  ·cases hd
 | _ => simp [b4b] at hd
theorem c5i (hr:a0b C σ φ h w) (hsize:w.heap.size ≤ w'.heap.size) {g c sz:Nat} {cur:Array Value} {e:TypeId} {ks fp:List Nat} {as:List AV}
  (hg:C.mine g ∧ (w.heap.size ≤ g ∨ ∃ k ∈ ks,∃ y c',h[k]? = some y ∧ y.isLive = true ∧ σ k = some (g,c'))) (hblk:∀ b,b < w.heap.size → b ≠ g → w'.heap[b]? = w.heap[b]?)
  (hcur:w'.heap[g]? = some (.cells cur e (0,0))) (hsz:0 < sz) (hc:c ≤ maxLen) (hcs:cur.size = c * sz) (hrep:a0n C.dm w' sz as cur.toList fp) (ht:Taken C σ φ h ks fp) (hlt:∀ b ∈ fp,b < w.heap.size) (hnl:∀ b ∈ fp,¬ liveAt h σ b) (hn:C.dm = true → ks.Nodup) :
  a0b C (upd σ h.length (some (g,c))) (upd φ h.length fp) (kill h ks ++ [.row sz as]) w' ∧ Ev σ h w (upd σ h.length (some (g,c))) (kill h ks ++ [.row sz as]) w':=by
 have e1:upd σ h.length (some (g,c)) h.length = some (g,c):=by simp [upd]
 have e2:upd φ h.length fp h.length = fp:=by simp [upd]
 have one:∀ (j:Nat) (x:y9),[y9.row sz as][j]? = some x → j = 0 ∧ x = .row sz as:=by
  intro j x hj
  cases j with
  | zero => simp at hj; exact ⟨rfl,hj.symm⟩
  | succ j => simp at hj
 refine a0b.puts hr ?_ hsize ?_ ?_ ?_ ?_ ?_
 ·intro o ho
  have:o ≠ h.length:=by omega
  simp [upd,this]
 ·intro j x hj g' c' hs
  obtain ⟨rfl,rfl⟩:=one j x hj
  rw [Nat.add_zero,e1] at hs
  cases hs
  exact hg
 ·intro b hb hne
  exact hblk b hb (fun he => hne 0 g c (by simp) (by rw [Nat.add_zero,e1]) he)
 ·intro ev j x hj
  obtain ⟨rfl,rfl⟩:=one j x hj
  rw [Nat.add_zero]
  refine ⟨hsz,?_⟩
  rw [e1,e2]
  exact ⟨hc,cur,e,hcur,hcs,hrep,fun b hb => ⟨ht.ok b hb,fun hl => hnl b hb (ev.live b (hlt b hb) hl)⟩⟩
 ·intro j j' _ _ _ hj hj' _ _
  simp at hj hj'
  omega
 ·intro hdm j y hj _
  obtain ⟨rfl,hx⟩:=one j _ hj
  rw [Nat.add_zero,e2]
  refine ⟨ht.nodup hdm (hn hdm),?_,?_,?_⟩
  ·intro b hb
   obtain ⟨k,_,hk⟩:=ht.own hdm b hb
   exact hk.base hr hdm
  ·intro j' x' hj' _ hne
   exact absurd (one j' _ hj').1 hne
  ·intro o x' ho hx' hok b hb hbo
   obtain ⟨k,k1,k2⟩:=ht.own hdm b hb
   have:=a7x.unique hr hdm k2 (.inr ⟨hbo,x',ho,hx'⟩)
   subst this
   exact hok k1
end loud
end Go.R
