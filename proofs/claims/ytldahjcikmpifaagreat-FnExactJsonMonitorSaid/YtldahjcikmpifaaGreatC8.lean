import Derived.Test.YtldahjcikmpifaaGreatC7
set_option linter.all false
namespace Go.R
open Go
def kill (h:List y9):List Nat → List y9
 | [] => h
 | k :: ks => kill (h.set k .dead) ks
theorem a5q:∀ (ks:List Nat) (h:List y9),(kill h ks).length = h.length
 | [],h => rfl
 | k :: ks,h => by simp [kill,a5q ks]
theorem b2q:∀ (ks:List Nat) (h:List y9) (o:Nat),(kill h ks)[o]? = if o ∈ ks ∧ o < h.length then some .dead else h[o]?
 | [],h,o => by simp [kill]
 | k :: ks,h,o => by
  rw [kill,b2q ks]
  simp only [List.length_set,List.getElem?_set,List.mem_cons]
  by_cases h1:o ∈ ks <;> by_cases h2:o < h.length <;> by_cases h3:k = o <;> simp_all <;> try omega
  all_goals (first | (subst h3; simp_all) | skip)
  all_goals (intro he; exact absurd he.symm h3)
theorem a7g {h:List y9} {ks:List Nat} {o:Nat} {x:y9} (ho:(kill h ks)[o]? = some x) (hx:x.isLive = true):h[o]? = some x ∧ o ∉ ks:=by
 rw [b2q] at ho
 split at ho
 ·cases ho; simp [y9.isLive] at hx
 ·rename_i hn
  refine ⟨ho,fun hk => hn ⟨hk,?_⟩⟩
  exact (List.getElem?_eq_some_iff.1 ho).1
theorem b7e {h:List y9} {ks:List Nat} {σ:Sg} {b:Nat} (hl:liveAt (kill h ks) σ b):liveAt h σ b:=by
 obtain ⟨o,x,c,h1,h2,h3⟩:=hl
 exact ⟨o,x,c,(a7g h1 h2).1,h2,h3⟩
section puts
variable {C:Ctx} {σ σ':Sg} {φ φ':Nat → List Nat} {h:List y9} {w w':World} {ks:List Nat} {xs:List y9}
theorem a7i {o:Nat} {x:y9} (ho:(kill h ks ++ xs)[o]? = some x) (hx:x.isLive = true):(o < h.length ∧ h[o]? = some x ∧ o ∉ ks) ∨ (h.length ≤ o ∧ xs[o - h.length]? = some x):=by
 rw [List.getElem?_append,a5q] at ho
 split at ho
 ·rename_i hlt
  exact .inl ⟨hlt,a7g ho hx⟩
 ·rename_i hge
  exact .inr ⟨by omega,ho⟩
theorem a0b.puts (hr:a0b C σ φ h w) (hσ:∀ o,o < h.length → σ' o = σ o ∧ φ' o = φ o) (hsize:w.heap.size ≤ w'.heap.size)
  (hnew:∀ (j:Nat) x,xs[j]? = some x → ∀ g c,σ' (h.length + j) = some (g,c) → C.mine g ∧ (w.heap.size ≤ g ∨ ∃ k ∈ ks,∃ y c',h[k]? = some y ∧ y.isLive = true ∧ σ k = some (g,c')))
  (hblk:∀ b,b < w.heap.size → (∀ j g c,j < xs.length → σ' (h.length + j) = some (g,c) → b ≠ g) → w'.heap[b]? = w.heap[b]?)
  (hobj:Ev σ h w σ' (kill h ks ++ xs) w' → ∀ (j:Nat) x,xs[j]? = some x → b2b C σ' φ' (kill h ks ++ xs) w' (h.length + j) x)
  (hinj:∀ j j' g c c',j < xs.length → j' < xs.length → σ' (h.length + j) = some (g,c) → σ' (h.length + j') = some (g,c') → j = j')
  (hdeep:C.dm = true → ∀ (j:Nat) x,xs[j]? = some x → x.rw = true → (φ' (h.length + j)).Nodup ∧ (∀ b ∈ φ' (h.length + j),C.mine b) ∧
   (∀ (j':Nat) x',xs[j']? = some x' → x'.rw = true → j' ≠ j → ∀ b ∈ φ' (h.length + j),b ∉ φ' (h.length + j')) ∧
   ∀ o x',h[o]? = some x' → x'.rw = true → o ∉ ks → ∀ b ∈ φ' (h.length + j),b ∉ φ o) :
  a0b C σ' φ' (kill h ks ++ xs) w' ∧ Ev σ h w σ' (kill h ks ++ xs) w':=by
 have ev:Ev σ h w σ' (kill h ks ++ xs) w':=by
  have glive:∀ j x g c,xs[j]? = some x → σ' (h.length + j) = some (g,c) → g < w.heap.size → liveAt h σ g:=by
   intro j x g c hj hs hlt
   rcases (hnew j x hj g c hs).2 with h1 | ⟨k,_,y,c',h1,h2,h3⟩
   ·omega
   ·exact ⟨k,y,c',h1,h2,h3⟩
  refine ⟨?_,?_,?_,?_,hsize⟩
  ·intro o x ho hx
   have hlt:o < h.length:=(List.getElem?_eq_some_iff.1 ho).1
   rw [List.getElem?_append_left (by rw [a5q]; exact hlt),b2q]
   by_cases hk:o ∈ ks ∧ o < h.length
   ·exact .inl (by simp [hk])
   ·rw [if_neg hk]
    exact .inr ⟨(hσ o hlt).1,x,ho,sameShape.refl hx⟩
  ·intro o ho
   have hlt:o < h.length:=(List.getElem?_eq_some_iff.1 ho).1
   rw [List.getElem?_append_left (by rw [a5q]; exact hlt),b2q]
   split
   ·rfl
   ·exact ho
  ·rintro b hb ⟨o,x,c,h1,h2,h3⟩
   rcases a7i h1 h2 with ⟨hlt,g1,_⟩ | ⟨hge,g1⟩
   ·rw [(hσ o hlt).1] at h3
    exact ⟨o,x,c,g1,h2,h3⟩
   ·have:o = h.length + (o - h.length):=by omega
    rw [this] at h3
    exact glive _ x b c g1 h3 hb
  ·intro b hb hnl
   refine hblk b hb ?_
   intro j g c hj hs hbg
   subst hbg
   obtain ⟨x,hx⟩:∃ x,xs[j]? = some x:=⟨xs[j],by simp [hj]⟩
   exact hnl (glive j x b c hx hs hb)
 refine ⟨⟨?_,?_,?_,?_⟩,ev⟩
 ·-- objects
  intro o x ho
  rw [List.getElem?_append,a5q] at ho
  split at ho
  ·rename_i hlt
   rw [b2q] at ho
   split at ho
   ·cases ho; trivial
   ·rename_i hnk
    have hk:o ∉ ks:=fun hk => hnk ⟨hk,hlt⟩
    have hold:=hr.obj o x ho
    have hsame:∀ g c,σ o = some (g,c) → x.isLive = true → w'.heap[g]? = w.heap[g]?:=by
     intro g c hs hx
     refine hblk g (hr.lt ho hx hs) ?_
     intro j g' c' hj hs' hgg
     subst hgg
     obtain ⟨y,hy⟩:∃ y,xs[j]? = some y:=⟨xs[j],by simp [hj]⟩
     rcases (hnew j y hy g c' hs').2 with h1 | ⟨k,hkk,z,c'',h1,h2,h3⟩
     ·have:=hr.lt ho hx hs; omega
     ·have:=hr.inj o k x z g c c'' ho hx h1 h2 hs h3
      subst this
      exact hk hkk
    cases x with
    | dead => trivial
    | box sz v =>
     obtain ⟨g,cur,e,h1,h2,h3,h4⟩:=hold
     exact ⟨g,cur,e,by rw [(hσ o hlt).1]; exact h1,by rw [hsame g 1 h1 rfl]; exact h2,h3,ev.rvs _ _ h4⟩
    | map m =>
     obtain ⟨g,cur,e,h1,h2,h3,h4⟩:=hold
     exact ⟨g,cur,e,by rw [(hσ o hlt).1]; exact h1,by rw [hsame g 1 h1 rfl]; exact h2,h3,ev.rvs _ _ h4⟩
    | row sz l =>
     obtain ⟨h0,hold⟩:=hold
     refine ⟨h0,?_⟩
     rw [(hσ o hlt).1,(hσ o hlt).2]
     cases hs:σ o with
     | none => rw [hs] at hold; exact hold
     | some p =>
      obtain ⟨g,c⟩:=p
      rw [hs] at hold
      obtain ⟨h1,cur,e,h2,h3,h4,h5⟩:=hold
      obtain ⟨g1,g2⟩:=ev.immS h4 h5
      exact ⟨h1,cur,e,by rw [hsame g c hs rfl]; exact h2,h3,g1,g2⟩
    | rowx sz l i el => exact b2b.rowx_ev ev (hσ o hlt).1 (hσ o hlt).2 (fun g c hs => hsame g c hs rfl) hold
  ·rename_i hge
   have e:o = h.length + (o - h.length):=by omega
   rw [e]
   exact hobj ev _ x ho
 ·-- no two in one block
  intro o o' x x' b c c' ho hx ho' hx' hs hs'
  rcases a7i ho hx with ⟨hlt,g1,k1⟩ | ⟨hge,g1⟩ <;> rcases a7i ho' hx' with ⟨hlt',g2,k2⟩ | ⟨hge',g2⟩
  ·rw [(hσ o hlt).1] at hs
   rw [(hσ o' hlt').1] at hs'
   exact hr.inj o o' x x' b c c' g1 hx g2 hx' hs hs'
  ·rw [(hσ o hlt).1] at hs
   have e:o' = h.length + (o' - h.length):=by omega
   rw [e] at hs'
   rcases (hnew _ x' g2 b c' hs').2 with h1 | ⟨k,hkk,z,c'',h1,h2,h3⟩
   ·have:=hr.lt g1 hx hs; omega
   ·have:=hr.inj o k x z b c c'' g1 hx h1 h2 hs h3
    subst this
    exact absurd hkk k1
  ·rw [(hσ o' hlt').1] at hs'
   have e:o = h.length + (o - h.length):=by omega
   rw [e] at hs
   rcases (hnew _ x g1 b c hs).2 with h1 | ⟨k,hkk,z,c'',h1,h2,h3⟩
   ·have:=hr.lt g2 hx' hs'; omega
   ·have:=hr.inj o' k x' z b c' c'' g2 hx' h1 h2 hs' h3
    subst this
    exact absurd hkk k2
  ·have e:o = h.length + (o - h.length):=by omega
   have e':o' = h.length + (o' - h.length):=by omega
   rw [e] at hs
   rw [e'] at hs'
   have:=hinj _ _ b c c' (List.getElem?_eq_some_iff.1 g1).1 (List.getElem?_eq_some_iff.1 g2).1 hs hs'
   omega
 ·-- the call's own
  intro o x b c ho hx hs
  rcases a7i ho hx with ⟨hlt,g1,k1⟩ | ⟨hge,g1⟩
  ·rw [(hσ o hlt).1] at hs
   exact hr.base o x b c g1 hx hs
  ·have e:o = h.length + (o - h.length):=by omega
   rw [e] at hs
   exact (hnew _ x g1 b c hs).1
 ·-- rows own what they lead to
  intro hdm o x ho hx
  rcases a7i ho (y9.rw_live hx) with ⟨hlt,g1,k1⟩ | ⟨hge,g1⟩
  ·obtain ⟨d1,d2,d3⟩:=hr.deepx hdm o x g1 hx
   rw [(hσ o hlt).2]
   refine ⟨d1,d2,?_⟩
   intro o' x' ho' hx' hne b hb
   rcases a7i ho' (y9.rw_live hx') with ⟨hlt',g2,k2⟩ | ⟨hge',g2⟩
   ·rw [(hσ o' hlt').2]
    exact d3 o' x' g2 hx' hne b hb
   ·have e':o' = h.length + (o' - h.length):=by omega
    rw [e']
    intro hb'
    exact (hdeep hdm _ x' g2 hx').2.2.2 o x g1 hx k1 b hb' hb
  ·have e:o = h.length + (o - h.length):=by omega
   obtain ⟨d1,d2,d3,d4⟩:=hdeep hdm _ x g1 hx
   rw [e]
   refine ⟨d1,d2,?_⟩
   intro o' x' ho' hx' hne b hb
   rcases a7i ho' (y9.rw_live hx') with ⟨hlt',g2,k2⟩ | ⟨hge',g2⟩
   ·rw [(hσ o' hlt').2]
    exact d4 o' x' g2 hx' k2 b hb
   ·have e':o' = h.length + (o' - h.length):=by omega
    rw [e']
    exact d3 _ x' g2 hx' (by omega) b hb
end puts
mutual
def a2w (dm:Bool) (h:List y9):AV → Option (AV × List Nat)
 | .int k n => some (.int k n,[])
 | .bool b => some (.bool b,[])
 | .str s => some (.str s,[])
 | .nil => some (.nil,[])
 | .lst z l => match dm with
  | true => none
  | false => some (.lst z l,[])
 | .own o lo n =>
  match h[o]? with
  | some (.row z l) => match dm,lo with
   | true,0 => some (.lst z (l.take n),[o])
   | true,_ + 1 => none
   | false,lo => some (.lst z ((l.drop lo).take n),[o])
  | _ => none
 | .agg as => match a1n dm h as with
  | some (bs,ks) => if bs.all AV.isCell = true then some (.agg bs,ks) else none
  | none => none
 | _ => none
def a1n (dm:Bool) (h:List y9):List AV → Option (List AV × List Nat)
 | [] => some ([],[])
 | a :: as => match a2w dm h a,a1n dm h as with
  | some (b,k1),some (bs,k2) => some (b :: bs,k1 ++ k2)
  | _,_ => none
end
end Go.R
