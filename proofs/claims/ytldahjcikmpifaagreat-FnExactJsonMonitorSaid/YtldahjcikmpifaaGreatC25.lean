import Derived.Test.YtldahjcikmpifaaGreatC24
set_option linter.all false
namespace Go.R
open Go Go.RowKit Go.ChangeShapes Go.WideShapes
def okI (k:IntKind) (n:Int):Prop:=(Lit.int k n).wf = true
def okS (s:List UInt8):Prop:=s.length ≤ maxLen
def okL {α:Type} (p:α → Prop) (l:List α):Prop:=l.length ≤ maxLen ∧ ∀ x ∈ l,p x
section
variable {H:Type} {enc:TypeId × Value → H} {P:Program} {w:World} {T:TypeId → List AV → Prop} {D:TypeId → Prop}
theorem e5q (hD:∀ t,D t → Clo P T D t) {r:Reach} {b0:Nat} {t:TypeId} {fs:Array Field} (ht:P.underlying t = some (.struct fs)) (hdt:D t) {v:Value} {d:DataW H} {p:List MemPlace} (ho:Value.okWide P w r b0 t v)
  (h:DataW.Trod enc P w 0 (fun _ => true) true t v d p):∃ as fp,b2o false w (.agg as) v fp ∧ T t as:=by
 obtain ⟨cs,rfl,_⟩:=okWide_struct ht ho
 obtain ⟨fuel,hf⟩:=h
 obtain ⟨as,fp,h1,h2⟩:=bridge hD _ _ _ _ hdt hf
 exact ⟨as,fp,⟨cs.toList,by simp [mkV],by simpa [Rep,Value.cells] using h1⟩,h2⟩
theorem e5r (hD:∀ t,D t → Clo P T D t) {r:Reach} {b0:Nat} {t:TypeId} (ht:∀ fs,P.underlying t ≠ some (.struct fs)) (hdt:D t) {v:Value} {d:DataW H} {p:List MemPlace} (ho:Value.okWide P w r b0 t v)
  (h:DataW.Trod enc P w 0 (fun _ => true) true t v d p):∃ a fp,b2o false w a v fp ∧ T t [a]:=by
 have hv:v.cells.toList = [v]:=by
  have hc:=(hD t hdt).h
  unfold d3q at hc
  split at hc
  ·rename_i hu; obtain ⟨b,rfl⟩:=okWide_bool hu ho; rfl
  ·rename_i k hu; obtain ⟨b,rfl⟩:=okWide_int hu ho; rfl
  ·rename_i hu; obtain ⟨b,rfl⟩:=okWide_string hu ho; rfl
  ·rename_i e hu; obtain ⟨a,b,c,rfl⟩:=okWide_slice hu ho; rfl
  ·rename_i fs hu; exact absurd hu (ht fs)
  ·exact hc.elim
 obtain ⟨fuel,hf⟩:=h
 obtain ⟨as,fp,h1,h2⟩:=bridge hD _ _ _ _ hdt hf
 rw [hv] at h1
 cases as with
 | nil => simp [a0o] at h1
 | cons a as =>
  simp only [a0o] at h1
  obtain ⟨c,cs',f1,f2,e,hc,h3,h4,rfl⟩:=h1
  cases e
  cases as with
  | cons b as => simp [a0o] at h4
  | nil =>
   simp only [a0o] at h4
   obtain ⟨_,rfl⟩:=h4
   obtain ⟨c',e1,e2⟩:=h3.cell hc
   cases e1
   exact ⟨a,f1 ++ [],⟨[v],e2.symm,by simpa using h3⟩,h2⟩
theorem a1q.cons {a:AV} {v:Value} {fp:List Nat} {as:List AV} {vs:List Value} {fq:List Nat} (h:b2o false w a v fp) (t:a1q false w as vs fq):a1q false w (a :: as) (v :: vs) (fp ++ fq):=by
 obtain ⟨cs,e,h⟩:=h
 simp only [a1q]
 exact ⟨cs,vs,fp,fq,by rw [e],h,t,rfl⟩
theorem a1q.nil:a1q false w [] [] []:=by simp [a1q]
theorem d8q {f:Nat} {args:List AV} (hc:a0a P f .flat args (.bool true)) {vals:List Value} {fps:List Nat} (hr:a1q false w args vals fps) :
  Calls P f vals.toArray w fun e w' => e = .returned (.bool true) ∧ Below w.heap.size w w':=by
 refine (hc w vals fps hr).mono ?_
 intro e w' he
 cases e with
 | returned v =>
  obtain ⟨h1,cs,rfl,h2⟩:=he
  simp only [Rep] at h2
  obtain ⟨rfl,_⟩:=h2
  exact ⟨rfl,h1⟩
 | panicked _ => exact he.elim
 | outgrown => exact he.elim
end
end Go.R
