import Derived.WalkKit
set_option linter.all false
namespace Go.R
open Go
inductive AV where
 | undef
 | skip
 | int (k:IntKind) (n:Int)
 | bool (b:Bool)
 | str (s:List UInt8)
 | nil
 | lst (z:Nat) (l:List AV)
 | own (o lo n:Nat)
 | agg (cs:List AV)
 | tup (vs:List AV)
 | ptr (o i f:Nat)
 | iptr (e:AV) (f:Nat)
 | fn (f:Nat) (caps:List AV)
 | hdr (v:Value) (z:Nat) (l:List AV)
instance:Inhabited AV:=⟨.undef⟩
def AV.isCell:AV → Bool
 | .agg _ => false
 | .tup _ => false
 | _ => true
def AV.isElem:AV → Bool
 | .tup _ => false
 | _ => true
def mkV:AV → List Value → Value
 | .agg _,cs => .agg cs.toArray
 | .tup _,cs => .tuple cs.toArray
 | _,cs => cs.headD Go.undef
mutual
def Rep (m:Bool) (w:World):AV → List Value → List Nat → Prop
 | .int k n,cs,fp => cs = [.int k n] ∧ fp = []
 | .bool b,cs,fp => cs = [.bool b] ∧ fp = []
 | .str s,cs,fp => cs = [.string ⟨s.toArray⟩] ∧ s.length ≤ maxLen ∧ fp = []
 | .nil,cs,fp => cs = [.slice none 0 0] ∧ fp = []
 | .lst sz l,cs,fp =>
   (l = [] ∧ fp = [] ∧ ∃ a cap,cs = [.slice a 0 cap] ∧ cap ≤ maxLen ∧ (m = true → a = none ∧ cap = 0)) ∨
   ∃ b off cap cur e fz fps,cs = [.slice (some ⟨b,off,none⟩) l.length cap] ∧ l.length ≤ cap ∧ cap ≤ maxLen ∧ w.heap[b]? = some (.cells cur e fz) ∧
    (m = true → fz = (0,0) ∧ off = 0 ∧ cur.size = cap * sz) ∧ fp = b :: fps ∧ 0 < sz ∧ a0n m w sz l (cur.toList.drop off) fps
 | .agg as,cs,fp => a0o m w as cs fp
 | .tup as,cs,fp => a1q m w as cs fp
 | .fn f caps,cs,fp => ∃ vs,cs = [.func (.func f) #[] vs] ∧ a1q m w caps vs.toList fp
 | .iptr e f,cs,fp => ∃ b off sz cur el fz fps,cs = [.pointer (some ⟨b,off + f,none⟩)] ∧ w.heap[b]? = some (.cells cur el fz) ∧ fp = b :: fps ∧
    ((cur.toList.drop off).take sz).length = sz ∧ Rep m w e ((cur.toList.drop off).take sz) fps
 | .hdr v sz l,cs,fp => cs = [v] ∧ (
   (l = [] ∧ fp = [] ∧ ∃ a cap,cs = [.slice a 0 cap] ∧ cap ≤ maxLen ∧ (m = true → a = none ∧ cap = 0)) ∨
   ∃ b off cap cur e fz fps,cs = [.slice (some ⟨b,off,none⟩) l.length cap] ∧ l.length ≤ cap ∧ cap ≤ maxLen ∧ w.heap[b]? = some (.cells cur e fz) ∧
    (m = true → fz = (0,0) ∧ off = 0 ∧ cur.size = cap * sz) ∧ fp = b :: fps ∧ 0 < sz ∧ a0n m w sz l (cur.toList.drop off) fps)
 | .undef,_,_ => False
 | .skip,_,_ => False
 | .own ..,_,_ => False
 | .ptr ..,_,_ => False
def a0n (m:Bool) (w:World) (sz:Nat):List AV → List Value → List Nat → Prop
 | [],_,fp => fp = []
 | a :: as,cs,fp => ∃ f1 f2,((cs.take sz).length = sz ∧ a.isElem = true) ∧ Rep m w a (cs.take sz) f1 ∧ a0n m w sz as (cs.drop sz) f2 ∧ fp = f1 ++ f2
def a0o (m:Bool) (w:World):List AV → List Value → List Nat → Prop
 | [],cs,fp => cs = [] ∧ fp = []
 | a :: as,cs,fp => ∃ c cs' f1 f2,cs = c :: cs' ∧ a.isCell = true ∧ Rep m w a [c] f1 ∧ a0o m w as cs' f2 ∧ fp = f1 ++ f2
def a1q (m:Bool) (w:World):List AV → List Value → List Nat → Prop
 | [],vs,fp => vs = [] ∧ fp = []
 | a :: as,vs,fp => ∃ cs vs' f1 f2,vs = mkV a cs :: vs' ∧ Rep m w a cs f1 ∧ a1q m w as vs' f2 ∧ fp = f1 ++ f2
end
def b2o (m:Bool) (w:World) (a:AV) (v:Value) (fp:List Nat):Prop:=∃ cs,v = mkV a cs ∧ Rep m w a cs fp
mutual
theorem Rep.world {m:Bool} {w w':World}:∀ (a:AV) (cs:List Value) (fp:List Nat),(∀ b ∈ fp,w'.heap[b]? = w.heap[b]?) → Rep m w a cs fp → Rep m w' a cs fp
 | .int _ _,_,_,_,h => by simpa only [Rep] using h
 | .bool _,_,_,_,h => by simpa only [Rep] using h
 | .str _,_,_,_,h => by simpa only [Rep] using h
 | .nil,_,_,_,h => by simpa only [Rep] using h
 | .lst z l,cs,fp,hw,h => by
  simp only [Rep] at h ⊢
  rcases h with h | ⟨b,off,cap,cur,e,fz,fps,h1,h2,h3,h4,h5,rfl,h7,h8⟩
  ·exact .inl h
  ·exact .inr ⟨b,off,cap,cur,e,fz,fps,h1,h2,h3,(hw b (by simp)).trans h4,h5,rfl,h7,a0n.world l _ _ (fun x hx => hw x (by simp [hx])) h8⟩
 | .hdr v z l,cs,fp,hw,h => by
  simp only [Rep] at h ⊢
  obtain ⟨hv,h⟩:=h
  refine ⟨hv,?_⟩
  rcases h with h | ⟨b,off,cap,cur,e,fz,fps,h1,h2,h3,h4,h5,rfl,h7,h8⟩
  ·exact .inl h
  ·exact .inr ⟨b,off,cap,cur,e,fz,fps,h1,h2,h3,(hw b (by simp)).trans h4,h5,rfl,h7,a0n.world l _ _ (fun x hx => hw x (by simp [hx])) h8⟩
 | .agg as,cs,fp,hw,h => by simp only [Rep] at h ⊢; exact a0o.world as cs fp hw h
 | .tup as,cs,fp,hw,h => by simp only [Rep] at h ⊢; exact a1q.world as cs fp hw h
 | .fn f caps,cs,fp,hw,h => by
  simp only [Rep] at h ⊢
  obtain ⟨vs,h1,h2⟩:=h
  exact ⟨vs,h1,a1q.world caps _ fp hw h2⟩
 | .iptr e f,cs,fp,hw,h => by
  simp only [Rep] at h ⊢
  obtain ⟨b,off,sz,cur,el,fz,fps,h1,h2,rfl,h4,h5⟩:=h
  exact ⟨b,off,sz,cur,el,fz,fps,h1,(hw b (by simp)).trans h2,rfl,h4,Rep.world e _ _ (fun x hx => hw x (by simp [hx])) h5⟩
 | .undef,_,_,_,h => by simp only [Rep] at h
 | .skip,_,_,_,h => by simp only [Rep] at h
 | .own ..,_,_,_,h => by simp only [Rep] at h
 | .ptr ..,_,_,_,h => by simp only [Rep] at h
theorem a0n.world {m:Bool} {w w':World} {sz:Nat}:∀ (as:List AV) (cs:List Value) (fp:List Nat),(∀ b ∈ fp,w'.heap[b]? = w.heap[b]?) → a0n m w sz as cs fp → a0n m w' sz as cs fp
 | [],_,_,_,h => by simpa only [a0n] using h
 | a :: as,cs,fp,hw,h => by
  simp only [a0n] at h ⊢
  obtain ⟨f1,f2,h0,h1,h2,rfl⟩:=h
  exact ⟨f1,f2,h0,Rep.world a _ _ (fun x hx => hw x (by simp [hx])) h1,a0n.world as _ _ (fun x hx => hw x (by simp [hx])) h2,rfl⟩
theorem a0o.world {m:Bool} {w w':World}:∀ (as:List AV) (cs:List Value) (fp:List Nat),(∀ b ∈ fp,w'.heap[b]? = w.heap[b]?) → a0o m w as cs fp → a0o m w' as cs fp
 | [],_,_,_,h => by simpa only [a0o] using h
 | a :: as,cs,fp,hw,h => by
  simp only [a0o] at h ⊢
  obtain ⟨c,cs',f1,f2,h0,hc,h1,h2,rfl⟩:=h
  exact ⟨c,cs',f1,f2,h0,hc,Rep.world a _ _ (fun x hx => hw x (by simp [hx])) h1,a0o.world as _ _ (fun x hx => hw x (by simp [hx])) h2,rfl⟩
theorem a1q.world {m:Bool} {w w':World}:∀ (as:List AV) (cs:List Value) (fp:List Nat),(∀ b ∈ fp,w'.heap[b]? = w.heap[b]?) → a1q m w as cs fp → a1q m w' as cs fp
 | [],_,_,_,h => by simpa only [a1q] using h
 | a :: as,cs,fp,hw,h => by
  simp only [a1q] at h ⊢
  obtain ⟨c,cs',f1,f2,h0,h1,h2,rfl⟩:=h
  exact ⟨c,cs',f1,f2,h0,Rep.world a _ _ (fun x hx => hw x (by simp [hx])) h1,a1q.world as _ _ (fun x hx => hw x (by simp [hx])) h2,rfl⟩
end
mutual
theorem Rep.weak {m:Bool} {w:World}:∀ (a:AV) (cs:List Value) (fp:List Nat),Rep m w a cs fp → Rep false w a cs fp
 | .int _ _,_,_,h => by simpa only [Rep] using h
 | .bool _,_,_,h => by simpa only [Rep] using h
 | .str _,_,_,h => by simpa only [Rep] using h
 | .nil,_,_,h => by simpa only [Rep] using h
 | .lst z l,cs,fp,h => by
  simp only [Rep] at h ⊢
  rcases h with ⟨h1,h2,a,cap,h3,h4,_⟩ | ⟨b,off,cap,cur,e,fz,fps,h1,h2,h3,h4,h5,rfl,h7,h8⟩
  ·exact .inl ⟨h1,h2,a,cap,h3,h4,by simp⟩
  ·exact .inr ⟨b,off,cap,cur,e,fz,fps,h1,h2,h3,h4,by simp,rfl,h7,a0n.weak l _ _ h8⟩
 | .hdr v z l,cs,fp,h => by
  simp only [Rep] at h ⊢
  obtain ⟨hv,h⟩:=h
  refine ⟨hv,?_⟩
  rcases h with ⟨h1,h2,a,cap,h3,h4,_⟩ | ⟨b,off,cap,cur,e,fz,fps,h1,h2,h3,h4,h5,rfl,h7,h8⟩
  ·exact .inl ⟨h1,h2,a,cap,h3,h4,by simp⟩
  ·exact .inr ⟨b,off,cap,cur,e,fz,fps,h1,h2,h3,h4,by simp,rfl,h7,a0n.weak l _ _ h8⟩
 | .agg as,cs,fp,h => by simp only [Rep] at h ⊢; exact a0o.weak as cs fp h
 | .tup as,cs,fp,h => by simp only [Rep] at h ⊢; exact a1q.weak as cs fp h
 | .fn f caps,cs,fp,h => by
  simp only [Rep] at h ⊢
  obtain ⟨vs,h1,h2⟩:=h
  exact ⟨vs,h1,a1q.weak caps _ fp h2⟩
 | .iptr e f,cs,fp,h => by
  simp only [Rep] at h ⊢
  obtain ⟨b,off,sz,cur,el,fz,fps,h1,h2,rfl,h4,h5⟩:=h
  exact ⟨b,off,sz,cur,el,fz,fps,h1,h2,rfl,h4,Rep.weak e _ _ h5⟩
 | .undef,_,_,h => by simp only [Rep] at h
 | .skip,_,_,h => by simp only [Rep] at h
 | .own ..,_,_,h => by simp only [Rep] at h
 | .ptr ..,_,_,h => by simp only [Rep] at h
theorem a0n.weak {m:Bool} {w:World} {sz:Nat}:∀ (as:List AV) (cs:List Value) (fp:List Nat),a0n m w sz as cs fp → a0n false w sz as cs fp
 | [],_,_,h => by simpa only [a0n] using h
 | a :: as,cs,fp,h => by
  simp only [a0n] at h ⊢
  obtain ⟨f1,f2,h0,h1,h2,rfl⟩:=h
  exact ⟨f1,f2,h0,Rep.weak a _ _ h1,a0n.weak as _ _ h2,rfl⟩
theorem a0o.weak {m:Bool} {w:World}:∀ (as:List AV) (cs:List Value) (fp:List Nat),a0o m w as cs fp → a0o false w as cs fp
 | [],_,_,h => by simpa only [a0o] using h
 | a :: as,cs,fp,h => by
  simp only [a0o] at h ⊢
  obtain ⟨c,cs',f1,f2,h0,hc,h1,h2,rfl⟩:=h
  exact ⟨c,cs',f1,f2,h0,hc,Rep.weak a _ _ h1,a0o.weak as _ _ h2,rfl⟩
theorem a1q.weak {m:Bool} {w:World}:∀ (as:List AV) (cs:List Value) (fp:List Nat),a1q m w as cs fp → a1q false w as cs fp
 | [],_,_,h => by simpa only [a1q] using h
 | a :: as,cs,fp,h => by
  simp only [a1q] at h ⊢
  obtain ⟨c,cs',f1,f2,h0,h1,h2,rfl⟩:=h
  exact ⟨c,cs',f1,f2,h0,Rep.weak a _ _ h1,a1q.weak as _ _ h2,rfl⟩
end
theorem Rep.hdr {m:Bool} {w:World} {v:Value} {z:Nat} {l:List AV} {cs:List Value} {fp:List Nat}:Rep m w (.hdr v z l) cs fp ↔ cs = [v] ∧ Rep m w (.lst z l) cs fp:=by simp only [Rep]
theorem Rep.weak' {w:World} {a:AV} {cs:List Value} {fp:List Nat} (m:Bool) (h:Rep m w a cs fp):Rep false w a cs fp:=Rep.weak _ _ _ h
theorem lt_of_heap {w:World} {b:Nat} {o:Obj} (h:w.heap[b]? = some o):b < w.heap.size:=(Array.getElem?_eq_some_iff.1 h).1
mutual
theorem Rep.lt {m:Bool} {w:World}:∀ (a:AV) (cs:List Value) (fp:List Nat),Rep m w a cs fp → ∀ b ∈ fp,b < w.heap.size
 | .int _ _,_,_,h => by simp only [Rep] at h; simp [h.2]
 | .bool _,_,_,h => by simp only [Rep] at h; simp [h.2]
 | .str _,_,_,h => by simp only [Rep] at h; simp [h.2.2]
 | .nil,_,_,h => by simp only [Rep] at h; simp [h.2]
 | .lst z l,cs,fp,h => by
  simp only [Rep] at h
  rcases h with ⟨_,h2,_⟩ | ⟨b,off,cap,cur,e,fz,fps,h1,h2,h3,h4,h5,rfl,h7,h8⟩
  ·simp [h2]
  ·intro x hx
   rcases List.mem_cons.1 hx with rfl | hx
   ·exact lt_of_heap h4
   ·exact a0n.lt l _ _ h8 x hx
 | .hdr v z l,cs,fp,h => by
  simp only [Rep] at h
  obtain ⟨hv,h⟩:=h
  rcases h with ⟨_,h2,_⟩ | ⟨b,off,cap,cur,e,fz,fps,h1,h2,h3,h4,h5,rfl,h7,h8⟩
  ·simp [h2]
  ·intro x hx
   rcases List.mem_cons.1 hx with rfl | hx
   ·exact lt_of_heap h4
   ·exact a0n.lt l _ _ h8 x hx
 | .agg as,cs,fp,h => by simp only [Rep] at h; exact a0o.lt as cs fp h
 | .tup as,cs,fp,h => by simp only [Rep] at h; exact a1q.lt as cs fp h
 | .fn f caps,cs,fp,h => by
  simp only [Rep] at h
  obtain ⟨vs,h1,h2⟩:=h
  exact a1q.lt caps _ fp h2
 | .iptr e f,cs,fp,h => by
  simp only [Rep] at h
  obtain ⟨b,off,sz,cur,el,fz,fps,h1,h2,rfl,h4,h5⟩:=h
  intro x hx
  rcases List.mem_cons.1 hx with rfl | hx
  ·exact lt_of_heap h2
  ·exact Rep.lt e _ _ h5 x hx
 | .undef,_,_,h => by simp only [Rep] at h
 | .skip,_,_,h => by simp only [Rep] at h
 | .own ..,_,_,h => by simp only [Rep] at h
 | .ptr ..,_,_,h => by simp only [Rep] at h
theorem a0n.lt {m:Bool} {w:World} {sz:Nat}:∀ (as:List AV) (cs:List Value) (fp:List Nat),a0n m w sz as cs fp → ∀ b ∈ fp,b < w.heap.size
 | [],_,_,h => by simp only [a0n] at h; simp [h]
 | a :: as,cs,fp,h => by
  simp only [a0n] at h
  obtain ⟨f1,f2,h0,h1,h2,rfl⟩:=h
  intro x hx
  rcases List.mem_append.1 hx with hx | hx
  ·exact Rep.lt a _ _ h1 x hx
  ·exact a0n.lt as _ _ h2 x hx
theorem a0o.lt {m:Bool} {w:World}:∀ (as:List AV) (cs:List Value) (fp:List Nat),a0o m w as cs fp → ∀ b ∈ fp,b < w.heap.size
 | [],_,_,h => by simp only [a0o] at h; simp [h.2]
 | a :: as,cs,fp,h => by
  simp only [a0o] at h
  obtain ⟨c,cs',f1,f2,h0,_,h1,h2,rfl⟩:=h
  intro x hx
  rcases List.mem_append.1 hx with hx | hx
  ·exact Rep.lt a _ _ h1 x hx
  ·exact a0o.lt as _ _ h2 x hx
theorem a1q.lt {m:Bool} {w:World}:∀ (as:List AV) (cs:List Value) (fp:List Nat),a1q m w as cs fp → ∀ b ∈ fp,b < w.heap.size
 | [],_,_,h => by simp only [a1q] at h; simp [h.2]
 | a :: as,cs,fp,h => by
  simp only [a1q] at h
  obtain ⟨c,cs',f1,f2,h0,h1,h2,rfl⟩:=h
  intro x hx
  rcases List.mem_append.1 hx with hx | hx
  ·exact Rep.lt a _ _ h1 x hx
  ·exact a1q.lt as _ _ h2 x hx
end
section rows
variable {m:Bool} {w:World} {sz:Nat}
theorem a0n.get:∀ {as:List AV} {cs:List Value} {fp:List Nat} {i:Nat} {a:AV},a0n m w sz as cs fp → as[i]? = some a →
  ∃ f,Rep m w a ((cs.drop (i * sz)).take sz) f ∧ (∀ b ∈ f,b ∈ fp) ∧ ((cs.drop (i * sz)).take sz).length = sz
 | [],_,_,_,_,_,h => by simp at h
 | x :: as,cs,fp,0,a,h,hi => by
  simp only [a0n] at h
  obtain ⟨f1,f2,h0,h1,h2,rfl⟩:=h
  simp at hi
  subst hi
  exact ⟨f1,by simpa using h1,fun b hb => by simp [hb],by simpa using h0.1⟩
 | x :: as,cs,fp,i + 1,a,h,hi => by
  simp only [a0n] at h
  obtain ⟨f1,f2,h0,h1,h2,rfl⟩:=h
  obtain ⟨f,g1,g2,g3⟩:=a0n.get h2 (by simpa using hi)
  rw [List.drop_drop] at g1 g3
  have e:sz + i * sz = (i + 1) * sz:=by rw [Nat.add_mul]; omega
  rw [e] at g1 g3
  exact ⟨f,g1,fun b hb => by simp [g2 b hb],g3⟩
theorem a0n.congr:∀ {as:List AV} {cs cs':List Value} {fp:List Nat},cs'.take (as.length * sz) = cs.take (as.length * sz) → a0n m w sz as cs fp → a0n m w sz as cs' fp
 | [],_,_,_,_,h => by simpa only [a0n] using h
 | a :: as,cs,cs',fp,he,h => by
  simp only [a0n] at h ⊢
  obtain ⟨f1,f2,h0,h1,h2,rfl⟩:=h
  have e:(a :: as).length * sz = sz + as.length * sz:=by simp [Nat.add_mul]; omega
  rw [e] at he
  have t1:cs'.take sz = cs.take sz:=by
   have:=congrArg (List.take sz) he
   simpa [List.take_take] using this
  have t2:(cs'.drop sz).take (as.length * sz) = (cs.drop sz).take (as.length * sz):=by
   have:=congrArg (List.drop sz) he
   simpa [List.drop_take] using this
  exact ⟨f1,f2,by rw [t1]; exact h0,by rw [t1]; exact h1,a0n.congr t2 h2,rfl⟩
theorem a0n.length:∀ {as:List AV} {cs:List Value} {fp:List Nat},a0n m w sz as cs fp → as.length * sz ≤ cs.length
 | [],_,_,_ => by simp
 | a :: as,cs,fp,h => by
  simp only [a0n] at h
  obtain ⟨f1,f2,h0,h1,h2,rfl⟩:=h
  have:=a0n.length h2
  have h0:=h0.1
  rw [List.length_take] at h0
  rw [List.length_drop] at this
  rw [List.length_cons,Nat.add_mul]
  omega
theorem a0n.append:∀ {as bs:List AV} {cs ds:List Value} {f g:List Nat},a0n m w sz as cs f → cs.length = as.length * sz → a0n m w sz bs ds g → a0n m w sz (as ++ bs) (cs ++ ds) (f ++ g)
 | [],bs,cs,ds,f,g,h,hl,h' => by
  simp only [a0n] at h
  subst h
  have:cs = []:=List.eq_nil_of_length_eq_zero (by simpa using hl)
  subst this
  simpa using h'
 | a :: as,bs,cs,ds,f,g,h,hl,h' => by
  simp only [a0n] at h
  obtain ⟨f1,f2,⟨h0,hel⟩,h1,h2,rfl⟩:=h
  rw [List.length_take] at h0
  rw [List.length_cons,Nat.add_mul] at hl
  have hle:sz ≤ cs.length:=by omega
  simp only [List.cons_append,a0n]
  refine ⟨f1,f2 ++ g,?_,?_,?_,by simp⟩
  ·refine ⟨?_,hel⟩; rw [List.length_take,List.length_append]; omega
  ·rw [List.take_append_of_le_length hle]; exact h1
  ·rw [List.drop_append_of_le_length hle]
   exact a0n.append h2 (by rw [List.length_drop]; omega) h'
theorem a0n.take:∀ {as:List AV} {cs:List Value} {fp:List Nat} (n:Nat),a0n m w sz as cs fp → ∃ f g,fp = f ++ g ∧ a0n m w sz (as.take n) cs f
 | [],_,fp,n,h => ⟨[],fp,rfl,by simp [a0n]⟩
 | a :: as,cs,fp,0,h => ⟨[],fp,rfl,by simp [a0n]⟩
 | a :: as,cs,fp,n + 1,h => by
  simp only [a0n] at h
  obtain ⟨f1,f2,h0,h1,h2,rfl⟩:=h
  obtain ⟨f,g,e,h'⟩:=a0n.take n h2
  refine ⟨f1 ++ f,g,by rw [e]; simp,?_⟩
  simp only [List.take_succ_cons,a0n]
  exact ⟨f1,f,h0,h1,h',rfl⟩
theorem a0n.drop:∀ {as:List AV} {cs:List Value} {fp:List Nat} (n:Nat),a0n m w sz as cs fp → ∃ f g,fp = f ++ g ∧ a0n m w sz (as.drop n) (cs.drop (n * sz)) g
 | [],_,fp,n,h => by simp only [a0n] at h; subst h; exact ⟨[],[],rfl,by simp [a0n]⟩
 | a :: as,cs,fp,0,h => ⟨[],fp,rfl,by simpa using h⟩
 | a :: as,cs,fp,n + 1,h => by
  simp only [a0n] at h
  obtain ⟨f1,f2,h0,h1,h2,rfl⟩:=h
  obtain ⟨f,g,e,h'⟩:=a0n.drop n h2
  refine ⟨f1 ++ f,g,by rw [e]; simp,?_⟩
  rw [List.drop_drop] at h'
  have e:sz + n * sz = (n + 1) * sz:=by rw [Nat.add_mul]; omega
  rw [e] at h'
  simpa using h'
theorem a0o.get:∀ {as:List AV} {cs:List Value} {fp:List Nat} {i:Nat} {a:AV},a0o m w as cs fp → as[i]? = some a → ∃ c f,cs[i]? = some c ∧ Rep m w a [c] f ∧ ∀ b ∈ f,b ∈ fp
 | [],_,_,_,_,_,h => by simp at h
 | x :: as,cs,fp,0,a,h,hi => by
  simp only [a0o] at h
  obtain ⟨c,cs',f1,f2,rfl,hc,h1,h2,rfl⟩:=h
  simp at hi
  subst hi
  exact ⟨c,f1,rfl,h1,fun b hb => by simp [hb]⟩
 | x :: as,cs,fp,i + 1,a,h,hi => by
  simp only [a0o] at h
  obtain ⟨c,cs',f1,f2,rfl,hc,h1,h2,rfl⟩:=h
  obtain ⟨c',f,g1,g2,g3⟩:=a0o.get h2 (by simpa using hi)
  exact ⟨c',f,by simpa using g1,g2,fun b hb => by simp [g3 b hb]⟩
theorem a0o.length:∀ {as:List AV} {cs:List Value} {fp:List Nat},a0o m w as cs fp → cs.length = as.length
 | [],_,_,h => by simp only [a0o] at h; simp [h.1]
 | a :: as,cs,fp,h => by
  simp only [a0o] at h
  obtain ⟨c,cs',f1,f2,rfl,hc,h1,h2,rfl⟩:=h
  simp [a0o.length h2]
theorem a0o.take:∀ {as:List AV} {cs:List Value} {fp:List Nat} (n:Nat),a0o m w as cs fp → ∃ f g,fp = f ++ g ∧ a0o m w (as.take n) (cs.take n) f
 | [],_,fp,n,h => by simp only [a0o] at h; exact ⟨[],fp,rfl,by simp [a0o,h.1]⟩
 | a :: as,cs,fp,0,h => ⟨[],fp,rfl,by simp [a0o]⟩
 | a :: as,cs,fp,n + 1,h => by
  simp only [a0o] at h
  obtain ⟨c,cs',f1,f2,rfl,hc,h1,h2,rfl⟩:=h
  obtain ⟨f,g,e,h'⟩:=a0o.take n h2
  refine ⟨f1 ++ f,g,by rw [e]; simp,?_⟩
  simp only [List.take_succ_cons,a0o]
  exact ⟨c,_,f1,f,rfl,hc,h1,h',rfl⟩
theorem a0o.drop:∀ {as:List AV} {cs:List Value} {fp:List Nat} (n:Nat),a0o m w as cs fp → ∃ f g,fp = f ++ g ∧ a0o m w (as.drop n) (cs.drop n) g
 | [],_,fp,n,h => by simp only [a0o] at h; exact ⟨[],[],by simp [h.2],by simp [a0o,h.1]⟩
 | a :: as,cs,fp,0,h => ⟨[],fp,rfl,by simpa using h⟩
 | a :: as,cs,fp,n + 1,h => by
  simp only [a0o] at h
  obtain ⟨c,cs',f1,f2,rfl,hc,h1,h2,rfl⟩:=h
  obtain ⟨f,g,e,h'⟩:=a0o.drop n h2
  exact ⟨f1 ++ f,g,by rw [e]; simp,by simpa using h'⟩
theorem a1q.length:∀ {as:List AV} {vs:List Value} {fp:List Nat},a1q m w as vs fp → vs.length = as.length
 | [],_,_,h => by simp only [a1q] at h; simp [h.1]
 | a :: as,vs,fp,h => by
  simp only [a1q] at h
  obtain ⟨c,vs',f1,f2,rfl,h1,h2,rfl⟩:=h
  simp [a1q.length h2]
theorem Rep.oneCell:∀ {a:AV} {cs:List Value} {fp:List Nat},a.isCell = true → Rep m w a cs fp → ∀ u ∈ cs,u.oneCell' = true:=by
 intro a cs fp hc hr
 cases a with
 | int k n => simp only [Rep] at hr; intro u hu; rw [hr.1] at hu; simp at hu; subst hu; rfl
 | bool n => simp only [Rep] at hr; intro u hu; rw [hr.1] at hu; simp at hu; subst hu; rfl
 | str n => simp only [Rep] at hr; intro u hu; rw [hr.1] at hu; simp at hu; subst hu; rfl
 | nil => simp only [Rep] at hr; intro u hu; rw [hr.1] at hu; simp at hu; subst hu; rfl
 | lst z l =>
  simp only [Rep] at hr
  rcases hr with ⟨_,_,x,cap,h3,_⟩ | ⟨b,off,cap,cur,e,fz,fps,h1,_⟩
  ·intro u hu; rw [h3] at hu; simp at hu; subst hu; rfl
  ·intro u hu; rw [h1] at hu; simp at hu; subst hu; rfl
 | hdr v z l =>
  simp only [Rep] at hr
  obtain ⟨_,hr⟩:=hr
  rcases hr with ⟨_,_,x,cap,h3,_⟩ | ⟨b,off,cap,cur,e,fz,fps,h1,_⟩
  ·intro u hu; rw [h3] at hu; simp at hu; subst hu; rfl
  ·intro u hu; rw [h1] at hu; simp at hu; subst hu; rfl
 | fn f caps => simp only [Rep] at hr; obtain ⟨vs,h1,_⟩:=hr; intro u hu; rw [h1] at hu; simp at hu; subst hu; rfl
 | iptr e f => simp only [Rep] at hr; obtain ⟨b,off,sz,cur,el,fz,fps,h1,_⟩:=hr; intro u hu; rw [h1] at hu; simp at hu; subst hu; rfl
 | agg _ => simp [AV.isCell] at hc
 | tup _ => simp [AV.isCell] at hc
 | undef => simp only [Rep] at hr
 | skip => simp only [Rep] at hr
 | own _ _ _ => simp only [Rep] at hr
 | ptr _ _ _ => simp only [Rep] at hr
theorem a0o.oneCell:∀ {as:List AV} {cs:List Value} {fp:List Nat},a0o m w as cs fp → ∀ u ∈ cs,u.oneCell' = true
 | [],_,_,hr => by simp only [a0o] at hr; simp [hr.1]
 | a :: as,cs,fp,hr => by
  simp only [a0o] at hr
  obtain ⟨c,cs',f1,f2,rfl,hc,h1,h2,rfl⟩:=hr
  intro u hu
  rcases List.mem_cons.1 hu with rfl | hu
  ·exact Rep.oneCell hc h1 u (by simp)
  ·exact a0o.oneCell h2 u hu
theorem Rep.oneCellE {a:AV} {cs:List Value} {fp:List Nat} (he:a.isElem = true) (hr:Rep m w a cs fp):∀ u ∈ cs,u.oneCell' = true:=by
 by_cases hc:a.isCell = true
 ·exact Rep.oneCell hc hr
 ·cases a with
  | agg as => simp only [Rep] at hr; exact a0o.oneCell hr
  | tup as => simp [AV.isElem] at he
  | _ => simp [AV.isCell] at hc
theorem a0n.oneCell:∀ {as:List AV} {cs:List Value} {fp:List Nat},a0n m w sz as cs fp → ∀ u ∈ cs.take (as.length * sz),u.oneCell' = true
 | [],_,_,_ => by simp
 | a :: as,cs,fp,hr => by
  simp only [a0n] at hr
  obtain ⟨f1,f2,⟨h0,hel⟩,h1,h2,rfl⟩:=hr
  intro u hu
  have e:(a :: as).length * sz = sz + as.length * sz:=by simp [Nat.add_mul]; omega
  rw [e,List.take_add] at hu
  rcases List.mem_append.1 hu with hu | hu
  ·exact Rep.oneCellE hel h1 u hu
  ·exact a0n.oneCell h2 u hu
end rows
end Go.R
