/- Part of the proof. -/
import Derived.WalkKit
import Derived.Deep.AppendSrc
section
set_option linter.all false
namespace Go.R
open Go
inductive AV where
 | undef
 | skip
 | int (k:IntKind) (n:Int)
 | bool (b:Bool)
 | str (s:List UInt8)
 | nil
 | lst (z:Nat) (l:List AV)
 | own (o lo n:Nat)
 | agg (cs:List AV)
 | tup (vs:List AV)
 | ptr (o i f:Nat)
 | iptr (e:AV) (f:Nat)
 | fn (f:Nat) (caps:List AV)
 | hdr (v:Value) (z:Nat) (l:List AV)
instance:Inhabited AV:=⟨.undef⟩
def AV.isCell:AV → Bool
 | .agg _ => false
 | .tup _ => false
 | _ => true
def AV.isElem:AV → Bool
 | .tup _ => false
 | _ => true
def mkV:AV → List Value → Value
 | .agg _,cs => .agg cs.toArray
 | .tup _,cs => .tuple cs.toArray
 | _,cs => cs.headD Go.undef
mutual
def Rep (m:Bool) (w:World):AV → List Value → List Nat → Prop
 | .int k n,cs,fp => cs = [.int k n] ∧ fp = []
 | .bool b,cs,fp => cs = [.bool b] ∧ fp = []
 | .str s,cs,fp => cs = [.string ⟨s.toArray⟩] ∧ s.length ≤ maxLen ∧ fp = []
 | .nil,cs,fp => cs = [.slice none 0 0] ∧ fp = []
 | .lst sz l,cs,fp =>
   (l = [] ∧ fp = [] ∧ ∃ a cap,cs = [.slice a 0 cap] ∧ cap ≤ maxLen ∧ (m = true → a = none ∧ cap = 0)) ∨
   ∃ b off cap cur e fz fps,cs = [.slice (some ⟨b,off,none⟩) l.length cap] ∧ l.length ≤ cap ∧ cap ≤ maxLen ∧ w.heap[b]? = some (.cells cur e fz) ∧
    (m = true → fz = (0,0) ∧ off = 0 ∧ cur.size = cap * sz) ∧ fp = b :: fps ∧ 0 < sz ∧ a0a m w sz l (cur.toList.drop off) fps
 | .agg as,cs,fp => a0b m w as cs fp
 | .tup as,cs,fp => a0x m w as cs fp
 | .fn f caps,cs,fp => ∃ vs,cs = [.func (.func f) #[] vs] ∧ a0x m w caps vs.toList fp
 | .iptr e f,cs,fp => ∃ b off sz cur el fz fps,cs = [.pointer (some ⟨b,off + f,none⟩)] ∧ w.heap[b]? = some (.cells cur el fz) ∧ fp = b :: fps ∧
    ((cur.toList.drop off).take sz).length = sz ∧ Rep m w e ((cur.toList.drop off).take sz) fps
 | .hdr v sz l,cs,fp => cs = [v] ∧ (
   (l = [] ∧ fp = [] ∧ ∃ a cap,cs = [.slice a 0 cap] ∧ cap ≤ maxLen ∧ (m = true → a = none ∧ cap = 0)) ∨
   ∃ b off cap cur e fz fps,cs = [.slice (some ⟨b,off,none⟩) l.length cap] ∧ l.length ≤ cap ∧ cap ≤ maxLen ∧ w.heap[b]? = some (.cells cur e fz) ∧
    (m = true → fz = (0,0) ∧ off = 0 ∧ cur.size = cap * sz) ∧ fp = b :: fps ∧ 0 < sz ∧ a0a m w sz l (cur.toList.drop off) fps)
 | .undef,_,_ => False
 | .skip,_,_ => False
 | .own ..,_,_ => False
 | .ptr ..,_,_ => False
def a0a (m:Bool) (w:World) (sz:Nat):List AV → List Value → List Nat → Prop
 | [],_,fp => fp = []
 | a :: as,cs,fp => ∃ f1 f2,((cs.take sz).length = sz ∧ a.isElem = true) ∧ Rep m w a (cs.take sz) f1 ∧ a0a m w sz as (cs.drop sz) f2 ∧ fp = f1 ++ f2
def a0b (m:Bool) (w:World):List AV → List Value → List Nat → Prop
 | [],cs,fp => cs = [] ∧ fp = []
 | a :: as,cs,fp => ∃ c cs' f1 f2,cs = c :: cs' ∧ a.isCell = true ∧ Rep m w a [c] f1 ∧ a0b m w as cs' f2 ∧ fp = f1 ++ f2
def a0x (m:Bool) (w:World):List AV → List Value → List Nat → Prop
 | [],vs,fp => vs = [] ∧ fp = []
 | a :: as,vs,fp => ∃ cs vs' f1 f2,vs = mkV a cs :: vs' ∧ Rep m w a cs f1 ∧ a0x m w as vs' f2 ∧ fp = f1 ++ f2
end
def b6h (m:Bool) (w:World) (a:AV) (v:Value) (fp:List Nat):Prop:=∃ cs,v = mkV a cs ∧ Rep m w a cs fp
mutual
theorem Rep.world {m:Bool} {w w':World}:∀ (a:AV) (cs:List Value) (fp:List Nat),(∀ b ∈ fp,w'.heap[b]? = w.heap[b]?) → Rep m w a cs fp → Rep m w' a cs fp
 | .int _ _,_,_,_,h => by simpa only [Rep] using h
 | .bool _,_,_,_,h => by simpa only [Rep] using h
 | .str _,_,_,_,h => by simpa only [Rep] using h
 | .nil,_,_,_,h => by simpa only [Rep] using h
 | .lst z l,cs,fp,hw,h => by
  simp only [Rep] at h ⊢
  rcases h with h | ⟨b,off,cap,cur,e,fz,fps,h1,h2,h3,h4,h5,rfl,h7,h8⟩
  ·exact .inl h
  ·exact .inr ⟨b,off,cap,cur,e,fz,fps,h1,h2,h3,(hw b (by simp)).trans h4,h5,rfl,h7,a0a.world l _ _ (fun x hx => hw x (by simp [hx])) h8⟩
 | .hdr v z l,cs,fp,hw,h => by
  simp only [Rep] at h ⊢
  obtain ⟨hv,h⟩:=h
  refine ⟨hv,?_⟩
  rcases h with h | ⟨b,off,cap,cur,e,fz,fps,h1,h2,h3,h4,h5,rfl,h7,h8⟩
  ·exact .inl h
  ·exact .inr ⟨b,off,cap,cur,e,fz,fps,h1,h2,h3,(hw b (by simp)).trans h4,h5,rfl,h7,a0a.world l _ _ (fun x hx => hw x (by simp [hx])) h8⟩
 | .agg as,cs,fp,hw,h => by simp only [Rep] at h ⊢; exact a0b.world as cs fp hw h
 | .tup as,cs,fp,hw,h => by simp only [Rep] at h ⊢; exact a0x.world as cs fp hw h
 | .fn f caps,cs,fp,hw,h => by
  simp only [Rep] at h ⊢
  obtain ⟨vs,h1,h2⟩:=h
  exact ⟨vs,h1,a0x.world caps _ fp hw h2⟩
 | .iptr e f,cs,fp,hw,h => by
  simp only [Rep] at h ⊢
  obtain ⟨b,off,sz,cur,el,fz,fps,h1,h2,rfl,h4,h5⟩:=h
  exact ⟨b,off,sz,cur,el,fz,fps,h1,(hw b (by simp)).trans h2,rfl,h4,Rep.world e _ _ (fun x hx => hw x (by simp [hx])) h5⟩
 | .undef,_,_,_,h => by simp only [Rep] at h
 | .skip,_,_,_,h => by simp only [Rep] at h
 | .own ..,_,_,_,h => by simp only [Rep] at h
 | .ptr ..,_,_,_,h => by simp only [Rep] at h
theorem a0a.world {m:Bool} {w w':World} {sz:Nat}:∀ (as:List AV) (cs:List Value) (fp:List Nat),(∀ b ∈ fp,w'.heap[b]? = w.heap[b]?) → a0a m w sz as cs fp → a0a m w' sz as cs fp
 | [],_,_,_,h => by simpa only [a0a] using h
 | a :: as,cs,fp,hw,h => by
  simp only [a0a] at h ⊢
  obtain ⟨f1,f2,h0,h1,h2,rfl⟩:=h
  exact ⟨f1,f2,h0,Rep.world a _ _ (fun x hx => hw x (by simp [hx])) h1,a0a.world as _ _ (fun x hx => hw x (by simp [hx])) h2,rfl⟩
theorem a0b.world {m:Bool} {w w':World}:∀ (as:List AV) (cs:List Value) (fp:List Nat),(∀ b ∈ fp,w'.heap[b]? = w.heap[b]?) → a0b m w as cs fp → a0b m w' as cs fp
 | [],_,_,_,h => by simpa only [a0b] using h
 | a :: as,cs,fp,hw,h => by
  simp only [a0b] at h ⊢
  obtain ⟨c,cs',f1,f2,h0,hc,h1,h2,rfl⟩:=h
  exact ⟨c,cs',f1,f2,h0,hc,Rep.world a _ _ (fun x hx => hw x (by simp [hx])) h1,a0b.world as _ _ (fun x hx => hw x (by simp [hx])) h2,rfl⟩
theorem a0x.world {m:Bool} {w w':World}:∀ (as:List AV) (cs:List Value) (fp:List Nat),(∀ b ∈ fp,w'.heap[b]? = w.heap[b]?) → a0x m w as cs fp → a0x m w' as cs fp
 | [],_,_,_,h => by simpa only [a0x] using h
 | a :: as,cs,fp,hw,h => by
  simp only [a0x] at h ⊢
  obtain ⟨c,cs',f1,f2,h0,h1,h2,rfl⟩:=h
  exact ⟨c,cs',f1,f2,h0,Rep.world a _ _ (fun x hx => hw x (by simp [hx])) h1,a0x.world as _ _ (fun x hx => hw x (by simp [hx])) h2,rfl⟩
end
mutual
theorem Rep.weak {m:Bool} {w:World}:∀ (a:AV) (cs:List Value) (fp:List Nat),Rep m w a cs fp → Rep false w a cs fp
 | .int _ _,_,_,h => by simpa only [Rep] using h
 | .bool _,_,_,h => by simpa only [Rep] using h
 | .str _,_,_,h => by simpa only [Rep] using h
 | .nil,_,_,h => by simpa only [Rep] using h
 | .lst z l,cs,fp,h => by
  simp only [Rep] at h ⊢
  rcases h with ⟨h1,h2,a,cap,h3,h4,_⟩ | ⟨b,off,cap,cur,e,fz,fps,h1,h2,h3,h4,h5,rfl,h7,h8⟩
  ·exact .inl ⟨h1,h2,a,cap,h3,h4,by simp⟩
  ·exact .inr ⟨b,off,cap,cur,e,fz,fps,h1,h2,h3,h4,by simp,rfl,h7,a0a.weak l _ _ h8⟩
 | .hdr v z l,cs,fp,h => by
  simp only [Rep] at h ⊢
  obtain ⟨hv,h⟩:=h
  refine ⟨hv,?_⟩
  rcases h with ⟨h1,h2,a,cap,h3,h4,_⟩ | ⟨b,off,cap,cur,e,fz,fps,h1,h2,h3,h4,h5,rfl,h7,h8⟩
  ·exact .inl ⟨h1,h2,a,cap,h3,h4,by simp⟩
  ·exact .inr ⟨b,off,cap,cur,e,fz,fps,h1,h2,h3,h4,by simp,rfl,h7,a0a.weak l _ _ h8⟩
 | .agg as,cs,fp,h => by simp only [Rep] at h ⊢; exact a0b.weak as cs fp h
 | .tup as,cs,fp,h => by simp only [Rep] at h ⊢; exact a0x.weak as cs fp h
 | .fn f caps,cs,fp,h => by
  simp only [Rep] at h ⊢
  obtain ⟨vs,h1,h2⟩:=h
  exact ⟨vs,h1,a0x.weak caps _ fp h2⟩
 | .iptr e f,cs,fp,h => by
  simp only [Rep] at h ⊢
  obtain ⟨b,off,sz,cur,el,fz,fps,h1,h2,rfl,h4,h5⟩:=h
  exact ⟨b,off,sz,cur,el,fz,fps,h1,h2,rfl,h4,Rep.weak e _ _ h5⟩
 | .undef,_,_,h => by simp only [Rep] at h
 | .skip,_,_,h => by simp only [Rep] at h
 | .own ..,_,_,h => by simp only [Rep] at h
 | .ptr ..,_,_,h => by simp only [Rep] at h
theorem a0a.weak {m:Bool} {w:World} {sz:Nat}:∀ (as:List AV) (cs:List Value) (fp:List Nat),a0a m w sz as cs fp → a0a false w sz as cs fp
 | [],_,_,h => by simpa only [a0a] using h
 | a :: as,cs,fp,h => by
  simp only [a0a] at h ⊢
  obtain ⟨f1,f2,h0,h1,h2,rfl⟩:=h
  exact ⟨f1,f2,h0,Rep.weak a _ _ h1,a0a.weak as _ _ h2,rfl⟩
theorem a0b.weak {m:Bool} {w:World}:∀ (as:List AV) (cs:List Value) (fp:List Nat),a0b m w as cs fp → a0b false w as cs fp
 | [],_,_,h => by simpa only [a0b] using h
 | a :: as,cs,fp,h => by
  simp only [a0b] at h ⊢
  obtain ⟨c,cs',f1,f2,h0,hc,h1,h2,rfl⟩:=h
  exact ⟨c,cs',f1,f2,h0,hc,Rep.weak a _ _ h1,a0b.weak as _ _ h2,rfl⟩
theorem a0x.weak {m:Bool} {w:World}:∀ (as:List AV) (cs:List Value) (fp:List Nat),a0x m w as cs fp → a0x false w as cs fp
 | [],_,_,h => by simpa only [a0x] using h
 | a :: as,cs,fp,h => by
  simp only [a0x] at h ⊢
  obtain ⟨c,cs',f1,f2,h0,h1,h2,rfl⟩:=h
  exact ⟨c,cs',f1,f2,h0,Rep.weak a _ _ h1,a0x.weak as _ _ h2,rfl⟩
end
theorem Rep.hdr {m:Bool} {w:World} {v:Value} {z:Nat} {l:List AV} {cs:List Value} {fp:List Nat}:Rep m w (.hdr v z l) cs fp ↔ cs = [v] ∧ Rep m w (.lst z l) cs fp:=by simp only [Rep]
theorem Rep.weak' {w:World} {a:AV} {cs:List Value} {fp:List Nat} (m:Bool) (h:Rep m w a cs fp):Rep false w a cs fp:=Rep.weak _ _ _ h
theorem lt_of_heap {w:World} {b:Nat} {o:Obj} (h:w.heap[b]? = some o):b < w.heap.size:=(Array.getElem?_eq_some_iff.1 h).1
mutual
theorem Rep.lt {m:Bool} {w:World}:∀ (a:AV) (cs:List Value) (fp:List Nat),Rep m w a cs fp → ∀ b ∈ fp,b < w.heap.size
 | .int _ _,_,_,h => by simp only [Rep] at h; simp [h.2]
 | .bool _,_,_,h => by simp only [Rep] at h; simp [h.2]
 | .str _,_,_,h => by simp only [Rep] at h; simp [h.2.2]
 | .nil,_,_,h => by simp only [Rep] at h; simp [h.2]
 | .lst z l,cs,fp,h => by
  simp only [Rep] at h
  rcases h with ⟨_,h2,_⟩ | ⟨b,off,cap,cur,e,fz,fps,h1,h2,h3,h4,h5,rfl,h7,h8⟩
  ·simp [h2]
  ·intro x hx
   rcases List.mem_cons.1 hx with rfl | hx
   ·exact lt_of_heap h4
   ·exact a0a.lt l _ _ h8 x hx
 | .hdr v z l,cs,fp,h => by
  simp only [Rep] at h
  obtain ⟨hv,h⟩:=h
  rcases h with ⟨_,h2,_⟩ | ⟨b,off,cap,cur,e,fz,fps,h1,h2,h3,h4,h5,rfl,h7,h8⟩
  ·simp [h2]
  ·intro x hx
   rcases List.mem_cons.1 hx with rfl | hx
   ·exact lt_of_heap h4
   ·exact a0a.lt l _ _ h8 x hx
 | .agg as,cs,fp,h => by simp only [Rep] at h; exact a0b.lt as cs fp h
 | .tup as,cs,fp,h => by simp only [Rep] at h; exact a0x.lt as cs fp h
 | .fn f caps,cs,fp,h => by
  simp only [Rep] at h
  obtain ⟨vs,h1,h2⟩:=h
  exact a0x.lt caps _ fp h2
 | .iptr e f,cs,fp,h => by
  simp only [Rep] at h
  obtain ⟨b,off,sz,cur,el,fz,fps,h1,h2,rfl,h4,h5⟩:=h
  intro x hx
  rcases List.mem_cons.1 hx with rfl | hx
  ·exact lt_of_heap h2
  ·exact Rep.lt e _ _ h5 x hx
 | .undef,_,_,h => by simp only [Rep] at h
 | .skip,_,_,h => by simp only [Rep] at h
 | .own ..,_,_,h => by simp only [Rep] at h
 | .ptr ..,_,_,h => by simp only [Rep] at h
theorem a0a.lt {m:Bool} {w:World} {sz:Nat}:∀ (as:List AV) (cs:List Value) (fp:List Nat),a0a m w sz as cs fp → ∀ b ∈ fp,b < w.heap.size
 | [],_,_,h => by simp only [a0a] at h; simp [h]
 | a :: as,cs,fp,h => by
  simp only [a0a] at h
  obtain ⟨f1,f2,h0,h1,h2,rfl⟩:=h
  intro x hx
  rcases List.mem_append.1 hx with hx | hx
  ·exact Rep.lt a _ _ h1 x hx
  ·exact a0a.lt as _ _ h2 x hx
theorem a0b.lt {m:Bool} {w:World}:∀ (as:List AV) (cs:List Value) (fp:List Nat),a0b m w as cs fp → ∀ b ∈ fp,b < w.heap.size
 | [],_,_,h => by simp only [a0b] at h; simp [h.2]
 | a :: as,cs,fp,h => by
  simp only [a0b] at h
  obtain ⟨c,cs',f1,f2,h0,_,h1,h2,rfl⟩:=h
  intro x hx
  rcases List.mem_append.1 hx with hx | hx
  ·exact Rep.lt a _ _ h1 x hx
  ·exact a0b.lt as _ _ h2 x hx
theorem a0x.lt {m:Bool} {w:World}:∀ (as:List AV) (cs:List Value) (fp:List Nat),a0x m w as cs fp → ∀ b ∈ fp,b < w.heap.size
 | [],_,_,h => by simp only [a0x] at h; simp [h.2]
 | a :: as,cs,fp,h => by
  simp only [a0x] at h
  obtain ⟨c,cs',f1,f2,h0,h1,h2,rfl⟩:=h
  intro x hx
  rcases List.mem_append.1 hx with hx | hx
  ·exact Rep.lt a _ _ h1 x hx
  ·exact a0x.lt as _ _ h2 x hx
end
section rows
variable {m:Bool} {w:World} {sz:Nat}
theorem a0a.get:∀ {as:List AV} {cs:List Value} {fp:List Nat} {i:Nat} {a:AV},a0a m w sz as cs fp → as[i]? = some a →
  ∃ f,Rep m w a ((cs.drop (i * sz)).take sz) f ∧ (∀ b ∈ f,b ∈ fp) ∧ ((cs.drop (i * sz)).take sz).length = sz
 | [],_,_,_,_,_,h => by simp at h
 | x :: as,cs,fp,0,a,h,hi => by
  simp only [a0a] at h
  obtain ⟨f1,f2,h0,h1,h2,rfl⟩:=h
  simp at hi
  subst hi
  exact ⟨f1,by simpa using h1,fun b hb => by simp [hb],by simpa using h0.1⟩
 | x :: as,cs,fp,i + 1,a,h,hi => by
  simp only [a0a] at h
  obtain ⟨f1,f2,h0,h1,h2,rfl⟩:=h
  obtain ⟨f,g1,g2,g3⟩:=a0a.get h2 (by simpa using hi)
  rw [List.drop_drop] at g1 g3
  have e:sz + i * sz = (i + 1) * sz:=by rw [Nat.add_mul]; omega
  rw [e] at g1 g3
  exact ⟨f,g1,fun b hb => by simp [g2 b hb],g3⟩
theorem a0a.congr:∀ {as:List AV} {cs cs':List Value} {fp:List Nat},cs'.take (as.length * sz) = cs.take (as.length * sz) → a0a m w sz as cs fp → a0a m w sz as cs' fp
 | [],_,_,_,_,h => by simpa only [a0a] using h
 | a :: as,cs,cs',fp,he,h => by
  simp only [a0a] at h ⊢
  obtain ⟨f1,f2,h0,h1,h2,rfl⟩:=h
  have e:(a :: as).length * sz = sz + as.length * sz:=by simp [Nat.add_mul]; omega
  rw [e] at he
  have t1:cs'.take sz = cs.take sz:=by
   have:=congrArg (List.take sz) he
   simpa [List.take_take] using this
  have t2:(cs'.drop sz).take (as.length * sz) = (cs.drop sz).take (as.length * sz):=by
   have:=congrArg (List.drop sz) he
   simpa [List.drop_take] using this
  exact ⟨f1,f2,by rw [t1]; exact h0,by rw [t1]; exact h1,a0a.congr t2 h2,rfl⟩
theorem a0a.length:∀ {as:List AV} {cs:List Value} {fp:List Nat},a0a m w sz as cs fp → as.length * sz ≤ cs.length
 | [],_,_,_ => by simp
 | a :: as,cs,fp,h => by
  simp only [a0a] at h
  obtain ⟨f1,f2,h0,h1,h2,rfl⟩:=h
  have:=a0a.length h2
  have h0:=h0.1
  rw [List.length_take] at h0
  rw [List.length_drop] at this
  rw [List.length_cons,Nat.add_mul]
  omega
theorem a0a.append:∀ {as bs:List AV} {cs ds:List Value} {f g:List Nat},a0a m w sz as cs f → cs.length = as.length * sz → a0a m w sz bs ds g → a0a m w sz (as ++ bs) (cs ++ ds) (f ++ g)
 | [],bs,cs,ds,f,g,h,hl,h' => by
  simp only [a0a] at h
  subst h
  have:cs = []:=List.eq_nil_of_length_eq_zero (by simpa using hl)
  subst this
  simpa using h'
 | a :: as,bs,cs,ds,f,g,h,hl,h' => by
  simp only [a0a] at h
  obtain ⟨f1,f2,⟨h0,hel⟩,h1,h2,rfl⟩:=h
  rw [List.length_take] at h0
  rw [List.length_cons,Nat.add_mul] at hl
  have hle:sz ≤ cs.length:=by omega
  simp only [List.cons_append,a0a]
  refine ⟨f1,f2 ++ g,?_,?_,?_,by simp⟩
  ·refine ⟨?_,hel⟩; rw [List.length_take,List.length_append]; omega
  ·rw [List.take_append_of_le_length hle]; exact h1
  ·rw [List.drop_append_of_le_length hle]
   exact a0a.append h2 (by rw [List.length_drop]; omega) h'
theorem a0a.take:∀ {as:List AV} {cs:List Value} {fp:List Nat} (n:Nat),a0a m w sz as cs fp → ∃ f g,fp = f ++ g ∧ a0a m w sz (as.take n) cs f
 | [],_,fp,n,h => ⟨[],fp,rfl,by simp [a0a]⟩
 | a :: as,cs,fp,0,h => ⟨[],fp,rfl,by simp [a0a]⟩
 | a :: as,cs,fp,n + 1,h => by
  simp only [a0a] at h
  obtain ⟨f1,f2,h0,h1,h2,rfl⟩:=h
  obtain ⟨f,g,e,h'⟩:=a0a.take n h2
  refine ⟨f1 ++ f,g,by rw [e]; simp,?_⟩
  simp only [List.take_succ_cons,a0a]
  exact ⟨f1,f,h0,h1,h',rfl⟩
theorem a0a.drop:∀ {as:List AV} {cs:List Value} {fp:List Nat} (n:Nat),a0a m w sz as cs fp → ∃ f g,fp = f ++ g ∧ a0a m w sz (as.drop n) (cs.drop (n * sz)) g
 | [],_,fp,n,h => by simp only [a0a] at h; subst h; exact ⟨[],[],rfl,by simp [a0a]⟩
 | a :: as,cs,fp,0,h => ⟨[],fp,rfl,by simpa using h⟩
 | a :: as,cs,fp,n + 1,h => by
  simp only [a0a] at h
  obtain ⟨f1,f2,h0,h1,h2,rfl⟩:=h
  obtain ⟨f,g,e,h'⟩:=a0a.drop n h2
  refine ⟨f1 ++ f,g,by rw [e]; simp,?_⟩
  rw [List.drop_drop] at h'
  have e:sz + n * sz = (n + 1) * sz:=by rw [Nat.add_mul]; omega
  rw [e] at h'
  simpa using h'
theorem a0b.get:∀ {as:List AV} {cs:List Value} {fp:List Nat} {i:Nat} {a:AV},a0b m w as cs fp → as[i]? = some a → ∃ c f,cs[i]? = some c ∧ Rep m w a [c] f ∧ ∀ b ∈ f,b ∈ fp
 | [],_,_,_,_,_,h => by simp at h
 | x :: as,cs,fp,0,a,h,hi => by
  simp only [a0b] at h
  obtain ⟨c,cs',f1,f2,rfl,hc,h1,h2,rfl⟩:=h
  simp at hi
  subst hi
  exact ⟨c,f1,rfl,h1,fun b hb => by simp [hb]⟩
 | x :: as,cs,fp,i + 1,a,h,hi => by
  simp only [a0b] at h
  obtain ⟨c,cs',f1,f2,rfl,hc,h1,h2,rfl⟩:=h
  obtain ⟨c',f,g1,g2,g3⟩:=a0b.get h2 (by simpa using hi)
  exact ⟨c',f,by simpa using g1,g2,fun b hb => by simp [g3 b hb]⟩
theorem a0b.length:∀ {as:List AV} {cs:List Value} {fp:List Nat},a0b m w as cs fp → cs.length = as.length
 | [],_,_,h => by simp only [a0b] at h; simp [h.1]
 | a :: as,cs,fp,h => by
  simp only [a0b] at h
  obtain ⟨c,cs',f1,f2,rfl,hc,h1,h2,rfl⟩:=h
  simp [a0b.length h2]
theorem a0b.take:∀ {as:List AV} {cs:List Value} {fp:List Nat} (n:Nat),a0b m w as cs fp → ∃ f g,fp = f ++ g ∧ a0b m w (as.take n) (cs.take n) f
 | [],_,fp,n,h => by simp only [a0b] at h; exact ⟨[],fp,rfl,by simp [a0b,h.1]⟩
 | a :: as,cs,fp,0,h => ⟨[],fp,rfl,by simp [a0b]⟩
 | a :: as,cs,fp,n + 1,h => by
  simp only [a0b] at h
  obtain ⟨c,cs',f1,f2,rfl,hc,h1,h2,rfl⟩:=h
  obtain ⟨f,g,e,h'⟩:=a0b.take n h2
  refine ⟨f1 ++ f,g,by rw [e]; simp,?_⟩
  simp only [List.take_succ_cons,a0b]
  exact ⟨c,_,f1,f,rfl,hc,h1,h',rfl⟩
theorem a0b.drop:∀ {as:List AV} {cs:List Value} {fp:List Nat} (n:Nat),a0b m w as cs fp → ∃ f g,fp = f ++ g ∧ a0b m w (as.drop n) (cs.drop n) g
 | [],_,fp,n,h => by simp only [a0b] at h; exact ⟨[],[],by simp [h.2],by simp [a0b,h.1]⟩
 | a :: as,cs,fp,0,h => ⟨[],fp,rfl,by simpa using h⟩
 | a :: as,cs,fp,n + 1,h => by
  simp only [a0b] at h
  obtain ⟨c,cs',f1,f2,rfl,hc,h1,h2,rfl⟩:=h
  obtain ⟨f,g,e,h'⟩:=a0b.drop n h2
  exact ⟨f1 ++ f,g,by rw [e]; simp,by simpa using h'⟩
theorem a0x.length:∀ {as:List AV} {vs:List Value} {fp:List Nat},a0x m w as vs fp → vs.length = as.length
 | [],_,_,h => by simp only [a0x] at h; simp [h.1]
 | a :: as,vs,fp,h => by
  simp only [a0x] at h
  obtain ⟨c,vs',f1,f2,rfl,h1,h2,rfl⟩:=h
  simp [a0x.length h2]
theorem Rep.oneCell:∀ {a:AV} {cs:List Value} {fp:List Nat},a.isCell = true → Rep m w a cs fp → ∀ u ∈ cs,u.oneCell' = true:=by
 intro a cs fp hc hr
 cases a with
 | int k n => simp only [Rep] at hr; intro u hu; rw [hr.1] at hu; simp at hu; subst hu; rfl
 | bool n => simp only [Rep] at hr; intro u hu; rw [hr.1] at hu; simp at hu; subst hu; rfl
 | str n => simp only [Rep] at hr; intro u hu; rw [hr.1] at hu; simp at hu; subst hu; rfl
 | nil => simp only [Rep] at hr; intro u hu; rw [hr.1] at hu; simp at hu; subst hu; rfl
 | lst z l =>
  simp only [Rep] at hr
  rcases hr with ⟨_,_,x,cap,h3,_⟩ | ⟨b,off,cap,cur,e,fz,fps,h1,_⟩
  ·intro u hu; rw [h3] at hu; simp at hu; subst hu; rfl
  ·intro u hu; rw [h1] at hu; simp at hu; subst hu; rfl
 | hdr v z l =>
  simp only [Rep] at hr
  obtain ⟨_,hr⟩:=hr
  rcases hr with ⟨_,_,x,cap,h3,_⟩ | ⟨b,off,cap,cur,e,fz,fps,h1,_⟩
  ·intro u hu; rw [h3] at hu; simp at hu; subst hu; rfl
  ·intro u hu; rw [h1] at hu; simp at hu; subst hu; rfl
 | fn f caps => simp only [Rep] at hr; obtain ⟨vs,h1,_⟩:=hr; intro u hu; rw [h1] at hu; simp at hu; subst hu; rfl
 | iptr e f => simp only [Rep] at hr; obtain ⟨b,off,sz,cur,el,fz,fps,h1,_⟩:=hr; intro u hu; rw [h1] at hu; simp at hu; subst hu; rfl
 | agg _ => simp [AV.isCell] at hc
 | tup _ => simp [AV.isCell] at hc
 | undef => simp only [Rep] at hr
 | skip => simp only [Rep] at hr
 | own _ _ _ => simp only [Rep] at hr
 | ptr _ _ _ => simp only [Rep] at hr
theorem a0b.oneCell:∀ {as:List AV} {cs:List Value} {fp:List Nat},a0b m w as cs fp → ∀ u ∈ cs,u.oneCell' = true
 | [],_,_,hr => by simp only [a0b] at hr; simp [hr.1]
 | a :: as,cs,fp,hr => by
  simp only [a0b] at hr
  obtain ⟨c,cs',f1,f2,rfl,hc,h1,h2,rfl⟩:=hr
  intro u hu
  rcases List.mem_cons.1 hu with rfl | hu
  ·exact Rep.oneCell hc h1 u (by simp)
  ·exact a0b.oneCell h2 u hu
theorem Rep.oneCellE {a:AV} {cs:List Value} {fp:List Nat} (he:a.isElem = true) (hr:Rep m w a cs fp):∀ u ∈ cs,u.oneCell' = true:=by
 by_cases hc:a.isCell = true
 ·exact Rep.oneCell hc hr
 ·cases a with
  | agg as => simp only [Rep] at hr; exact a0b.oneCell hr
  | tup as => simp [AV.isElem] at he
  | _ => simp [AV.isCell] at hc
theorem a0a.oneCell:∀ {as:List AV} {cs:List Value} {fp:List Nat},a0a m w sz as cs fp → ∀ u ∈ cs.take (as.length * sz),u.oneCell' = true
 | [],_,_,_ => by simp
 | a :: as,cs,fp,hr => by
  simp only [a0a] at hr
  obtain ⟨f1,f2,⟨h0,hel⟩,h1,h2,rfl⟩:=hr
  intro u hu
  have e:(a :: as).length * sz = sz + as.length * sz:=by simp [Nat.add_mul]; omega
  rw [e,List.take_add] at hu
  rcases List.mem_append.1 hu with hu | hu
  ·exact Rep.oneCellE hel h1 u hu
  ·exact a0a.oneCell h2 u hu
end rows
end Go.R
end
section
set_option linter.all false
namespace Go.R
open Go
inductive l7 where
 | dead
 | box (sz:Nat) (v:AV)
 | row (sz:Nat) (l:List AV)
 | rowx (sz:Nat) (l:List AV) (i:Nat) (el:AV)
 | map (m:List (List UInt8 × AV))
def d6p (m:List (List UInt8 × AV)) (es:Array MapEntry):Prop:=es.toList.map (·.key) = m.map fun p => .string ⟨p.1.toArray⟩
def l7.rw:l7 → Bool
 | .row _ _ => true
 | .rowx _ _ _ _ => true
 | _ => false
structure Ctx where
 base:Nat
 ok:Nat → Prop
 dm:Bool
 fr:Nat → Prop
 mm:Bool:=false
 fz:Bool:=false
def Ctx.mine (C:Ctx) (b:Nat):Prop:=C.base ≤ b ∧ ¬ C.fr b
structure Md where
 d:Bool
 m:Bool
 z:Bool
instance:Coe Bool Md:=⟨fun b => ⟨b,false,false⟩⟩
def Md.nz (d:Md):Md:=⟨d.d,d.m,false⟩
def Ctx.md (C:Ctx):Md:=⟨C.dm,C.mm,C.fz⟩
def Ctx.frz (C:Ctx) (F:Nat → Prop):Ctx:={ C with fr:=F }
def Ctx.imm (C:Ctx) (b:Nat):Prop:=C.ok b ∧ (C.mm = true → ¬ C.mine b)
abbrev Sg:=Nat → Option (Nat × Nat)
def l7.isLive:l7 → Bool
 | .dead => false
 | _ => true
def liveAt (h:List l7) (σ:Sg) (b:Nat):Prop:=∃ o x c,h[o]? = some x ∧ x.isLive = true ∧ σ o = some (b,c)
def b9i (σ:Sg) (o lo n:Nat) (sz len:Nat) (v:Value):Prop :=
 ∃ a cap,v = .slice a n cap ∧ lo + n ≤ len ∧ n ≤ cap ∧ cap ≤ maxLen ∧
  match σ o with
  | none => a = none ∧ cap = 0
  | some (g,c) => (n = 0 ∨ a = some ⟨g,lo * sz,none⟩) ∧ (lo = 0 → a = some ⟨g,0,none⟩ ∧ cap = c)
mutual
def RV (C:Ctx) (σ:Sg) (h:List l7) (w:World):AV → Value → Prop
 | .undef,_ => True
 | .skip,v => v = Go.undef
 | .hdr u _ _,v => v = u
 | .int k n,v => v = .int k n
 | .bool b,v => v = .bool b
 | .str s,v => v = .string ⟨s.toArray⟩ ∧ s.length ≤ maxLen
 | .nil,v => v = .slice none 0 0
 | .lst z l,v => ∃ fp,b6h false w (.lst z l) v fp ∧ ∀ b ∈ fp,C.imm b ∧ ¬ liveAt h σ b
 | .iptr e f,v => ∃ fp,b6h false w (.iptr e f) v fp ∧ ∀ b ∈ fp,C.imm b ∧ ¬ liveAt h σ b
 | .own o lo n,v =>
  match h[o]? with
  | some (.row sz l) => b9i σ o lo n sz l.length v
  | some (.rowx sz l _ _) => b9i σ o lo n sz l.length v
  | some .dead => True
  | _ => False
 | .ptr o i f,v =>
  match h[o]? with
  | some (.row sz l) => i < l.length ∧ ∃ g c,σ o = some (g,c) ∧ v = .pointer (some ⟨g,i * sz + f,none⟩)
  | some (.rowx sz l _ _) => i < l.length ∧ ∃ g c,σ o = some (g,c) ∧ v = .pointer (some ⟨g,i * sz + f,none⟩)
  | some (.box _ _) => i = 0 ∧ ∃ g c,σ o = some (g,c) ∧ v = .pointer (some ⟨g,f,none⟩)
  | some (.map _) => ∃ g c,σ o = some (g,c) ∧ v = .map (some g)
  | some .dead => True
  | none => False
 | .agg as,v => ∃ vs,v = .agg vs ∧ RVs C σ h w as vs.toList
 | .tup as,v => ∃ vs,v = .tuple vs ∧ RVs C σ h w as vs.toList
 | .fn f caps,v => ∃ vs,v = .func (.func f) #[] vs ∧ RVs C σ h w caps vs.toList
def RVs (C:Ctx) (σ:Sg) (h:List l7) (w:World):List AV → List Value → Prop
 | [],vs => vs = []
 | a :: as,vs => ∃ v vs',vs = v :: vs' ∧ RV C σ h w a v ∧ RVs C σ h w as vs'
end
def sameShape:l7 → l7 → Prop
 | .box sz _,.box sz' _ => sz = sz'
 | .row sz l,.row sz' l' => sz = sz' ∧ l.length = l'.length
 | .row sz l,.rowx sz' l' _ _ => sz = sz' ∧ l.length = l'.length
 | .rowx sz l _ _,.row sz' l' => sz = sz' ∧ l.length = l'.length
 | .rowx sz l _ _,.rowx sz' l' _ _ => sz = sz' ∧ l.length = l'.length
 | .map _,.map _ => True
 | _,_ => False
structure Ev (σ:Sg) (h:List l7) (w:World) (σ':Sg) (h':List l7) (w':World):Prop where
 obj:∀ (o:Nat) x,h[o]? = some x → x.isLive = true → h'[o]? = some l7.dead ∨ (σ' o = σ o ∧ ∃ x',h'[o]? = some x' ∧ sameShape x x')
 gone:∀ o:Nat,h[o]? = some l7.dead → h'[o]? = some l7.dead
 live:∀ b,b < w.heap.size → liveAt h' σ' b → liveAt h σ b
 blk:∀ b,b < w.heap.size → ¬ liveAt h σ b → w'.heap[b]? = w.heap[b]?
 size:w.heap.size ≤ w'.heap.size
theorem sameShape.refl {x:l7} (h:x.isLive = true):sameShape x x:=by cases x <;> simp_all [sameShape,l7.isLive]
theorem sameShape.live {x y:l7} (h:sameShape x y):y.isLive = true:=by cases x <;> cases y <;> simp_all [sameShape,l7.isLive]
theorem sameShape.trans {x y z:l7} (h:sameShape x y) (h':sameShape y z):sameShape x z:=by
 cases x <;> cases y <;> cases z <;> simp_all [sameShape]
theorem Ev.refl (σ:Sg) (h:List l7) (w:World):Ev σ h w σ h w :=
 ⟨fun _ x ho hx => .inr ⟨rfl,x,ho,sameShape.refl hx⟩,fun _ h => h,fun _ _ h => h,fun _ _ _ => rfl,Nat.le_refl _⟩
theorem Ev.trans {σ σ' σ'':Sg} {h h' h'':List l7} {w w' w'':World} (a:Ev σ h w σ' h' w') (b:Ev σ' h' w' σ'' h'' w''):Ev σ h w σ'' h'' w'' where
 obj o x ho hx:=by
  rcases a.obj o x ho hx with hd | ⟨e,x',hx',hs⟩
  ·exact .inl (b.gone o hd)
  ·rcases b.obj o x' hx' hs.live with hd | ⟨e',x'',hx'',hs'⟩
   ·exact .inl hd
   ·exact .inr ⟨e'.trans e,x'',hx'',hs.trans hs'⟩
 gone o ho:=b.gone o (a.gone o ho)
 live c hc hl:=a.live c hc (b.live c (Nat.lt_of_lt_of_le hc a.size) hl)
 blk c hc hl:=(b.blk c (Nat.lt_of_lt_of_le hc a.size) (fun hl' => hl (a.live c hc hl'))).trans (a.blk c hc hl)
 size:=Nat.le_trans a.size b.size
section mono
variable {C:Ctx} {σ σ':Sg} {h h':List l7} {w w':World}
theorem Ev.imm {K:Nat → Prop} (ev:Ev σ h w σ' h' w') {m:Bool} {a:AV} {cs:List Value} {fp:List Nat} (hr:Rep m w a cs fp) (hf:∀ b ∈ fp,K b ∧ ¬ liveAt h σ b) :
  Rep m w' a cs fp ∧ ∀ b ∈ fp,K b ∧ ¬ liveAt h' σ' b:=by
 have hlt:=Rep.lt a cs fp hr
 exact ⟨Rep.world a cs fp (fun b hb => ev.blk b (hlt b hb) (hf b hb).2) hr,fun b hb => ⟨(hf b hb).1,fun hl => (hf b hb).2 (ev.live b (hlt b hb) hl)⟩⟩
theorem Ev.immS {K:Nat → Prop} (ev:Ev σ h w σ' h' w') {m:Bool} {sz:Nat} {a:List AV} {cs:List Value} {fp:List Nat} (hr:a0a m w sz a cs fp) (hf:∀ b ∈ fp,K b ∧ ¬ liveAt h σ b) :
  a0a m w' sz a cs fp ∧ ∀ b ∈ fp,K b ∧ ¬ liveAt h' σ' b:=by
 have hlt:=a0a.lt a cs fp hr
 exact ⟨a0a.world a cs fp (fun b hb => ev.blk b (hlt b hb) (hf b hb).2) hr,fun b hb => ⟨(hf b hb).1,fun hl => (hf b hb).2 (ev.live b (hlt b hb) hl)⟩⟩
mutual
theorem Ev.rv (ev:Ev σ h w σ' h' w'):∀ (a:AV) (v:Value),RV C σ h w a v → RV C σ' h' w' a v
 | .undef,_,_ => by simp only [RV]
 | .skip,_,hr => by simpa only [RV] using hr
 | .hdr _ _ _,_,hr => by simpa only [RV] using hr
 | .int _ _,_,hr => by simpa only [RV] using hr
 | .bool _,_,hr => by simpa only [RV] using hr
 | .str _,_,hr => by simpa only [RV] using hr
 | .nil,_,hr => by simpa only [RV] using hr
 | .lst z l,v,hr => by
  simp only [RV] at hr ⊢
  obtain ⟨fp,⟨cs,e,h1⟩,h2⟩:=hr
  obtain ⟨g1,g2⟩:=ev.imm h1 h2
  exact ⟨fp,⟨cs,e,g1⟩,g2⟩
 | .iptr l f,v,hr => by
  simp only [RV] at hr ⊢
  obtain ⟨fp,⟨cs,e,h1⟩,h2⟩:=hr
  obtain ⟨g1,g2⟩:=ev.imm h1 h2
  exact ⟨fp,⟨cs,e,g1⟩,g2⟩
 | .own o lo n,v,hr => by
  simp only [RV] at hr ⊢
  cases ho:h[o]? with
  | none => simp [ho] at hr
  | some x =>
   cases x with
   | dead => simp [ev.gone o ho]
   | map _ => simp [ho] at hr
   | box sz y => simp [ho] at hr
   | row sz l =>
    simp only [ho] at hr
    rcases ev.obj o _ ho rfl with hd | ⟨e,x',hx',hs⟩
    ·simp [hd]
    ·cases x' with
     | dead => simp [sameShape] at hs
     | map _ => simp [sameShape] at hs
     | box _ _ => simp [sameShape] at hs
     | row sz' l' =>
      simp only [sameShape] at hs
      simp only [hx',← hs.1,← hs.2]
      unfold b9i at *
      rw [e]; exact hr
     | rowx sz' l' i' el' =>
      simp only [sameShape] at hs
      simp only [hx',← hs.1,← hs.2]
      unfold b9i at *
      rw [e]; exact hr
   | rowx sz l j el =>
    simp only [ho] at hr
    rcases ev.obj o _ ho rfl with hd | ⟨e,x',hx',hs⟩
    ·simp [hd]
    ·cases x' with
     | dead => simp [sameShape] at hs
     | map _ => simp [sameShape] at hs
     | box _ _ => simp [sameShape] at hs
     | row sz' l' =>
      simp only [sameShape] at hs
      simp only [hx',← hs.1,← hs.2]
      unfold b9i at *
      rw [e]; exact hr
     | rowx sz' l' i' el' =>
      simp only [sameShape] at hs
      simp only [hx',← hs.1,← hs.2]
      unfold b9i at *
      rw [e]; exact hr
 | .ptr o i f,v,hr => by
  simp only [RV] at hr ⊢
  cases ho:h[o]? with
  | none => simp [ho] at hr
  | some x =>
   cases x with
   | dead => simp [ev.gone o ho]
   | map _ =>
    simp only [ho] at hr
    rcases ev.obj o _ ho rfl with hd | ⟨e,x',hx',hs⟩
    ·simp [hd]
    ·cases x' with
     | map _ => simp only [hx']; rw [e]; exact hr
     | _ => simp [sameShape] at hs
   | box sz y =>
    simp only [ho] at hr
    rcases ev.obj o _ ho rfl with hd | ⟨e,x',hx',hs⟩
    ·simp [hd]
    ·cases x' with
     | dead => simp [sameShape] at hs
     | map _ => simp [sameShape] at hs
     | row _ _ => simp [sameShape] at hs
     | rowx _ _ _ _ => simp [sameShape] at hs
     | box sz' y' => simp only [hx']; rw [e]; exact hr
   | row sz l =>
    simp only [ho] at hr
    rcases ev.obj o _ ho rfl with hd | ⟨e,x',hx',hs⟩
    ·simp [hd]
    ·cases x' with
     | dead => simp [sameShape] at hs
     | map _ => simp [sameShape] at hs
     | box _ _ => simp [sameShape] at hs
     | row sz' l' =>
      simp only [sameShape] at hs
      simp only [hx',← hs.1,← hs.2]
      rw [e]; exact hr
     | rowx sz' l' i' el' =>
      simp only [sameShape] at hs
      simp only [hx',← hs.1,← hs.2]
      rw [e]; exact hr
   | rowx sz l j el =>
    simp only [ho] at hr
    rcases ev.obj o _ ho rfl with hd | ⟨e,x',hx',hs⟩
    ·simp [hd]
    ·cases x' with
     | dead => simp [sameShape] at hs
     | map _ => simp [sameShape] at hs
     | box _ _ => simp [sameShape] at hs
     | row sz' l' =>
      simp only [sameShape] at hs
      simp only [hx',← hs.1,← hs.2]
      rw [e]; exact hr
     | rowx sz' l' i' el' =>
      simp only [sameShape] at hs
      simp only [hx',← hs.1,← hs.2]
      rw [e]; exact hr
 | .agg as,v,hr => by
  simp only [RV] at hr ⊢
  obtain ⟨vs,e,h1⟩:=hr
  exact ⟨vs,e,Ev.rvs ev as _ h1⟩
 | .tup as,v,hr => by
  simp only [RV] at hr ⊢
  obtain ⟨vs,e,h1⟩:=hr
  exact ⟨vs,e,Ev.rvs ev as _ h1⟩
 | .fn f caps,v,hr => by
  simp only [RV] at hr ⊢
  obtain ⟨vs,e,h1⟩:=hr
  exact ⟨vs,e,Ev.rvs ev caps _ h1⟩
theorem Ev.rvs (ev:Ev σ h w σ' h' w'):∀ (as:List AV) (vs:List Value),RVs C σ h w as vs → RVs C σ' h' w' as vs
 | [],_,hr => by simpa only [RVs] using hr
 | a :: as,vs,hr => by
  simp only [RVs] at hr ⊢
  obtain ⟨v,vs',e,h1,h2⟩:=hr
  exact ⟨v,vs',e,Ev.rv ev a v h1,Ev.rvs ev as vs' h2⟩
end
structure EvX (C:Ctx) (σ:Sg) (h:List l7) (w:World) (σ':Sg) (h':List l7) (w':World):Prop where
 obj:∀ (o:Nat) x,h[o]? = some x → x.isLive = true → h'[o]? = some l7.dead ∨ (σ' o = σ o ∧ ∃ x',h'[o]? = some x' ∧ sameShape x x')
 gone:∀ o:Nat,h[o]? = some l7.dead → h'[o]? = some l7.dead
 live:∀ b,b < w.heap.size → liveAt h' σ' b → liveAt h σ b ∨ (C.mm = true ∧ C.mine b)
 blk:∀ b,b < w.heap.size → ¬ liveAt h σ b → (C.mm = true → ¬ C.mine b) → w'.heap[b]? = w.heap[b]?
 size:w.heap.size ≤ w'.heap.size
theorem Ev.x (ev:Ev σ h w σ' h' w'):EvX C σ h w σ' h' w':=⟨ev.obj,ev.gone,fun b hb hl => .inl (ev.live b hb hl),fun b hb hl _ => ev.blk b hb hl,ev.size⟩
theorem EvX.ev (ev:EvX C σ h w σ' h' w') (hm:C.mm = false):Ev σ h w σ' h' w':=⟨ev.obj,ev.gone,fun b hb hl => (ev.live b hb hl).resolve_right (fun h => by rw [hm] at h; cases h.1),fun b hb hl => ev.blk b hb hl (fun h => by rw [hm] at h; cases h),ev.size⟩
theorem EvX.refl (σ:Sg) (h:List l7) (w:World):EvX C σ h w σ h w:=(Ev.refl σ h w).x
theorem EvX.trans {σ'':Sg} {h'':List l7} {w'':World} (a:EvX C σ h w σ' h' w') (b:EvX C σ' h' w' σ'' h'' w''):EvX C σ h w σ'' h'' w'' where
 obj o x ho hx:=by
  rcases a.obj o x ho hx with hd | ⟨e,x',hx',hs⟩
  ·exact .inl (b.gone o hd)
  ·rcases b.obj o x' hx' hs.live with hd | ⟨e',x'',hx'',hs'⟩
   ·exact .inl hd
   ·exact .inr ⟨e'.trans e,x'',hx'',hs.trans hs'⟩
 gone o ho:=b.gone o (a.gone o ho)
 live c hc hl:=(b.live c (Nat.lt_of_lt_of_le hc a.size) hl).elim (a.live c hc) .inr
 blk c hc hl hm:=(b.blk c (Nat.lt_of_lt_of_le hc a.size) (fun hl' => (a.live c hc hl').elim hl (fun h => hm h.1 h.2)) hm).trans (a.blk c hc hl hm)
 size:=Nat.le_trans a.size b.size
theorem EvX.imm (ev:EvX C σ h w σ' h' w') {m:Bool} {a:AV} {cs:List Value} {fp:List Nat} (hr:Rep m w a cs fp) (hf:∀ b ∈ fp,C.imm b ∧ ¬ liveAt h σ b) :
  Rep m w' a cs fp ∧ ∀ b ∈ fp,C.imm b ∧ ¬ liveAt h' σ' b:=by
 have hlt:=Rep.lt a cs fp hr
 exact ⟨Rep.world a cs fp (fun b hb => ev.blk b (hlt b hb) (hf b hb).2 (hf b hb).1.2) hr,fun b hb => ⟨(hf b hb).1,fun hl => (ev.live b (hlt b hb) hl).elim (hf b hb).2 (fun h => (hf b hb).1.2 h.1 h.2)⟩⟩
mutual
theorem EvX.rv (ev:EvX C σ h w σ' h' w'):∀ (a:AV) (v:Value),RV C σ h w a v → RV C σ' h' w' a v
 | .undef,_,_ => by simp only [RV]
 | .skip,_,hr => by simpa only [RV] using hr
 | .hdr _ _ _,_,hr => by simpa only [RV] using hr
 | .int _ _,_,hr => by simpa only [RV] using hr
 | .bool _,_,hr => by simpa only [RV] using hr
 | .str _,_,hr => by simpa only [RV] using hr
 | .nil,_,hr => by simpa only [RV] using hr
 | .lst z l,v,hr => by
  simp only [RV] at hr ⊢
  obtain ⟨fp,⟨cs,e,h1⟩,h2⟩:=hr
  obtain ⟨g1,g2⟩:=ev.imm h1 h2
  exact ⟨fp,⟨cs,e,g1⟩,g2⟩
 | .iptr l f,v,hr => by
  simp only [RV] at hr ⊢
  obtain ⟨fp,⟨cs,e,h1⟩,h2⟩:=hr
  obtain ⟨g1,g2⟩:=ev.imm h1 h2
  exact ⟨fp,⟨cs,e,g1⟩,g2⟩
 | .own o lo n,v,hr => by
  simp only [RV] at hr ⊢
  cases ho:h[o]? with
  | none => simp [ho] at hr
  | some x =>
   cases x with
   | dead => simp [ev.gone o ho]
   | map _ => simp [ho] at hr
   | box sz y => simp [ho] at hr
   | row sz l =>
    simp only [ho] at hr
    rcases ev.obj o _ ho rfl with hd | ⟨e,x',hx',hs⟩
    ·simp [hd]
    ·cases x' with
     | dead => simp [sameShape] at hs
     | map _ => simp [sameShape] at hs
     | box _ _ => simp [sameShape] at hs
     | row sz' l' =>
      simp only [sameShape] at hs
      simp only [hx',← hs.1,← hs.2]
      unfold b9i at *
      rw [e]; exact hr
     | rowx sz' l' i' el' =>
      simp only [sameShape] at hs
      simp only [hx',← hs.1,← hs.2]
      unfold b9i at *
      rw [e]; exact hr
   | rowx sz l j el =>
    simp only [ho] at hr
    rcases ev.obj o _ ho rfl with hd | ⟨e,x',hx',hs⟩
    ·simp [hd]
    ·cases x' with
     | dead => simp [sameShape] at hs
     | map _ => simp [sameShape] at hs
     | box _ _ => simp [sameShape] at hs
     | row sz' l' =>
      simp only [sameShape] at hs
      simp only [hx',← hs.1,← hs.2]
      unfold b9i at *
      rw [e]; exact hr
     | rowx sz' l' i' el' =>
      simp only [sameShape] at hs
      simp only [hx',← hs.1,← hs.2]
      unfold b9i at *
      rw [e]; exact hr
 | .ptr o i f,v,hr => by
  simp only [RV] at hr ⊢
  cases ho:h[o]? with
  | none => simp [ho] at hr
  | some x =>
   cases x with
   | dead => simp [ev.gone o ho]
   | map _ =>
    simp only [ho] at hr
    rcases ev.obj o _ ho rfl with hd | ⟨e,x',hx',hs⟩
    ·simp [hd]
    ·cases x' with
     | map _ => simp only [hx']; rw [e]; exact hr
     | _ => simp [sameShape] at hs
   | box sz y =>
    simp only [ho] at hr
    rcases ev.obj o _ ho rfl with hd | ⟨e,x',hx',hs⟩
    ·simp [hd]
    ·cases x' with
     | dead => simp [sameShape] at hs
     | map _ => simp [sameShape] at hs
     | row _ _ => simp [sameShape] at hs
     | rowx _ _ _ _ => simp [sameShape] at hs
     | box sz' y' => simp only [hx']; rw [e]; exact hr
   | row sz l =>
    simp only [ho] at hr
    rcases ev.obj o _ ho rfl with hd | ⟨e,x',hx',hs⟩
    ·simp [hd]
    ·cases x' with
     | dead => simp [sameShape] at hs
     | map _ => simp [sameShape] at hs
     | box _ _ => simp [sameShape] at hs
     | row sz' l' =>
      simp only [sameShape] at hs
      simp only [hx',← hs.1,← hs.2]
      rw [e]; exact hr
     | rowx sz' l' i' el' =>
      simp only [sameShape] at hs
      simp only [hx',← hs.1,← hs.2]
      rw [e]; exact hr
   | rowx sz l j el =>
    simp only [ho] at hr
    rcases ev.obj o _ ho rfl with hd | ⟨e,x',hx',hs⟩
    ·simp [hd]
    ·cases x' with
     | dead => simp [sameShape] at hs
     | map _ => simp [sameShape] at hs
     | box _ _ => simp [sameShape] at hs
     | row sz' l' =>
      simp only [sameShape] at hs
      simp only [hx',← hs.1,← hs.2]
      rw [e]; exact hr
     | rowx sz' l' i' el' =>
      simp only [sameShape] at hs
      simp only [hx',← hs.1,← hs.2]
      rw [e]; exact hr
 | .agg as,v,hr => by
  simp only [RV] at hr ⊢
  obtain ⟨vs,e,h1⟩:=hr
  exact ⟨vs,e,EvX.rvs ev as _ h1⟩
 | .tup as,v,hr => by
  simp only [RV] at hr ⊢
  obtain ⟨vs,e,h1⟩:=hr
  exact ⟨vs,e,EvX.rvs ev as _ h1⟩
 | .fn f caps,v,hr => by
  simp only [RV] at hr ⊢
  obtain ⟨vs,e,h1⟩:=hr
  exact ⟨vs,e,EvX.rvs ev caps _ h1⟩
theorem EvX.rvs (ev:EvX C σ h w σ' h' w'):∀ (as:List AV) (vs:List Value),RVs C σ h w as vs → RVs C σ' h' w' as vs
 | [],_,hr => by simpa only [RVs] using hr
 | a :: as,vs,hr => by
  simp only [RVs] at hr ⊢
  obtain ⟨v,vs',e,h1,h2⟩:=hr
  exact ⟨v,vs',e,EvX.rv ev a v h1,EvX.rvs ev as vs' h2⟩
end
end mono
def AV.cells:AV → List AV
 | .agg cs => cs
 | v => [v]
def b5a (C:Ctx) (σ:Sg) (φ:Nat → List Nat) (h:List l7) (w:World) (o:Nat):l7 → Prop
 | .dead => True
 | .box sz v => ∃ g cur e,σ o = some (g,1) ∧ w.heap[g]? = some (.cells cur e (0,0)) ∧ cur.size = sz ∧ RVs C σ h w v.cells cur.toList
 | .map m => ∃ g es clock,σ o = some (g,1) ∧ w.heap[g]? = some (.map es clock) ∧ d6p m es ∧ RVs C σ h w (m.map Prod.snd) (es.toList.map (·.val))
 | .row sz l => 0 < sz ∧
  match σ o with
  | none => l = [] ∧ φ o = []
  | some (g,c) => c ≤ maxLen ∧ ∃ cur e,w.heap[g]? = some (.cells cur e (0,0)) ∧ cur.size = c * sz ∧ a0a C.dm w sz l cur.toList (φ o) ∧ ∀ b ∈ φ o,C.ok b ∧ ¬ liveAt h σ b
 | .rowx sz l i el => 0 < sz ∧ (C.mm = true ∧ C.dm = true) ∧ i < l.length ∧ ∃ g c cur e f1 f2,σ o = some (g,c) ∧ c ≤ maxLen ∧ w.heap[g]? = some (.cells cur e (0,0)) ∧ cur.size = c * sz ∧
   a0a C.dm w sz (l.take i) cur.toList f1 ∧ RVs C σ h w el.cells ((cur.toList.drop (i * sz)).take sz) ∧ a0a C.dm w sz (l.drop (i + 1)) (cur.toList.drop ((i + 1) * sz)) f2 ∧ el.cells.length = sz ∧ φ o = f1 ++ f2 ∧
   ∀ b ∈ φ o,C.ok b ∧ ¬ liveAt h σ b
structure o9 (C:Ctx) (σ:Sg) (φ:Nat → List Nat) (h:List l7) (w:World):Prop where
 obj:∀ o x,h[o]? = some x → b5a C σ φ h w o x
 inj:∀ o o' x x' b c c',h[o]? = some x → x.isLive = true → h[o']? = some x' → x'.isLive = true → σ o = some (b,c) → σ o' = some (b,c') → o = o'
 base:∀ o x b c,h[o]? = some x → x.isLive = true → σ o = some (b,c) → C.mine b
 deepx:C.dm = true → ∀ o x,h[o]? = some x → x.rw = true → (φ o).Nodup ∧ (∀ b ∈ φ o,C.mine b) ∧ ∀ o' x',h[o']? = some x' → x'.rw = true → o' ≠ o → ∀ b ∈ φ o,b ∉ φ o'
theorem o9.deep {C:Ctx} {σ:Sg} {φ:Nat → List Nat} {h:List l7} {w:World} (hr:o9 C σ φ h w) (hdm:C.dm = true) (o sz:Nat) (l:List AV) (ho:h[o]? = some (.row sz l)) :
  (φ o).Nodup ∧ (∀ b ∈ φ o,C.mine b) ∧ ∀ o' x',h[o']? = some x' → x'.rw = true → o' ≠ o → ∀ b ∈ φ o,b ∉ φ o':=hr.deepx hdm o _ ho rfl
theorem l7.rw_live {x:l7} (h:x.rw = true):x.isLive = true:=by cases x <;> simp_all [l7.rw,l7.isLive]
theorem sameShape.rw {x y:l7} (h:sameShape x y):y.rw = x.rw:=by cases x <;> cases y <;> simp_all [sameShape,l7.rw]
theorem b5a.rowx_ev {C:Ctx} {σ σ':Sg} {φ φ':Nat → List Nat} {h h':List l7} {w w':World} {o sz i:Nat} {l:List AV} {el:AV} (ev:Ev σ h w σ' h' w') (hs:σ' o = σ o) (hp:φ' o = φ o)
  (hblk:∀ g c,σ o = some (g,c) → w'.heap[g]? = w.heap[g]?) (hob:b5a C σ φ h w o (.rowx sz l i el)):b5a C σ' φ' h' w' o (.rowx sz l i el):=by
 obtain ⟨h0,hm,hi,g,c,cur,e,f1,f2,k1,k2,k3,k4,k5,k6,k7,k7',k8,k9⟩:=hob
 have s1:∀ b ∈ f1,C.ok b ∧ ¬ liveAt h σ b:=fun b hb => k9 b (by rw [k8]; simp [hb])
 have s2:∀ b ∈ f2,C.ok b ∧ ¬ liveAt h σ b:=fun b hb => k9 b (by rw [k8]; simp [hb])
 obtain ⟨a1,a2⟩:=ev.immS k5 s1
 obtain ⟨b1,b2⟩:=ev.immS k7 s2
 refine ⟨h0,hm,hi,g,c,cur,e,f1,f2,by rw [hs]; exact k1,k2,by rw [hblk g c k1]; exact k3,k4,a1,ev.rvs _ _ k6,b1,k7',by rw [hp]; exact k8,?_⟩
 intro b hb
 rw [hp,k8] at hb
 rcases List.mem_append.1 hb with hb | hb
 ·exact a2 b hb
 ·exact b2 b hb
theorem o9.lt {C:Ctx} {σ:Sg} {φ:Nat → List Nat} {h:List l7} {w:World} (hr:o9 C σ φ h w) {o:Nat} {x:l7} {b c:Nat} (ho:h[o]? = some x) (hx:x.isLive = true) (hs:σ o = some (b,c)):b < w.heap.size:=by
 have:=hr.obj o x ho
 cases x with
 | dead => simp [l7.isLive] at hx
 | box sz v =>
  obtain ⟨g,cur,e,h1,h2,_⟩:=this
  rw [hs] at h1
  cases h1
  exact lt_of_heap h2
 | map m =>
  obtain ⟨g,es,ck,h1,h2,_⟩:=this
  rw [hs] at h1
  cases h1
  exact lt_of_heap h2
 | row sz l =>
  obtain ⟨_,this⟩:=this
  rw [hs] at this
  obtain ⟨_,cur,e,h2,_⟩:=this
  exact lt_of_heap h2
 | rowx sz l i el =>
  obtain ⟨_,_,_,g,c',cur,e,f1,f2,k1,_,k3,_⟩:=this
  rw [hs] at k1
  cases k1
  exact lt_of_heap k3
theorem o9.liveLt {C:Ctx} {σ:Sg} {φ:Nat → List Nat} {h:List l7} {w:World} (hr:o9 C σ φ h w) {b:Nat} (hl:liveAt h σ b):b < w.heap.size:=by
 obtain ⟨o,x,c,h1,h2,h3⟩:=hl
 exact hr.lt h1 h2 h3
structure b5q (w w':World):Prop where
 size:w.heap.size ≤ w'.heap.size
 blk:∀ b,b < w.heap.size → w'.heap[b]? = w.heap[b]?
theorem b5q.refl (w:World):b5q w w:=⟨Nat.le_refl _,fun _ _ => rfl⟩
theorem b5q.trans {a b c:World} (h:b5q a b) (k:b5q b c):b5q a c:=⟨Nat.le_trans h.size k.size,fun i hi => (k.blk i (Nat.lt_of_lt_of_le hi h.size)).trans (h.blk i hi)⟩
theorem b5q.drew (w:World):b5q w w.drew:=⟨Nat.le_refl _,fun _ _ => rfl⟩
theorem b5q.ev {σ:Sg} {h:List l7} {w w':World} (g:b5q w w'):Ev σ h w σ h w' :=
 ⟨fun _ x ho hx => .inr ⟨rfl,x,ho,sameShape.refl hx⟩,fun _ h => h,fun _ _ h => h,fun b hb _ => g.blk b hb,g.size⟩
theorem b5q.heap {C:Ctx} {σ:Sg} {φ:Nat → List Nat} {h:List l7} {w w':World} (g:b5q w w') (hr:o9 C σ φ h w):o9 C σ φ h w' where
 obj o x ho:=by
  have:=hr.obj o x ho
  cases x with
  | dead => trivial
  | box sz v =>
   obtain ⟨b,cur,e,h1,h2,h3,h4⟩:=this
   exact ⟨b,cur,e,h1,(g.blk b (lt_of_heap h2)).trans h2,h3,g.ev.rvs _ _ h4⟩
  | map m =>
   obtain ⟨b,cur,e,h1,h2,h3,h4⟩:=this
   exact ⟨b,cur,e,h1,(g.blk b (lt_of_heap h2)).trans h2,h3,g.ev.rvs _ _ h4⟩
  | row sz l =>
   obtain ⟨h0,this⟩:=this
   refine ⟨h0,?_⟩
   cases hs:σ o with
   | none => rw [hs] at this; exact this
   | some p =>
    obtain ⟨b,c⟩:=p
    rw [hs] at this
    obtain ⟨h1,cur,e,h2,h3,h4,h5⟩:=this
    obtain ⟨g1,g2⟩:=(g.ev (σ:=σ) (h:=h)).immS h4 h5
    exact ⟨h1,cur,e,(g.blk b (lt_of_heap h2)).trans h2,h3,g1,g2⟩
  | rowx sz l i el => exact b5a.rowx_ev g.ev rfl rfl (fun b c hs => g.blk b (hr.lt ho rfl hs)) this
 inj:=hr.inj
 base:=hr.base
 deepx:=hr.deepx
structure FrX (C:Ctx) (w:World) (F:Nat → Prop):Prop where
 le:∀ b,C.fr b → F b
 new:∀ b,w.heap.size ≤ b → F b → C.fr b
 off:C.fz = false → ∀ b,F b → C.fr b
theorem FrX.refl (C:Ctx) (w:World):FrX C w C.fr:=⟨fun _ h => h,fun _ _ h => h,fun _ _ h => h⟩
theorem FrX.trans {C:Ctx} {w w':World} {F F2:Nat → Prop} (h:FrX C w F) (k:FrX (C.frz F) w' F2) (hs:w.heap.size ≤ w'.heap.size):FrX C w' F2 :=
 ⟨fun b hb => k.le b (h.le b hb),fun b hb h2 => h.new b (Nat.le_trans hs hb) (k.new b hb h2),fun hz b h2 => h.off hz b (k.off hz b h2)⟩
theorem FrX.grow {C:Ctx} {w w':World} {F:Nat → Prop} (h:FrX C w F) (hs:w.heap.size ≤ w'.heap.size):FrX C w' F:=⟨h.le,fun b hb => h.new b (Nat.le_trans hs hb),h.off⟩
theorem FrX.mine {C:Ctx} {w:World} {F:Nat → Prop} (h:FrX C w F) {b:Nat} (hb:(C.frz F).mine b):C.mine b:=⟨hb.1,fun hf => hb.2 (h.le b hf)⟩
theorem FrX.hok {C:Ctx} {w:World} {F:Nat → Prop} (h:FrX C w F) (hok:∀ b,C.mine b → C.ok b):∀ b,(C.frz F).mine b → (C.frz F).ok b:=fun b hb => hok b (h.mine hb)
theorem FrX.hb {C:Ctx} {w:World} {F:Nat → Prop} (h:FrX C w F) (hb:∀ b,w.heap.size ≤ b → C.mine b):∀ b,w.heap.size ≤ b → (C.frz F).mine b:=fun b hw => ⟨(hb b hw).1,fun hf => (hb b hw).2 (h.new b hw hf)⟩
theorem FrX.ev {C:Ctx} {w w1 w2:World} {F:Nat → Prop} (h:FrX C w F) {σ σ':Sg} {h1 h2:List l7} (ev:EvX (C.frz F) σ h1 w1 σ' h2 w2):EvX C σ h1 w1 σ' h2 w2 :=
 ⟨ev.obj,ev.gone,fun b hb hl => (ev.live b hb hl).imp id fun k => ⟨k.1,h.mine k.2⟩,fun b hb hl hm => ev.blk b hb hl (fun hmm k => hm hmm (h.mine k)),ev.size⟩
theorem FrX.none {C:Ctx} {w:World} {F:Nat → Prop} (h:FrX C w F) (hz:C.fz = false):C.frz F = C:=by
 have:F = C.fr:=by funext b; exact propext ⟨h.off hz b,h.le b⟩
 rw [this]; rfl
theorem FrX.imm {C:Ctx} {w:World} {F:Nat → Prop} (h:FrX C w F) {b:Nat} (hb:C.imm b):(C.frz F).imm b:=⟨hb.1,fun hm k => hb.2 hm (h.mine k)⟩
mutual
def a3k (h:List l7) (p:Nat → Nat → Nat → Option AV):AV → Option AV
 | .int k n => some (.int k n)
 | .bool b => some (.bool b)
 | .str s => some (.str s)
 | .nil => some .nil
 | .lst z l => some (.lst z l)
 | .iptr e f => some (.iptr e f)
 | .own o lo n =>
  match h[o]? with
  | some (.row z l) => some (.lst z ((l.drop lo).take n))
  | _ => none
 | .ptr o i f => p o i f
 | .agg as => (b6i h p as).map .agg
 | .tup as => (a3v h p as).map .tup
 | .fn f caps => (a3v h p caps).map (.fn f)
 | .undef => none
 | .skip => none
 | .hdr _ _ _ => none
def a3v (h:List l7) (p:Nat → Nat → Nat → Option AV):List AV → Option (List AV)
 | [] => some []
 | a :: as =>
  match a3k h p a,a3v h p as with
  | some x,some xs => some (x :: xs)
  | _,_ => none
def b6i (h:List l7) (p:Nat → Nat → Nat → Option AV):List AV → Option (List AV)
 | [] => some []
 | a :: as =>
  match a3k h p a,b6i h p as with
  | some x,some xs => if x.isCell = true then some (x :: xs) else none
  | _,_ => none
end
theorem Rep.cell {m:Bool} {w:World} {a:AV} {cs:List Value} {fp:List Nat} (hc:a.isCell = true) (h:Rep m w a cs fp):∃ c,cs = [c] ∧ mkV a cs = c:=by
 cases a with
 | int k n => simp only [Rep] at h; exact ⟨_,h.1,by simp [mkV,h.1]⟩
 | bool n => simp only [Rep] at h; exact ⟨_,h.1,by simp [mkV,h.1]⟩
 | str n => simp only [Rep] at h; exact ⟨_,h.1,by simp [mkV,h.1]⟩
 | nil => simp only [Rep] at h; exact ⟨_,h.1,by simp [mkV,h.1]⟩
 | lst z l =>
  simp only [Rep] at h
  rcases h with ⟨_,_,x,cap,h3,_⟩ | ⟨b,off,cap,cur,e,fz,fps,h1,_⟩
  ·exact ⟨_,h3,by simp [mkV,h3]⟩
  ·exact ⟨_,h1,by simp [mkV,h1]⟩
 | fn f caps => simp only [Rep] at h; obtain ⟨vs,h1,_⟩:=h; exact ⟨_,h1,by simp [mkV,h1]⟩
 | iptr e f => simp only [Rep] at h; obtain ⟨b,off,sz,cur,el,fz,fps,h1,_⟩:=h; exact ⟨_,h1,by simp [mkV,h1]⟩
 | agg _ => simp [AV.isCell] at hc
 | tup _ => simp [AV.isCell] at hc
 | hdr v z l => simp only [Rep] at h; obtain ⟨h1,_⟩:=h; exact ⟨_,h1,by simp [mkV,h1]⟩
 | undef => simp only [Rep] at h
 | skip => simp only [Rep] at h
 | own _ _ _ => simp only [Rep] at h
 | ptr _ _ _ => simp only [Rep] at h
section close
variable {C:Ctx} {σ:Sg} {φ:Nat → List Nat} {h:List l7} {w:World}
theorem o9.ownRep (hr:o9 C σ φ h w) (hok:∀ b,C.mine b → C.ok b) {o lo n sz:Nat} {l:List AV} {v:Value} (ho:h[o]? = some (.row sz l)) (hv:b9i σ o lo n sz l.length v) :
  ∃ fp,b6h false w (.lst sz ((l.drop lo).take n)) v fp ∧ ∀ b ∈ fp,C.ok b:=by
 obtain ⟨a,cap,rfl,hl,hn,hm,hσ⟩:=hv
 have hlen:((l.drop lo).take n).length = n:=by rw [List.length_take,List.length_drop]; omega
 obtain ⟨hsz,hob⟩:=hr.obj o _ ho
 by_cases hn0:n = 0
 ·subst hn0
  refine ⟨[],⟨[.slice a 0 cap],rfl,?_⟩,by simp⟩
  simp only [Rep]
  exact .inl ⟨by simp,by simp,a,cap,by simp,hm,by simp⟩
 ·cases hs:σ o with
  | none => rw [hs] at hσ; omega
  | some p =>
   obtain ⟨g,c⟩:=p
   rw [hs] at hσ hob
   obtain ⟨hc,cur,e,h2,h3,h4,h5⟩:=hob
   have ha:=hσ.1.resolve_left hn0
   subst ha
   obtain ⟨f1,f2,hf,h6⟩:=h4.drop lo
   obtain ⟨f3,f4,hf',h7⟩:=h6.take n
   refine ⟨g :: f3,⟨[.slice (some ⟨g,lo * sz,none⟩) n cap],rfl,?_⟩,?_⟩
   ·simp only [Rep]
    exact .inr ⟨g,lo * sz,cap,cur,e,(0,0),f3,by rw [hlen],by rw [hlen]; exact hn,hm,h2,by simp,rfl,hsz,a0a.weak _ _ _ h7⟩
   ·intro b hb
    rcases List.mem_cons.1 hb with rfl | hb
    ·exact hok _ (hr.base o _ _ c ho rfl hs)
    ·exact (h5 b (by rw [hf,hf']; simp [hb])).1
mutual
theorem a3k.rep (hr:o9 C σ φ h w) (hok:∀ b,C.mine b → C.ok b) {p:Nat → Nat → Nat → Option AV}
  (hp:∀ o i f a v,p o i f = some a → RV C σ h w (.ptr o i f) v → ∃ fp,b6h false w a v fp ∧ ∀ b ∈ fp,C.ok b) :
  ∀ (a a':AV) (v:Value),a3k h p a = some a' → RV C σ h w a v → ∃ fp,b6h false w a' v fp ∧ ∀ b ∈ fp,C.ok b
 | .int k n,a',v,hc,hv => by
  simp only [a3k] at hc; cases hc; simp only [RV] at hv
  exact ⟨[],⟨[v],by simp [mkV],by simp [Rep,hv]⟩,by simp⟩
 | .bool n,a',v,hc,hv => by
  simp only [a3k] at hc; cases hc; simp only [RV] at hv
  exact ⟨[],⟨[v],by simp [mkV],by simp [Rep,hv]⟩,by simp⟩
 | .str s,a',v,hc,hv => by
  simp only [a3k] at hc; cases hc; simp only [RV] at hv
  exact ⟨[],⟨[v],by simp [mkV],by simp [Rep,hv]⟩,by simp⟩
 | .nil,a',v,hc,hv => by
  simp only [a3k] at hc; cases hc; simp only [RV] at hv
  exact ⟨[],⟨[v],by simp [mkV],by simp [Rep,hv]⟩,by simp⟩
 | .lst z l,a',v,hc,hv => by
  simp only [a3k] at hc; cases hc; simp only [RV] at hv
  obtain ⟨fp,h1,h2⟩:=hv
  exact ⟨fp,h1,fun b hb => (h2 b hb).1.1⟩
 | .iptr e f,a',v,hc,hv => by
  simp only [a3k] at hc; cases hc; simp only [RV] at hv
  obtain ⟨fp,h1,h2⟩:=hv
  exact ⟨fp,h1,fun b hb => (h2 b hb).1.1⟩
 | .own o lo n,a',v,hc,hv => by
  simp only [a3k] at hc
  simp only [RV] at hv
  cases ho:h[o]? with
  | none => simp [ho] at hc
  | some x =>
   cases x with
   | dead => simp [ho] at hc
   | map _ => simp [ho] at hc
   | box sz y => simp [ho] at hc
   | rowx sz l i el => simp [ho] at hc
   | row sz l =>
    simp only [ho,Option.some.injEq] at hc hv
    subst hc
    exact hr.ownRep hok ho hv
 | .ptr o i f,a',v,hc,hv => by
  simp only [a3k] at hc
  exact hp o i f a' v hc hv
 | .agg as,a',v,hc,hv => by
  simp only [a3k,Option.map_eq_some_iff] at hc
  obtain ⟨xs,hc,rfl⟩:=hc
  simp only [RV] at hv
  obtain ⟨vs,rfl,hv⟩:=hv
  obtain ⟨fp,h1,h2⟩:=b6i.rep hr hok hp as xs _ hc hv
  exact ⟨fp,⟨vs.toList,by simp [mkV],by simpa only [Rep] using h1⟩,h2⟩
 | .tup as,a',v,hc,hv => by
  simp only [a3k,Option.map_eq_some_iff] at hc
  obtain ⟨xs,hc,rfl⟩:=hc
  simp only [RV] at hv
  obtain ⟨vs,rfl,hv⟩:=hv
  obtain ⟨fp,h1,h2⟩:=a3v.rep hr hok hp as xs _ hc hv
  exact ⟨fp,⟨vs.toList,by simp [mkV],by simpa only [Rep] using h1⟩,h2⟩
 | .fn f caps,a',v,hc,hv => by
  simp only [a3k,Option.map_eq_some_iff] at hc
  obtain ⟨xs,hc,rfl⟩:=hc
  simp only [RV] at hv
  obtain ⟨vs,rfl,hv⟩:=hv
  obtain ⟨fp,h1,h2⟩:=a3v.rep hr hok hp caps xs _ hc hv
  exact ⟨fp,⟨[.func (.func f) #[] vs],by simp [mkV],by simp only [Rep]; exact ⟨vs,rfl,h1⟩⟩,h2⟩
 | .undef,_,_,hc,_ => by simp [a3k] at hc
 | .skip,_,_,hc,_ => by simp [a3k] at hc
 | .hdr _ _ _,_,_,hc,_ => by simp [a3k] at hc
theorem a3v.rep (hr:o9 C σ φ h w) (hok:∀ b,C.mine b → C.ok b) {p:Nat → Nat → Nat → Option AV}
  (hp:∀ o i f a v,p o i f = some a → RV C σ h w (.ptr o i f) v → ∃ fp,b6h false w a v fp ∧ ∀ b ∈ fp,C.ok b) :
  ∀ (as as':List AV) (vs:List Value),a3v h p as = some as' → RVs C σ h w as vs → ∃ fp,a0x false w as' vs fp ∧ ∀ b ∈ fp,C.ok b
 | [],as',vs,hc,hv => by
  simp only [a3v] at hc; cases hc; simp only [RVs] at hv
  exact ⟨[],by simp [a0x,hv],by simp⟩
 | a :: as,as',vs,hc,hv => by
  simp only [a3v] at hc
  cases h1:a3k h p a with
  | none => simp [h1] at hc
  | some x =>
   cases h2:a3v h p as with
   | none => simp [h1,h2] at hc
   | some xs =>
    simp only [h1,h2,Option.some.injEq] at hc
    subst hc
    simp only [RVs] at hv
    obtain ⟨v,vs',rfl,g1,g2⟩:=hv
    obtain ⟨f1,⟨cs,rfl,k1⟩,k2⟩:=a3k.rep hr hok hp a x v h1 g1
    obtain ⟨f2,k3,k4⟩:=a3v.rep hr hok hp as xs vs' h2 g2
    refine ⟨f1 ++ f2,?_,fun b hb => (List.mem_append.1 hb).elim (k2 b) (k4 b)⟩
    simp only [a0x]
    exact ⟨cs,vs',f1,f2,rfl,k1,k3,rfl⟩
theorem b6i.rep (hr:o9 C σ φ h w) (hok:∀ b,C.mine b → C.ok b) {p:Nat → Nat → Nat → Option AV}
  (hp:∀ o i f a v,p o i f = some a → RV C σ h w (.ptr o i f) v → ∃ fp,b6h false w a v fp ∧ ∀ b ∈ fp,C.ok b) :
  ∀ (as as':List AV) (vs:List Value),b6i h p as = some as' → RVs C σ h w as vs → ∃ fp,a0b false w as' vs fp ∧ ∀ b ∈ fp,C.ok b
 | [],as',vs,hc,hv => by
  simp only [b6i] at hc; cases hc; simp only [RVs] at hv
  exact ⟨[],by simp [a0b,hv],by simp⟩
 | a :: as,as',vs,hc,hv => by
  simp only [b6i] at hc
  cases h1:a3k h p a with
  | none => simp [h1] at hc
  | some x =>
   cases h2:b6i h p as with
   | none => simp [h1,h2] at hc
   | some xs =>
    simp only [h1,h2] at hc
    by_cases hx:x.isCell = true
    ·simp only [hx,if_true,Option.some.injEq] at hc
     subst hc
     simp only [RVs] at hv
     obtain ⟨v,vs',rfl,g1,g2⟩:=hv
     obtain ⟨f1,⟨cs,rfl,k1⟩,k2⟩:=a3k.rep hr hok hp a x v h1 g1
     obtain ⟨f2,k3,k4⟩:=b6i.rep hr hok hp as xs vs' h2 g2
     obtain ⟨c,rfl,e⟩:=k1.cell hx
     refine ⟨f1 ++ f2,?_,fun b hb => (List.mem_append.1 hb).elim (k2 b) (k4 b)⟩
     simp only [a0b]
     exact ⟨c,vs',f1,f2,by rw [e],hx,k1,k3,rfl⟩
    ·simp [hx] at hc
end
def e5y (h:List l7):AV → Option AV:=a3k h fun _ _ _ => none
def b7t (h:List l7) (cl:AV → Option AV) (o i f:Nat):Option AV :=
 match h[o]? with
 | some (.box _ v) => match i,v.isElem with
  | 0,true => (cl v).map (.iptr · f)
  | _,_ => none
 | some (.row _ l) => (l[i]?).map (.iptr · f)
 | _ => none
def e0f (h:List l7):AV → Option AV:=a3k h (b7t h (e5y h))
def close (h:List l7):AV → Option AV:=a3k h (b7t h (e0f h))
def closes (h:List l7):List AV → Option (List AV):=a3v h (b7t h (e0f h))
end close
end Go.R
end
section
set_option linter.all false
namespace Go.R
open Go
inductive AX where
 | t (n:Nat)
 | c (v:AV)
inductive AOp where
 | mov (x:AX)
 | pick (c a b:AX)
 | load (sz:Nat) (ag:Bool) (a:AX)
 | faddr (off:Nat) (a:AX)
 | field (off sz:Nat) (ag:Bool) (x:AX)
 | iaddr (sz:Nat) (x i:AX)
 | idxs (x i:AX)
 | slice (sz:Nat) (x:AX) (lo hi:Option AX)
 | sliceS (x:AX) (lo hi:Option AX)
 | bin (op:BinOp) (x y:AX)
 | eqB (ng:Bool) (x y:AX)
 | eqs (ng:Bool) (ks:List Nat) (x y:AX)
 | not (x:AX)
 | neg (x:AX)
 | len (x:AX)
 | lenS (x:AX)
 | mnmx (mx:Bool) (x y:AX)
 | extract (i:Nat) (x:AX)
 | mkfn (f:Nat) (caps:List AX)
 | nilck (x:AX)
 | convI (k:IntKind) (x:AX)
 | build (zero:List AV) (parts:List (Nat × Nat × AX))
 | box (sz:Nat) (x:AX)
 | mkslice (sz bytes:Nat) (zero:AV) (n c:AX)
 | bslice (sz:Nat) (xs:List AX)
 | append (sz bytes:Nat) (s x:AX)
 | store (sz:Nat) (a x:AX)
 | call (f:Nat) (args:List AX)
 | calv (x:AX) (args:List AX)
 | convBS (x:AX)
 | isnil (ng:Bool) (x:AX)
 | clr (sz:Nat) (zero:AV) (x:AX)
 | sl3 (x lo hi mx:AX)
 | cap (x:AX)
 | appz (sz bytes:Nat) (zero:AV) (s n:AX)
 | mkmap
 | mapset (m k x:AX)
 | mapget (z:AV) (m k:AX)
 | isnilp (ng:Bool) (x:AX)
 | never
def AX.ev (t:Nat → AV):AX → AV
 | .t n => t n
 | .c v => v
def ldV (el:AV) (f sz:Nat) (ag:Bool):AV :=
 match el with
 | .agg cs => match ag with
  | true => .agg ((cs.drop f).take sz)
  | false => cs.getD f .undef
 | v => v
def ldP (el:AV) (f sz:Nat) (ag:Bool):Prop :=
 match el with
 | .agg cs => match ag with
  | true => f + sz ≤ cs.length
  | false => f < cs.length
 | .undef => False
 | .skip => False
 | .tup _ => False
 | _ => ag = false ∧ f = 0
def c9l (op:BinOp) (x y:AV):AV :=
 match op,x,y with
 | .add,.int k a,.int _ b => .int k (k.wrap (a + b))
 | .sub,.int k a,.int _ b => .int k (k.wrap (a - b))
 | .mul,.int k a,.int _ b => .int k (k.wrap (a * b))
 | .quo,.int k a,.int _ b => .int k (k.wrap (a.tdiv b))
 | .rem,.int k a,.int _ b => .int k (a.tmod b)
 | .shr,.int k a,.int _ b => .int k (a.fdiv (2 ^ (min b.toNat k.bits)))
 | .eql,.int _ a,.int _ b => .bool (a == b)
 | .neq,.int _ a,.int _ b => .bool (a != b)
 | .lss,.int _ a,.int _ b => .bool (decide (a < b))
 | .leq,.int _ a,.int _ b => .bool (decide (a ≤ b))
 | .gtr,.int _ a,.int _ b => .bool (decide (a > b))
 | .geq,.int _ a,.int _ b => .bool (decide (a ≥ b))
 | .add,.str a,.str b => .str (a ++ b)
 | .eql,.str a,.str b => .bool (a == b)
 | .neq,.str a,.str b => .bool !(a == b)
 | .lss,.str a,.str b => .bool (Op.bytesLess a b)
 | .leq,.str a,.str b => .bool (Op.bytesLess a b || a == b)
 | .gtr,.str a,.str b => .bool !(Op.bytesLess a b || a == b)
 | .geq,.str a,.str b => .bool !(Op.bytesLess a b)
 | _,_,_ => .undef
def d2l (op:BinOp) (x y:AV):Prop :=
 match op,x,y with
 | .add,.int k _,.int k' _ => k = k'
 | .sub,.int k _,.int k' _ => k = k'
 | .mul,.int k _,.int k' _ => k = k'
 | .quo,.int k _,.int k' b => k = k' ∧ b ≠ 0
 | .rem,.int k _,.int k' b => k = k' ∧ b ≠ 0
 | .shr,.int _ _,.int _ b => 0 ≤ b
 | .eql,.int k _,.int k' _ => k = k'
 | .neq,.int k _,.int k' _ => k = k'
 | .lss,.int k _,.int k' _ => k = k'
 | .leq,.int k _,.int k' _ => k = k'
 | .gtr,.int k _,.int k' _ => k = k'
 | .geq,.int k _,.int k' _ => k = k'
 | .add,.str a,.str b => a.length + b.length ≤ maxLen
 | .eql,.str _,.str _ => True
 | .neq,.str _,.str _ => True
 | .lss,.str _,.str _ => True
 | .leq,.str _,.str _ => True
 | .gtr,.str _,.str _ => True
 | .geq,.str _,.str _ => True
 | _,_,_ => False
def c6j:AV → AV → Bool
 | .int _ a,.int _ b => a == b
 | .bool a,.bool b => a == b
 | .str a,.str b => a == b
 | _,_ => false
def c1p:List AV → List AV → Bool
 | a :: as,b :: bs => c6j a b && c1p as bs
 | _,_ => true
def cellP (k:Nat) (a b:AV):Prop :=
 match a,b with
 | .int j _,.int j' _ => k = 0 ∧ j = j'
 | .bool _,.bool _ => k = 1
 | .str _,.str _ => k = 2
 | _,_ => False
def c3n:List Nat → List AV → List AV → Prop
 | [],[],[] => True
 | k :: ks,a :: as,b :: bs => cellP k a b ∧ c3n ks as bs
 | _,_,_ => False
def a6p (h:List l7) (a:AV):Prop :=
 match a with
 | .undef => False
 | .hdr _ _ _ => False
 | .skip => False
 | .tup _ => False
 | .own o _ _ => match h[o]? with
  | some (.row _ _) => True
  | _ => False
 | .ptr o _ _ => match h[o]? with
  | some (.row _ _) => True
  | some (.box _ _) => True
  | _ => False
 | _ => True
def putCells (cs:List AV) (off:Nat) (new:List AV):List AV:=cs.take off ++ new ++ cs.drop (off + new.length)
def c2k (zero:List AV) (e:AX → AV):List (Nat × Nat × AX) → List AV
 | [] => zero
 | (off,_,x) :: rest => c2k (putCells zero off (e x).cells) e rest
def c9m (h:List l7) (n:Nat) (e:AX → AV):List (Nat × Nat × AX) → Prop
 | [] => True
 | (off,sz,x) :: rest => ((e x).cells.length = sz ∧ off + sz ≤ n ∧ a6p h (e x)) ∧ c9m h n e rest
def d2m (lo hi:AV) (n:Nat):Prop :=
 match lo,hi with
 | .int _ a,.int _ b => 0 ≤ a ∧ a ≤ b ∧ b ≤ n
 | _,_ => False
def b6j (x:AV) (lo hi:Option AV):AV :=
 match x,lo,hi with
 | .lst z l,none,none => .lst z l
 | .lst z l,none,some (.int _ b) => .lst z (l.take b.toNat)
 | .lst z l,some (.int _ a),none => .lst z (l.drop a.toNat)
 | .lst z l,some (.int _ a),some (.int _ b) => .lst z ((l.drop a.toNat).take (b.toNat - a.toNat))
 | .own o l n,none,none => .own o l n
 | .own o l n,none,some (.int _ b) => .own o l b.toNat
 | .own o l n,some (.int _ a),none => .own o (l + a.toNat) (n - a.toNat)
 | .own o l n,some (.int _ a),some (.int _ b) => .own o (l + a.toNat) (b.toNat - a.toNat)
 | .str s,none,none => .str s
 | .str s,none,some (.int _ b) => .str (s.take b.toNat)
 | .str s,some (.int _ a),none => .str (s.drop a.toNat)
 | .str s,some (.int _ a),some (.int _ b) => .str ((s.drop a.toNat).take (b.toNat - a.toNat))
 | .nil,_,_ => .nil
 | _,_,_ => .undef
def c8q (x:AV) (lo hi:Option AV):Prop :=
 match x with
 | .lst _ l => d2m (lo.getD (.int .i64 0)) (hi.getD (.int .i64 l.length)) l.length
 | .own _ _ n => d2m (lo.getD (.int .i64 0)) (hi.getD (.int .i64 n)) n
 | .str s => d2m (lo.getD (.int .i64 0)) (hi.getD (.int .i64 s.length)) s.length
 | .nil => d2m (lo.getD (.int .i64 0)) (hi.getD (.int .i64 0)) 0
 | _ => False
def e0g (h:List l7) (sz:Nat) (x:AV):Prop :=
 match x with
 | .lst z _ => z = sz
 | .own o _ _ => match h[o]? with
  | some (.row z _) => z = sz
  | _ => False
 | .nil => True
 | _ => False
def AOp.quiet:AOp → Bool
 | .box .. => false
 | .mkslice .. => false
 | .bslice .. => false
 | .append .. => false
 | .store .. => false
 | .call .. => false
 | .calv .. => false
 | .convBS .. => false
 | .isnil .. => false
 | .clr .. => false
 | .sl3 .. => false
 | .cap .. => false
 | .appz .. => false
 | .mkmap => false
 | .mapset .. => false
 | .mapget .. => false
 | .isnilp .. => false
 | .never => false
 | _ => true
def aqV (o:AOp) (e:AX → AV) (h:List l7):AV :=
 match o with
 | .mov x => e x
 | .pick c a b => match e c with
  | .bool true => e a
  | .bool false => e b
  | _ => .undef
 | .load sz ag a => match e a with
  | .iptr el f => ldV el f sz ag
  | .ptr o i f => match h[o]? with
   | some (.box _ v) => ldV v f sz ag
   | some (.row _ l) => ldV (l.getD i .undef) f sz ag
   | some (.rowx _ _ _ el) => ldV el f sz ag
   | _ => .undef
  | _ => .undef
 | .faddr off a => match e a with
  | .iptr el f => .iptr el (f + off)
  | .ptr o i f => .ptr o i (f + off)
  | _ => .undef
 | .field off sz ag x => ldV (e x) off sz ag
 | .iaddr _ x i => match e x,e i with
  | .lst _ l,.int _ n => .iptr (l.getD n.toNat .undef) 0
  | .own o lo _,.int _ n => .ptr o (lo + n.toNat) 0
  | _,_ => .undef
 | .idxs x i => match e x,e i with
  | .str s,.int _ n => .int .u8 ((s.getD n.toNat 0).toNat:Int)
  | _,_ => .undef
 | .slice _ x lo hi => b6j (e x) (lo.map e) (hi.map e)
 | .sliceS x lo hi => b6j (e x) (lo.map e) (hi.map e)
 | .bin op x y => c9l op (e x) (e y)
 | .eqB ng x y => match e x,e y with
  | .bool a,.bool b => match ng with
   | true => .bool !(a == b)
   | false => .bool (a == b)
  | _,_ => .undef
 | .eqs ng _ x y => match e x,e y with
  | .agg a,.agg b => match ng with
   | true => .bool !(c1p a b)
   | false => .bool (c1p a b)
  | _,_ => .undef
 | .not x => match e x with
  | .bool b => .bool !b
  | _ => .undef
 | .neg x => match e x with
  | .int k n => .int k (k.wrap (0 - n))
  | _ => .undef
 | .len x => match e x with
  | .lst _ l => .int .i64 l.length
  | .own _ _ n => .int .i64 n
  | .nil => .int .i64 0
  | _ => .undef
 | .lenS x => match e x with
  | .str s => .int .i64 s.length
  | _ => .undef
 | .mnmx mx x y => match e x,e y with
  | .int k a,.int _ b => match mx with
   | true => .int k (if b > a then b else a)
   | false => .int k (if b < a then b else a)
  | _,_ => .undef
 | .extract i x => match e x with
  | .tup vs => vs.getD i .undef
  | _ => .undef
 | .mkfn f caps => .fn f (caps.map e)
 | .nilck x => e x
 | .convI k x => match e x with
  | .int _ n => .int k (k.wrap n)
  | _ => .undef
 | .build zero parts => .agg (c2k zero e parts)
 | _ => .undef
def aqP (o:AOp) (e:AX → AV) (h:List l7):Prop :=
 match o with
 | .mov _ => True
 | .pick c _ _ => match e c with
  | .bool true => True
  | .bool false => True
  | _ => False
 | .load sz ag a => match e a with
  | .iptr el f => ldP el f sz ag
  | .ptr o i f => match h[o]? with
   | some (.box _ v) => ldP v f sz ag
   | some (.row _ l) => ldP (l.getD i .undef) f sz ag
   | some (.rowx _ _ j el) => i = j ∧ ldP el f sz ag
   | _ => False
  | _ => False
 | .faddr _ a => match e a with
  | .iptr _ _ => True
  | .ptr o _ _ => match h[o]? with
   | some (.box _ _) => True
   | some (.rowx _ _ _ _) => True
   | some (.row _ _) => True
   | _ => False
  | _ => False
 | .field off sz ag x => match e x with
  | .agg cs => ldP (.agg cs) off sz ag
  | _ => False
 | .iaddr sz x i => match e x,e i with
  | .lst z l,.int _ n => (0 ≤ n ∧ n < l.length) ∧ z = sz
  | .own o lo len,.int _ n => (0 ≤ n ∧ n < len) ∧ match h[o]? with
   | some (.row sz' _) => sz' = sz
   | some (.rowx sz' _ _ _) => sz' = sz
   | _ => False
  | _,_ => False
 | .idxs x i => match e x,e i with
  | .str s,.int _ n => 0 ≤ n ∧ n < s.length
  | _,_ => False
 | .slice sz x lo hi => c8q (e x) (lo.map e) (hi.map e) ∧ e0g h sz (e x)
 | .sliceS x lo hi => c8q (e x) (lo.map e) (hi.map e) ∧ match e x with
  | .str _ => True
  | _ => False
 | .bin op x y => d2l op (e x) (e y)
 | .eqB _ x y => match e x,e y with
  | .bool _,.bool _ => True
  | _,_ => False
 | .eqs _ ks x y => match e x,e y with
  | .agg a,.agg b => c3n ks a b
  | _,_ => False
 | .not x => match e x with
  | .bool _ => True
  | _ => False
 | .neg x => match e x with
  | .int _ _ => True
  | _ => False
 | .len x => match e x with
  | .lst _ _ => True
  | .own o _ _ => match h[o]? with
   | some (.row _ _) => True
   | some (.rowx _ _ _ _) => True
   | _ => False
  | .nil => True
  | _ => False
 | .lenS x => match e x with
  | .str _ => True
  | _ => False
 | .mnmx _ x y => match e x,e y with
  | .int k _,.int k' _ => k = k'
  | _,_ => False
 | .extract i x => match e x with
  | .tup vs => i < vs.length
  | _ => False
 | .mkfn _ _ => True
 | .nilck x => match e x with
  | .iptr _ _ => True
  | .fn _ _ => True
  | .ptr o _ _ => match h[o]? with
   | some (.box _ _) => True
   | some (.rowx _ _ _ _) => True
   | some (.row _ _) => True
   | _ => False
  | _ => False
 | .convI _ x => match e x with
  | .int _ _ => True
  | _ => False
 | .build zero parts => c9m h zero.length e parts
 | _ => False
def isHdr:AV → Bool
 | .hdr _ _ _ => true
 | _ => false
def c6k:AV → Bool
 | .hdr _ _ _ => true
 | .int _ _ => true
 | .bool _ => true
 | .str _ => true
 | .nil => true
 | _ => false
def c9n:Bool → AV → Bool
 | true,.agg cs => cs.all c6k
 | false,a => c6k a
 | _,_ => false
def mmT (o:AOp) (e:AX → AV) (h:List l7):Prop :=
 match o with
 | .load sz ag a => match e a with
  | .ptr o i f => match h[o]? with
   | some (.row _ l) => c9n ag (ldV (l.getD i .undef) f sz ag) = true
   | _ => True
  | _ => True
 | _ => True
def mmP (m:Bool) (o:AOp) (e:AX → AV) (h:List l7):Prop:=match m with
 | false => True
 | true => mmT o e h
def aqQ (m:Bool) (o:AOp) (e:AX → AV) (h:List l7):Prop:=match m with
 | false => aqP o e h
 | true => aqP o e h ∧ mmT o e h
theorem aqQ.p {m:Bool} {o:AOp} {e:AX → AV} {h:List l7} (hq:aqQ m o e h):aqP o e h:=by
 cases m
 ·exact hq
 ·exact hq.1
theorem aqQ.m {m:Bool} {o:AOp} {e:AX → AV} {h:List l7} (hq:aqQ m o e h):mmP m o e h:=by
 cases m
 ·trivial
 ·exact hq.2
theorem aqQ.of {m:Bool} {o:AOp} {e:AX → AV} {h:List l7} (hp:aqP o e h) (hm:mmT o e h):aqQ m o e h:=by
 cases m
 ·exact hp
 ·exact ⟨hp,hm⟩
theorem aqQ.mk {m:Bool} {o:AOp} {e:AX → AV} {h:List l7} (hp:aqP o e h) (hm:mmP m o e h):aqQ m o e h:=by
 cases m
 ·exact hp
 ·exact ⟨hp,hm⟩
def aqF (o:AOp) (e:AX → AV):Prop :=
 match o with
 | .len x => match e x with
  | .lst _ l => l.length ≤ maxLen
  | .own _ _ n => n ≤ maxLen
  | _ => True
 | .lenS x => match e x with
  | .str s => s.length ≤ maxLen
  | _ => True
 | _ => True
section
variable {C:Ctx} {σ:Sg} {φ:Nat → List Nat} {h:List l7} {w:World}
mutual
theorem Rep.rv:∀ (a:AV) (cs:List Value) (fp:List Nat),Rep false w a cs fp → (∀ b ∈ fp,C.imm b ∧ ¬ liveAt h σ b) → RV C σ h w a (mkV a cs)
 | .int k n,cs,fp,hr,hf => by simp only [Rep] at hr; simp [RV,mkV,hr.1]
 | .bool b,cs,fp,hr,hf => by simp only [Rep] at hr; simp [RV,mkV,hr.1]
 | .str s,cs,fp,hr,hf => by simp only [Rep] at hr; simp [RV,mkV,hr.1,hr.2.1]
 | .nil,cs,fp,hr,hf => by simp only [Rep] at hr; simp [RV,mkV,hr.1]
 | .lst z l,cs,fp,hr,hf => by simp only [RV]; exact ⟨fp,⟨cs,rfl,hr⟩,hf⟩
 | .iptr e f,cs,fp,hr,hf => by simp only [RV]; exact ⟨fp,⟨cs,rfl,hr⟩,hf⟩
 | .agg as,cs,fp,hr,hf => by
  simp only [Rep] at hr
  simp only [RV,mkV]
  exact ⟨_,rfl,by simpa using a0b.rvs as cs fp hr hf⟩
 | .tup as,cs,fp,hr,hf => by
  simp only [Rep] at hr
  simp only [RV,mkV]
  exact ⟨_,rfl,by simpa using a0x.rvs as cs fp hr hf⟩
 | .fn f caps,cs,fp,hr,hf => by
  simp only [Rep] at hr
  obtain ⟨vs,rfl,hr⟩:=hr
  simp only [RV,mkV]
  exact ⟨_,by simp,a0x.rvs caps _ fp hr hf⟩
 | .hdr v z l,cs,fp,hr,hf => by simp only [Rep] at hr; simp [RV,mkV,hr.1]
 | .undef,_,_,hr,_ => by simp only [Rep] at hr
 | .skip,_,_,hr,_ => by simp only [Rep] at hr
 | .own ..,_,_,hr,_ => by simp only [Rep] at hr
 | .ptr ..,_,_,hr,_ => by simp only [Rep] at hr
theorem a0b.rvs:∀ (as:List AV) (cs:List Value) (fp:List Nat),a0b false w as cs fp → (∀ b ∈ fp,C.imm b ∧ ¬ liveAt h σ b) → RVs C σ h w as cs
 | [],cs,fp,hr,hf => by simp only [a0b] at hr; simp [RVs,hr.1]
 | a :: as,cs,fp,hr,hf => by
  simp only [a0b] at hr
  obtain ⟨c,cs',f1,f2,rfl,hc,h1,h2,rfl⟩:=hr
  simp only [RVs]
  have hv:=Rep.rv a [c] f1 h1 (fun b hb => hf b (by simp [hb]))
  refine ⟨c,cs',rfl,?_,a0b.rvs as cs' f2 h2 (fun b hb => hf b (by simp [hb]))⟩
  obtain ⟨c',e1,e2⟩:=h1.cell hc
  cases e1
  rw [e2] at hv
  exact hv
theorem a0x.rvs:∀ (as:List AV) (vs:List Value) (fp:List Nat),a0x false w as vs fp → (∀ b ∈ fp,C.imm b ∧ ¬ liveAt h σ b) → RVs C σ h w as vs
 | [],cs,fp,hr,hf => by simp only [a0x] at hr; simp [RVs,hr.1]
 | a :: as,cs,fp,hr,hf => by
  simp only [a0x] at hr
  obtain ⟨c,cs',f1,f2,rfl,h1,h2,rfl⟩:=hr
  simp only [RVs]
  exact ⟨_,cs',rfl,Rep.rv a c f1 h1 (fun b hb => hf b (by simp [hb])),a0x.rvs as cs' f2 h2 (fun b hb => hf b (by simp [hb]))⟩
end
end
end Go.R
end
section
set_option linter.all false
namespace Go.R
open Go
def isz (P:Program) (t:TypeId):Option Nat:=(P.info? t).map (·.size)
def iag (P:Program) (t:TypeId):Option Bool:=(P.underlying t).map fun d => match d with
 | .struct _ => true
 | .array _ _ => true
 | _ => false
def b3u:Value → Option AV
 | .int k n => some (.int k n)
 | .bool b => some (.bool b)
 | .string s => if s.size ≤ 65536 then some (.str s.data.toList) else none
 | .slice none 0 0 => some .nil
 | _ => none
def a6w:List Value → Option (List AV)
 | [] => some []
 | v :: vs => match b3u v,a6w vs with
  | some a,some as => some (a :: as)
  | _,_ => none
def a5h (v:Value):Option AV :=
 match v with
 | .agg cs => (a6w cs.toList).map .agg
 | v => b3u v
def cx:Operand → Option AX
 | .tmp n => some (.t n)
 | .const (.pointer none) => some (.c (.hdr (.pointer none) 0 []))
 | .const v => (a5h v).map .c
 | .func f => some (.c (.fn f []))
 | .global _ => none
def cxs:List Operand → Option (List AX)
 | [] => some []
 | x :: xs => match cx x,cxs xs with
  | some a,some as => some (a :: as)
  | _,_ => none
def cxo:Option Operand → Option (Option AX)
 | none => some none
 | some x => (cx x).map some
def fld (P:Program) (s:TypeId) (f:Nat):Option (Nat × Nat × Bool) :=
 match P.underlying s with
 | some (.struct fs) => match fs[f]? with
  | some fl => match isz P fl.type,iag P fl.type with
   | some (n + 1),some ag => some (fl.offset,n + 1,ag)
   | _,_ => none
  | none => none
 | _ => none
def c6l (P:Program) (t:TypeId):Option Nat :=
 match P.underlying t with
 | some .bool => some 1
 | some (.int _) => some 0
 | some .string => some 2
 | _ => none
def b8k (P:Program):Nat → List Field → Option (List Nat)
 | _,[] => some []
 | n,f :: fs => match c6l P f.type,b8k P (n + 1) fs with
  | some k, some ks => if f.name != "_" && f.offset == n then some (k :: ks) else none
  | _,_ => none
def c3p (P:Program) (fs:Array Field):List (Nat × Operand) → Option (List (Nat × Nat × AX))
 | [] => some []
 | (i,x) :: rest => match fs[i]?,cx x,c3p P fs rest with
  | some f,some a,some l => match isz P f.type with
   | some n => some ((f.offset,n,a) :: l)
   | none => none
  | _,_,_ => none
def b6t:Nat → List (Nat × Operand) → Option (List AX)
 | _,[] => some []
 | k,(i,x) :: rest => match cx x,b6t (k + 1) rest with
  | some a,some l => if i = k then some (a :: l) else none
  | _,_ => none
def sized (P:Program) (fs:List Field):Bool:=fs.all fun f => (isz P f.type).isSome
def oc (P:Program) (o:Op):Option AOp :=
 match o with
 | .move x => (cx x).map .mov
 | .assign x => (cx x).map .mov
 | .pick c a b => match cx c,cx a,cx b with
  | some c,some a,some b => some (.pick c a b)
  | _,_,_ => none
 | .load t a => match isz P t,iag P t,cx a with
  | some (n + 1),some ag,some a => some (.load (n + 1) ag a)
  | _,_,_ => none
 | .fieldAddr s a f => match fld P s f,cx a with
  | some (off,_,_),some a => some (.faddr off a)
  | _,_ => none
 | .field s x f => match fld P s f,cx x with
  | some (off,sz,ag),some x => some (.field off sz ag x)
  | _,_ => none
 | .indexAddr t x i => match P.underlying t,cx x,cx i with
  | some (.slice e),some x,some i => (isz P e).map fun sz => .iaddr sz x i
  | _,_,_ => none
 | .index t x i => match P.underlying t,cx x,cx i with
  | some .string,some x,some i => some (.idxs x i)
  | _,_,_ => none
 | .slice t x lo hi none => match P.underlying t,cx x,cxo lo,cxo hi with
  | some .string,some x,some lo,some hi => some (.sliceS x lo hi)
  | some (.slice e),some x,some lo,some hi => (isz P e).map fun sz => .slice sz x lo hi
  | _,_,_,_ => none
 | .binOp op xt x y _ => match cx x,cx y with
  | some x,some y => match P.underlying xt with
   | some (.int _) => some (.bin op x y)
   | some .string => some (.bin op x y)
   | some .bool => match op with
    | .eql => some (.eqB false x y)
    | .neq => some (.eqB true x y)
    | _ => none
   | some (.struct fs) => match b8k P 0 fs.toList with
    | some ks =>
     if !P.stoodInHeld xt && !P.eqGuardType P.depth xt then
      match op with
      | .eql => some (.eqs false ks x y)
      | .neq => some (.eqs true ks x y)
      | _ => none
     else none
    | none => none
   | some (.slice _) => match op,y with
    | .eql,.c .nil => some (.isnil false x)
    | .neq,.c .nil => some (.isnil true x)
    | _,_ => none
   | _ => none
  | _,_ => none
 | .unOp .not _ x => (cx x).map .not
 | .unOp .neg _ x => (cx x).map .neg
 | .makeFunc (.func f) first caps => if first.size = 0 then (cxs caps.toList).map (.mkfn f) else none
 | .extract x i => (cx x).map (.extract i)
 | .nilCheck x => (cx x).map .nilck
 | .convert s d x => match P.underlying s,P.underlying d,cx x with
  | some (.int _),some (.int k),some x => some (.convI k x)
  | some (.slice e),some .string,some x => match P.underlying e with
   | some (.int .u8) => some (.convBS x)
   | _ => none
  | _,_,_ => none
 | .build t parts => match P.underlying t,(P.info? t).bind (·.zero) with
  | some (.struct fs),some (.agg z) => match a6w z.toList,c3p P fs parts.toList with
   | some zero,some parts => if sized P fs.toList then some (.build zero parts) else none
   | _,_ => none
  | _,_ => none
 | .box t x => match isz P t,cx x with
  | some (n + 1),some x => some (.box (n + 1) x)
  | _,_ => none
 | .alloc t => match isz P t,((P.info? t).bind (·.zero)).bind a5h with
  | some (n + 1),some z => if z.cells.length = n + 1 then some (.box (n + 1) (.c z)) else none
  | _,_ => none
 | .makeSlice t n c => match P.underlying t,cx n,cx c with
  | some (.slice e),some n,some c => match P.info? e,((P.info? e).bind (·.zero)).bind a5h with
   | some i,some z => if z.cells.length = i.size && 0 < i.size && i.bytes ≤ 65536 then some (.mkslice i.size i.bytes z n c) else none
   | _,_ => none
  | _,_,_ => none
 | .buildSlice t n parts => match P.underlying t,b6t 0 parts.toList with
  | some (.slice e),some xs => match P.info? e with
   | some i => if i.zero.isSome && 0 < (i.zero.getD undef).cells.size && 0 < i.size && n * i.size ≤ 2 ^ 24 && n = xs.length then some (.bslice i.size xs) else none
   | none => none
  | _,_ => none
 | .store t a x => match isz P t,cx a,cx x with
  | some sz,some a,some x => some (.store sz a x)
  | _,_,_ => none
 | .call c => match c.callee,c.args.toList,c.argTypes.toList with
  | .builtin .len,[x],[t] => match P.underlying t with
   | some (.slice _) => (cx x).map .len
   | some .string => (cx x).map .lenS
   | _ => none
  | .builtin .max,[x,y],_ => match cx x,cx y with
   | some x,some y => some (.mnmx true x y)
   | _,_ => none
  | .builtin .min,[x,y],_ => match cx x,cx y with
   | some x,some y => some (.mnmx false x y)
   | _,_ => none
  | .builtin .append,[s,x],[t,u] => match P.underlying t,P.underlying u,cx s,cx x with
   | some (.slice e),some (.slice _),some s,some x => match P.info? e with
    | some i => if t = u && i.zero.isSome && 0 < i.size && (i.zero.getD undef).cells.size = i.size && i.bytes ≤ 65536 then some (.append i.size i.bytes s x) else none
    | none => none
   | _,_,_,_ => none
  | .value (.func f),args,_ => match P.funcs[f]? with
   | some fn => if fn.body.isSome && fn.name != "runtime.NumGoroutine" then (cxs args).map (.call f) else none
   | none => none
  | .value (.tmp n),args,_ => (cxs args).map (.calv (.t n))
  | _,_,_ => none
 | _ => none
section sound
variable {P:Program} {C:Ctx} {σ:Sg} {φ:Nat → List Nat} {h:List l7} {w:World}
theorem b3u.rv {v:Value} {a:AV} (hc:b3u v = some a):RV C σ h w a v ∧ a.isCell = true:=by
 unfold b3u at hc
 split at hc <;> try (cases hc; done)
 ·cases hc; simp [RV,AV.isCell]
 ·cases hc; simp [RV,AV.isCell]
 ·rename_i s
  split at hc
  ·cases hc
   rename_i hs
   obtain ⟨⟨l⟩⟩:=s
   have:l.length ≤ 65536:=hs
   simp only [RV,AV.isCell,maxLen]
   exact ⟨⟨by simp,by omega⟩,by simp⟩
  ·cases hc
 ·cases hc; simp [RV,AV.isCell]
theorem a6w.rvs:∀ {vs:List Value} {as:List AV},a6w vs = some as → RVs C σ h w as vs
 | [],as,hc => by simp only [a6w] at hc; cases hc; simp [RVs]
 | v :: vs,as,hc => by
  simp only [a6w] at hc
  cases h1:b3u v with
  | none => simp [h1] at hc
  | some a =>
   cases h2:a6w vs with
   | none => simp [h1,h2] at hc
   | some as' =>
    simp only [h1,h2,Option.some.injEq] at hc
    subst hc
    simp only [RVs]
    exact ⟨v,vs,rfl,(b3u.rv h1).1,a6w.rvs h2⟩
theorem a5h.rv {v:Value} {a:AV} (hc:a5h v = some a):RV C σ h w a v:=by
 unfold a5h at hc
 split at hc
 ·rename_i cs
  simp only [Option.map_eq_some_iff] at hc
  obtain ⟨as,h1,rfl⟩:=hc
  simp only [RV]
  exact ⟨cs,rfl,a6w.rvs h1⟩
 ·exact (b3u.rv hc).1
def a7u (C:Ctx) (σ:Sg) (h:List l7) (w:World) (t:Nat → AV) (ρ:Operand → Value):Prop:=∀ op x,cx op = some x → RV C σ h w (x.ev t) (ρ op)
theorem a7u.of_act {t:Nat → AV} {a:Act} (ht:∀ n,RV C σ h w (t n) (a.tmps.getD n Go.undef)):a7u C σ h w t a.eval:=by
 intro op x hx
 cases op with
 | tmp n => simp only [cx,Option.some.injEq] at hx; subst hx; exact ht n
 | const v =>
  by_cases hp:v = .pointer none
  ·subst hp
   simp only [cx,Option.some.injEq] at hx
   subst hx
   simp only [AX.ev,RV,Act.eval]
  rw [cx.eq_3 _ (fun h => hp h)] at hx
  simp only [Option.map_eq_some_iff] at hx
  obtain ⟨a',h1,rfl⟩:=hx
  exact a5h.rv h1
 | func f =>
  simp only [cx,Option.some.injEq] at hx
  subst hx
  simp only [AX.ev,RV,Act.eval]
  exact ⟨#[],rfl,by simp [RVs]⟩
 | global g => simp [cx] at hx
theorem a7u.list {t:Nat → AV} {ρ:Operand → Value} (he:a7u C σ h w t ρ):∀ {ops:List Operand} {xs:List AX},cxs ops = some xs → RVs C σ h w (xs.map (AX.ev t)) (ops.map ρ)
 | [],xs,hx => by simp only [cxs] at hx; cases hx; simp [RVs]
 | o :: ops,xs,hx => by
  simp only [cxs] at hx
  cases h1:cx o with
  | none => simp [h1] at hx
  | some a =>
   cases h2:cxs ops with
   | none => simp [h1,h2] at hx
   | some as =>
    simp only [h1,h2,Option.some.injEq] at hx
    subst hx
    simp only [List.map_cons,RVs]
    exact ⟨_,_,rfl,he o a h1,a7u.list he h2⟩
theorem b7j {b o:Nat} {cur:Array Value} {e:TypeId} {fz:Nat × Nat} (hg:w.heap[b]? = some (.cells cur e fz)):w.cell? ⟨b,o,none⟩ = cur[o]?:=by
 simp [World.cell?,hg]
theorem run_loadCellsFrom {b off:Nat} {cur:Array Value} {e:TypeId} {fz:Nat × Nat} (hg:w.heap[b]? = some (.cells cur e fz)) :
  ∀ (n i:Nat) (acc:Array Value),off + i + n ≤ cur.size → (loadCellsFrom ⟨b,off,none⟩ i n acc).run P w = .ok (acc ++ ((cur.toList.drop (off + i)).take n).toArray) w
 | 0,i,acc,_ => by simp [loadCellsFrom]
 | n + 1,i,acc,hl => by
  have hlt:off + i < cur.size:=by omega
  have hadd:(⟨b,off,none⟩:Addr).add i = ⟨b,off + i,none⟩:=by unfold Addr.add; split <;> simp_all
  have hc:w.cell? ((⟨b,off,none⟩:Addr).add i) = some cur[off + i]:=by rw [hadd,b7j hg]; simp [hlt]
  simp only [loadCellsFrom,Sem.run_bind,run_load,hc,Result.andThen_ok]
  rw [run_loadCellsFrom hg n (i + 1) _ (by omega)]
  congr 1
  rw [show off + (i + 1) = off + i + 1 by omega]
  rw [List.drop_eq_getElem_cons (show off + i < cur.toList.length by simpa using hlt),List.take_succ_cons]
  apply Array.toList_inj.1
  simp
theorem run_loadCells {b off n:Nat} {cur:Array Value} {e:TypeId} {fz:Nat × Nat} (hg:w.heap[b]? = some (.cells cur e fz)) (hl:off + n ≤ cur.size) :
  (loadCells ⟨b,off,none⟩ n).run P w = .ok ((cur.toList.drop off).take n).toArray w:=by
 unfold loadCells
 rw [run_loadCellsFrom hg n 0 #[] (by omega)]
 simp
theorem b6q {t:TypeId} {ag:Bool} (hd:iag P t = some ag):(isAgg t).run P w = .ok ag w:=by
 unfold iag at hd
 simp only [Option.map_eq_some_iff] at hd
 obtain ⟨d,h1,h2⟩:=hd
 subst h2
 cases d <;> simp [isAgg,run_underlying h1]
theorem run_sizeOf {t:TypeId} {sz:Nat} (hs:isz P t = some sz):(sizeOf t).run P w = .ok sz w:=by
 unfold isz at hs
 simp only [Option.map_eq_some_iff] at hs
 obtain ⟨i,h1,h2⟩:=hs
 subst h2
 simp [sizeOf,typeInfo,h1]
theorem d6q {t:TypeId} {ag:Bool} {sz b off:Nat} {cur:Array Value} {e:TypeId} {fz:Nat × Nat} (hs:isz P t = some sz) (hd:iag P t = some ag)
  (hg:w.heap[b]? = some (.cells cur e fz)) (hl:ag = true → off + sz ≤ cur.size) (h1:ag = false → off < cur.size) :
  (loadVar t ⟨b,off,none⟩).run P w = .ok (match ag with | true => .agg ((cur.toList.drop off).take sz).toArray | false => cur.toList.getD off Go.undef) w:=by
 cases ag with
 | true => simp [loadVar,b6q hd,run_sizeOf hs,run_loadCells hg (hl rfl)]
 | false =>
  have hlt:=h1 rfl
  simp [loadVar,b6q hd,b7j hg,hlt]
theorem RVs.get:∀ {as:List AV} {vs:List Value} {i:Nat},RVs C σ h w as vs → i < as.length → RV C σ h w (as.getD i .undef) (vs.getD i Go.undef) ∧ i < vs.length
 | [],_,_,_,h => by simp at h
 | a :: as,vs,0,hr,_ => by
  simp only [RVs] at hr
  obtain ⟨v,vs',rfl,h1,_⟩:=hr
  simpa using h1
 | a :: as,vs,i + 1,hr,hi => by
  simp only [RVs] at hr
  obtain ⟨v,vs',rfl,_,h2⟩:=hr
  have:=RVs.get h2 (i:=i) (by simpa using hi)
  simpa using this
theorem RVs.length:∀ {as:List AV} {vs:List Value},RVs C σ h w as vs → vs.length = as.length
 | [],_,hr => by simp only [RVs] at hr; simp [hr]
 | a :: as,vs,hr => by
  simp only [RVs] at hr
  obtain ⟨v,vs',rfl,_,h2⟩:=hr
  simp [RVs.length h2]
theorem RVs.take:∀ {as:List AV} {vs:List Value} (n:Nat),RVs C σ h w as vs → RVs C σ h w (as.take n) (vs.take n)
 | [],_,n,hr => by simp only [RVs] at hr; simp [hr,RVs]
 | a :: as,vs,0,hr => by simp [RVs]
 | a :: as,vs,n + 1,hr => by
  simp only [RVs] at hr
  obtain ⟨v,vs',rfl,h1,h2⟩:=hr
  simp only [List.take_succ_cons,RVs]
  exact ⟨v,_,rfl,h1,RVs.take n h2⟩
theorem RVs.drop:∀ {as:List AV} {vs:List Value} (n:Nat),RVs C σ h w as vs → RVs C σ h w (as.drop n) (vs.drop n)
 | [],_,n,hr => by simp only [RVs] at hr; simp [hr,RVs]
 | a :: as,vs,0,hr => by simpa using hr
 | a :: as,vs,n + 1,hr => by
  simp only [RVs] at hr
  obtain ⟨v,vs',rfl,h1,h2⟩:=hr
  simpa using RVs.drop n h2
theorem RVs.append:∀ {as bs:List AV} {vs us:List Value},RVs C σ h w as vs → RVs C σ h w bs us → RVs C σ h w (as ++ bs) (vs ++ us)
 | [],_,_,_,hr,h' => by simp only [RVs] at hr; subst hr; simpa using h'
 | a :: as,bs,vs,us,hr,h' => by
  simp only [RVs] at hr
  obtain ⟨v,vs',rfl,h1,h2⟩:=hr
  simp only [List.cons_append,RVs]
  exact ⟨v,_,rfl,h1,RVs.append h2 h'⟩
theorem RV.cells {a:AV} {v:Value} (hr:RV C σ h w a v) (hs:a6p h a):RVs C σ h w a.cells v.cells.toList:=by
 cases a with
 | undef => simp [a6p] at hs
 | skip => simp [a6p] at hs
 | hdr _ _ _ => simp [a6p] at hs
 | tup as => simp [a6p] at hs
 | agg as =>
  simp only [RV] at hr
  obtain ⟨vs,rfl,hr⟩:=hr
  simpa [AV.cells,Value.cells] using hr
 | int k n => have h0:=hr; simp only [RV] at hr; subst hr; simp only [AV.cells,RVs]; exact ⟨_,[],rfl,h0,rfl⟩
 | bool n => have h0:=hr; simp only [RV] at hr; subst hr; simp only [AV.cells,RVs]; exact ⟨_,[],rfl,h0,rfl⟩
 | str n => have h0:=hr; simp only [RV] at hr; obtain ⟨rfl,_⟩:=hr; simp only [AV.cells,RVs]; exact ⟨_,[],rfl,h0,rfl⟩
 | nil => have h0:=hr; simp only [RV] at hr; subst hr; simp only [AV.cells,RVs]; exact ⟨_,[],rfl,h0,rfl⟩
 | lst z l =>
  have h0:=hr
  simp only [RV] at hr
  obtain ⟨fp,⟨cs,rfl,hr⟩,_⟩:=hr
  obtain ⟨c,rfl,e⟩:=hr.cell rfl
  simp only [Rep] at hr
  have hv:(mkV (.lst z l) [c]).cells.toList = [mkV (.lst z l) [c]]:=by
   rcases hr with ⟨_,_,x,cap,h3,_⟩ | ⟨b,off,cap,cur,e,fz,fps,h1,_⟩
   ·cases h3; rfl
   ·cases h1; rfl
  rw [hv]
  simp only [AV.cells,RVs]
  exact ⟨_,[],rfl,h0,rfl⟩
 | iptr l f =>
  have h0:=hr
  simp only [RV] at hr
  obtain ⟨fp,⟨cs,rfl,hr⟩,_⟩:=hr
  simp only [Rep] at hr
  obtain ⟨b,off,sz,cur,el,fz,fps,h1,_⟩:=hr
  subst h1
  simp only [AV.cells,RVs]
  exact ⟨_,[],rfl,h0,rfl⟩
 | fn f caps =>
  have h0:=hr
  simp only [RV] at hr
  obtain ⟨vs,rfl,hr⟩:=hr
  simp only [AV.cells,RVs]
  exact ⟨_,[],rfl,h0,rfl⟩
 | own o lo n =>
  have h0:=hr
  simp only [RV] at hr
  simp only [a6p] at hs
  cases ho:h[o]? with
  | none => simp [ho] at hs
  | some x =>
   cases x with
   | dead => simp [ho] at hs
   | map _ => simp [ho] at hs
   | box sz y => simp [ho] at hs
   | rowx sz l i el => simp [ho] at hs
   | row sz l =>
    simp only [ho] at hr
    obtain ⟨a,cap,rfl,_⟩:=hr
    simp only [AV.cells,RVs]
    exact ⟨_,[],rfl,h0,rfl⟩
 | ptr o i f =>
  have h0:=hr
  simp only [RV] at hr
  simp only [a6p] at hs
  cases ho:h[o]? with
  | none => simp [ho] at hs
  | some x =>
   cases x with
   | dead => simp [ho] at hs
   | map _ => simp [ho] at hs
   | box sz y =>
    simp only [ho] at hr
    obtain ⟨_,g,c,_,rfl⟩:=hr
    simp only [AV.cells,RVs]
    exact ⟨_,[],rfl,h0,rfl⟩
   | rowx sz l j el => simp [ho] at hs
   | row sz l =>
    simp only [ho] at hr
    obtain ⟨_,g,c,_,rfl⟩:=hr
    simp only [AV.cells,RVs]
    exact ⟨_,[],rfl,h0,rfl⟩
theorem d6r {el:AV} {f sz:Nat} {ag:Bool} {cs:List Value} (hr:RVs C σ h w el.cells cs) (hp:ldP el f sz ag) :
  (ag = true → f + sz ≤ cs.length) ∧ (ag = false → f < cs.length) ∧
  RV C σ h w (ldV el f sz ag) (match ag with | true => .agg ((cs.drop f).take sz).toArray | false => cs.getD f Go.undef):=by
 have hlen:=RVs.length hr
 cases el with
 | agg as =>
  simp only [AV.cells] at hr hlen
  cases ag with
  | true =>
   simp only [ldP] at hp
   simp only [ldV,RV]
   exact ⟨fun _ => by omega,by simp,_,rfl,by simpa using (hr.drop f).take sz⟩
  | false =>
   simp only [ldP] at hp
   simp only [ldV]
   have:=hr.get hp
   exact ⟨by simp,fun _ => this.2,this.1⟩
 | undef => simp [ldP] at hp
 | skip => simp [ldP] at hp
 | tup as => simp [ldP] at hp
 | _ =>
  obtain ⟨rfl,rfl⟩:=hp
  simp only [AV.cells,RVs] at hr
  obtain ⟨v,vs',rfl,h1,rfl⟩:=hr
  exact ⟨by simp,by simp,by simpa [ldV] using h1⟩
theorem Rep.rvCells {a:AV} {cs:List Value} {fp:List Nat} (hr:Rep false w a cs fp) (hf:∀ b ∈ fp,C.imm b ∧ ¬ liveAt h σ b) (ht:∀ as,a ≠ AV.tup as):RVs C σ h w a.cells cs:=by
 by_cases hc:a.isCell = true
 ·obtain ⟨c,rfl,e⟩:=hr.cell hc
  have:=Rep.rv (C:=C) (σ:=σ) (h:=h) a _ fp hr hf
  rw [e] at this
  have hcells:a.cells = [a]:=by cases a <;> simp_all [AV.cells,AV.isCell]
  rw [hcells]
  simp only [RVs]
  exact ⟨c,[],rfl,this,rfl⟩
 ·cases a with
  | agg as => simp only [Rep] at hr; exact a0b.rvs as cs fp hr hf
  | tup as => exact absurd rfl (ht as)
  | _ => simp [AV.isCell] at hc
end sound
end Go.R
end
section
set_option linter.all false
namespace Go.R
open Go
theorem addr_add (b off n:Nat):(⟨b,off,none⟩:Addr).add n = ⟨b,off + n,none⟩:=by unfold Addr.add; split <;> simp_all
section sound
variable {P:Program} {C:Ctx} {σ:Sg} {φ:Nat → List Nat} {h:List l7} {w:World} {t:Nat → AV} {ρ:Operand → Value}
theorem c9o {α:Type} (l:List α) (off n f k:Nat) (hk:f + k ≤ ((l.drop off).take n).length):(((l.drop off).take n).drop f).take k = (l.drop (off + f)).take k:=by
 rw [List.length_take] at hk
 rw [List.drop_take,List.drop_drop,List.take_take,Nat.min_eq_left (by omega)]
theorem c9p {α:Type} (l:List α) (off n f:Nat) (d:α) (hk:f < ((l.drop off).take n).length):((l.drop off).take n).getD f d = l.getD (off + f) d:=by
 rw [List.length_take] at hk
 simp only [List.getD_eq_getElem?_getD,List.getElem?_take,List.getElem?_drop]
 rw [if_pos (by omega)]
theorem c9q {ty:TypeId} {sz:Nat} {ag:Bool} {b off n f:Nat} {cur:Array Value} {e:TypeId} {fz:Nat × Nat} {el:AV} (h0:0 < sz) (hs:isz P ty = some sz) (hd:iag P ty = some ag)
  (hg:w.heap[b]? = some (.cells cur e fz)) (hr:RVs C σ h w el.cells ((cur.toList.drop off).take n)) (hp:ldP el f sz ag) :
  ∃ v,(loadVar ty ⟨b,off + f,none⟩).run P w = .ok v w ∧ RV C σ h w (ldV el f sz ag) v:=by
 obtain ⟨h1,h2,h3⟩:=d6r hr hp
 refine ⟨_,d6q hs hd hg (fun ha => ?_) (fun ha => ?_),?_⟩
 ·have:=h1 ha
  rw [List.length_take,List.length_drop,Array.length_toList] at this
  omega
 ·have:=h2 ha
  rw [List.length_take,List.length_drop,Array.length_toList] at this
  omega
 ·cases ag with
  | true => rw [c9o _ _ _ _ _ (h1 rfl)] at h3; exact h3
  | false => rw [c9p _ _ _ _ _ (h2 rfl)] at h3; exact h3
def b9n (a:AV):AV:=match c6k a with
 | true => a
 | false => .undef
def mask:AV → AV
 | .agg cs => .agg (cs.map b9n)
 | a => b9n a
theorem b9o {a:AV} (h:c6k a = true):b9n a = a:=by unfold b9n; rw [h]
theorem d6s {a:AV} {c:Value} {fp:List Nat} (h1:Rep false w a [c] fp):RV C σ h w (b9n a) c:=by
 cases a <;> simp only [b9n,c6k,RV] <;> simp only [Rep,List.cons.injEq,and_true] at h1
 ·exact h1.1
 ·exact h1.1
 ·exact ⟨h1.1,h1.2.1⟩
 ·exact h1.1
 ·exact h1.1
theorem d6t:∀ (as:List AV) (cs:List Value) (fp:List Nat),a0b false w as cs fp → RVs C σ h w (as.map b9n) cs
 | [],cs,fp,hr => by simp only [a0b] at hr; simp [RVs,hr.1]
 | a :: as,cs,fp,hr => by
  simp only [a0b] at hr
  obtain ⟨c,cs',f1,f2,rfl,hc,h1,h2,rfl⟩:=hr
  simp only [List.map_cons,RVs]
  exact ⟨c,cs',rfl,d6s h1,d6t as cs' f2 h2⟩
theorem d6u (a:AV) (ha:∀ as,a ≠ .agg as):(mask a).cells = [b9n a]:=by
 cases a <;> first | exact absurd rfl (ha _) | rfl
theorem Rep.rvMask {a:AV} {cs:List Value} {fp:List Nat} (hr:Rep false w a cs fp) (ht:∀ as,a ≠ AV.tup as):RVs C σ h w (mask a).cells cs:=by
 cases a with
 | agg as => simp only [Rep] at hr; exact d6t as cs fp hr
 | tup as => exact absurd rfl (ht as)
 | undef => simp only [Rep] at hr
 | skip => simp only [Rep] at hr
 | own _ _ _ => simp only [Rep] at hr
 | ptr _ _ _ => simp only [Rep] at hr
 | _ =>
  obtain ⟨c,rfl,_⟩:=hr.cell rfl
  rw [d6u _ (by intro as he; cases he)]
  simp only [RVs]
  exact ⟨c,[],rfl,d6s hr,rfl⟩
theorem d2x:∀ (as:List AV),as.all c6k = true → as.map b9n = as
 | [],_ => rfl
 | a :: as,h => by
  simp only [List.all_cons,Bool.and_eq_true] at h
  rw [List.map_cons,b9o h.1,d2x as h.2]
theorem e9x {el:AV} {f sz:Nat} {ag:Bool} (hp:ldP el f sz ag) (hh:c9n ag (ldV el f sz ag) = true):ldP (mask el) f sz ag ∧ ldV (mask el) f sz ag = ldV el f sz ag:=by
 cases el with
 | agg as =>
  cases ag with
  | true =>
   simp only [ldP] at hp
   simp only [ldV,c9n] at hh ⊢
   simp only [mask,ldP,List.length_map]
   refine ⟨hp,?_⟩
   rw [← List.map_drop,← List.map_take,d2x _ hh]
  | false =>
   simp only [ldP] at hp
   simp only [ldV,c9n] at hh ⊢
   simp only [mask,ldP,List.length_map]
   refine ⟨hp,?_⟩
   have e1:as.getD f .undef = as[f]:=by simp [hp]
   rw [e1] at hh
   have e2:(as.map b9n).getD f .undef = b9n as[f]:=by simp [hp]
   rw [e1,e2]
   exact b9o hh
 | tup _ => simp [ldP] at hp
 | undef => simp [ldP] at hp
 | skip => simp [ldP] at hp
 | _ =>
  obtain ⟨rfl,rfl⟩:=hp
  simp only [ldV,c9n] at hh
  simp only [mask,b9o hh]
  exact ⟨⟨rfl,rfl⟩,trivial⟩
theorem e0h (hr:o9 C σ φ h w) {ty:TypeId} {sz:Nat} {ag:Bool} (h0:0 < sz) (hs:isz P ty = some sz) (hd:iag P ty = some ag) {av:AV} {v:Value} (hv:RV C σ h w av v)
  (hp:aqP (.load sz ag (.c av)) (AX.ev t) h) (hmm:mmP C.mm (.load sz ag (.c av)) (AX.ev t) h):∃ u,(Instr.loadAt ty v).run P w = .ok u w ∧ RV C σ h w (aqV (.load sz ag (.c av)) (AX.ev t) h) u:=by
 simp only [aqP,aqV,AX.ev] at hp ⊢
 cases av with
 | iptr el f =>
  simp only at hp ⊢
  simp only [RV] at hv
  obtain ⟨fp,⟨cs,rfl,hrep⟩,hf⟩:=hv
  simp only [Rep] at hrep
  obtain ⟨b,off,n,cur,e,fz,fps,rfl,hg,rfl,hl,hel⟩:=hrep
  have hne:∀ as,el ≠ AV.tup as:=by intro as he; subst he; simp [ldP] at hp
  have:=hel.rvCells (C:=C) (σ:=σ) (h:=h) (fun x hx => hf x (by simp [hx])) hne
  obtain ⟨u,h1,h2⟩:=c9q (P:=P) h0 hs hd hg this hp
  exact ⟨u,by simpa [Instr.loadAt,mkV,Instr.sureAddr] using h1,h2⟩
 | ptr o i f =>
  simp only at hp ⊢
  simp only [RV] at hv
  cases ho:h[o]? with
  | none => simp [ho] at hv
  | some x =>
   cases x with
   | dead => simp [ho] at hp
   | map _ => simp [ho] at hp
   | box k y =>
    simp only [ho] at hv hp ⊢
    obtain ⟨rfl,g,c,hσ,rfl⟩:=hv
    obtain ⟨g',cur,e,hσ',hg,hcs,hrv⟩:=hr.obj o _ ho
    rw [hσ] at hσ'
    cases hσ'
    obtain ⟨u,h1,h2⟩:=c9q (P:=P) (off:=0) (n:=cur.size) h0 hs hd hg (by rw [List.drop_zero,List.take_of_length_le (by simp)]; exact hrv) hp
    exact ⟨u,by simpa [Instr.loadAt,Instr.sureAddr] using h1,h2⟩
   | rowx k l j el =>
    simp only [ho] at hv hp ⊢
    obtain ⟨hi,g,c,hσ,rfl⟩:=hv
    obtain ⟨rfl,hp⟩:=hp
    obtain ⟨hk,_,_,g',c',cur,e,f1,f2,k1,k2,k3,k4,k5,k6,k7,k7',k8,k9⟩:=hr.obj o _ ho
    rw [hσ] at k1
    cases k1
    obtain ⟨u,h1,h2⟩:=c9q (P:=P) h0 hs hd k3 k6 hp
    exact ⟨u,by simpa [Instr.loadAt,Instr.sureAddr] using h1,h2⟩
   | row k l =>
    simp only [ho] at hv hp ⊢
    obtain ⟨hi,g,c,hσ,rfl⟩:=hv
    obtain ⟨hk,hob⟩:=hr.obj o _ ho
    rw [hσ] at hob
    obtain ⟨_,cur,e,hg,hcs,hrep,hf⟩:=hob
    obtain ⟨f1,g1,g2,g3⟩:=hrep.get (i:=i) (a:=l.getD i .undef) (by simp [hi])
    have hne:∀ as,l.getD i .undef ≠ AV.tup as:=by intro as he; rw [he] at hp; simp [ldP] at hp
    cases hm:C.mm with
    | false =>
     have:=(Rep.weak _ _ _ g1).rvCells (C:=C) (σ:=σ) (h:=h) (fun x hx => ⟨⟨(hf x (g2 x hx)).1,fun hm' => by rw [hm] at hm'; cases hm'⟩,(hf x (g2 x hx)).2⟩) hne
     obtain ⟨u,h1,h2⟩:=c9q (P:=P) h0 hs hd hg this hp
     exact ⟨u,by simpa [Instr.loadAt,Instr.sureAddr] using h1,h2⟩
    | true =>
     rw [hm] at hmm
     simp only [mmP,mmT,AX.ev,ho] at hmm
     have:=(Rep.weak _ _ _ g1).rvMask (C:=C) (σ:=σ) (h:=h) hne
     obtain ⟨m1,m2⟩:=e9x hp hmm
     obtain ⟨u,h1,h2⟩:=c9q (P:=P) h0 hs hd hg this m1
     rw [m2] at h2
     exact ⟨u,by simpa [Instr.loadAt,Instr.sureAddr] using h1,h2⟩
 | _ => exact hp.elim
theorem d6v {s f off sz:Nat} {ag:Bool} (hf:fld P s f = some (off,sz,ag)) :
  ∃ fs fl,P.underlying s = some (.struct fs) ∧ fs[f]? = some fl ∧ fl.offset = off ∧ isz P fl.type = some sz ∧ iag P fl.type = some ag ∧ sz ≠ 0:=by
 unfold fld at hf
 split at hf
 ·rename_i fs hfs
  split at hf
  ·rename_i fl hfl
   split at hf
   ·rename_i n ag' h1 h2
    simp only [Option.some.injEq,Prod.mk.injEq] at hf
    obtain ⟨rfl,rfl,rfl⟩:=hf
    exact ⟨fs,fl,hfs,hfl,rfl,h1,h2,by simp⟩
   ·cases hf
  ·cases hf
 ·cases hf
theorem d6w {s f off sz:Nat} {ag:Bool} (hf:fld P s f = some (off,sz,ag)) {av:AV} {v:Value} (hv:RV C σ h w av v) (hp:aqP (.faddr off (.c av)) (AX.ev t) h) :
  ∃ u,(Instr.fieldAt s v f).run P w = .ok u w ∧ RV C σ h w (aqV (.faddr off (.c av)) (AX.ev t) h) u:=by
 obtain ⟨fs,fl,h1,h2,rfl,h4,h5,h6⟩:=d6v hf
 have key:∀ a:Addr,v = .pointer (some a) → (Instr.fieldAt s v f).run P w = .ok (.pointer (some (a.add fl.offset))) w:=by
  intro a ha
  subst ha
  simp [Instr.fieldAt,run_underlying h1,h2,Instr.sureAddr,fieldPlace,run_sizeOf h4,h6]
 simp only [aqP,aqV,AX.ev] at hp ⊢
 cases av with
 | iptr el f0 =>
  simp only [RV] at hv ⊢
  obtain ⟨fp,⟨cs,rfl,hrep⟩,hfp⟩:=hv
  simp only [Rep] at hrep
  obtain ⟨b,o,n,cur,e,fz,fps,rfl,hg,rfl,hl,hel⟩:=hrep
  refine ⟨_,key _ rfl,b :: fps,⟨[.pointer (some ⟨b,o + (f0 + fl.offset),none⟩)],?_,?_⟩,hfp⟩
  ·rw [addr_add]; simp [mkV,Nat.add_assoc]
  ·simp only [Rep]
   exact ⟨b,o,n,cur,e,fz,fps,rfl,hg,rfl,hl,hel⟩
 | ptr o i f0 =>
  simp only at hp ⊢
  simp only [RV] at hv ⊢
  cases ho:h[o]? with
  | none => simp [ho] at hv
  | some x =>
   cases x with
   | dead => simp [ho] at hp
   | map _ => simp [ho] at hp
   | box k y =>
    simp only [ho] at hv
    obtain ⟨rfl,g,c,hσ,rfl⟩:=hv
    exact ⟨_,key _ rfl,by simp,g,c,hσ,by rw [addr_add]⟩
   | row k l =>
    simp only [ho] at hv
    obtain ⟨hi,g,c,hσ,rfl⟩:=hv
    exact ⟨_,key _ rfl,hi,g,c,hσ,by rw [addr_add,Nat.add_assoc]⟩
   | rowx k l j el =>
    simp only [ho] at hv
    obtain ⟨hi,g,c,hσ,rfl⟩:=hv
    exact ⟨_,key _ rfl,hi,g,c,hσ,by rw [addr_add,Nat.add_assoc]⟩
 | _ => exact hp.elim
theorem e5z {ty:TypeId} {sz off:Nat} {ag:Bool} {vs:Array Value} (hs:isz P ty = some sz) (hd:iag P ty = some ag) (h1:ag = true → off + sz ≤ vs.toList.length) (h2:ag = false → off < vs.toList.length) :
  (part ty vs off).run P w = .ok (match ag with | true => .agg ((vs.toList.drop off).take sz).toArray | false => vs.toList.getD off Go.undef) w:=by
 cases ag with
 | true =>
  have e:vs.extract off (off + sz) = ((vs.toList.drop off).take sz).toArray:=by
   apply Array.toList_inj.1
   simp [Array.toList_extract,List.extract]
  simp [part,b6q hd,run_sizeOf hs,e]
 | false =>
  have hlt:=h2 rfl
  simp only [Array.length_toList] at hlt
  simp [part,b6q hd,hlt]
theorem d6x {s f off sz:Nat} {ag:Bool} (hf:fld P s f = some (off,sz,ag)) {av:AV} {v:Value} (hv:RV C σ h w av v) (hp:aqP (.field off sz ag (.c av)) (AX.ev t) h) :
  ∃ u,(Instr.field s v f).run P w = .ok u w ∧ RV C σ h w (aqV (.field off sz ag (.c av)) (AX.ev t) h) u:=by
 obtain ⟨fs,fl,h1,h2,rfl,h4,h5,h6⟩:=d6v hf
 simp only [aqP,aqV,AX.ev] at hp ⊢
 cases av with
 | agg as =>
  simp only [RV] at hv
  obtain ⟨vs,rfl,hv⟩:=hv
  obtain ⟨g1,g2,g3⟩:=d6r (el:=.agg as) (by simpa [AV.cells] using hv) hp
  have h7:=e5z (P:=P) (w:=w) h4 h5 g1 g2
  refine ⟨_,?_,g3⟩
  simp only [Instr.field,Sem.run_bind,run_underlying h1,Result.andThen_ok,h2,asAgg,Sem.run_pure]
  rw [h7]
  cases ag <;> rfl
 | _ => exact hp.elim
theorem d6y (hr:o9 C σ φ h w) {ty e:TypeId} {sz:Nat} (ht:P.underlying ty = some (.slice e)) (hs:isz P e = some sz) {av ai:AV} {v u:Value} (hv:RV C σ h w av v) (hi:RV C σ h w ai u)
  (hp:aqP (.iaddr sz (.c av) (.c ai)) (AX.ev t) h):∃ x,(Instr.indexAt ty v u).run P w = .ok x w ∧ RV C σ h w (aqV (.iaddr sz (.c av) (.c ai)) (AX.ev t) h) x:=by
 simp only [aqP,aqV,AX.ev] at hp ⊢
 cases ai with
 | int k n =>
  simp only [RV] at hi
  subst hi
  cases av with
  | lst z l =>
   simp only at hp ⊢
   obtain ⟨hp,rfl⟩:=hp
   have hn:n.toNat < l.length:=by omega
   simp only [RV] at hv ⊢
   obtain ⟨fp,⟨cs,rfl,hrep⟩,hf⟩:=hv
   simp only [Rep] at hrep
   rcases hrep with ⟨h1,_⟩ | ⟨b,off,cap,cur,el,fz,fps,rfl,h2,h3,h4,h5,rfl,h7,h8⟩
   ·subst h1; simp at hn
   ·obtain ⟨f1,g1,g2,g3⟩:=h8.get (i:=n.toNat) (a:=l.getD n.toNat .undef) (by simp [hn])
    rw [List.drop_drop] at g1 g3
    refine ⟨.pointer (some ⟨b,off + n.toNat * z,none⟩),?_,b :: f1,⟨[.pointer (some ⟨b,off + n.toNat * z + 0,none⟩)],by simp [mkV],?_⟩,?_⟩
    ·simp [Instr.indexAt,asIntOf,run_underlying ht,mkV,run_sizeOf hs,hp.1,hp.2,addr_add]
    ·simp only [Rep]
     exact ⟨b,off + n.toNat * z,z,cur,el,fz,f1,rfl,h4,rfl,g3,g1⟩
    ·intro x hx
     rcases List.mem_cons.1 hx with rfl | hx
     ·exact hf x (by simp)
     ·exact hf x (by simp [g2 x hx])
  | own o lo m =>
   simp only at hp ⊢
   obtain ⟨hn,hp⟩:=hp
   simp only [RV] at hv ⊢
   cases ho:h[o]? with
   | none => simp [ho] at hv
   | some x =>
    cases x with
    | dead => simp [ho] at hp
    | map _ => simp [ho] at hp
    | box k y => simp [ho] at hp
    | row k l =>
     simp only [ho] at hv hp ⊢
     subst hp
     obtain ⟨a,cap,rfl,g1,g2,g3,g4⟩:=hv
     cases hσ:σ o with
     | none => rw [hσ] at g4; omega
     | some p =>
      obtain ⟨g,c⟩:=p
      rw [hσ] at g4
      have ha:=g4.1.resolve_left (by omega)
      subst ha
      refine ⟨.pointer (some ⟨g,lo * k + n.toNat * k,none⟩),?_,by omega,g,c,rfl,by rw [Nat.add_mul]; rfl⟩
      simp [Instr.indexAt,asIntOf,run_underlying ht,run_sizeOf hs,hn.1,hn.2,addr_add]
    | rowx k l j el =>
     simp only [ho] at hv hp ⊢
     subst hp
     obtain ⟨a,cap,rfl,g1,g2,g3,g4⟩:=hv
     cases hσ:σ o with
     | none => rw [hσ] at g4; omega
     | some p =>
      obtain ⟨g,c⟩:=p
      rw [hσ] at g4
      have ha:=g4.1.resolve_left (by omega)
      subst ha
      refine ⟨.pointer (some ⟨g,lo * k + n.toNat * k,none⟩),?_,by omega,g,c,rfl,by rw [Nat.add_mul]; rfl⟩
      simp [Instr.indexAt,asIntOf,run_underlying ht,run_sizeOf hs,hn.1,hn.2,addr_add]
  | _ => exact hp.elim
 | _ => cases av <;> exact hp.elim
end sound
end Go.R
end
section
set_option linter.all false
namespace Go.R
open Go
section sound
variable {P:Program} {C:Ctx} {σ:Sg} {φ:Nat → List Nat} {h:List l7} {w:World} {t:Nat → AV} {ρ:Operand → Value}
theorem e0i {ty:TypeId} (ht:P.underlying ty = some .string) {av ai:AV} {v u:Value} (hv:RV C σ h w av v) (hi:RV C σ h w ai u)
  (hp:aqP (.idxs (.c av) (.c ai)) (AX.ev t) h):∃ x,(Instr.index ty v u).run P w = .ok x w ∧ RV C σ h w (aqV (.idxs (.c av) (.c ai)) (AX.ev t) h) x:=by
 simp only [aqP,aqV,AX.ev] at hp ⊢
 cases ai with
 | int k n =>
  simp only [RV] at hi
  subst hi
  cases av with
  | str s =>
   simp only at hp ⊢
   simp only [RV] at hv ⊢
   obtain ⟨rfl,hs⟩:=hv
   refine ⟨_,?_,rfl⟩
   have hlt:n.toNat < s.length:=by omega
   have e:(⟨s.toArray⟩:ByteArray)[n.toNat]? = some (s.getD n.toNat 0):=by
    have hsz:n.toNat < (⟨s.toArray⟩:ByteArray).size:=by show n.toNat < s.toArray.size; simpa using hlt
    rw [getElem?_pos (⟨s.toArray⟩:ByteArray) n.toNat hsz]
    show some (s.toArray[n.toNat]'(by simpa using hlt)) = _
    simp [hlt]
   simp [Instr.index,asIntOf,run_underlying ht,hp.1,e]
  | _ => exact hp.elim
 | _ => cases av <;> exact hp.elim
theorem e3v {av:AV} {v:Value} (hv:RV C σ h w av v) (hp:aqP (.not (.c av)) (AX.ev t) h) :
  ∃ x,(Op.unary .not v).run P w = .ok x w ∧ RV C σ h w (aqV (.not (.c av)) (AX.ev t) h) x:=by
 simp only [aqP,aqV,AX.ev] at hp ⊢
 cases av with
 | bool b => simp only [RV] at hv; subst hv; exact ⟨_,rfl,by simp [RV]⟩
 | _ => exact hp.elim
theorem e3w {av:AV} {v:Value} (hv:RV C σ h w av v) (hp:aqP (.neg (.c av)) (AX.ev t) h) :
  ∃ x,(Op.unary .neg v).run P w = .ok x w ∧ RV C σ h w (aqV (.neg (.c av)) (AX.ev t) h) x:=by
 simp only [aqP,aqV,AX.ev] at hp ⊢
 cases av with
 | int k n => simp only [RV] at hv; subst hv; exact ⟨_,rfl,by simp [RV]⟩
 | _ => exact hp.elim
theorem d6z {s d:TypeId} {k k':IntKind} (hs:P.underlying s = some (.int k')) (hd:P.underlying d = some (.int k)) {av:AV} {v:Value} (hv:RV C σ h w av v) (hp:aqP (.convI k (.c av)) (AX.ev t) h) :
  ∃ x,(convert s d v).run P w = .ok x w ∧ RV C σ h w (aqV (.convI k (.c av)) (AX.ev t) h) x:=by
 simp only [aqP,aqV,AX.ev] at hp ⊢
 cases av with
 | int k n =>
  simp only [RV] at hv
  subst hv
  exact ⟨_,by simp [convert,run_underlying hs,run_underlying hd,Conv.intToInt]; rfl,by simp [RV]⟩
 | _ => exact hp.elim
theorem d2n {i:Nat} {av:AV} {v:Value} (hv:RV C σ h w av v) (hp:aqP (.extract i (.c av)) (AX.ev t) h) :
  ∃ x,(Instr.extract v i).run P w = .ok x w ∧ RV C σ h w (aqV (.extract i (.c av)) (AX.ev t) h) x:=by
 simp only [aqP,aqV,AX.ev] at hp ⊢
 cases av with
 | tup as =>
  simp only [RV] at hv
  obtain ⟨vs,rfl,hv⟩:=hv
  obtain ⟨g1,g2⟩:=hv.get hp
  refine ⟨_,?_,g1⟩
  simp only [Array.length_toList] at g2
  simp [Instr.extract,g2]
 | _ => exact hp.elim
theorem e3x (hr:o9 C σ φ h w) {ty e:TypeId} (ht:P.underlying ty = some (.slice e)) {av:AV} {v:Value} (rt:TypeId) (hv:RV C σ h w av v) (hp:aqP (.len (.c av)) (AX.ev t) h) :
  ∃ x,(Builtin.len_ #[ty] rt #[v]).run P w = .ok x w ∧ RV C σ h w (aqV (.len (.c av)) (AX.ev t) h) x ∧ aqF (.len (.c av)) (AX.ev t):=by
 have key:∀ a n c,(Builtin.len_ #[ty] rt #[.slice a n c]).run P w = .ok (.int .i64 n) w:=by
  intro a n c
  simp [Builtin.len_,run_underlying ht,goInt]
 simp only [aqP,aqV,aqF,AX.ev] at hp ⊢
 cases av with
 | lst z l =>
  simp only [RV] at hv ⊢
  obtain ⟨fp,⟨cs,rfl,hrep⟩,hf⟩:=hv
  simp only [Rep] at hrep
  rcases hrep with ⟨rfl,_,a,cap,rfl,h3,_⟩ | ⟨b,off,cap,cur,el,fz,fps,rfl,h2,h3,h4,h5,rfl,h7,h8⟩
  ·exact ⟨_,key _ _ _,by simp,by simp⟩
  ·exact ⟨_,key _ _ _,rfl,Nat.le_trans h2 h3⟩
 | nil => simp only [RV] at hv ⊢; subst hv; exact ⟨_,key _ _ _,rfl,trivial⟩
 | own o lo n =>
  simp only at hp ⊢
  simp only [RV] at hv ⊢
  cases ho:h[o]? with
  | none => simp [ho] at hp
  | some x =>
   cases x with
   | dead => simp [ho] at hp
   | map _ => simp [ho] at hp
   | box k y => simp [ho] at hp
   | row k l =>
    simp only [ho] at hv
    obtain ⟨a,cap,rfl,g1,g2,g3,g4⟩:=hv
    exact ⟨_,key _ _ _,rfl,Nat.le_trans g2 g3⟩
   | rowx k l j el =>
    simp only [ho] at hv
    obtain ⟨a,cap,rfl,g1,g2,g3,g4⟩:=hv
    exact ⟨_,key _ _ _,rfl,Nat.le_trans g2 g3⟩
 | _ => exact hp.elim
theorem e0j {ty:TypeId} (ht:P.underlying ty = some .string) {av:AV} {v:Value} (rt:TypeId) (hv:RV C σ h w av v) (hp:aqP (.lenS (.c av)) (AX.ev t) h) :
  ∃ x,(Builtin.len_ #[ty] rt #[v]).run P w = .ok x w ∧ RV C σ h w (aqV (.lenS (.c av)) (AX.ev t) h) x ∧ aqF (.lenS (.c av)) (AX.ev t):=by
 simp only [aqP,aqV,aqF,AX.ev] at hp ⊢
 cases av with
 | str s =>
  simp only [RV] at hv ⊢
  obtain ⟨rfl,hs⟩:=hv
  refine ⟨.int .i64 s.length,?_,rfl,hs⟩
  have:(⟨s.toArray⟩:ByteArray).size = s.length:=by show s.toArray.size = _; simp
  simp [Builtin.len_,run_underlying ht,goInt,this]
 | _ => exact hp.elim
theorem run_sliceBound {x:Int} {k:IntKind} {y:Nat} {code:BoundsCode} (h0:0 ≤ x) (h1:x ≤ y):(Instr.sliceBound (.int k x) y code).run P w = .ok x.toNat w:=by
 simp [Instr.sliceBound,asIntOf,h0,h1]
theorem b6u {C:Ctx} {σ:Sg} {h:List l7} (isS:Bool) {lo hi:Option AV} {vlo vhi:Option Value} {len cap:Nat} (hlc:len ≤ cap)
  (hlo:∀ a,lo = some a → ∃ v,vlo = some v ∧ RV C σ h w a v) (hlo':lo = none → vlo = none) (hhi:∀ a,hi = some a → ∃ v,vhi = some v ∧ RV C σ h w a v) (hhi':hi = none → vhi = none)
  (hp:d2m (lo.getD (.int .i64 0)) (hi.getD (.int .i64 len)) len) :
  ∃ (k k':IntKind) (a b:Int),lo.getD (.int .i64 0) = .int k a ∧ hi.getD (.int .i64 len) = .int k' b ∧ 0 ≤ a ∧ a ≤ b ∧ b ≤ len ∧
   (Instr.sliceBounds isS len cap vlo vhi none).run P w = .ok (a.toNat,b.toNat,cap) w:=by
 cases hl:lo.getD (.int .i64 0) with
 | int k a =>
  cases hh:hi.getD (.int .i64 len) with
  | int k' b =>
   rw [hl,hh] at hp
   simp only [d2m] at hp
   obtain ⟨h1,h2,h3⟩:=hp
   refine ⟨k,k',a,b,rfl,rfl,h1,h2,h3,?_⟩
   have hb:(∃ v,vhi = some v ∧ v = .int k' b) ∨ (vhi = none ∧ b = len):=by
    cases hi with
    | none => right; simp at hh; exact ⟨hhi' rfl,hh.2.symm⟩
    | some x => left; obtain ⟨v,g1,g2⟩:=hhi x rfl; simp at hh; subst hh; simp only [RV] at g2; exact ⟨v,g1,g2⟩
   have ha:(∃ v,vlo = some v ∧ v = .int k a) ∨ (vlo = none ∧ a = 0):=by
    cases lo with
    | none => right; simp at hl; exact ⟨hlo' rfl,hl.2.symm⟩
    | some x => left; obtain ⟨v,g1,g2⟩:=hlo x rfl; simp at hl; subst hl; simp only [RV] at g2; exact ⟨v,g1,g2⟩
   have e1:b ≤ (cap:Int):=by omega
   have e2:a ≤ (b.toNat:Int):=by omega
   have e3:0 ≤ b:=by omega
   have e4:∀ c:BoundsCode,(Instr.sliceBound (.int k' b) cap c).run P w = .ok b.toNat w:=fun c => run_sliceBound e3 e1
   have e5:∀ c:BoundsCode,(Instr.sliceBound (.int k a) b.toNat c).run P w = .ok a.toNat w:=fun c => run_sliceBound h1 e2
   rcases hb with ⟨_,rfl,rfl⟩ | ⟨rfl,rfl⟩ <;> rcases ha with ⟨_,rfl,rfl⟩ | ⟨rfl,rfl⟩ <;>
    (try simp only [Int.toNat_natCast] at e5) <;> simp [Instr.sliceBounds,e4,e5]
  | _ => rw [hl,hh] at hp; exact hp.elim
 | _ => rw [hl] at hp; exact hp.elim
theorem d4w {ty:TypeId} (ht:P.underlying ty = some .string) {av:AV} {v:Value} {lo hi:Option AV} {vlo vhi:Option Value} (hv:RV C σ h w av v)
  (hlo:∀ a,lo = some a → ∃ v,vlo = some v ∧ RV C σ h w a v) (hlo':lo = none → vlo = none) (hhi:∀ a,hi = some a → ∃ v,vhi = some v ∧ RV C σ h w a v) (hhi':hi = none → vhi = none)
  (hp:c8q av lo hi) (hs:∃ s,av = .str s):∃ x,(Instr.slice ty v vlo vhi none).run P w = .ok x w ∧ RV C σ h w (b6j av lo hi) x:=by
 obtain ⟨s,rfl⟩:=hs
 simp only [RV] at hv
 obtain ⟨rfl,hl⟩:=hv
 simp only [c8q] at hp
 obtain ⟨k,k',a,b,ea,eb,h1,h2,h3,hrun⟩:=b6u (P:=P) (isS:=false) (Nat.le_refl _) hlo hlo' hhi hhi' hp
 have hsz:(⟨s.toArray⟩:ByteArray).size = s.length:=by show s.toArray.size = _; simp
 refine ⟨.string ⟨((s.drop a.toNat).take (b.toNat - a.toNat)).toArray⟩,?_,?_⟩
 ·have e:(⟨s.toArray⟩:ByteArray).extract a.toNat b.toNat = ⟨((s.drop a.toNat).take (b.toNat - a.toNat)).toArray⟩:=by
   apply ByteArray.ext
   rw [ByteArray.data_extract]
   apply Array.toList_inj.1
   simp [List.extract]
  simp [Instr.slice,run_underlying ht,hsz,hrun,e]
 ·have hlen:((s.drop a.toNat).take (b.toNat - a.toNat)).length ≤ maxLen:=by rw [List.length_take,List.length_drop]; omega
  have goal:b6j (.str s) lo hi = .str ((s.drop a.toNat).take (b.toNat - a.toNat)):=by
   cases lo with
   | none =>
    simp at ea
    cases hi with
    | none => simp at eb; simp [b6j,← ea.2,← eb.2]
    | some x => simp at eb; subst eb; simp [b6j,← ea.2]
   | some x =>
    simp at ea
    subst ea
    cases hi with
    | none =>
     simp at eb
     simp only [b6j,← eb.2,Int.toNat_natCast]
     rw [List.take_of_length_le (by rw [List.length_drop]; exact Nat.le_refl _)]
    | some y => simp at eb; subst eb; simp [b6j]
  rw [goal]
  simp only [RV]
  exact ⟨by simp,hlen⟩
theorem d7a (hr:o9 C σ φ h w) {ty e:TypeId} {sz:Nat} (ht:P.underlying ty = some (.slice e)) (hs:isz P e = some sz) {av:AV} {v:Value} {lo hi:Option AV} {vlo vhi:Option Value} (hv:RV C σ h w av v)
  (hlo:∀ a,lo = some a → ∃ v,vlo = some v ∧ RV C σ h w a v) (hlo':lo = none → vlo = none) (hhi:∀ a,hi = some a → ∃ v,vhi = some v ∧ RV C σ h w a v) (hhi':hi = none → vhi = none)
  (hp:c8q av lo hi ∧ e0g h sz av):∃ x,(Instr.slice ty v vlo vhi none).run P w = .ok x w ∧ RV C σ h w (b6j av lo hi) x:=by
 obtain ⟨hp,hz⟩:=hp
 unfold e0g at hz
 have key:∀ (ad:Option Addr) (len cap:Nat) (a b:Int),(Instr.sliceBounds true len cap vlo vhi none).run P w = .ok (a.toNat,b.toNat,cap) w →
   (Instr.slice ty (.slice ad len cap) vlo vhi none).run P w = .ok (.slice (if cap = a.toNat then ad else ad.map (·.add (a.toNat * sz))) (b.toNat - a.toNat) (cap - a.toNat)) w:=by
  intro ad len cap a b hrun
  simp [Instr.slice,run_underlying ht,hrun,run_sizeOf hs]
 cases av with
 | lst z l =>
  simp only at hz
  subst hz
  simp only [c8q] at hp
  simp only [RV] at hv
  obtain ⟨fp,⟨cs,rfl,hrep⟩,hf⟩:=hv
  have goal:∀ (a b:Int) (k k':IntKind),lo.getD (.int .i64 0) = .int k a → hi.getD (.int .i64 l.length) = .int k' b → b6j (.lst z l) lo hi = .lst z ((l.drop a.toNat).take (b.toNat - a.toNat)):=by
   intro a b k k' ea eb
   cases lo with
   | none =>
    simp at ea
    cases hi with
    | none => simp at eb; simp [b6j,← ea.2,← eb.2]
    | some x => simp at eb; subst eb; simp [b6j,← ea.2]
   | some x =>
    simp at ea
    subst ea
    cases hi with
    | none =>
     simp at eb
     simp only [b6j,← eb.2,Int.toNat_natCast]
     rw [List.take_of_length_le (by rw [List.length_drop]; exact Nat.le_refl _)]
    | some y => simp at eb; subst eb; simp [b6j]
  simp only [Rep] at hrep
  rcases hrep with ⟨rfl,rfl,ad,cap,rfl,h3,_⟩ | ⟨b',off,cap,cur,el,fz,fps,rfl,g2,g3,g4,g5,rfl,g7,g8⟩
  ·obtain ⟨k,k',a,b,ea,eb,h1,h2,h3',hrun⟩:=b6u (P:=P) (isS:=true) (cap:=cap) (Nat.zero_le _) hlo hlo' hhi hhi' hp
   refine ⟨_,by simpa [mkV] using key ad 0 cap a b hrun,?_⟩
   rw [goal a b k k' ea eb]
   simp only [RV]
   have hb0:b.toNat - a.toNat = 0:=by simp at h3'; omega
   rw [hb0]
   refine ⟨[],⟨[.slice (if cap = a.toNat then ad else ad.map (·.add (a.toNat * z))) 0 (cap - a.toNat)],by simp [mkV],?_⟩,by simp⟩
   simp only [Rep]
   exact .inl ⟨by simp,by simp,_,_,rfl,by omega,by simp⟩
  ·obtain ⟨k,k',a,b,ea,eb,h1,h2,h3',hrun⟩:=b6u (P:=P) (isS:=true) (cap:=cap) g2 hlo hlo' hhi hhi' hp
   refine ⟨_,by simpa [mkV] using key _ l.length cap a b hrun,?_⟩
   rw [goal a b k k' ea eb]
   simp only [RV]
   by_cases hb0:b.toNat - a.toNat = 0
   ·rw [hb0]
    refine ⟨[],⟨[.slice (if cap = a.toNat then (some ⟨b',off,none⟩) else (some (⟨b',off,none⟩:Addr)).map (·.add (a.toNat * z))) 0 (cap - a.toNat)],by simp [mkV],?_⟩,by simp⟩
    simp only [Rep]
    exact .inl ⟨by simp,by simp,_,_,rfl,by omega,by simp⟩
   ·have hne:cap ≠ a.toNat:=by omega
    rw [if_neg hne]
    obtain ⟨f1,f2,e1,r1⟩:=g8.drop a.toNat
    obtain ⟨f3,f4,e2,r2⟩:=r1.take (b.toNat - a.toNat)
    have hlen:((l.drop a.toNat).take (b.toNat - a.toNat)).length = b.toNat - a.toNat:=by rw [List.length_take,List.length_drop]; omega
    refine ⟨b' :: f3,⟨[.slice (some ⟨b',off + a.toNat * z,none⟩) (b.toNat - a.toNat) (cap - a.toNat)],by simp [mkV,addr_add],?_⟩,?_⟩
    ·simp only [Rep]
     refine .inr ⟨b',off + a.toNat * z,cap - a.toNat,cur,el,fz,f3,by rw [hlen],by rw [hlen]; omega,by omega,g4,by simp,rfl,g7,?_⟩
     rw [List.drop_drop] at r2
     exact r2
    ·intro x hx
     rcases List.mem_cons.1 hx with rfl | hx
     ·exact hf x (by simp)
     ·exact hf x (by simp [e1,e2,hx])
 | nil =>
  simp only [c8q] at hp
  simp only [RV] at hv
  subst hv
  obtain ⟨kk,k',a,b,ea,eb,h1,h2,h3,hrun⟩:=b6u (P:=P) (isS:=true) (len:=0) (cap:=0) (Nat.le_refl _) hlo hlo' hhi hhi' hp
  refine ⟨_,key none 0 0 a b hrun,?_⟩
  have ha:a.toNat = 0:=by simp at h3; omega
  have hb:b.toNat = 0:=by simp at h3; omega
  rw [ha,hb]
  simp [b6j,RV]
 | own o l0 n =>
  simp only at hz
  simp only [c8q] at hp
  simp only [RV] at hv
  cases ho:h[o]? with
  | none => simp [ho] at hz
  | some x =>
   cases x with
   | dead => simp [ho] at hz
   | map _ => simp [ho] at hz
   | box k y => simp [ho] at hz
   | rowx k l j el => simp [ho] at hz
   | row k l =>
    simp only [ho] at hv hz
    subst hz
    obtain ⟨ad,cap,rfl,g1,g2,g3,g4⟩:=hv
    obtain ⟨kk,k',a,b,ea,eb,h1,h2,h3,hrun⟩:=b6u (P:=P) (isS:=true) g2 hlo hlo' hhi hhi' hp
    refine ⟨_,key ad n cap a b hrun,?_⟩
    have goal:b6j (.own o l0 n) lo hi = .own o (l0 + a.toNat) (b.toNat - a.toNat):=by
     cases lo with
     | none =>
      simp at ea
      cases hi with
      | none => simp at eb; simp [b6j,← ea.2,← eb.2]
      | some x => simp at eb; subst eb; simp [b6j,← ea.2]
     | some x =>
      simp at ea
      subst ea
      cases hi with
      | none => simp at eb; simp [b6j,← eb.2]
      | some y => simp at eb; subst eb; simp [b6j]
    rw [goal]
    simp only [RV,ho]
    refine ⟨_,_,rfl,by omega,by omega,by omega,?_⟩
    cases hσ:σ o with
    | none =>
     rw [hσ] at g4
     obtain ⟨rfl,rfl⟩:=g4
     simp
    | some p =>
     obtain ⟨g,c⟩:=p
     rw [hσ] at g4
     simp only
     constructor
     ·by_cases hb0:b.toNat - a.toNat = 0
      ·exact .inl hb0
      ·right
       have hne:cap ≠ a.toNat:=by omega
       rw [if_neg hne,g4.1.resolve_left (by omega)]
       simp [addr_add,Nat.add_mul]
     ·intro hlo0
      have hl0:l0 = 0:=by omega
      have ha0:a.toNat = 0:=by omega
      obtain ⟨e1,e2⟩:=g4.2 hl0
      subst e1 e2
      rw [ha0]
      constructor
      ·split
       ·rfl
       ·simp [addr_add]
      ·omega
 | _ => exact hz.elim
theorem c9r (mx:Bool) {a1 a2:AV} {v1 v2:Value} (h1:RV C σ h w a1 v1) (h2:RV C σ h w a2 v2) (hp:aqP (.mnmx mx (.c a1) (.c a2)) (AX.ev t) h) :
  ∃ x,(match mx with | true => Builtin.max_ #[] 0 #[v1,v2] | false => Builtin.min_ #[] 0 #[v1,v2]).run P w = .ok x w ∧ RV C σ h w (aqV (.mnmx mx (.c a1) (.c a2)) (AX.ev t) h) x:=by
 simp only [aqP,aqV,AX.ev] at hp ⊢
 cases a1 with
 | int k n =>
  cases a2 with
  | int k' n' =>
   simp only [RV] at h1 h2
   subst h1 h2
   simp only at hp
   subst hp
   cases mx with
   | true => exact ⟨.int k (if n' > n then n' else n),by simp [Builtin.max_,Builtin.max2],by simp [RV]⟩
   | false => exact ⟨.int k (if n' < n then n' else n),by simp [Builtin.min_,Builtin.min2],by simp [RV]⟩
  | _ => exact hp.elim
 | _ => cases a2 <;> exact hp.elim
theorem d7b {av:AV} {v:Value} (hv:RV C σ h w av v) (hp:aqP (.nilck (.c av)) (AX.ev t) h) :
  (∃ a,v = .pointer (some a)) ∨ ∃ f vs,v = .func (.func f) #[] vs:=by
 simp only [aqP,AX.ev] at hp
 cases av with
 | iptr el f =>
  simp only [RV] at hv
  obtain ⟨fp,⟨cs,rfl,hrep⟩,hf⟩:=hv
  simp only [Rep] at hrep
  obtain ⟨b,off,n,cur,e,fz,fps,rfl,_⟩:=hrep
  exact .inl ⟨_,rfl⟩
 | fn f caps =>
  simp only [RV] at hv
  obtain ⟨vs,rfl,_⟩:=hv
  exact .inr ⟨_,_,rfl⟩
 | ptr o i f =>
  simp only at hp
  simp only [RV] at hv
  cases ho:h[o]? with
  | none => simp [ho] at hv
  | some x =>
   cases x with
   | dead => simp [ho] at hp
   | map _ => simp [ho] at hp
   | box k y => simp only [ho] at hv; obtain ⟨_,g,c,_,rfl⟩:=hv; exact .inl ⟨_,rfl⟩
   | row k y => simp only [ho] at hv; obtain ⟨_,g,c,_,rfl⟩:=hv; exact .inl ⟨_,rfl⟩
   | rowx k y j el => simp only [ho] at hv; obtain ⟨_,g,c,_,rfl⟩:=hv; exact .inl ⟨_,rfl⟩
 | _ => exact hp.elim
theorem e0k (he:a7u C σ h w t ρ) {f:Nat} {ops:List Operand} {xs:List AX} (hx:cxs ops = some xs) :
  RV C σ h w (aqV (.mkfn f xs) (AX.ev t) h) (.func (.func f) #[] (ops.map ρ).toArray):=by
 simp only [aqV,RV]
 exact ⟨_,rfl,by simpa using he.list hx⟩
theorem d4x (s:List UInt8):(⟨s.toArray⟩:ByteArray).toList = s:=by rw [ByteArray.toList_eq]
theorem d4y (a b:List UInt8):(⟨a.toArray⟩:ByteArray) ++ ⟨b.toArray⟩ = ⟨(a ++ b).toArray⟩:=by
 apply ByteArray.ext
 rw [ByteArray.data_append]
 simp
theorem e0l (a:List UInt8):(⟨a.toArray⟩:ByteArray).size = a.length:=by show a.toArray.size = _; simp
theorem c8r (op:BinOp) (xt:TypeId) (x y:Operand) (k:IntKind) (n:Int) (b:Value):(eqGuard op xt x y (.int k n) b).run P w = .ok () w:=by cases op <;> simp [eqGuard]
theorem c3q (op:BinOp) (xt:TypeId) (x y:Operand) (s:ByteArray) (b:Value):(eqGuard op xt x y (.string s) b).run P w = .ok () w:=by cases op <;> simp [eqGuard]
theorem c6m (op:BinOp) (xt:TypeId) (x y:Operand) (s:Bool) (b:Value):(eqGuard op xt x y (.bool s) b).run P w = .ok () w:=by cases op <;> simp [eqGuard]
theorem e9y (op:BinOp) (xt:TypeId) (k k':IntKind) (n n':Int) (hp:d2l op (.int k n) (.int k' n')) :
  ∃ u,(binOp op xt (.int k n) (.int k' n')).run P w = .ok u w ∧ RV C σ h w (c9l op (.int k n) (.int k' n')) u:=by
 cases op <;> first
  | (exact hp.elim)
  | (simp only [d2l] at hp; subst hp; exact ⟨_,by simp [binOp,Op.intArith]; rfl,by simp [RV,c9l]⟩)
  | (simp only [d2l] at hp; subst hp; exact ⟨_,by simp [binOp,Op.intCmp]; rfl,by simp [RV,c9l]⟩)
  | (simp only [d2l] at hp; obtain ⟨rfl,hp⟩:=hp; exact ⟨_,by simp [binOp,Op.intDiv,hp]; rfl,by simp [RV,c9l]⟩)
  | (simp only [d2l] at hp; exact ⟨_,by simp only [binOp,Op.shift,if_neg (Int.not_lt.2 hp)]; rfl,by simp [RV,c9l]⟩)
theorem e9z (op:BinOp) (xt:TypeId) (s s':List UInt8) (hp:d2l op (.str s) (.str s')) :
    ∃ u,(binOp op xt (.string ⟨s.toArray⟩) (.string ⟨s'.toArray⟩)).run P w = .ok u w ∧ RV C σ h w (c9l op (.str s) (.str s')) u:=by
  cases op <;> first
    | (exact hp.elim)
    | (exact ⟨_,by simp only [binOp,Op.stringOp,d4x]; rfl,by simp [RV,c9l]⟩)
    | (simp only [d2l] at hp
       refine ⟨.string ⟨(s ++ s').toArray⟩,?_,by simp only [RV,c9l]; exact ⟨by simp,by simpa using hp⟩⟩
       have hle:¬ (IntKind.i64.max < ((s.length + s'.length:Nat):Int)):=by
         simp only [maxLen] at hp
         have:IntKind.i64.max = 9223372036854775807:=rfl
         omega
       simp only [binOp,Op.stringOp,e0l,d4y,gt_iff_lt,if_neg hle]
       rfl)
theorem d2y (ng:Bool) (xt:TypeId) (x y:Operand) (hx:P.underlying xt = some .bool) {a1 a2:AV} {v1 v2:Value} (h1:RV C σ h w a1 v1) (h2:RV C σ h w a2 v2) (hp:aqP (.eqB ng (.c a1) (.c a2)) (AX.ev t) h) :
  ∃ u,(do eqGuard (match ng with | true => .neq | false => .eql) xt x y v1 v2; binOp (match ng with | true => .neq | false => .eql) xt v1 v2:Sem Value).run P w = .ok u w ∧ RV C σ h w (aqV (.eqB ng (.c a1) (.c a2)) (AX.ev t) h) u:=by
 simp only [aqP,aqV,AX.ev] at hp ⊢
 cases a1 with
 | bool b =>
  cases a2 with
  | bool b' =>
   simp only [RV] at h1 h2
   subst h1 h2
   have hq:=run_equalIn_bool' (P:=P) w 9999 xt b b' hx
   simp only [Sem.run_bind,c6m,Result.andThen_ok]
   cases ng with
   | true => refine ⟨.bool !(b == b'),?_,by simp [RV]⟩; simp only [binOp]; simp [Op.equal,Op.maxDepth,hq]
   | false => refine ⟨.bool (b == b'),?_,by simp [RV]⟩; simp only [binOp]; simp [Op.equal,Op.maxDepth,hq]
  | _ => exact hp.elim
 | _ => cases a2 <;> exact hp.elim
theorem d2z {op:BinOp} {xt:TypeId} {x y:Operand} {a1 a2:AV} {v1 v2:Value} (h1:RV C σ h w a1 v1) (h2:RV C σ h w a2 v2) (hp:d2l op a1 a2) :
  ∃ u,(do eqGuard op xt x y v1 v2; binOp op xt v1 v2:Sem Value).run P w = .ok u w ∧ RV C σ h w (c9l op a1 a2) u:=by
 cases a1 with
 | int k n =>
  cases a2 with
  | int k' n' =>
   simp only [RV] at h1 h2
   subst h1 h2
   simp only [Sem.run_bind,c8r,Result.andThen_ok]
   exact e9y op xt k k' n n' hp
  | _ => cases op <;> exact hp.elim
 | str s =>
  cases a2 with
  | str s' =>
   simp only [RV] at h1 h2
   obtain ⟨rfl,hs⟩:=h1
   obtain ⟨rfl,hs'⟩:=h2
   simp only [Sem.run_bind,c3q,Result.andThen_ok]
   exact e9z op xt s s' hp
  | _ => cases op <;> exact hp.elim
 | _ => cases op <;> cases a2 <;> exact hp.elim
end sound
end Go.R
end
section
set_option linter.all false
namespace Go.R
open Go
section sound
variable {P:Program} {C:Ctx} {σ:Sg} {φ:Nat → List Nat} {h:List l7} {w:World} {t:Nat → AV} {ρ:Operand → Value}
theorem e0m {ty:TypeId} {k:Nat} (hp:c6l P ty = some k):iag P ty = some false:=by
 unfold c6l at hp
 unfold iag
 split at hp <;> simp_all
theorem d7c (d:Nat) {ty:TypeId} {k:Nat} (hk:c6l P ty = some k) {a b:AV} {v u:Value} (hv:RV C σ h w a v) (hu:RV C σ h w b u) (hc:cellP k a b) :
  (Op.equalIn (d + 1) ty v u).run P w = .ok (c6j a b) w:=by
 unfold c6l at hk
 cases a <;> cases b <;> simp only [cellP] at hc <;> simp only [RV] at hv hu
 ·obtain ⟨rfl,rfl⟩:=hc
  subst hv hu
  split at hk <;> rename_i hty <;> simp at hk
  simp [run_equalIn_int w d ty _ _ _ _ hty,c6j]
 ·subst hc hv hu
  split at hk <;> rename_i hty <;> simp at hk
  simp [run_equalIn_bool' w d ty _ _ hty,c6j]
 ·subst hc
  obtain ⟨rfl,_⟩:=hv
  obtain ⟨rfl,_⟩:=hu
  split at hk <;> rename_i hty <;> simp at hk
  simp [run_equalIn_string w d ty _ _ hty,c6j]
theorem b9p (d:Nat) (vs us:Array Value):∀ (fs:List Field) (n:Nat) (ks:List Nat) (as bs:List AV),b8k P n fs = some ks → c3n ks as bs → RVs C σ h w as (vs.toList.drop n) → RVs C σ h w bs (us.toList.drop n) →
  (Op.eqFields (d + 1) vs us fs).run P w = .ok (c1p as bs) w
 | [],n,ks,as,bs,hf,hc,_,_ => by
  simp only [b8k,Option.some.injEq] at hf
  subst hf
  cases as <;> cases bs <;> first
   | (simp [Op.eqFields,c1p]; done)
   | (simp [c3n] at hc; done)
 | f :: fs,n,ks,as,bs,hf,hc,ha,hb => by
  simp only [b8k] at hf
  cases hk:c6l P f.type with
  | none => simp [hk] at hf
  | some k =>
   cases hks:b8k P (n + 1) fs with
   | none => simp [hk,hks] at hf
   | some ks' =>
    simp only [hk,hks] at hf
    split at hf
    ·rename_i hcond
     simp only [Bool.and_eq_true,bne_iff_ne,ne_eq,beq_iff_eq] at hcond
     obtain ⟨hn,ho⟩:=hcond
     simp only [Option.some.injEq] at hf
     subst hf
     have hag:=e0m hk
     cases as with
     | nil => simp [c3n] at hc
     | cons a as =>
      cases bs with
      | nil => simp [c3n] at hc
      | cons b bs =>
       simp only [c3n] at hc
       simp only [RVs] at ha hb
       obtain ⟨v,vs',e1,hv,hvs⟩:=ha
       obtain ⟨u,us',e2,hu,hus⟩:=hb
       have g1:vs[n]? = some v:=by
        have:=congrArg (fun l => l[0]?) e1
        simpa using this
       have g2:us[n]? = some u:=by
        have:=congrArg (fun l => l[0]?) e2
        simpa using this
       have d1:vs' = vs.toList.drop (n + 1):=by
        have:=congrArg List.tail e1
        simpa using this.symm
       have d2:us' = us.toList.drop (n + 1):=by
        have:=congrArg List.tail e2
        simpa using this.symm
       rw [d1] at hvs
       rw [d2] at hus
       have p1:(part f.type vs f.offset).run P w = .ok v w:=by simp [part,b6q hag,ho,g1]
       have p2:(part f.type us f.offset).run P w = .ok u w:=by simp [part,b6q hag,ho,g2]
       have key:=d7c (P:=P) d hk hv hu hc.1
       have ih:=b9p d vs us fs (n + 1) ks' as bs hks hc.2 hvs hus
       simp only [Op.eqFields,ne_eq,hn,not_false_eq_true,if_true,Sem.run_bind,p1,p2,Result.andThen_ok,key,c1p]
       cases c6j a b <;> simp [ih]
    ·cases hf
theorem d3a (ng:Bool) (xt:TypeId) (x y:Operand) {fs:Array Field} (hx:P.underlying xt = some (.struct fs)) {ks:List Nat} (hks:b8k P 0 fs.toList = some ks)
  (hst:P.stoodInHeld xt = false) (heg:P.eqGuardType P.depth xt = false) {a1 a2:AV} {v1 v2:Value} (h1:RV C σ h w a1 v1) (h2:RV C σ h w a2 v2) (hp:aqP (.eqs ng ks (.c a1) (.c a2)) (AX.ev t) h) :
  ∃ u,(do eqGuard (match ng with | true => .neq | false => .eql) xt x y v1 v2; binOp (match ng with | true => .neq | false => .eql) xt v1 v2:Sem Value).run P w = .ok u w ∧ RV C σ h w (aqV (.eqs ng ks (.c a1) (.c a2)) (AX.ev t) h) u:=by
 simp only [aqP,aqV,AX.ev] at hp ⊢
 cases a1 with
 | agg as =>
  cases a2 with
  | agg bs =>
   simp only [RV] at h1 h2
   obtain ⟨vs,rfl,h1⟩:=h1
   obtain ⟨us,rfl,h2⟩:=h2
   have hfo:P.fieldsOf xt = fs:=by simp [Program.fieldsOf,hx]
   have e:=b9p (P:=P) 9998 vs us fs.toList 0 ks as bs hks hp (by simpa using h1) (by simpa using h2)
   have e':=run_equalIn_agg (P:=P) w 9999 xt vs us (by rw [hfo]; exact hx) hst
   rw [hfo] at e'
   simp only [Nat.reduceAdd] at e e'
   rw [e] at e'
   simp only [Sem.run_bind,run_eqGuard_agg w _ xt x y vs us heg,Result.andThen_ok]
   cases ng with
   | true => rw [run_neq_struct,e']; exact ⟨_,rfl,by simp [RV]⟩
   | false => rw [run_eql_struct,e']; exact ⟨_,rfl,by simp [RV]⟩
  | _ => exact hp.elim
 | _ => cases a2 <;> exact hp.elim
theorem e3y (fs:List Field) (hs:sized P fs = true) :
  (fs.mapM fun f => do pure (f.offset,← sizeOf f.type):Sem (List (Nat × Nat))).run P w = .ok (fs.map fun f => (f.offset,(isz P f.type).getD 0)) w:=by
 induction fs with
 | nil => simp
 | cons f fs ih =>
  simp only [sized,List.all_cons,Bool.and_eq_true] at hs
  obtain ⟨h1,h2⟩:=hs
  obtain ⟨n,hn⟩:=Option.isSome_iff_exists.1 h1
  have ih':=ih h2
  simp only [List.mapM_cons,Sem.run_bind,run_sizeOf hn,Result.andThen_ok,Sem.run_pure,List.map_cons,hn,Option.getD_some]
  rw [ih']
  simp
theorem foldl_set (off:Nat):∀ (us:List Value) (k:Nat) (cs:Array Value),off + k + us.length ≤ cs.size →
  (us.zipIdx k).foldl (fun cs (p:Value × Nat) => cs.setIfInBounds (off + p.2) p.1) cs = (cs.toList.take (off + k) ++ us ++ cs.toList.drop (off + k + us.length)).toArray
 | [],k,cs,_ => by simp
 | u :: us,k,cs,hl => by
  simp only [List.length_cons] at hl
  simp only [List.zipIdx_cons,List.foldl_cons]
  rw [foldl_set off us (k + 1) _ (by simp; omega)]
  apply Array.toList_inj.1
  simp only [Array.toList_setIfInBounds,List.length_cons]
  have e1:(cs.toList.set (off + k) u).take (off + (k + 1)) = cs.toList.take (off + k) ++ [u]:=by
   rw [show off + (k + 1) = off + k + 1 by omega,List.take_succ_eq_append_getElem (by simp; omega),List.take_set_of_le (by omega)]
   simp
  have e2:(cs.toList.set (off + k) u).drop (off + (k + 1) + us.length) = cs.toList.drop (off + k + (us.length + 1)):=by
   rw [List.drop_set_of_lt (by omega)]
   congr 1
   omega
  rw [e1,e2]
  simp
theorem RVs.put {as bs:List AV} {vs us:List Value} (off:Nat) (ha:RVs C σ h w as vs) (hb:RVs C σ h w bs us):RVs C σ h w (putCells as off bs) (vs.take off ++ us ++ vs.drop (off + us.length)):=by
 unfold putCells
 rw [hb.length]
 exact ((ha.take off).append hb).append (ha.drop _)
theorem c9s (fs:Array Field) (he:a7u C σ h w t ρ):∀ (parts:List (Nat × Operand)) (l:List (Nat × Nat × AX)) (zero:List AV) (cs:Array Value),c3p P fs parts = some l → RVs C σ h w zero cs.toList →
  c9m h zero.length (AX.ev t) l →
  ∃ cs',Instr.fill (fun i => (fs.toList.map fun f => (f.offset,(isz P f.type).getD 0))[i]?) cs (parts.map fun (i,x) => (i,ρ x)) = some cs' ∧ RVs C σ h w (c2k zero (AX.ev t) l) cs'.toList
 | [],l,zero,cs,hc,hz,hp => by
  simp only [c3p,Option.some.injEq] at hc
  subst hc
  exact ⟨cs,rfl,by simpa only [c2k] using hz⟩
 | (i,x) :: rest,l,zero,cs,hc,hz,hp => by
  simp only [c3p] at hc
  cases h1:fs[i]? with
  | none => simp [h1] at hc
  | some f =>
   cases h2:cx x with
   | none => simp [h1,h2] at hc
   | some a =>
    cases h3:c3p P fs rest with
    | none => simp [h1,h2,h3] at hc
    | some l' =>
     cases h4:isz P f.type with
     | none => simp [h1,h2,h3,h4] at hc
     | some n =>
      simp only [h1,h2,h3,h4,Option.some.injEq] at hc
      subst hc
      simp only [c9m] at hp
      obtain ⟨⟨p1,p2,p4⟩,p3⟩:=hp
      have hv:=he x a h2
      have hcells:=hv.cells p4
      have hl:=hcells.length
      have hzl:=hz.length
      simp only [Array.length_toList] at hl hzl
      have hplace:(fs.toList.map fun f => (f.offset,(isz P f.type).getD 0))[i]? = some (f.offset,n):=by
       simp [h1,h4]
      have hz':=hz.put f.offset hcells
      obtain ⟨cs',g1,g2⟩:=c9s fs he rest l' (putCells zero f.offset (AX.ev t a).cells) (cs.toList.take f.offset ++ (ρ x).cells.toList ++ cs.toList.drop (f.offset + (ρ x).cells.toList.length)).toArray h3
       (by simpa using hz') (by
        have:(putCells zero f.offset (AX.ev t a).cells).length = zero.length:=by
         unfold putCells
         simp only [List.length_append,List.length_take,List.length_drop]
         omega
        rw [this]; exact p3)
      refine ⟨cs',?_,by simpa only [c2k] using g2⟩
      simp only [List.map_cons,Instr.fill,hplace]
      rw [if_neg (by simp; omega)]
      rw [← Array.foldl_toList,Array.toList_zipIdx,foldl_set f.offset _ 0 cs (by simp; omega)]
      simpa using g1
theorem d7d {ty:TypeId} {fs:Array Field} {z:Array Value} {zero:List AV} {parts:Array (Nat × Operand)} {l:List (Nat × Nat × AX)} (ht:P.underlying ty = some (.struct fs)) (hz:(P.info? ty).bind (·.zero) = some (.agg z))
  (hzero:a6w z.toList = some zero) (hparts:c3p P fs parts.toList = some l) (hsz:sized P fs.toList = true) (he:a7u C σ h w t ρ) (hp:aqP (.build zero l) (AX.ev t) h) :
  ∃ u,(Instr.build ty (parts.map fun (i,x) => (i,ρ x))).run P w = .ok u w ∧ RV C σ h w (aqV (.build zero l) (AX.ev t) h) u:=by
 simp only [aqP,aqV] at hp ⊢
 obtain ⟨cs',g1,g2⟩:=c9s (P:=P) fs he parts.toList l zero z hparts (a6w.rvs hzero) hp
 refine ⟨.agg cs',?_,by simp only [RV]; exact ⟨cs',rfl,g2⟩⟩
 have hzv:(zeroValue ty).run P w = .ok (.agg z) w:=by
  cases hi:P.info? ty with
  | none => simp [hi] at hz
  | some i =>
   simp only [hi,Option.bind_some] at hz
   simp [zeroValue,typeInfo,hi,hz]
 have hm:(fs.mapM fun f => do pure (f.offset,← sizeOf f.type):Sem (Array (Nat × Nat))).run P w = .ok (fs.toList.map fun f => (f.offset,(isz P f.type).getD 0)).toArray w:=by
  obtain ⟨fl⟩:=fs
  rw [List.mapM_toArray,Sem.run_map,e3y fl hsz]
  rfl
 have hg:∀ i:Nat,((fs.toList.map fun f => (f.offset,(isz P f.type).getD 0)).toArray)[i]? = (fs.toList.map fun f => (f.offset,(isz P f.type).getD 0))[i]?:=by intro i; simp
 simp only [Instr.build,Sem.run_bind,hzv,Result.andThen_ok,run_underlying ht,hm,Value.cells]
 simp only [hg,Array.toList_map,g1,Sem.run_pure]
theorem c4n {x:Option Operand} {y:Option AX} (hx:cxo x = some y) (he:a7u C σ h w t ρ) :
  (∀ a,y.map (AX.ev t) = some a → ∃ v,x.map ρ = some v ∧ RV C σ h w a v) ∧ (y.map (AX.ev t) = none → x.map ρ = none):=by
 cases x with
 | none => simp only [cxo,Option.some.injEq] at hx; subst hx; simp
 | some o =>
  simp only [cxo,Option.map_eq_some_iff] at hx
  obtain ⟨a,h1,rfl⟩:=hx
  refine ⟨fun b hb => ⟨ρ o,rfl,?_⟩,by simp⟩
  simp only [Option.map_some,Option.some.injEq] at hb
  subst hb
  exact he o a h1
theorem d4z (hr:o9 C σ φ h w) (o:Oper) {ao:AOp} (ho:oc P o.op = some ao) (hq:ao.quiet = true) (he:a7u C σ h w t ρ) (hp:aqP ao (AX.ev t) h) (hmm:mmP C.mm ao (AX.ev t) h) :
  ∃ v,(execOp ρ o).run P w = .ok (.value v) w ∧ RV C σ h w (aqV ao (AX.ev t) h) v ∧ aqF ao (AX.ev t):=by
 have lift:∀ (s:Sem Value) (ao:AOp),(∃ v,s.run P w = .ok v w ∧ RV C σ h w (aqV ao (AX.ev t) h) v) → (∃ v,(do pure (.value (← s)):Sem Next).run P w = .ok (.value v) w ∧ RV C σ h w (aqV ao (AX.ev t) h) v):=by
  rintro s ao ⟨v,h1,h2⟩
  exact ⟨v,by simp [h1],h2⟩
 have fin:(∀ x,ao ≠ .len x) → (∀ x,ao ≠ .lenS x) → aqF ao (AX.ev t):=by
  intro h1 h2
  cases ao <;> first | trivial | exact absurd rfl (h1 _) | exact absurd rfl (h2 _)
 obtain ⟨dst,op,ty,pos,after,guard⟩:=o
 simp only at ho
 cases op with
 | move x =>
  simp only [oc,Option.map_eq_some_iff] at ho
  obtain ⟨a,h1,rfl⟩:=ho
  exact ⟨ρ x,rfl,he x a h1,trivial⟩
 | assign x =>
  simp only [oc,Option.map_eq_some_iff] at ho
  obtain ⟨a,h1,rfl⟩:=ho
  exact ⟨ρ x,rfl,he x a h1,trivial⟩
 | pick c a b =>
  simp only [oc] at ho
  split at ho
  ·rename_i c' a' b' h1 h2 h3
   cases ho
   have g1:=he _ _ h1
   have g2:=he _ _ h2
   have g3:=he _ _ h3
   simp only [aqP,aqV] at hp ⊢
   generalize AX.ev t c' = y at *
   cases y with
   | bool bb =>
    simp only [RV] at g1
    cases bb with
    | true => exact ⟨ρ a,by simp [execOp,g1,asBool],g2,trivial⟩
    | false => exact ⟨ρ b,by simp [execOp,g1,asBool],g3,trivial⟩
   | _ => exact hp.elim
  ·cases ho
 | load ty a =>
  simp only [oc] at ho
  split at ho
  ·rename_i n ag a' h1 h2 h3
   cases ho
   obtain ⟨v,g1,g2⟩:=lift _ (.load (n + 1) ag a') (e0h (t:=t) hr (Nat.succ_pos n) h1 h2 (he _ _ h3) hp hmm)
   exact ⟨v,g1,g2,trivial⟩
  ·cases ho
 | fieldAddr s a f =>
  simp only [oc] at ho
  split at ho
  ·rename_i off sz ag a' h1 h2
   cases ho
   obtain ⟨v,g1,g2⟩:=lift _ (.faddr off a') (d6w (t:=t) h1 (he _ _ h2) hp)
   exact ⟨v,g1,g2,trivial⟩
  ·cases ho
 | field s a f =>
  simp only [oc] at ho
  split at ho
  ·rename_i off sz ag a' h1 h2
   cases ho
   obtain ⟨v,g1,g2⟩:=lift _ (.field off sz ag a') (d6x (t:=t) h1 (he _ _ h2) hp)
   exact ⟨v,g1,g2,trivial⟩
  ·cases ho
 | indexAddr ty x i =>
  simp only [oc] at ho
  split at ho
  ·rename_i e x' i' h1 h2 h3
   simp only [Option.map_eq_some_iff] at ho
   obtain ⟨sz,h4,rfl⟩:=ho
   obtain ⟨v,g1,g2⟩:=lift _ (.iaddr sz x' i') (d6y (t:=t) hr h1 h4 (he _ _ h2) (he _ _ h3) hp)
   exact ⟨v,g1,g2,trivial⟩
  ·cases ho
 | index ty x i =>
  simp only [oc] at ho
  split at ho
  ·rename_i x' i' h1 h2 h3
   cases ho
   obtain ⟨v,g1,g2⟩:=lift _ (.idxs x' i') (e0i (t:=t) h1 (he _ _ h2) (he _ _ h3) hp)
   exact ⟨v,g1,g2,trivial⟩
  ·cases ho
 | slice ty x lo hi mx =>
  cases mx with
  | some m => simp [oc] at ho
  | none =>
   simp only [oc] at ho
   split at ho
   ·rename_i x' lo' hi' h1 h2 h3 h4
    cases ho
    obtain ⟨l1,l2⟩:=c4n h3 he
    obtain ⟨l3,l4⟩:=c4n h4 he
    simp only [aqP] at hp
    have hstr:∃ s,AX.ev t x' = .str s:=by
     generalize AX.ev t x' = y at hp
     cases y with
     | str s => exact ⟨s,rfl⟩
     | _ => exact hp.2.elim
    obtain ⟨v,g1,g2⟩:=lift (Instr.sliceAt ty (ρ x) (lo.map ρ) (hi.map ρ) none) (.sliceS x' lo' hi') (by
     obtain ⟨v,g1,g2⟩:=d4w (P:=P) (w:=w) h1 (he _ _ h2) l1 l2 l3 l4 hp.1 hstr
     exact ⟨v,by simpa [Instr.sliceAt,run_underlying h1] using g1,g2⟩)
    exact ⟨v,g1,g2,trivial⟩
   ·rename_i e x' lo' hi' h1 h2 h3 h4
    simp only [Option.map_eq_some_iff] at ho
    obtain ⟨sz,h5,rfl⟩:=ho
    obtain ⟨l1,l2⟩:=c4n h3 he
    obtain ⟨l3,l4⟩:=c4n h4 he
    simp only [aqP] at hp
    obtain ⟨v,g1,g2⟩:=lift (Instr.sliceAt ty (ρ x) (lo.map ρ) (hi.map ρ) none) (.slice sz x' lo' hi') (by
     obtain ⟨v,g1,g2⟩:=d7a (P:=P) hr h1 h5 (he _ _ h2) l1 l2 l3 l4 hp
     exact ⟨v,by simpa [Instr.sliceAt,run_underlying h1] using g1,g2⟩)
    exact ⟨v,g1,g2,trivial⟩
   ·cases ho
 | binOp op xt x y yt =>
  simp only [oc] at ho
  split at ho
  ·rename_i x' y' h1 h2
   split at ho
   ·rename_i k hk
    cases ho
    obtain ⟨v,g1,g2⟩:=lift _ (.bin op x' y') (d2z (P:=P) (xt:=xt) (x:=x) (y:=y) (he _ _ h1) (he _ _ h2) hp)
    exact ⟨v,g1,g2,trivial⟩
   ·rename_i hk
    cases ho
    obtain ⟨v,g1,g2⟩:=lift _ (.bin op x' y') (d2z (P:=P) (xt:=xt) (x:=x) (y:=y) (he _ _ h1) (he _ _ h2) hp)
    exact ⟨v,g1,g2,trivial⟩
   ·rename_i hk
    split at ho
    ·cases ho
     obtain ⟨v,g1,g2⟩:=lift _ (.eqB false x' y') (d2y (P:=P) (t:=t) false xt x y hk (he _ _ h1) (he _ _ h2) hp)
     exact ⟨v,g1,g2,trivial⟩
    ·cases ho
     obtain ⟨v,g1,g2⟩:=lift _ (.eqB true x' y') (d2y (P:=P) (t:=t) true xt x y hk (he _ _ h1) (he _ _ h2) hp)
     exact ⟨v,g1,g2,trivial⟩
    ·cases ho
   ·rename_i fs hk
    split at ho
    ·rename_i ks hks
     split at ho
     ·rename_i hcond
      simp only [Bool.and_eq_true,Bool.not_eq_true'] at hcond
      split at ho
      ·cases ho
       obtain ⟨v,g1,g2⟩:=lift _ (.eqs false ks x' y') (d3a (P:=P) (t:=t) false xt x y hk hks hcond.1 hcond.2 (he _ _ h1) (he _ _ h2) hp)
       exact ⟨v,g1,g2,trivial⟩
      ·cases ho
       obtain ⟨v,g1,g2⟩:=lift _ (.eqs true ks x' y') (d3a (P:=P) (t:=t) true xt x y hk hks hcond.1 hcond.2 (he _ _ h1) (he _ _ h2) hp)
       exact ⟨v,g1,g2,trivial⟩
      ·cases ho
     ·cases ho
    ·cases ho
   ·split at ho <;> first | (cases ho; simp [AOp.quiet] at hq; done) | cases ho
   ·cases ho
  ·cases ho
 | unOp op xt x =>
  cases op with
  | not =>
   simp only [oc,Option.map_eq_some_iff] at ho
   obtain ⟨a,h1,rfl⟩:=ho
   obtain ⟨v,g1,g2⟩:=lift _ (.not a) (e3v (P:=P) (t:=t) (he _ _ h1) hp)
   exact ⟨v,g1,g2,trivial⟩
  | neg =>
   simp only [oc,Option.map_eq_some_iff] at ho
   obtain ⟨a,h1,rfl⟩:=ho
   obtain ⟨v,g1,g2⟩:=lift _ (.neg a) (e3w (P:=P) (t:=t) (he _ _ h1) hp)
   exact ⟨v,g1,g2,trivial⟩
  | _ => simp [oc] at ho
 | makeFunc fn first caps =>
  cases fn with
  | func f =>
   simp only [oc] at ho
   split at ho
   ·rename_i hz
    simp only [Option.map_eq_some_iff] at ho
    obtain ⟨a,h1,rfl⟩:=ho
    have hfi:first = #[]:=Array.eq_empty_of_size_eq_zero hz
    subst hfi
    refine ⟨.func (.func f) #[] (caps.map ρ),by simp [execOp,Instr.makeFunc],?_,trivial⟩
    have:=e0k (f:=f) he h1
    rwa [← Array.toList_map,Array.toArray_toList] at this
   ·cases ho
  | _ => simp [oc] at ho
 | extract x i =>
  simp only [oc,Option.map_eq_some_iff] at ho
  obtain ⟨a,h1,rfl⟩:=ho
  obtain ⟨v,g1,g2⟩:=lift _ (.extract i a) (d2n (P:=P) (t:=t) (he _ _ h1) hp)
  exact ⟨v,g1,g2,trivial⟩
 | nilCheck x =>
  simp only [oc,Option.map_eq_some_iff] at ho
  obtain ⟨a,h1,rfl⟩:=ho
  refine ⟨ρ x,?_,he _ _ h1,trivial⟩
  rcases d7b (t:=t) (he _ _ h1) hp with ⟨ad,e⟩ | ⟨f,vs,e⟩ <;> simp [execOp,e]
 | convert s d x =>
  simp only [oc] at ho
  split at ho
  ·rename_i k' k a h1 h2 h3
   cases ho
   obtain ⟨v,g1,g2⟩:=lift _ (.convI k a) (d6z (P:=P) (t:=t) h1 h2 (he _ _ h3) hp)
   exact ⟨v,g1,g2,trivial⟩
  ·split at ho
   ·cases ho; simp [AOp.quiet] at hq
   ·cases ho
  ·cases ho
 | build ty parts =>
  simp only [oc] at ho
  split at ho
  ·rename_i fs z h1 h2
   split at ho
   ·rename_i zero l h3 h4
    split at ho
    ·rename_i h5
     cases ho
     obtain ⟨v,g1,g2⟩:=lift _ (.build zero l) (d7d (P:=P) h1 h2 h3 h4 h5 he hp)
     exact ⟨v,g1,g2,trivial⟩
    ·cases ho
   ·cases ho
  ·cases ho
 | call c =>
  obtain ⟨callee,⟨args⟩,⟨argTypes⟩⟩:=c
  cases callee with
  | value f =>
   simp only [oc] at ho
   cases f with
   | func f =>
    simp only at ho
    split at ho
    ·split at ho
     ·simp only [Option.map_eq_some_iff] at ho
      obtain ⟨a,h1,rfl⟩:=ho
      simp [AOp.quiet] at hq
     ·cases ho
    ·cases ho
   | tmp n =>
    simp only [Option.map_eq_some_iff] at ho
    obtain ⟨a,h1,rfl⟩:=ho
    simp [AOp.quiet] at hq
   | _ => simp at ho
  | invoke r m => simp [oc] at ho
  | builtin b =>
   cases b with
   | len =>
    match args,argTypes,ho with
    | [x],[ty'],ho =>
     simp only [oc] at ho
     split at ho
     ·rename_i e he'
      simp only [Option.map_eq_some_iff] at ho
      obtain ⟨a,h1,rfl⟩:=ho
      obtain ⟨v,g1,g2,g3⟩:=e3x (P:=P) (t:=t) hr he' ty (he _ _ h1) hp
      exact ⟨v,by simp [execOp,resolve,invoke,builtin,g1],g2,g3⟩
     ·rename_i he'
      simp only [Option.map_eq_some_iff] at ho
      obtain ⟨a,h1,rfl⟩:=ho
      obtain ⟨v,g1,g2,g3⟩:=e0j (P:=P) (t:=t) he' ty (he _ _ h1) hp
      exact ⟨v,by simp [execOp,resolve,invoke,builtin,g1],g2,g3⟩
     ·cases ho
    | [],_,ho => simp [oc] at ho
    | _ :: _ :: _,_,ho => simp [oc] at ho
    | [_],[],ho => simp [oc] at ho
    | [_],_ :: _ :: _,ho => simp [oc] at ho
   | max =>
    match args,ho with
    | [x,y],ho =>
     simp only [oc] at ho
     split at ho
     ·rename_i x' y' h1 h2
      cases ho
      obtain ⟨v,g1,g2⟩:=c9r (P:=P) (t:=t) true (he _ _ h1) (he _ _ h2) hp
      simp [Builtin.max_] at g1
      exact ⟨v,by simp [execOp,resolve,invoke,builtin,Builtin.max_,g1],g2,trivial⟩
     ·cases ho
    | [],ho => simp [oc] at ho
    | [_],ho => simp [oc] at ho
    | _ :: _ :: _ :: _,ho => simp [oc] at ho
   | min =>
    match args,ho with
    | [x,y],ho =>
     simp only [oc] at ho
     split at ho
     ·rename_i x' y' h1 h2
      cases ho
      obtain ⟨v,g1,g2⟩:=c9r (P:=P) (t:=t) false (he _ _ h1) (he _ _ h2) hp
      simp [Builtin.min_] at g1
      exact ⟨v,by simp [execOp,resolve,invoke,builtin,Builtin.min_,g1],g2,trivial⟩
     ·cases ho
    | [],ho => simp [oc] at ho
    | [_],ho => simp [oc] at ho
    | _ :: _ :: _ :: _,ho => simp [oc] at ho
   | append =>
    match args,argTypes,ho with
    | [s,x],[ty',u],ho =>
     simp only [oc] at ho
     split at ho
     ·split at ho
      ·split at ho
       ·cases ho; simp [AOp.quiet] at hq
       ·cases ho
      ·cases ho
     ·cases ho
    | [],_,ho => simp [oc] at ho
    | [_],_,ho => simp [oc] at ho
    | _ :: _ :: _ :: _,_,ho => simp [oc] at ho
    | [_,_],[],ho => simp [oc] at ho
    | [_,_],[_],ho => simp [oc] at ho
    | [_,_],_ :: _ :: _ :: _,ho => simp [oc] at ho
   | _ => simp [oc] at ho
 | box ty x =>
  simp only [oc] at ho
  split at ho <;> cases ho
  simp [AOp.quiet] at hq
 | alloc ty =>
  simp only [oc] at ho
  split at ho
  ·split at ho <;> cases ho
   simp [AOp.quiet] at hq
  ·cases ho
 | makeSlice ty n c =>
  simp only [oc] at ho
  split at ho
  ·split at ho
   ·split at ho <;> cases ho
    simp [AOp.quiet] at hq
   ·cases ho
  ·cases ho
 | buildSlice ty n parts =>
  simp only [oc] at ho
  split at ho
  ·split at ho
   ·split at ho <;> cases ho
    simp [AOp.quiet] at hq
   ·cases ho
  ·cases ho
 | store ty a x =>
  simp only [oc] at ho
  split at ho <;> cases ho
  simp [AOp.quiet] at hq
 | _ => simp [oc] at ho
end sound
end Go.R
end
section
set_option linter.all false
namespace Go.R
open Go
def kill (h:List l7):List Nat → List l7
 | [] => h
 | k :: ks => kill (h.set k .dead) ks
theorem a3x:∀ (ks:List Nat) (h:List l7),(kill h ks).length = h.length
 | [],h => rfl
 | k :: ks,h => by simp [kill,a3x ks]
theorem b5r:∀ (ks:List Nat) (h:List l7) (o:Nat),(kill h ks)[o]? = if o ∈ ks ∧ o < h.length then some .dead else h[o]?
 | [],h,o => by simp [kill]
 | k :: ks,h,o => by
  rw [kill,b5r ks]
  simp only [List.length_set,List.getElem?_set,List.mem_cons]
  by_cases h1:o ∈ ks <;> by_cases h2:o < h.length <;> by_cases h3:k = o <;> simp_all <;> try omega
  all_goals (first | (subst h3; simp_all) | skip)
  all_goals (intro he; exact absurd he.symm h3)
theorem a7x {h:List l7} {ks:List Nat} {o:Nat} {x:l7} (ho:(kill h ks)[o]? = some x) (hx:x.isLive = true):h[o]? = some x ∧ o ∉ ks:=by
 rw [b5r] at ho
 split at ho
 ·cases ho; simp [l7.isLive] at hx
 ·rename_i hn
  refine ⟨ho,fun hk => hn ⟨hk,?_⟩⟩
  exact (List.getElem?_eq_some_iff.1 ho).1
theorem b9q {h:List l7} {ks:List Nat} {σ:Sg} {b:Nat} (hl:liveAt (kill h ks) σ b):liveAt h σ b:=by
 obtain ⟨o,x,c,h1,h2,h3⟩:=hl
 exact ⟨o,x,c,(a7x h1 h2).1,h2,h3⟩
section puts
variable {C:Ctx} {σ σ':Sg} {φ φ':Nat → List Nat} {h:List l7} {w w':World} {ks:List Nat} {xs:List l7}
theorem a8c {o:Nat} {x:l7} (ho:(kill h ks ++ xs)[o]? = some x) (hx:x.isLive = true):(o < h.length ∧ h[o]? = some x ∧ o ∉ ks) ∨ (h.length ≤ o ∧ xs[o - h.length]? = some x):=by
 rw [List.getElem?_append,a3x] at ho
 split at ho
 ·rename_i hlt
  exact .inl ⟨hlt,a7x ho hx⟩
 ·rename_i hge
  exact .inr ⟨by omega,ho⟩
theorem o9.puts (hr:o9 C σ φ h w) (hσ:∀ o,o < h.length → σ' o = σ o ∧ φ' o = φ o) (hsize:w.heap.size ≤ w'.heap.size)
  (hnew:∀ (j:Nat) x,xs[j]? = some x → ∀ g c,σ' (h.length + j) = some (g,c) → C.mine g ∧ (w.heap.size ≤ g ∨ ∃ k ∈ ks,∃ y c',h[k]? = some y ∧ y.isLive = true ∧ σ k = some (g,c')))
  (hblk:∀ b,b < w.heap.size → (∀ j g c,j < xs.length → σ' (h.length + j) = some (g,c) → b ≠ g) → w'.heap[b]? = w.heap[b]?)
  (hobj:Ev σ h w σ' (kill h ks ++ xs) w' → ∀ (j:Nat) x,xs[j]? = some x → b5a C σ' φ' (kill h ks ++ xs) w' (h.length + j) x)
  (hinj:∀ j j' g c c',j < xs.length → j' < xs.length → σ' (h.length + j) = some (g,c) → σ' (h.length + j') = some (g,c') → j = j')
  (hdeep:C.dm = true → ∀ (j:Nat) x,xs[j]? = some x → x.rw = true → (φ' (h.length + j)).Nodup ∧ (∀ b ∈ φ' (h.length + j),C.mine b) ∧
   (∀ (j':Nat) x',xs[j']? = some x' → x'.rw = true → j' ≠ j → ∀ b ∈ φ' (h.length + j),b ∉ φ' (h.length + j')) ∧
   ∀ o x',h[o]? = some x' → x'.rw = true → o ∉ ks → ∀ b ∈ φ' (h.length + j),b ∉ φ o) :
  o9 C σ' φ' (kill h ks ++ xs) w' ∧ Ev σ h w σ' (kill h ks ++ xs) w':=by
 have ev:Ev σ h w σ' (kill h ks ++ xs) w':=by
  have glive:∀ j x g c,xs[j]? = some x → σ' (h.length + j) = some (g,c) → g < w.heap.size → liveAt h σ g:=by
   intro j x g c hj hs hlt
   rcases (hnew j x hj g c hs).2 with h1 | ⟨k,_,y,c',h1,h2,h3⟩
   ·omega
   ·exact ⟨k,y,c',h1,h2,h3⟩
  refine ⟨?_,?_,?_,?_,hsize⟩
  ·intro o x ho hx
   have hlt:o < h.length:=(List.getElem?_eq_some_iff.1 ho).1
   rw [List.getElem?_append_left (by rw [a3x]; exact hlt),b5r]
   by_cases hk:o ∈ ks ∧ o < h.length
   ·exact .inl (by simp [hk])
   ·rw [if_neg hk]
    exact .inr ⟨(hσ o hlt).1,x,ho,sameShape.refl hx⟩
  ·intro o ho
   have hlt:o < h.length:=(List.getElem?_eq_some_iff.1 ho).1
   rw [List.getElem?_append_left (by rw [a3x]; exact hlt),b5r]
   split
   ·rfl
   ·exact ho
  ·rintro b hb ⟨o,x,c,h1,h2,h3⟩
   rcases a8c h1 h2 with ⟨hlt,g1,_⟩ | ⟨hge,g1⟩
   ·rw [(hσ o hlt).1] at h3
    exact ⟨o,x,c,g1,h2,h3⟩
   ·have:o = h.length + (o - h.length):=by omega
    rw [this] at h3
    exact glive _ x b c g1 h3 hb
  ·intro b hb hnl
   refine hblk b hb ?_
   intro j g c hj hs hbg
   subst hbg
   obtain ⟨x,hx⟩:∃ x,xs[j]? = some x:=⟨xs[j],by simp [hj]⟩
   exact hnl (glive j x b c hx hs hb)
 refine ⟨⟨?_,?_,?_,?_⟩,ev⟩
 ·-- objects
  intro o x ho
  rw [List.getElem?_append,a3x] at ho
  split at ho
  ·rename_i hlt
   rw [b5r] at ho
   split at ho
   ·cases ho; trivial
   ·rename_i hnk
    have hk:o ∉ ks:=fun hk => hnk ⟨hk,hlt⟩
    have hold:=hr.obj o x ho
    have hsame:∀ g c,σ o = some (g,c) → x.isLive = true → w'.heap[g]? = w.heap[g]?:=by
     intro g c hs hx
     refine hblk g (hr.lt ho hx hs) ?_
     intro j g' c' hj hs' hgg
     subst hgg
     obtain ⟨y,hy⟩:∃ y,xs[j]? = some y:=⟨xs[j],by simp [hj]⟩
     rcases (hnew j y hy g c' hs').2 with h1 | ⟨k,hkk,z,c'',h1,h2,h3⟩
     ·have:=hr.lt ho hx hs; omega
     ·have:=hr.inj o k x z g c c'' ho hx h1 h2 hs h3
      subst this
      exact hk hkk
    cases x with
    | dead => trivial
    | box sz v =>
     obtain ⟨g,cur,e,h1,h2,h3,h4⟩:=hold
     exact ⟨g,cur,e,by rw [(hσ o hlt).1]; exact h1,by rw [hsame g 1 h1 rfl]; exact h2,h3,ev.rvs _ _ h4⟩
    | map m =>
     obtain ⟨g,cur,e,h1,h2,h3,h4⟩:=hold
     exact ⟨g,cur,e,by rw [(hσ o hlt).1]; exact h1,by rw [hsame g 1 h1 rfl]; exact h2,h3,ev.rvs _ _ h4⟩
    | row sz l =>
     obtain ⟨h0,hold⟩:=hold
     refine ⟨h0,?_⟩
     rw [(hσ o hlt).1,(hσ o hlt).2]
     cases hs:σ o with
     | none => rw [hs] at hold; exact hold
     | some p =>
      obtain ⟨g,c⟩:=p
      rw [hs] at hold
      obtain ⟨h1,cur,e,h2,h3,h4,h5⟩:=hold
      obtain ⟨g1,g2⟩:=ev.immS h4 h5
      exact ⟨h1,cur,e,by rw [hsame g c hs rfl]; exact h2,h3,g1,g2⟩
    | rowx sz l i el => exact b5a.rowx_ev ev (hσ o hlt).1 (hσ o hlt).2 (fun g c hs => hsame g c hs rfl) hold
  ·rename_i hge
   have e:o = h.length + (o - h.length):=by omega
   rw [e]
   exact hobj ev _ x ho
 ·-- no two in one block
  intro o o' x x' b c c' ho hx ho' hx' hs hs'
  rcases a8c ho hx with ⟨hlt,g1,k1⟩ | ⟨hge,g1⟩ <;> rcases a8c ho' hx' with ⟨hlt',g2,k2⟩ | ⟨hge',g2⟩
  ·rw [(hσ o hlt).1] at hs
   rw [(hσ o' hlt').1] at hs'
   exact hr.inj o o' x x' b c c' g1 hx g2 hx' hs hs'
  ·rw [(hσ o hlt).1] at hs
   have e:o' = h.length + (o' - h.length):=by omega
   rw [e] at hs'
   rcases (hnew _ x' g2 b c' hs').2 with h1 | ⟨k,hkk,z,c'',h1,h2,h3⟩
   ·have:=hr.lt g1 hx hs; omega
   ·have:=hr.inj o k x z b c c'' g1 hx h1 h2 hs h3
    subst this
    exact absurd hkk k1
  ·rw [(hσ o' hlt').1] at hs'
   have e:o = h.length + (o - h.length):=by omega
   rw [e] at hs
   rcases (hnew _ x g1 b c hs).2 with h1 | ⟨k,hkk,z,c'',h1,h2,h3⟩
   ·have:=hr.lt g2 hx' hs'; omega
   ·have:=hr.inj o' k x' z b c' c'' g2 hx' h1 h2 hs' h3
    subst this
    exact absurd hkk k2
  ·have e:o = h.length + (o - h.length):=by omega
   have e':o' = h.length + (o' - h.length):=by omega
   rw [e] at hs
   rw [e'] at hs'
   have:=hinj _ _ b c c' (List.getElem?_eq_some_iff.1 g1).1 (List.getElem?_eq_some_iff.1 g2).1 hs hs'
   omega
 ·-- the call's own
  intro o x b c ho hx hs
  rcases a8c ho hx with ⟨hlt,g1,k1⟩ | ⟨hge,g1⟩
  ·rw [(hσ o hlt).1] at hs
   exact hr.base o x b c g1 hx hs
  ·have e:o = h.length + (o - h.length):=by omega
   rw [e] at hs
   exact (hnew _ x g1 b c hs).1
 ·-- rows own what they lead to
  intro hdm o x ho hx
  rcases a8c ho (l7.rw_live hx) with ⟨hlt,g1,k1⟩ | ⟨hge,g1⟩
  ·obtain ⟨d1,d2,d3⟩:=hr.deepx hdm o x g1 hx
   rw [(hσ o hlt).2]
   refine ⟨d1,d2,?_⟩
   intro o' x' ho' hx' hne b hb
   rcases a8c ho' (l7.rw_live hx') with ⟨hlt',g2,k2⟩ | ⟨hge',g2⟩
   ·rw [(hσ o' hlt').2]
    exact d3 o' x' g2 hx' hne b hb
   ·have e':o' = h.length + (o' - h.length):=by omega
    rw [e']
    intro hb'
    exact (hdeep hdm _ x' g2 hx').2.2.2 o x g1 hx k1 b hb' hb
  ·have e:o = h.length + (o - h.length):=by omega
   obtain ⟨d1,d2,d3,d4⟩:=hdeep hdm _ x g1 hx
   rw [e]
   refine ⟨d1,d2,?_⟩
   intro o' x' ho' hx' hne b hb
   rcases a8c ho' (l7.rw_live hx') with ⟨hlt',g2,k2⟩ | ⟨hge',g2⟩
   ·rw [(hσ o' hlt').2]
    exact d4 o' x' g2 hx' k2 b hb
   ·have e':o' = h.length + (o' - h.length):=by omega
    rw [e']
    exact d3 _ x' g2 hx' (by omega) b hb
end puts
mutual
def a1y (dm:Bool) (h:List l7):AV → Option (AV × List Nat)
 | .int k n => some (.int k n,[])
 | .bool b => some (.bool b,[])
 | .str s => some (.str s,[])
 | .nil => some (.nil,[])
 | .lst z l => match dm with
  | true => none
  | false => some (.lst z l,[])
 | .own o lo n =>
  match h[o]? with
  | some (.row z l) => match dm,lo with
   | true,0 => some (.lst z (l.take n),[o])
   | true,_ + 1 => none
   | false,lo => some (.lst z ((l.drop lo).take n),[o])
  | _ => none
 | .agg as => match a0r dm h as with
  | some (bs,ks) => if bs.all AV.isCell = true then some (.agg bs,ks) else none
  | none => none
 | _ => none
def a0r (dm:Bool) (h:List l7):List AV → Option (List AV × List Nat)
 | [] => some ([],[])
 | a :: as => match a1y dm h a,a0r dm h as with
  | some (b,k1),some (bs,k2) => some (b :: bs,k1 ++ k2)
  | _,_ => none
end
end Go.R
end
section
set_option linter.all false
namespace Go.R
open Go
def Owned (σ:Sg) (φ:Nat → List Nat) (h:List l7) (k b:Nat):Prop :=
 (∃ x c,h[k]? = some x ∧ x.isLive = true ∧ σ k = some (b,c)) ∨ (b ∈ φ k ∧ ∃ x,h[k]? = some x ∧ x.rw = true)
section a1y
variable {C:Ctx} {σ:Sg} {φ:Nat → List Nat} {h:List l7} {w:World}
theorem o9.phix (hr:o9 C σ φ h w) {o:Nat} {x:l7} (ho:h[o]? = some x) (hx:x.rw = true) {b:Nat} (hb:b ∈ φ o):C.ok b ∧ ¬ liveAt h σ b:=by
 cases x with
 | dead => cases hx
 | box _ _ => cases hx
 | map _ => cases hx
 | rowx sz l i el =>
  obtain ⟨_,_,_,_,_,_,_,_,_,_,_,_,_,_,_,_,_,_,k9⟩:=hr.obj o _ ho
  exact k9 b hb
 | row sz l =>
  obtain ⟨h0,hob⟩:=hr.obj o _ ho
  cases hs:σ o with
  | none => rw [hs] at hob; rw [hob.2] at hb; simp at hb
  | some p =>
   rw [hs] at hob
   obtain ⟨_,cur,e,_,_,_,h5⟩:=hob
   exact h5 b hb
theorem o9.phi (hr:o9 C σ φ h w) {o sz:Nat} {l:List AV} (ho:h[o]? = some (.row sz l)) {b:Nat} (hb:b ∈ φ o):C.ok b ∧ ¬ liveAt h σ b:=by
 obtain ⟨h0,hob⟩:=hr.obj o _ ho
 cases hs:σ o with
 | none => rw [hs] at hob; rw [hob.2] at hb; simp at hb
 | some p =>
  rw [hs] at hob
  obtain ⟨_,cur,e,_,_,_,h5⟩:=hob
  exact h5 b hb
theorem Owned.unique (hr:o9 C σ φ h w) (hdm:C.dm = true) {k k' b:Nat} (h1:Owned σ φ h k b) (h2:Owned σ φ h k' b):k = k':=by
 rcases h1 with ⟨x,c,g1,g2,g3⟩ | ⟨g1,x,g2,g3⟩ <;> rcases h2 with ⟨x',c',e1,e2,e3⟩ | ⟨e1,x',e2,e3⟩
 ·exact hr.inj k k' x x' b c c' g1 g2 e1 e2 g3 e3
 ·exact absurd ⟨k,x,c,g1,g2,g3⟩ (hr.phix e2 e3 e1).2
 ·exact absurd ⟨k',x',c',e1,e2,e3⟩ (hr.phix g2 g3 g1).2
 ·by_cases hkk:k = k'
  ·exact hkk
  ·exact absurd e1 ((hr.deepx hdm k x g2 g3).2.2 k' x' e2 e3 (fun e => hkk e.symm) b g1)
theorem Owned.base (hr:o9 C σ φ h w) (hdm:C.dm = true) {k b:Nat} (h1:Owned σ φ h k b):C.mine b:=by
 rcases h1 with ⟨x,c,g1,g2,g3⟩ | ⟨g1,x,g2,g3⟩
 ·exact hr.base k x b c g1 g2 g3
 ·exact (hr.deepx hdm k x g2 g3).2.1 b g1
structure Taken (C:Ctx) (σ:Sg) (φ:Nat → List Nat) (h:List l7) (ks:List Nat) (fp:List Nat):Prop where
 ok:∀ b ∈ fp,C.ok b
 live:∀ b ∈ fp,liveAt h σ b → ∃ k ∈ ks,Owned σ φ h k b
 own:C.dm = true → ∀ b ∈ fp,∃ k ∈ ks,Owned σ φ h k b
 nodup:C.dm = true → ks.Nodup → fp.Nodup
theorem Taken.nil:Taken C σ φ h [] []:=⟨by simp,by simp,by simp,by simp⟩
theorem Taken.append (hr:o9 C σ φ h w) {k1 k2 f1 f2:List Nat} (a:Taken C σ φ h k1 f1) (b:Taken C σ φ h k2 f2):Taken C σ φ h (k1 ++ k2) (f1 ++ f2) where
 ok x hx:=(List.mem_append.1 hx).elim (a.ok x) (b.ok x)
 live x hx hl:=by
  rcases List.mem_append.1 hx with hx | hx
  ·obtain ⟨k,h1,h2⟩:=a.live x hx hl; exact ⟨k,by simp [h1],h2⟩
  ·obtain ⟨k,h1,h2⟩:=b.live x hx hl; exact ⟨k,by simp [h1],h2⟩
 own hdm x hx:=by
  rcases List.mem_append.1 hx with hx | hx
  ·obtain ⟨k,h1,h2⟩:=a.own hdm x hx; exact ⟨k,by simp [h1],h2⟩
  ·obtain ⟨k,h1,h2⟩:=b.own hdm x hx; exact ⟨k,by simp [h1],h2⟩
 nodup hdm hn:=by
  rw [List.nodup_append] at hn ⊢
  refine ⟨a.nodup hdm hn.1,b.nodup hdm hn.2.1,?_⟩
  intro x hx y hy hxy
  subst hxy
  obtain ⟨k,g1,g2⟩:=a.own hdm x hx
  obtain ⟨k',e1,e2⟩:=b.own hdm x hy
  exact hn.2.2 k g1 k' e1 (Owned.unique hr hdm g2 e2)
theorem Taken.sub {ks f g:List Nat} (a:Taken C σ φ h ks f) (hs:List.Sublist g f):Taken C σ φ h ks g :=
 ⟨fun b hb => a.ok b (hs.subset hb),fun b hb => a.live b (hs.subset hb),fun hdm b hb => a.own hdm b (hs.subset hb),fun hdm hn => (a.nodup hdm hn).sublist hs⟩
theorem d3b (hr:o9 C σ φ h w) (hok:∀ b,C.mine b → C.ok b) {o lo n z:Nat} {l:List AV} {v:Value} (ho:h[o]? = some (.row z l)) (hv:b9i σ o lo n z l.length v) (hlo:C.dm = true → lo = 0) :
  ∃ fp,b6h C.dm w (.lst z ((l.drop lo).take n)) v fp ∧ Taken C σ φ h [o] fp:=by
 obtain ⟨a,cap,rfl,hl,hn,hm,hσ⟩:=hv
 have hlen:((l.drop lo).take n).length = n:=by rw [List.length_take,List.length_drop]; omega
 obtain ⟨hsz,hob⟩:=hr.obj o _ ho
 cases hs:σ o with
 | none =>
  rw [hs] at hσ hob
  obtain ⟨rfl,rfl⟩:=hσ
  have hn0:n = 0:=by omega
  subst hn0
  refine ⟨[],⟨[.slice none 0 0],rfl,?_⟩,⟨by simp,by simp,by simp,by simp⟩⟩
  simp only [Rep]
  exact .inl ⟨by simp,by simp,none,0,by simp,hm,by simp⟩
 | some p =>
  obtain ⟨g,c⟩:=p
  rw [hs] at hσ hob
  obtain ⟨hc,cur,e,h2,h3,h4,h5⟩:=hob
  have hown:Owned σ φ h o g:=.inl ⟨_,c,ho,rfl,hs⟩
  obtain ⟨f1,f2,hf,h6⟩:=h4.drop lo
  obtain ⟨f3,f4,hf',h7⟩:=h6.take n
  have hsub:List.Sublist f3 (φ o):=by rw [hf,hf']; exact (List.sublist_append_left f3 f4).trans (List.sublist_append_right f1 _)
  have taken:Taken C σ φ h [o] (g :: f3):=by
   refine ⟨?_,?_,?_,?_⟩
   ·intro b hb
    rcases List.mem_cons.1 hb with rfl | hb
    ·exact hok _ (hr.base o _ _ c ho rfl hs)
    ·exact (h5 b (hsub.subset hb)).1
   ·intro b hb hlv
    rcases List.mem_cons.1 hb with rfl | hb
    ·exact ⟨o,by simp,hown⟩
    ·exact absurd hlv (h5 b (hsub.subset hb)).2
   ·intro hdm b hb
    rcases List.mem_cons.1 hb with rfl | hb
    ·exact ⟨o,by simp,hown⟩
    ·exact ⟨o,by simp,.inr ⟨hsub.subset hb,_,ho,rfl⟩⟩
   ·intro hdm _
    rw [List.nodup_cons]
    refine ⟨fun hg => ?_,(hr.deep hdm o z l ho).1.sublist hsub⟩
    exact (h5 g (hsub.subset hg)).2 ⟨o,_,c,ho,rfl,hs⟩
  cases hdm:C.dm with
  | true =>
   have hl0:=hlo hdm
   subst hl0
   obtain ⟨rfl,rfl⟩:=hσ.2 rfl
   refine ⟨g :: f3,⟨[.slice (some ⟨g,0,none⟩) n cap],rfl,?_⟩,taken⟩
   simp only [Rep]
   rw [hdm] at h7
   exact .inr ⟨g,0,cap,cur,e,(0,0),f3,by rw [hlen],by rw [hlen]; exact hn,hm,h2,fun _ => ⟨rfl,rfl,h3⟩,rfl,hsz,by simpa using h7⟩
  | false =>
   by_cases hn0:n = 0
   ·subst hn0
    refine ⟨[],⟨[.slice a 0 cap],rfl,?_⟩,taken.sub (List.nil_sublist _)⟩
    simp only [Rep]
    exact .inl ⟨by simp,by simp,a,cap,by simp,hm,by simp⟩
   ·have ha:=hσ.1.resolve_left hn0
    subst ha
    refine ⟨g :: f3,⟨[.slice (some ⟨g,lo * z,none⟩) n cap],rfl,?_⟩,taken⟩
    simp only [Rep]
    exact .inr ⟨g,lo * z,cap,cur,e,(0,0),f3,by rw [hlen],by rw [hlen]; exact hn,hm,h2,by simp,rfl,hsz,a0a.weak _ _ _ h7⟩
mutual
theorem a1y.rep (hr:o9 C σ φ h w) (hok:∀ b,C.mine b → C.ok b):∀ (a a':AV) (ks:List Nat) (v:Value),a1y C.dm h a = some (a',ks) → RV C σ h w a v →
  ∃ fp,b6h C.dm w a' v fp ∧ Taken C σ φ h ks fp
 | .int k n,a',ks,v,hc,hv => by
  simp only [a1y] at hc; cases hc; simp only [RV] at hv
  exact ⟨[],⟨[v],by simp [mkV],by simp [Rep,hv]⟩,Taken.nil⟩
 | .bool n,a',ks,v,hc,hv => by
  simp only [a1y] at hc; cases hc; simp only [RV] at hv
  exact ⟨[],⟨[v],by simp [mkV],by simp [Rep,hv]⟩,Taken.nil⟩
 | .str s,a',ks,v,hc,hv => by
  simp only [a1y] at hc; cases hc; simp only [RV] at hv
  exact ⟨[],⟨[v],by simp [mkV],by simp [Rep,hv]⟩,Taken.nil⟩
 | .nil,a',ks,v,hc,hv => by
  simp only [a1y] at hc; cases hc; simp only [RV] at hv
  exact ⟨[],⟨[v],by simp [mkV],by simp [Rep,hv]⟩,Taken.nil⟩
 | .lst z l,a',ks,v,hc,hv => by
  simp only [a1y] at hc
  cases hdm:C.dm with
  | true => simp [hdm] at hc
  | false =>
   simp only [hdm] at hc
   cases hc
   simp only [RV] at hv
   obtain ⟨fp,h1,h2⟩:=hv
   exact ⟨fp,h1,⟨fun b hb => (h2 b hb).1.1,fun b hb hl => absurd hl (h2 b hb).2,by simp [hdm],by simp [hdm]⟩⟩
 | .own o lo n,a',ks,v,hc,hv => by
  simp only [a1y] at hc
  simp only [RV] at hv
  cases ho:h[o]? with
  | none => simp [ho] at hc
  | some x =>
   cases x with
   | dead => simp [ho] at hc
   | box sz y => simp [ho] at hc
   | map _ => simp [ho] at hc
   | rowx _ _ _ _ => simp [ho] at hc
   | row z l =>
    simp only [ho] at hc hv
    cases hdm:C.dm with
    | true =>
     cases lo with
     | zero =>
      simp only [hdm] at hc
      cases hc
      have:=d3b hr hok ho hv (fun _ => rfl)
      rw [hdm] at this
      simpa using this
     | succ lo => simp [hdm] at hc
    | false =>
     simp only [hdm] at hc
     cases hc
     have:=d3b hr hok ho hv (by simp [hdm])
     rw [hdm] at this
     exact this
 | .agg as,a',ks,v,hc,hv => by
  simp only [a1y] at hc
  cases h1:a0r C.dm h as with
  | none => simp [h1] at hc
  | some p =>
   obtain ⟨bs,k⟩:=p
   simp only [h1] at hc
   split at hc
   ·rename_i hall
    simp only [Option.some.injEq,Prod.mk.injEq] at hc
    obtain ⟨rfl,rfl⟩:=hc
    simp only [RV] at hv
    obtain ⟨vs,rfl,hv⟩:=hv
    obtain ⟨fp,g1,g2⟩:=a0r.rep hr hok as bs k _ h1 hv
    exact ⟨fp,⟨vs.toList,by simp [mkV],by simp only [Rep]; exact g1 hall⟩,g2⟩
   ·cases hc
 | .tup _,_,_,_,hc,_ => by simp [a1y] at hc
 | .fn _ _,_,_,_,hc,_ => by simp [a1y] at hc
 | .iptr _ _,_,_,_,hc,_ => by simp [a1y] at hc
 | .ptr _ _ _,_,_,_,hc,_ => by simp [a1y] at hc
 | .undef,_,_,_,hc,_ => by simp [a1y] at hc
 | .skip,_,_,_,hc,_ => by simp [a1y] at hc
 | .hdr _ _ _,_,_,_,hc,_ => by simp [a1y] at hc
theorem a0r.rep (hr:o9 C σ φ h w) (hok:∀ b,C.mine b → C.ok b):∀ (as as':List AV) (ks:List Nat) (vs:List Value),a0r C.dm h as = some (as',ks) → RVs C σ h w as vs →
  ∃ fp,(as'.all AV.isCell = true → a0b C.dm w as' vs fp) ∧ Taken C σ φ h ks fp
 | [],as',ks,vs,hc,hv => by
  simp only [a0r] at hc; cases hc; simp only [RVs] at hv
  exact ⟨[],by simp [a0b,hv],Taken.nil⟩
 | a :: as,as',ks,vs,hc,hv => by
  simp only [a0r] at hc
  cases h1:a1y C.dm h a with
  | none => simp [h1] at hc
  | some p =>
   obtain ⟨b,k1⟩:=p
   cases h2:a0r C.dm h as with
   | none => simp [h1,h2] at hc
   | some q =>
    obtain ⟨bs,k2⟩:=q
    simp only [h1,h2,Option.some.injEq,Prod.mk.injEq] at hc
    obtain ⟨rfl,rfl⟩:=hc
    simp only [RVs] at hv
    obtain ⟨v,vs',rfl,g1,g2⟩:=hv
    obtain ⟨f1,⟨cs,rfl,r1⟩,t1⟩:=a1y.rep hr hok a b k1 v h1 g1
    obtain ⟨f2,r2,t2⟩:=a0r.rep hr hok as bs k2 vs' h2 g2
    refine ⟨f1 ++ f2,?_,t1.append hr t2⟩
    intro hall
    simp only [List.all_cons,Bool.and_eq_true] at hall
    obtain ⟨c,rfl,e⟩:=r1.cell hall.1
    simp only [a0b]
    exact ⟨c,vs',f1,f2,by rw [e],hall.1,r1,r2 hall.2,rfl⟩
end
theorem Rep.cellV {m:Bool} {a:AV} {c:Value} {fp:List Nat} (hc:a.isCell = true) (hr:Rep m w a [c] fp):c.cells.toList = [c]:=by
 cases a with
 | int k n => simp only [Rep] at hr; cases hr.1; rfl
 | bool n => simp only [Rep] at hr; cases hr.1; rfl
 | str n => simp only [Rep] at hr; cases hr.1; rfl
 | nil => simp only [Rep] at hr; cases hr.1; rfl
 | lst z l =>
  simp only [Rep] at hr
  rcases hr with ⟨_,_,x,cap,h3,_⟩ | ⟨b,off,cap,cur,e,fz,fps,h1,_⟩
  ·cases h3; rfl
  ·cases h1; rfl
 | fn f caps => simp only [Rep] at hr; obtain ⟨vs,h1,_⟩:=hr; cases h1; rfl
 | iptr e f => simp only [Rep] at hr; obtain ⟨b,off,sz,cur,el,fz,fps,h1,_⟩:=hr; cases h1; rfl
 | agg _ => simp [AV.isCell] at hc
 | tup _ => simp [AV.isCell] at hc
 | undef => simp only [Rep] at hr
 | skip => simp only [Rep] at hr
 | hdr v z l =>
  simp only [Rep] at hr
  obtain ⟨_,hr⟩:=hr
  rcases hr with ⟨_,_,x,cap,h3,_⟩ | ⟨b,off,cap,cur,e,fz,fps,h1,_⟩
  ·cases h3; rfl
  ·cases h1; rfl
 | own _ _ _ => simp only [Rep] at hr
 | ptr _ _ _ => simp only [Rep] at hr
theorem b8l {dm:Bool} {a b:AV} {ks:List Nat} (hc:a1y dm h a = some (b,ks)):∀ as,b ≠ .tup as:=by
 intro as he
 subst he
 cases a with
 | lst z l => cases dm <;> simp [a1y] at hc
 | own o lo n =>
  simp only [a1y] at hc
  split at hc
  ·split at hc <;> cases hc
  ·cases hc
 | agg as' =>
  simp only [a1y] at hc
  split at hc
  ·split at hc <;> cases hc
  ·cases hc
 | _ => simp [a1y] at hc
theorem a0r.repS (hr:o9 C σ φ h w) (hok:∀ b,C.mine b → C.ok b) {sz:Nat}:∀ (as as':List AV) (ks:List Nat) (vs:List Value),a0r C.dm h as = some (as',ks) → RVs C σ h w as vs → (∀ a ∈ as',a.cells.length = sz) →
  ∃ fp,a0a C.dm w sz as' (vs.flatMap fun v => v.cells.toList) fp ∧ (vs.flatMap fun v => v.cells.toList).length = as'.length * sz ∧ (∀ v ∈ vs,v.cells.size = sz) ∧ Taken C σ φ h ks fp
 | [],as',ks,vs,hc,hv,_ => by
  simp only [a0r] at hc; cases hc; simp only [RVs] at hv
  subst hv
  exact ⟨[],by simp [a0a],by simp,by simp,Taken.nil⟩
 | a :: as,as',ks,vs,hc,hv,hl => by
  simp only [a0r] at hc
  cases h1:a1y C.dm h a with
  | none => simp [h1] at hc
  | some p =>
   obtain ⟨b,k1⟩:=p
   cases h2:a0r C.dm h as with
   | none => simp [h1,h2] at hc
   | some q =>
    obtain ⟨bs,k2⟩:=q
    simp only [h1,h2,Option.some.injEq,Prod.mk.injEq] at hc
    obtain ⟨rfl,rfl⟩:=hc
    simp only [RVs] at hv
    obtain ⟨v,vs',rfl,g1,g2⟩:=hv
    obtain ⟨f1,⟨cs,rfl,r1⟩,t1⟩:=a1y.rep hr hok a b k1 v h1 g1
    obtain ⟨f2,r2,l2,s2,t2⟩:=a0r.repS hr hok as bs k2 vs' h2 g2 (fun a ha => hl a (by simp [ha]))
    have hb:=hl b (by simp)
    have hcs:(mkV b cs).cells.toList = cs ∧ cs.length = sz:=by
     cases b with
     | agg as' =>
      simp only [Rep] at r1
      have:=r1.length
      simp only [AV.cells] at hb
      exact ⟨by simp [mkV,Value.cells],by omega⟩
     | tup as' => exact absurd rfl (b8l h1 as')
     | _ =>
      obtain ⟨c,rfl,e⟩:=r1.cell rfl
      simp only [AV.cells,List.length_cons,List.length_nil] at hb
      rw [e]
      exact ⟨Rep.cellV rfl r1,by simpa using hb⟩
    have hel:b.isElem = true:=by cases b <;> first | rfl | exact absurd rfl (b8l h1 _)
    refine ⟨f1 ++ f2,?_,?_,?_,t1.append hr t2⟩
    ·simp only [List.flatMap_cons,hcs.1,a0a]
     refine ⟨f1,f2,⟨by rw [List.take_append_of_le_length (by omega),List.take_of_length_le (by omega)]; exact hcs.2,hel⟩,?_,?_,rfl⟩
     ·rw [List.take_append_of_le_length (by omega),List.take_of_length_le (by omega)]; exact r1
     ·rw [List.drop_append_of_le_length (by omega),List.drop_of_length_le (by omega)]; simpa using r2
    ·simp only [List.flatMap_cons,List.length_append,hcs.1,hcs.2,l2,List.length_cons,Nat.add_mul]; omega
    ·intro u hu
     rcases List.mem_cons.1 hu with rfl | hu
     ·rw [← Array.length_toList,hcs.1]; exact hcs.2
     ·exact s2 u hu
end a1y
end Go.R
end
section
set_option linter.all false
namespace Go.R
open Go Go.RowKit
def upd {α:Type} (f:Nat → α) (n:Nat) (v:α) (m:Nat):α:=if m = n then v else f m
section loud
variable {P:Program} {C:Ctx} {σ:Sg} {φ:Nat → List Nat} {h:List l7} {w:World} {t:Nat → AV} {ρ:Operand → Value}
theorem d3c (w:World) (o:Obj):({ w with heap:=w.heap.push o }:World).heap[w.heap.size]? = some o:=by simp
theorem b7u (w:World) (o:Obj) (b:Nat) (hb:b < w.heap.size):({ w with heap:=w.heap.push o }:World).heap[b]? = w.heap[b]?:=by
 show (w.heap.push o)[b]? = _
 rw [Array.getElem?_push,if_neg (by omega)]
theorem Below.push (B:Nat) (w:World) (o:Obj) (hB:B ≤ w.heap.size):Below B w { w with heap:=w.heap.push o } :=
 ⟨rfl,rfl,rfl,by simp,fun k hk => b7u w o k (by omega)⟩
theorem o9.add (hr:o9 C σ φ h w) (hb:∀ b,w.heap.size ≤ b → C.mine b) {ks:List Nat} (x:l7) (c:Nat) (fx:List Nat) (ob:Obj)
  (hobj:Ev σ h w (upd σ h.length (some (w.heap.size,c))) (kill h ks ++ [x]) { w with heap:=w.heap.push ob } →
   b5a C (upd σ h.length (some (w.heap.size,c))) (upd φ h.length fx) (kill h ks ++ [x]) { w with heap:=w.heap.push ob } h.length x)
  (hdeep:C.dm = true → x.rw = true → fx.Nodup ∧ (∀ b ∈ fx,C.mine b) ∧ ∀ o x',h[o]? = some x' → x'.rw = true → o ∉ ks → ∀ b ∈ fx,b ∉ φ o) :
  o9 C (upd σ h.length (some (w.heap.size,c))) (upd φ h.length fx) (kill h ks ++ [x]) { w with heap:=w.heap.push ob } ∧
  Ev σ h w (upd σ h.length (some (w.heap.size,c))) (kill h ks ++ [x]) { w with heap:=w.heap.push ob }:=by
 refine o9.puts hr ?_ (by simp) ?_ ?_ ?_ ?_ ?_
 ·intro o ho
  have:o ≠ h.length:=by omega
  simp [upd,this]
 ·intro j y hj g c' hs
  cases j with
  | zero =>
   simp [upd] at hs
   obtain ⟨rfl,rfl⟩:=hs
   exact ⟨hb _ (Nat.le_refl _),.inl (Nat.le_refl _)⟩
  | succ j => simp at hj
 ·intro b hb' _
  exact b7u w ob b hb'
 ·intro ev j y hj
  cases j with
  | zero => simp at hj; subst hj; exact hobj ev
  | succ j => simp at hj
 ·intro j j' g c1 c2 hj hj' _ _
  simp at hj hj'
  omega
 ·intro hdm j y hj hy
  cases j with
  | zero =>
   simp at hj
   subst hj
   have:=hdeep hdm hy
   have e:upd φ h.length fx (h.length + 0) = fx:=by simp [upd]
   rw [e]
   refine ⟨this.1,this.2.1,?_,this.2.2⟩
   intro j' x' hj' _ hne
   cases j' with
   | zero => exact absurd rfl hne
   | succ j' => simp at hj'
  | succ j => simp at hj
theorem d3d (hr:o9 C σ φ h w) (hb:∀ b,w.heap.size ≤ b → C.mine b) (ty:TypeId) {a:AV} {v:Value} {sz:Nat} (hv:RV C σ h w a v) (hs:a6p h a) (hl:a.cells.length = sz) :
  ∃ u w' σ' φ',(Instr.box ty v).run P w = .ok u w' ∧ o9 C σ' φ' (h ++ [.box sz a]) w' ∧ Ev σ h w σ' (h ++ [.box sz a]) w' ∧ RV C σ' (h ++ [.box sz a]) w' (.ptr h.length 0 0) u ∧ Below C.base w w':=by
 have hc:=hv.cells hs
 have hlen:=hc.length
 have key:=hr.add hb (ks:=[]) (.box sz a) 1 [] (.cells v.cells ty) (fun ev => by
  refine ⟨w.heap.size,v.cells,ty,by simp [upd],d3c _ _,?_,ev.rvs _ _ hc⟩
  rw [← hl,← hlen]; simp) (by intro _ e; cases e)
 simp only [kill] at key
 refine ⟨.pointer (some ⟨w.heap.size,0,none⟩),{ w with heap:=w.heap.push (.cells v.cells ty) },_,_,?_,key.1,key.2,?_,Below.push _ _ _ (hb _ (Nat.le_refl _)).1⟩
 ·simp [Instr.box,newVar,newRow]
 ·simp only [RV]
  simp only [List.getElem?_append_right (Nat.le_refl _),Nat.sub_self,List.getElem?_cons_zero]
  exact ⟨trivial,w.heap.size,1,by simp [upd],rfl⟩
theorem c3r (size:Nat):∀ (vs:List Value) (k:Nat) (cs:Array Value),(∀ v ∈ vs,v.cells.size = size) → (k + vs.length) * size ≤ cs.size →
  Instr.fill (fun i => some (i * size,size)) cs ((vs.zipIdx k).map fun p => (p.2,p.1)) =
   some (cs.toList.take (k * size) ++ (vs.flatMap fun v => v.cells.toList) ++ cs.toList.drop ((k + vs.length) * size)).toArray
 | [],k,cs,_,hl => by simp [Instr.fill]
 | v :: vs,k,cs,hs,hl => by
  have hv:=hs v (by simp)
  simp only [List.length_cons] at hl
  have h1:(k + 1) * size = k * size + size:=by rw [Nat.add_mul]; omega
  have h2:(k + (vs.length + 1)) * size = k * size + size + vs.length * size:=by rw [Nat.add_mul,Nat.add_mul]; omega
  have h3:(k + 1 + vs.length) * size = k * size + size + vs.length * size:=by rw [Nat.add_mul,Nat.add_mul]; omega
  simp only [List.zipIdx_cons,List.map_cons,Instr.fill]
  rw [if_neg (by simp [hv]; omega)]
  rw [← Array.foldl_toList,Array.toList_zipIdx,foldl_set (k * size) _ 0 cs (by simp [hv]; omega)]
  rw [c3r size vs (k + 1) _ (fun u hu => hs u (by simp [hu])) (by simp [hv]; omega)]
  congr 1
  apply Array.toList_inj.1
  simp only [Nat.add_zero,Array.length_toList,hv,List.length_cons,h1,h2,h3]
  have hlen:v.cells.toList.length = size:=by simp [hv]
  have t1:(cs.toList.take (k * size) ++ v.cells.toList ++ cs.toList.drop (k * size + size)).take (k * size + size) = cs.toList.take (k * size) ++ v.cells.toList:=by
   rw [List.take_append_of_le_length (by simp [hlen]; omega),List.take_of_length_le (by simp [hlen]; omega)]
  have t2:(cs.toList.take (k * size) ++ v.cells.toList ++ cs.toList.drop (k * size + size)).drop (k * size + size + vs.length * size) = cs.toList.drop (k * size + size + vs.length * size):=by
   have e:(cs.toList.take (k * size) ++ v.cells.toList).length = k * size + size:=by simp [hlen]; omega
   rw [show k * size + size + vs.length * size = (cs.toList.take (k * size) ++ v.cells.toList).length + vs.length * size by rw [e],List.drop_length_add_append,e,List.drop_drop]
  simp only [t1,t2,List.flatMap_cons]
  simp
theorem c3s {ρ:Operand → Value}:∀ (parts:List (Nat × Operand)) (k:Nat) (xs:List AX),b6t k parts = some xs →
  (parts.map fun p => (p.1,ρ p.2)) = ((parts.map fun p => ρ p.2).zipIdx k).map fun p => (p.2,p.1)
 | [],k,xs,_ => rfl
 | (i,x) :: rest,k,xs,hp => by
  simp only [b6t] at hp
  cases h1:cx x with
  | none => simp [h1] at hp
  | some a =>
   cases h2:b6t (k + 1) rest with
   | none => simp [h1,h2] at hp
   | some l =>
    simp only [h1,h2] at hp
    split at hp
    ·rename_i e
     subst e
     simp only [List.map_cons,List.zipIdx_cons]
     rw [c3s rest (i + 1) l h2]
    ·cases hp
theorem c6n (he:a7u C σ h w t ρ):∀ (parts:List (Nat × Operand)) (k:Nat) (xs:List AX),b6t k parts = some xs → RVs C σ h w (xs.map (AX.ev t)) (parts.map fun p => ρ p.2)
 | [],k,xs,hp => by simp only [b6t] at hp; cases hp; simp [RVs]
 | (i,x) :: rest,k,xs,hp => by
  simp only [b6t] at hp
  cases h1:cx x with
  | none => simp [h1] at hp
  | some a =>
   cases h2:b6t (k + 1) rest with
   | none => simp [h1,h2] at hp
   | some l =>
    simp only [h1,h2] at hp
    split at hp
    ·cases hp
     simp only [List.map_cons,RVs]
     exact ⟨_,_,rfl,he x a h1,c6n he rest (k + 1) l h2⟩
    ·cases hp
theorem d5a (hr:o9 C σ φ h w) (hb:∀ b,w.heap.size ≤ b → C.mine b) (ty:TypeId) {ks fp:List Nat} {as:List AV} {sz c:Nat} {cur:Array Value} (hsz:0 < sz) (hc:c ≤ maxLen) (hcs:cur.size = c * sz)
  (hrep:a0a C.dm w sz as cur.toList fp) (ht:Taken C σ φ h ks fp) (hn:C.dm = true → ks.Nodup) :
  ∃ σ' φ',o9 C σ' φ' (kill h ks ++ [.row sz as]) { w with heap:=w.heap.push (.cells cur ty) } ∧ Ev σ h w σ' (kill h ks ++ [.row sz as]) { w with heap:=w.heap.push (.cells cur ty) } ∧
   σ' h.length = some (w.heap.size,c):=by
 have hlt:=a0a.lt _ _ _ hrep
 have key:=hr.add hb (ks:=ks) (.row sz as) c fp (.cells cur ty) (fun ev => by
  refine ⟨hsz,?_⟩
  have e1:upd σ h.length (some (w.heap.size,c)) h.length = some (w.heap.size,c):=by simp [upd]
  have e2:upd φ h.length fp h.length = fp:=by simp [upd]
  rw [e1,e2]
  refine ⟨hc,cur,ty,d3c _ _,hcs,?_,?_⟩
  ·exact a0a.world _ _ _ (fun b hb => b7u w _ b (hlt b hb)) hrep
  ·intro b hb'
   refine ⟨ht.ok b hb',?_⟩
   rintro ⟨o,x,c',h1,h2,h3⟩
   rcases a8c h1 h2 with ⟨hl,g1,g2⟩ | ⟨hge,g1⟩
   ·have:o ≠ h.length:=by omega
    simp only [upd,if_neg this] at h3
    have hlv:liveAt h σ b:=⟨o,x,c',g1,h2,h3⟩
    obtain ⟨k,k1,k2⟩:=ht.live b hb' hlv
    rcases k2 with ⟨y,c'',y1,y2,y3⟩ | ⟨y1,y,y2,y3⟩
    ·have:=hr.inj o k x y b c' c'' g1 h2 y1 y2 h3 y3
     subst this
     exact g2 k1
    ·exact (hr.phix y2 y3 y1).2 hlv
   ·have e:o - h.length = 0:=by
     rcases Nat.eq_zero_or_pos (o - h.length) with h0 | h0
     ·exact h0
     ·rw [List.getElem?_eq_none (by simp only [List.length_cons,List.length_nil]; omega)] at g1; cases g1
    have:o = h.length:=by omega
    subst this
    rw [e1] at h3
    cases h3
    have:=hlt _ hb'
    omega) (by
  intro hdm _
  refine ⟨ht.nodup hdm (hn hdm),?_,?_⟩
  ·intro b hb'
   obtain ⟨k,_,hk⟩:=ht.own hdm b hb'
   exact hk.base hr hdm
  ·intro o x' ho hx' hok b hb' hbo
   obtain ⟨k,k1,k2⟩:=ht.own hdm b hb'
   have:=Owned.unique hr hdm k2 (.inr ⟨hbo,x',ho,hx'⟩)
   subst this
   exact hok k1)
 exact ⟨_,_,key.1,key.2,by simp [upd]⟩
theorem d5b (hr:o9 C σ φ h w) (hok:∀ b,C.mine b → C.ok b) (hb:∀ b,w.heap.size ≤ b → C.mine b) {ty e:TypeId} {i:TypeInfo} {n:Nat} {parts:Array (Nat × Operand)} {xs:List AX} (ht:P.underlying ty = some (.slice e)) (hi:P.info? e = some i)
  (hz:i.zero.isSome = true) (hz0:0 < (i.zero.getD undef).cells.size) (h0:0 < i.size) (hle:n * i.size ≤ 2 ^ 24) (hn:n = xs.length) (hx:b6t 0 parts.toList = some xs) (he:a7u C σ h w t ρ)
  {as:List AV} {ks:List Nat} (ha:a0r C.dm h (xs.map (AX.ev t)) = some (as,ks)) (hnd:C.dm = true → ks.Nodup) (hl:∀ a ∈ as,a.cells.length = i.size) :
  ∃ u w' σ' φ',(Instr.buildSlice ty n (parts.map fun (i,x) => (i,ρ x))).run P w = .ok u w' ∧ o9 C σ' φ' (kill h ks ++ [.row i.size as]) w' ∧ Ev σ h w σ' (kill h ks ++ [.row i.size as]) w' ∧
   RV C σ' (kill h ks ++ [.row i.size as]) w' (.own h.length 0 as.length) u ∧ Below C.base w w':=by
 have hrv:=c6n he parts.toList 0 xs hx
 obtain ⟨fp,r1,r2,r3,r4⟩:=a0r.repS hr hok _ as ks _ ha hrv hl
 have hasl:as.length = n:=by
  have h1:=hrv.length
  have:as.length = (xs.map (AX.ev t)).length:=by
   have:∀ (l:List AV) (bs:List AV) (k:List Nat),a0r C.dm h l = some (bs,k) → bs.length = l.length:=by
    intro l
    induction l with
    | nil => intro bs k hc; simp only [a0r] at hc; cases hc; rfl
    | cons a l ih =>
     intro bs k hc
     simp only [a0r] at hc
     split at hc
     ·rename_i b k1 bs' k2 g1 g2
      cases hc
      simp [ih _ _ g2]
     ·cases hc
   exact this _ _ _ ha
  rw [this,List.length_map,hn]
 obtain ⟨z,hzz⟩:=Option.isSome_iff_exists.1 hz
 rw [hzz] at hz0
 simp only [Option.getD_some] at hz0
 have hm:n ≤ maxLen:=by
  have:n ≤ n * i.size:=Nat.le_mul_of_pos_right n h0
  simp only [maxLen]
  omega
 have hcur:((parts.toList.map fun p => ρ p.2).flatMap fun v => v.cells.toList).toArray.size = n * i.size:=by simpa [hasl] using r2
 obtain ⟨σ',φ',k1,k2,k3⟩:=d5a hr hb e h0 hm hcur (by simpa using r1) r4 hnd
 refine ⟨.slice (some ⟨w.heap.size,0,none⟩) n n,_,σ',φ',?_,k1,k2,?_,Below.push _ _ _ (hb _ (Nat.le_refl _)).1⟩
 ·have hplen:(parts.toList.map fun p => ρ p.2).length = n:=by
   rw [hrv.length,List.length_map,hn]
  have hfill:∀ z':Array Value,z'.size = n * i.size → Instr.fill (fun j => some (j * i.size,i.size)) z' (parts.toList.map fun p => (p.1,ρ p.2)) = some ((parts.toList.map fun p => ρ p.2).flatMap fun v => v.cells.toList).toArray:=by
   intro z' hz'
   rw [c3s parts.toList 0 xs hx,c3r i.size _ 0 z' r3 (by rw [Nat.zero_add,hplen,hz']; exact Nat.le_refl _)]
   simp only [Nat.zero_mul,List.take_zero,List.nil_append,Nat.zero_add,hplen]
   rw [List.drop_of_length_le (by simp [hz'])]
   simp
  have hmk:∀ z':Array Value,((Array.range (n * i.size)).map (fun x => z'[x % z'.size]!)).size = n * i.size:=by intro z'; simp
  simp only [Instr.buildSlice,Sem.run_bind,run_underlying ht,Result.andThen_ok,sizeOf,typeInfo,run_program,hi,Sem.run_pure]
  rw [if_neg (by omega)]
  by_cases hnz:n * i.size = 0
  ·simp only [hnz,if_true,Sem.run_bind,Sem.run_pure,Result.andThen_ok]
   have hf:=hfill ((Array.range 0).map (fun x => (#[]:Array Value)[x % (#[]:Array Value).size]!)) (by simp [hnz])
   simp only [Array.toList_map]
   rw [hf]
   simp [newRow]
  ·rw [if_neg hnz]
   have hf:=hfill _ (hmk z.cells)
   simp only [Sem.run_bind,zeroValue,typeInfo,run_program,hi,Result.andThen_ok,hzz,Sem.run_pure,Array.toList_map]
   rw [hf]
   simp [newRow]
 ·simp only [RV]
  have:(kill h ks ++ [l7.row i.size as])[h.length]? = some (.row i.size as):=by
   rw [List.getElem?_append_right (by rw [a3x]; exact Nat.le_refl _),a3x,Nat.sub_self]; rfl
  rw [this]
  simp only
  refine ⟨_,n,by rw [hasl],by omega,by omega,hm,?_⟩
  rw [k3]
  simp
end loud
end Go.R
end
section
set_option linter.all false
namespace Go.R
open Go Go.RowKit
mutual
def flat:AV → Bool
 | .int _ _ => true
 | .bool _ => true
 | .str _ => true
 | .nil => true
 | .agg as => b9f as
 | _ => false
def b9f:List AV → Bool
 | [] => true
 | a :: as => flat a && b9f as
end
def b9r (h:List l7) (sz:Nat) (x:AV):Option (List AV × Nat × List Nat) :=
 match x with
 | .nil => some ([],0,[])
 | .own o lo n => match lo,h[o]? with
  | 0,some (.row z l) => if z = sz then some (l.take n,n,[o]) else none
  | _,_ => none
 | _ => none
def b6e (cons:Bool) (h:List l7) (sz:Nat) (x:AV):Option (List AV × Nat × List Nat) :=
 match x with
 | .nil => some ([],0,[])
 | .lst z l => if z = sz then some (l,l.length,[]) else none
 | .own o lo n => match h[o]? with
  | some (.row z l) => if z = sz then some ((l.drop lo).take n,n,match cons with | true => [o] | false => []) else none
  | _ => none
 | _ => none
section loud
variable {P:Program} {C:Ctx} {σ:Sg} {φ:Nat → List Nat} {h:List l7} {w w':World} {t:Nat → AV} {ρ:Operand → Value}
mutual
theorem Rep.flat {m:Bool}:∀ (a:AV) (cs:List Value) (fp:List Nat),flat a = true → Rep m w a cs fp → fp = []
 | .int k n,cs,fp,_,hr => by simp only [Rep] at hr; exact hr.2
 | .bool n,cs,fp,_,hr => by simp only [Rep] at hr; exact hr.2
 | .str n,cs,fp,_,hr => by simp only [Rep] at hr; exact hr.2.2
 | .nil,cs,fp,_,hr => by simp only [Rep] at hr; exact hr.2
 | .agg as,cs,fp,hf,hr => by simp only [R.flat] at hf; simp only [Rep] at hr; exact a0b.flat as cs fp hf hr
 | .lst _ _,_,_,hf,_ => by simp [R.flat] at hf
 | .tup _,_,_,hf,_ => by simp [R.flat] at hf
 | .fn _ _,_,_,hf,_ => by simp [R.flat] at hf
 | .iptr _ _,_,_,hf,_ => by simp [R.flat] at hf
 | .ptr _ _ _,_,_,hf,_ => by simp [R.flat] at hf
 | .own _ _ _,_,_,hf,_ => by simp [R.flat] at hf
 | .undef,_,_,hf,_ => by simp [R.flat] at hf
 | .skip,_,_,hf,_ => by simp [R.flat] at hf
 | .hdr _ _ _,_,_,hf,_ => by simp [R.flat] at hf
theorem a0b.flat {m:Bool}:∀ (as:List AV) (cs:List Value) (fp:List Nat),b9f as = true → a0b m w as cs fp → fp = []
 | [],cs,fp,_,hr => by simp only [a0b] at hr; exact hr.2
 | a :: as,cs,fp,hf,hr => by
  simp only [b9f,Bool.and_eq_true] at hf
  simp only [a0b] at hr
  obtain ⟨c,cs',f1,f2,rfl,_,h1,h2,rfl⟩:=hr
  rw [Rep.flat a _ _ hf.1 h1,a0b.flat as _ _ hf.2 h2]
  rfl
end
mutual
theorem Rep.flatOwn {m m':Bool}:∀ (a:AV) (cs:List Value) (fp:List Nat),flat a = true → Rep m w a cs fp → Rep m' w a cs fp
 | .int k n,cs,fp,_,hr => by simpa only [Rep] using hr
 | .bool n,cs,fp,_,hr => by simpa only [Rep] using hr
 | .str n,cs,fp,_,hr => by simpa only [Rep] using hr
 | .nil,cs,fp,_,hr => by simpa only [Rep] using hr
 | .agg as,cs,fp,hf,hr => by simp only [R.flat] at hf; simp only [Rep] at hr ⊢; exact a0b.flatOwn as cs fp hf hr
 | .lst _ _,_,_,hf,_ => by simp [R.flat] at hf
 | .tup _,_,_,hf,_ => by simp [R.flat] at hf
 | .fn _ _,_,_,hf,_ => by simp [R.flat] at hf
 | .iptr _ _,_,_,hf,_ => by simp [R.flat] at hf
 | .ptr _ _ _,_,_,hf,_ => by simp [R.flat] at hf
 | .own _ _ _,_,_,hf,_ => by simp [R.flat] at hf
 | .undef,_,_,hf,_ => by simp [R.flat] at hf
 | .skip,_,_,hf,_ => by simp [R.flat] at hf
 | .hdr _ _ _,_,_,hf,_ => by simp [R.flat] at hf
theorem a0b.flatOwn {m m':Bool}:∀ (as:List AV) (cs:List Value) (fp:List Nat),b9f as = true → a0b m w as cs fp → a0b m' w as cs fp
 | [],cs,fp,_,hr => by simpa only [a0b] using hr
 | a :: as,cs,fp,hf,hr => by
  simp only [b9f,Bool.and_eq_true] at hf
  simp only [a0b] at hr ⊢
  obtain ⟨c,cs',f1,f2,rfl,hc,h1,h2,rfl⟩:=hr
  exact ⟨c,cs',f1,f2,rfl,hc,Rep.flatOwn a _ _ hf.1 h1,a0b.flatOwn as _ _ hf.2 h2,rfl⟩
end
theorem a0a.flat {m:Bool} {sz:Nat}:∀ (as:List AV) (cs:List Value) (fp:List Nat),(∀ a ∈ as,R.flat a = true) → a0a m w sz as cs fp → fp = []
 | [],cs,fp,_,hr => by simpa only [a0a] using hr
 | a :: as,cs,fp,hf,hr => by
  simp only [a0a] at hr
  obtain ⟨f1,f2,h0,h1,h2,rfl⟩:=hr
  rw [Rep.flat a _ _ (hf a (by simp)) h1,a0a.flat as _ _ (fun x hx => hf x (by simp [hx])) h2]
  rfl
theorem a0a.flatOwn {m m':Bool} {sz:Nat}:∀ (as:List AV) (cs:List Value) (fp:List Nat),(∀ a ∈ as,R.flat a = true) → a0a m w sz as cs fp → a0a m' w sz as cs fp
 | [],cs,fp,_,hr => by simpa only [a0a] using hr
 | a :: as,cs,fp,hf,hr => by
  simp only [a0a] at hr ⊢
  obtain ⟨f1,f2,h0,h1,h2,rfl⟩:=hr
  exact ⟨f1,f2,h0,Rep.flatOwn a _ _ (hf a (by simp)) h1,a0a.flatOwn as _ _ (fun x hx => hf x (by simp [hx])) h2,rfl⟩
theorem e6a (hr:o9 C σ φ h w) {sz n:Nat} {x:AV} {v:Value} {l:List AV} {ks:List Nat} (hv:RV C σ h w x v) (hd:b9r h sz x = some (l,n,ks)) :
  l.length = n ∧ ks.Nodup ∧ ∃ fp,Taken C σ φ h ks fp ∧ (∀ b ∈ fp,¬ liveAt h σ b) ∧
  ((v = .slice none 0 0 ∧ n = 0 ∧ fp = []) ∨ ∃ g c cur e o,v = .slice (some ⟨g,0,none⟩) n c ∧ n ≤ c ∧ c ≤ maxLen ∧ w.heap[g]? = some (.cells cur e (0,0)) ∧ cur.size = c * sz ∧ a0a C.dm w sz l cur.toList fp ∧
   o ∈ ks ∧ (∃ y,h[o]? = some y ∧ y.isLive = true ∧ σ o = some (g,c)) ∧ 0 < sz):=by
 cases x with
 | nil =>
  simp only [b9r,Option.some.injEq,Prod.mk.injEq] at hd
  obtain ⟨rfl,rfl,rfl⟩:=hd
  simp only [RV] at hv
  exact ⟨rfl,by simp,[],Taken.nil,by simp,.inl ⟨hv,rfl,rfl⟩⟩
 | own o lo m =>
  simp only [b9r] at hd
  split at hd
  ·rename_i z l' ho
   split at hd
   ·rename_i hz
    subst hz
    simp only [Option.some.injEq,Prod.mk.injEq] at hd
    obtain ⟨rfl,rfl,rfl⟩:=hd
    simp only [RV,ho] at hv
    obtain ⟨a,cap,rfl,g1,g2,g3,g4⟩:=hv
    obtain ⟨h0,hob⟩:=hr.obj o _ ho
    have hlen:(l'.take m).length = m:=by rw [List.length_take]; omega
    refine ⟨hlen,by simp,?_⟩
    cases hs:σ o with
    | none =>
     rw [hs] at g4
     obtain ⟨rfl,rfl⟩:=g4
     have:m = 0:=by omega
     subst this
     exact ⟨[],⟨by simp,by simp,by simp,by simp⟩,by simp,.inl ⟨rfl,rfl,rfl⟩⟩
    | some p =>
     obtain ⟨g,c⟩:=p
     rw [hs] at g4 hob
     obtain ⟨rfl,rfl⟩:=g4.2 rfl
     obtain ⟨h1,cur,e,h2,h3,h4,h5⟩:=hob
     obtain ⟨f1,f2,hf,h6⟩:=h4.take m
     have hsub:List.Sublist f1 (φ o):=by rw [hf]; exact List.sublist_append_left f1 f2
     refine ⟨f1,⟨?_,?_,?_,?_⟩,fun b hb => (h5 b (hsub.subset hb)).2,.inr ⟨g,cap,cur,e,o,rfl,g2,g3,h2,h3,h6,by simp,⟨_,ho,rfl,hs⟩,h0⟩⟩
     ·exact fun b hb => (h5 b (hsub.subset hb)).1
     ·exact fun b hb hl => absurd hl (h5 b (hsub.subset hb)).2
     ·exact fun hdm b hb => ⟨o,by simp,.inr ⟨hsub.subset hb,_,ho,rfl⟩⟩
     ·exact fun hdm _ => (hr.deep hdm o _ l' ho).1.sublist hsub
   ·cases hd
  ·cases hd
 | _ => simp [b9r] at hd
theorem d7e (hr:o9 C σ φ h w) {sz m:Nat} {cons:Bool} {x:AV} {v:Value} {l:List AV} {ks:List Nat} (hv:RV C σ h w x v) (hd:b6e cons h sz x = some (l,m,ks))
  (hflat:C.dm = true → cons = false → ∀ a ∈ l,R.flat a = true) (hlst:C.dm = true → ∀ z l',x = .lst z l' → ∀ a ∈ l,R.flat a = true) :
  l.length = m ∧ ks.Nodup ∧ ∃ fp a c,v = .slice a m c ∧ Taken C σ φ h ks fp ∧ (∀ b ∈ fp,¬ liveAt h σ b) ∧
  ((m = 0 ∧ fp = []) ∨ ∃ g off cur e fz,a = some ⟨g,off,none⟩ ∧ w.heap[g]? = some (.cells cur e fz) ∧ a0a C.dm w sz l (cur.toList.drop off) fp):=by
 cases x with
 | nil =>
  simp only [b6e,Option.some.injEq,Prod.mk.injEq] at hd
  obtain ⟨rfl,rfl,rfl⟩:=hd
  simp only [RV] at hv
  exact ⟨rfl,by simp,[],none,0,hv,Taken.nil,by simp,.inl ⟨rfl,rfl⟩⟩
 | lst z l' =>
  simp only [b6e] at hd
  split at hd
  ·rename_i hz
   subst hz
   simp only [Option.some.injEq,Prod.mk.injEq] at hd
   obtain ⟨rfl,rfl,rfl⟩:=hd
   refine ⟨rfl,by simp,?_⟩
   simp only [RV] at hv
   obtain ⟨fp,⟨cs,rfl,hrep⟩,hf⟩:=hv
   simp only [Rep] at hrep
   rcases hrep with ⟨rfl,rfl,a,cap,rfl,h3,_⟩ | ⟨b,off,cap,cur,el,fz,fps,rfl,h2,h3,h4,h5,rfl,h7,h8⟩
   ·exact ⟨[],a,cap,rfl,Taken.nil,by simp,.inl ⟨rfl,rfl⟩⟩
   ·cases hdm:C.dm with
    | true =>
     have hfl:=hlst hdm _ _ rfl
     have:=a0a.flat _ _ _ hfl h8
     subst this
     exact ⟨[],_,cap,rfl,Taken.nil,by simp,.inr ⟨b,off,cur,el,fz,rfl,h4,a0a.flatOwn _ _ _ hfl h8⟩⟩
    | false =>
     refine ⟨fps,_,cap,rfl,⟨fun x hx => (hf x (by simp [hx])).1.1,fun x hx hl => absurd hl (hf x (by simp [hx])).2,by simp [hdm],by simp [hdm]⟩,fun x hx => (hf x (by simp [hx])).2,.inr ⟨b,off,cur,el,fz,rfl,h4,h8⟩⟩
  ·cases hd
 | own o lo n =>
  simp only [b6e] at hd
  split at hd
  ·rename_i z l' ho
   split at hd
   ·rename_i hz
    subst hz
    simp only [Option.some.injEq,Prod.mk.injEq] at hd
    obtain ⟨rfl,rfl,rfl⟩:=hd
    simp only [RV,ho] at hv
    obtain ⟨a,cap,rfl,g1,g2,g3,g4⟩:=hv
    obtain ⟨h0,hob⟩:=hr.obj o _ ho
    have hlen:((l'.drop lo).take n).length = n:=by rw [List.length_take,List.length_drop]; omega
    refine ⟨hlen,by cases cons <;> simp,?_⟩
    cases hs:σ o with
    | none =>
     rw [hs] at g4
     have:n = 0:=by omega
     exact ⟨[],a,cap,rfl,⟨by simp,by simp,by simp,by simp⟩,by simp,.inl ⟨this,rfl⟩⟩
    | some p =>
     obtain ⟨g,c⟩:=p
     rw [hs] at g4 hob
     obtain ⟨h1,cur,e,h2,h3,h4,h5⟩:=hob
     by_cases hn0:n = 0
     ·exact ⟨[],a,cap,rfl,⟨by simp,by simp,by simp,by simp⟩,by simp,.inl ⟨hn0,rfl⟩⟩
     ·have ha:=g4.1.resolve_left hn0
      obtain ⟨f1,f2,hf,h6⟩:=h4.drop lo
      obtain ⟨f3,f4,hf',h7⟩:=h6.take n
      have hsub:List.Sublist f3 (φ o):=by rw [hf,hf']; exact (List.sublist_append_left f3 f4).trans (List.sublist_append_right f1 _)
      refine ⟨f3,a,cap,rfl,?_,fun b hb => (h5 b (hsub.subset hb)).2,.inr ⟨g,lo * z,cur,e,(0,0),ha,h2,h7⟩⟩
      cases cons with
      | true =>
       refine ⟨?_,?_,?_,?_⟩
       ·exact fun b hb => (h5 b (hsub.subset hb)).1
       ·exact fun b hb hl => absurd hl (h5 b (hsub.subset hb)).2
       ·exact fun hdm b hb => ⟨o,by simp,.inr ⟨hsub.subset hb,_,ho,rfl⟩⟩
       ·exact fun hdm _ => (hr.deep hdm o _ l' ho).1.sublist hsub
      | false =>
       refine ⟨fun b hb => (h5 b (hsub.subset hb)).1,fun b hb hl => absurd hl (h5 b (hsub.subset hb)).2,?_,?_⟩
       ·intro hdm b hb
        rw [a0a.flat _ _ _ (hflat hdm rfl) h7] at hb
        simp at hb
       ·intro hdm _
        rw [a0a.flat _ _ _ (hflat hdm rfl) h7]
        simp
   ·cases hd
  ·cases hd
 | _ => simp [b6e] at hd
theorem c8w (hr:o9 C σ φ h w) (hsize:w.heap.size ≤ w'.heap.size) {g c sz:Nat} {cur:Array Value} {e:TypeId} {ks fp:List Nat} {as:List AV}
  (hg:C.mine g ∧ (w.heap.size ≤ g ∨ ∃ k ∈ ks,∃ y c',h[k]? = some y ∧ y.isLive = true ∧ σ k = some (g,c'))) (hblk:∀ b,b < w.heap.size → b ≠ g → w'.heap[b]? = w.heap[b]?)
  (hcur:w'.heap[g]? = some (.cells cur e (0,0))) (hsz:0 < sz) (hc:c ≤ maxLen) (hcs:cur.size = c * sz) (hrep:a0a C.dm w' sz as cur.toList fp) (ht:Taken C σ φ h ks fp) (hlt:∀ b ∈ fp,b < w.heap.size) (hnl:∀ b ∈ fp,¬ liveAt h σ b) (hn:C.dm = true → ks.Nodup) :
  o9 C (upd σ h.length (some (g,c))) (upd φ h.length fp) (kill h ks ++ [.row sz as]) w' ∧ Ev σ h w (upd σ h.length (some (g,c))) (kill h ks ++ [.row sz as]) w':=by
 have e1:upd σ h.length (some (g,c)) h.length = some (g,c):=by simp [upd]
 have e2:upd φ h.length fp h.length = fp:=by simp [upd]
 have one:∀ (j:Nat) (x:l7),[l7.row sz as][j]? = some x → j = 0 ∧ x = .row sz as:=by
  intro j x hj
  cases j with
  | zero => simp at hj; exact ⟨rfl,hj.symm⟩
  | succ j => simp at hj
 refine o9.puts hr ?_ hsize ?_ ?_ ?_ ?_ ?_
 ·intro o ho
  have:o ≠ h.length:=by omega
  simp [upd,this]
 ·intro j x hj g' c' hs
  obtain ⟨rfl,rfl⟩:=one j x hj
  rw [Nat.add_zero,e1] at hs
  cases hs
  exact hg
 ·intro b hb hne
  exact hblk b hb (fun he => hne 0 g c (by simp) (by rw [Nat.add_zero,e1]) he)
 ·intro ev j x hj
  obtain ⟨rfl,rfl⟩:=one j x hj
  rw [Nat.add_zero]
  refine ⟨hsz,?_⟩
  rw [e1,e2]
  exact ⟨hc,cur,e,hcur,hcs,hrep,fun b hb => ⟨ht.ok b hb,fun hl => hnl b hb (ev.live b (hlt b hb) hl)⟩⟩
 ·intro j j' _ _ _ hj hj' _ _
  simp at hj hj'
  omega
 ·intro hdm j y hj _
  obtain ⟨rfl,hx⟩:=one j _ hj
  rw [Nat.add_zero,e2]
  refine ⟨ht.nodup hdm (hn hdm),?_,?_,?_⟩
  ·intro b hb
   obtain ⟨k,_,hk⟩:=ht.own hdm b hb
   exact hk.base hr hdm
  ·intro j' x' hj' _ hne
   exact absurd (one j' _ hj').1 hne
  ·intro o x' ho hx' hok b hb hbo
   obtain ⟨k,k1,k2⟩:=ht.own hdm b hb
   have:=Owned.unique hr hdm k2 (.inr ⟨hbo,x',ho,hx'⟩)
   subst this
   exact hok k1
end loud
end Go.R
end
section
set_option linter.all false
namespace Go.R
open Go Go.RowKit
section loud
variable {P:Program} {C:Ctx} {σ:Sg} {φ:Nat → List Nat} {h:List l7} {w w':World} {t:Nat → AV} {ρ:Operand → Value}
theorem b6v (t tx ty e e':TypeId) (i:TypeInfo) (ht:P.underlying t = some (.slice e)) (hi:P.info? e = some i)
  (g sLen sCap:Nat) (cur:Array Value) (hg:w.heap[g]? = some (.cells cur e' (0,0))) (x:Value) (m:Nat) (news:List Value) (hs:Src P i.size tx x m news w)
  (hroom:sLen + m ≤ sCap) (hfit:sLen * i.size + news.length ≤ cur.size) :
  (Builtin.append_ #[t,tx] ty #[.slice (some ⟨g,0,none⟩) sLen sCap,x]).run P w =
   .ok (.slice (some ⟨g,0,none⟩) (sLen + m) sCap) (w.setRow g (cur.toList.take (sLen * i.size) ++ news ++ cur.toList.drop (sLen * i.size + news.length)).toArray):=by
 have hst:=run_storeCells_at P g (sLen * i.size) e' news 0 cur w hg (by simpa using hfit) hs.one
 simp only [Nat.add_zero] at hst
 rcases hs.kind with ⟨e'',hk⟩ | hk <;> simp [Builtin.append_,run_underlying ht,run_underlying hk,sizeOf,typeInfo,hi,hs.len,hroom,hs.cells,Addr.add_lit,hst]
theorem c9t (hr:o9 C σ φ h w) (ks:List Nat) {sz:Nat} (hsz:0 < sz) :
  o9 C (upd σ h.length none) (upd φ h.length []) (kill h ks ++ [.row sz []]) w ∧ Ev σ h w (upd σ h.length none) (kill h ks ++ [.row sz []]) w:=by
 have e1:upd σ h.length none h.length = none:=by simp [upd]
 have e2:upd φ h.length ([]:List Nat) h.length = []:=by simp [upd]
 refine o9.puts hr ?_ (Nat.le_refl _) ?_ ?_ ?_ ?_ ?_
 ·intro o ho
  have:o ≠ h.length:=by omega
  simp [upd,this]
 ·intro j x hj g c hs
  cases j with
  | zero => rw [Nat.add_zero,e1] at hs; cases hs
  | succ j => simp at hj
 ·intro b hb _; rfl
 ·intro ev j x hj
  cases j with
  | zero =>
   simp at hj
   subst hj
   rw [Nat.add_zero]
   refine ⟨hsz,?_⟩
   rw [e1,e2]
   exact ⟨rfl,rfl⟩
  | succ j => simp at hj
 ·intro j j' g c c' hj hj' hs _
  simp at hj
  subst hj
  rw [Nat.add_zero,e1] at hs
  cases hs
 ·intro hdm j y hj _
  cases j with
  | zero =>
   rw [Nat.add_zero,e2]
   exact ⟨by simp,by simp,by simp,by simp⟩
  | succ j => simp at hj
theorem c4o (h:List l7) (ks:List Nat) (x:l7):(kill h ks ++ [x])[h.length]? = some x:=by
 rw [List.getElem?_append_right (by rw [a3x]; exact Nat.le_refl _),a3x,Nat.sub_self]; rfl
theorem f1z (hr:o9 C σ φ h w) {t e':TypeId} (hk:P.underlying t = some (.slice e')) {sz m:Nat} {a:Option Addr} {c:Nat} {fp:List Nat} {l:List AV} (hlen:l.length = m)
  (hsp:(m = 0 ∧ fp = []) ∨ ∃ g off cur e fz,a = some ⟨g,off,none⟩ ∧ w.heap[g]? = some (.cells cur e fz) ∧ a0a C.dm w sz l (cur.toList.drop off) fp) :
  ∃ news,Src P sz t (.slice a m c) m news w ∧ news.length = m * sz ∧ a0a C.dm w sz l news fp:=by
 rcases hsp with ⟨rfl,rfl⟩ | ⟨g,off,cur,e,fz,rfl,hg,hrep⟩
 ·have:l = []:=List.eq_nil_of_length_eq_zero hlen
  subst this
  refine ⟨[],?_,by simp,by simp [a0a]⟩
  cases a with
  | none => exact Src.ofNil w hk c
  | some a => exact Src.ofSlice w hk a 0 c [] (by simp) (by simp) (by simp)
 ·have hl:=hrep.length
  have hnl:((cur.toList.drop off).take (m * sz)).length = m * sz:=by rw [List.length_take]; rw [hlen] at hl; omega
  refine ⟨(cur.toList.drop off).take (m * sz),Src.ofSlice w hk _ m c _ hnl ?_ ?_,hnl,a0a.congr ?_ hrep⟩
  ·intro j u hu
   rw [List.getElem?_take] at hu
   split at hu
   ·rw [List.getElem?_drop] at hu
    have hadd:(⟨g,off,none⟩:Addr).add j = ⟨g,off + j,none⟩:=by unfold Addr.add; split <;> simp_all
    rw [hadd,b7j hg]
    simpa using hu
   ·cases hu
  ·have:=hrep.oneCell
   rw [hlen] at this
   exact this
  ·rw [hlen,List.take_take,Nat.min_self]
theorem c4p (hr:o9 C σ φ h w) (hb:∀ b,w.heap.size ≤ b → C.mine b) {ty e:TypeId} {ty':TypeId} {i:TypeInfo} (ht:P.underlying ty = some (.slice e)) (hi:P.info? e = some i)
  {z:Value} (hz:i.zero = some z) (hzs:z.cells.size = i.size) (h0:0 < i.size) (hby:i.bytes ≤ 65536) {cons:Bool} {s x:AV} {vs vx:Value} (hs:RV C σ h w s vs) (hx:RV C σ h w x vx)
  {l0 l1:List AV} {n m:Nat} {ks0 ks1:List Nat} (hd:b9r h i.size s = some (l0,n,ks0)) (hsr:b6e cons h i.size x = some (l1,m,ks1))
  (hflat:C.dm = true → cons = false → ∀ a ∈ l1,R.flat a = true) (hlst:C.dm = true → ∀ z l',x = .lst z l' → ∀ a ∈ l1,R.flat a = true) (hnd:C.dm = true → (ks0 ++ ks1).Nodup) (hlim:n + m ≤ 2 ^ 30) :
  ∃ u w' σ' φ',(Builtin.append_ #[ty,ty] ty' #[vs,vx]).run P w = .ok u w' ∧ o9 C σ' φ' (kill h (ks0 ++ ks1) ++ [.row i.size (l0 ++ l1)]) w' ∧
   Ev σ h w σ' (kill h (ks0 ++ ks1) ++ [.row i.size (l0 ++ l1)]) w' ∧ RV C σ' (kill h (ks0 ++ ks1) ++ [.row i.size (l0 ++ l1)]) w' (.own h.length 0 (n + m)) u ∧ Below C.base w w':=by
 obtain ⟨hl0,hn0,fp0,ht0,hnl0,hc0⟩:=e6a hr hs hd
 obtain ⟨hl1,hn1,fp1,a,c1,rfl,ht1,hnl1,hc1⟩:=d7e hr hx hsr hflat hlst
 obtain ⟨news,hsrc,hnews,hrep1⟩:=f1z (P:=P) hr ht (c:=c1) hl1 hc1
 have htk:=ht0.append hr ht1
 have hnl:∀ b ∈ fp0 ++ fp1,¬ liveAt h σ b:=fun b hb => (List.mem_append.1 hb).elim (hnl0 b) (hnl1 b)
 have hmax:n + m ≤ maxLen:=by simp only [maxLen]; omega
 have hlt1:=a0a.lt _ _ _ hrep1
 have hbytes:(n + m) * i.bytes ≤ 140737488355328:=Nat.le_trans (Nat.mul_le_mul hlim hby) (by decide)
 have result:∀ (σ':Sg) (g c:Nat),σ' h.length = some (g,c) → n + m ≤ c → c ≤ maxLen → ∀ w',RV C σ' (kill h (ks0 ++ ks1) ++ [.row i.size (l0 ++ l1)]) w' (.own h.length 0 (n + m)) (.slice (some ⟨g,0,none⟩) (n + m) c):=by
  intro σ' g c hs' hc hm w'
  simp only [RV,c4o]
  exact ⟨_,c,rfl,by rw [List.length_append]; omega,hc,hm,by rw [hs']; simp⟩
 have grow:∀ (old:Nat) (base:Option Addr) (olds:List Value),old < n + m → (Builtin.firstCells i.size n (.slice base n old)).run P w.drew = .ok olds.toArray w.drew → olds.length = n * i.size → a0a C.dm w i.size l0 olds fp0 →
   vs = .slice base n old →
   ∃ u w' σ' φ',(Builtin.append_ #[ty,ty] ty' #[vs,.slice a m c1]).run P w = .ok u w' ∧ o9 C σ' φ' (kill h (ks0 ++ ks1) ++ [.row i.size (l0 ++ l1)]) w' ∧
    Ev σ h w σ' (kill h (ks0 ++ ks1) ++ [.row i.size (l0 ++ l1)]) w' ∧ RV C σ' (kill h (ks0 ++ ks1) ++ [.row i.size (l0 ++ l1)]) w' (.own h.length 0 (n + m)) u ∧ Below C.base w w':=by
  intro old base olds hold hrun hol hrep0 hvs
  subst hvs
  have hge:=grownCap_ge w (n + m) old e
  have hcm:=grownCap_le_maxLen w (n + m) old e hmax
  have hr':=run_append_grow_src (P:=P) w ty ty ty' e i z ht hi hz base n old olds hrun _ m news hsrc hold (by omega) (growslice_fits hold hbytes)
  have hlt0:=a0a.lt _ _ _ hrep0
  have hblk:∀ ob,∀ b,b < w.heap.size → (w.drew.alloc ob).heap[b]? = w.heap[b]?:=fun ob b hb => heap_alloc_old w.drew ob hb
  have hrep:∀ ob,a0a C.dm (w.drew.alloc ob) i.size (l0 ++ l1) ((olds ++ news).toArray ++ Builtin.zeroCells z.cells (grownCap w (n + m) old e - (n + m))).toList (fp0 ++ fp1):=by
   intro ob
   refine a0a.congr (cs:=olds ++ news) ?_ ?_
   ·rw [List.length_append,hl0,hl1]
    simp only [Array.toList_append]
    rw [List.take_append_of_le_length (by simp [hol,hnews,Nat.add_mul])]
   ·exact a0a.append (a0a.world _ _ _ (fun b hb => hblk ob b (hlt0 b hb)) hrep0) (by rw [hol,hl0]) (a0a.world _ _ _ (fun b hb => hblk ob b (hlt1 b hb)) hrep1)
  have key:=c8w (w':=w.drew.alloc (.cells ((olds ++ news).toArray ++ Builtin.zeroCells z.cells (grownCap w (n + m) old e - (n + m))) e)) hr (by simp) (g:=w.heap.size) (c:=grownCap w (n + m) old e) (ks:=ks0 ++ ks1) ⟨hb _ (Nat.le_refl _),.inl (Nat.le_refl _)⟩ (fun b hb _ => hblk _ b hb)
   (heap_alloc_new w.drew _) h0 hcm (by
    simp only [Array.size_append,List.size_toArray,size_zeroCells,hzs,List.length_append,hol,hnews,← Nat.add_mul]
    congr 1
    omega) (hrep _) htk (fun b hb => (List.mem_append.1 hb).elim (hlt0 b) (hlt1 b)) hnl hnd
  exact ⟨_,_,_,_,hr',key.1,key.2,result _ _ _ (by simp [upd]) hge hcm _,⟨rfl,rfl,rfl,by simp,fun k hk => hblk _ k (by have:=(hb _ (Nat.le_refl _)).1; omega)⟩⟩
 rcases hc0 with ⟨rfl,rfl,rfl⟩ | ⟨g,c,cur,e',o,rfl,hnc,hcm,hg,hcs,hrep0,hok,⟨y,hy1,hy2,hy3⟩,_⟩
 ·have:l0 = []:=List.eq_nil_of_length_eq_zero hl0
  subst this
  by_cases hm:m = 0
  ·subst hm
   have:l1 = []:=List.eq_nil_of_length_eq_zero hl1
   subst this
   have hnn:news = []:=List.eq_nil_of_length_eq_zero (by simpa using hnews)
   subst hnn
   have key:=c9t hr (ks0 ++ ks1) h0
   refine ⟨.slice none 0 0,w,_,_,?_,key.1,key.2,?_,Below.refl _ _⟩
   ·rcases hsrc.kind with ⟨e'',hk⟩ | hk <;> simp [Builtin.append_,run_underlying ht,run_underlying hk,sizeOf,typeInfo,hi,hsrc.len,hsrc.cells,storeCells]
   ·simp only [RV,List.append_nil,c4o]
    exact ⟨none,0,rfl,by simp,by simp,by simp,by simp [upd]⟩
  ·exact grow 0 none [] (by omega) (run_firstCells_none w.drew i.size 0 0 0) (by simp) (by simp [a0a]) rfl
 ·by_cases hroom:n + m ≤ c
  ·have hfit:n * i.size + news.length ≤ cur.size:=by rw [hnews,hcs,← Nat.add_mul]; exact Nat.mul_le_mul_right _ hroom
   have hr':=b6v (P:=P) (w:=w) ty ty ty' e e' i ht hi g n c cur hg _ m news hsrc hroom hfit
   have hlt0:=a0a.lt _ _ _ hrep0
   have hne:∀ b ∈ fp0 ++ fp1,b ≠ g:=by
    intro b hb he
    subst he
    exact hnl b hb ⟨o,y,c,hy1,hy2,hy3⟩
   have hlen0:(cur.toList.take (n * i.size)).length = n * i.size:=by rw [List.length_take,Array.length_toList]; omega
   have hrep:a0a C.dm (w.setRow g (cur.toList.take (n * i.size) ++ news ++ cur.toList.drop (n * i.size + news.length)).toArray) i.size (l0 ++ l1) (cur.toList.take (n * i.size) ++ news ++ cur.toList.drop (n * i.size + news.length)).toArray.toList (fp0 ++ fp1):=by
    refine a0a.congr (cs:=cur.toList.take (n * i.size) ++ news) ?_ ?_
    ·rw [List.length_append,hl0,hl1]
     simp only
     rw [List.take_append_of_le_length (by simp [hlen0,hnews,Nat.add_mul])]
    ·refine a0a.append (a0a.world _ _ _ (fun b hb => setRow_other w g b _ (hne b (by simp [hb]))) (a0a.congr (by rw [hl0,List.take_take,Nat.min_self]) hrep0)) (by rw [hlen0,hl0]) (a0a.world _ _ _ (fun b hb => setRow_other w g b _ (hne b (by simp [hb]))) hrep1)
   have hgb:C.mine g:=hr.base o y g c hy1 hy2 hy3
   have key:=c8w (w':=w.setRow g (cur.toList.take (n * i.size) ++ news ++ cur.toList.drop (n * i.size + news.length)).toArray) hr (by simp) (g:=g) (c:=c) (ks:=ks0 ++ ks1)
    ⟨hgb,.inr ⟨o,by simp [hok],y,c,hy1,hy2,hy3⟩⟩ (fun b _ hbg => setRow_other w g b _ hbg) (setRow_heap w g cur _ e' _ hg) h0 hcm (by
     simp only [List.size_toArray,List.length_append,hlen0,List.length_drop,Array.length_toList]
     omega) hrep htk (fun b hb => (List.mem_append.1 hb).elim (hlt0 b) (hlt1 b)) hnl hnd
   exact ⟨_,_,_,_,hr',key.1,key.2,result _ _ _ (by simp [upd]) hroom hcm _,⟨rfl,rfl,rfl,by simp,fun k hk => setRow_other w g k _ (by have:=hgb.1; omega)⟩⟩
  ·have hl:=hrep0.length
   have holds:(Builtin.firstCells i.size n (.slice (some ⟨g,0,none⟩) n c)).run P w.drew = .ok (cur.toList.take (n * i.size)).toArray w.drew:=by
    refine run_firstCells_some (P:=P) w.drew i.size n ⟨g,0,none⟩ n c _ ?_ ?_
    ·rw [List.length_take]; rw [hl0] at hl; omega
    ·intro j u hu
     rw [List.getElem?_take] at hu
     split at hu
     ·have hadd:(⟨g,0,none⟩:Addr).add j = ⟨g,j,none⟩:=by unfold Addr.add; split <;> simp_all
      rw [hadd]
      show w.cell? _ = _
      rw [b7j hg]
      simpa using hu
     ·cases hu
   exact grow c _ _ (by omega) holds (by rw [List.length_take]; rw [hl0] at hl; omega) (a0a.congr (by rw [hl0,List.take_take,Nat.min_self]) hrep0) rfl
theorem a0a.split {m:Bool} {w:World} {sz:Nat}:∀ {as:List AV} {cs:List Value} {fp:List Nat} (n:Nat),a0a m w sz as cs fp → ∃ f g,fp = f ++ g ∧ a0a m w sz (as.take n) cs f ∧ a0a m w sz (as.drop n) (cs.drop (n * sz)) g
 | [],cs,fp,n,h => by simp only [a0a] at h; subst h; exact ⟨[],[],rfl,by simp [a0a],by simp [a0a]⟩
 | a :: as,cs,fp,0,h => ⟨[],fp,rfl,by simp [a0a],by simpa using h⟩
 | a :: as,cs,fp,n + 1,h => by
  simp only [a0a] at h
  obtain ⟨f1,f2,h0,h1,h2,rfl⟩:=h
  obtain ⟨f,g,e,g1,g2⟩:=a0a.split n h2
  rw [List.drop_drop] at g2
  have e2:sz + n * sz = (n + 1) * sz:=by rw [Nat.add_mul]; omega
  rw [e2] at g2
  refine ⟨f1 ++ f,g,by rw [e]; simp,?_,by simpa using g2⟩
  simp only [List.take_succ_cons,a0a]
  exact ⟨f1,f,h0,h1,g1,rfl⟩
theorem d7f (hr:o9 C σ φ h w) (hb:∀ b,w.heap.size ≤ b → C.mine b) {ty e:TypeId} {ty':TypeId} {i:TypeInfo} (ht:P.underlying ty = some (.slice e)) (hi:P.info? e = some i) (h0:0 < i.size)
  {o lo n m:Nat} {l:List AV} {vs vx:Value} (ho:h[o]? = some (.row i.size l)) (hs:RV C σ h w (.own o 0 n) vs) (hx:RV C σ h w (.own o lo m) vx) (hnl:n ≤ lo) :
  ∃ u w' σ' φ',(Builtin.append_ #[ty,ty] ty' #[vs,vx]).run P w = .ok u w' ∧ o9 C σ' φ' (kill h [o] ++ [.row i.size (l.take n ++ (l.drop lo).take m)]) w' ∧
   Ev σ h w σ' (kill h [o] ++ [.row i.size (l.take n ++ (l.drop lo).take m)]) w' ∧ RV C σ' (kill h [o] ++ [.row i.size (l.take n ++ (l.drop lo).take m)]) w' (.own h.length 0 (n + m)) u ∧ Below C.base w w':=by
 simp only [RV,ho] at hs hx
 obtain ⟨a1,c1,rfl,s1,s2,s3,s4⟩:=hs
 obtain ⟨a2,c2,rfl,x1,x2,x3,x4⟩:=hx
 obtain ⟨hz,hob⟩:=hr.obj o _ ho
 have hl0:(l.take n).length = n:=by rw [List.length_take]; omega
 have hl1:((l.drop lo).take m).length = m:=by rw [List.length_take,List.length_drop]; omega
 cases hσ:σ o with
 | none =>
  rw [hσ] at hob s4 x4
  obtain ⟨rfl,_⟩:=hob
  obtain ⟨rfl,rfl⟩:=s4
  obtain ⟨rfl,rfl⟩:=x4
  have hn0:n = 0:=by omega
  have hm0:m = 0:=by omega
  subst hn0 hm0
  have key:=c9t hr [o] h0
  refine ⟨.slice none 0 0,w,_,_,?_,by simpa using key.1,by simpa using key.2,?_,Below.refl _ _⟩
  ·have hsrc:=Src.ofNil (P:=P) (size:=i.size) w ht 0
   rcases hsrc.kind with ⟨e'',hk⟩ | hk <;> simp [Builtin.append_,run_underlying ht,run_underlying hk,sizeOf,typeInfo,hi,hsrc.len,hsrc.cells,storeCells]
  ·simp only [RV,List.take_nil,List.drop_nil,List.append_nil,c4o]
   exact ⟨none,0,rfl,by simp,by simp,by simp,by simp [upd]⟩
 | some p =>
  obtain ⟨g,c⟩:=p
  rw [hσ] at hob s4 x4
  obtain ⟨rfl,rfl⟩:=s4.2 rfl
  obtain ⟨hcm,cur,e',hg,hcs,hrep,hf⟩:=hob
  obtain ⟨fa,fb,hfab,ra,rb⟩:=hrep.split n
  obtain ⟨fc,fd,hfcd,rd⟩:=rb.drop (lo - n)
  rw [List.drop_drop,List.drop_drop,← Nat.add_mul,show n + (lo - n) = lo by omega] at rd
  obtain ⟨g1,g2,hg12,rg⟩:=rd.take m
  have hsub:List.Sublist (fa ++ g1) (φ o):=by
   rw [hfab,hfcd,hg12]
   exact List.Sublist.append (List.Sublist.refl _) ((List.sublist_append_left g1 g2).trans (List.sublist_append_right fc _))
  have hspec:(m = 0 ∧ g1 = []) ∨ ∃ g off cur e fz,a2 = some ⟨g,off,none⟩ ∧ w.heap[g]? = some (.cells cur e fz) ∧ a0a C.dm w i.size ((l.drop lo).take m) (cur.toList.drop off) g1:=by
   by_cases hm:m = 0
   ·subst hm
    simp only [List.take_zero,a0a] at rg
    exact .inl ⟨rfl,rg⟩
   ·exact .inr ⟨g,lo * i.size,cur,e',(0,0),x4.1.resolve_left hm,hg,rg⟩
  obtain ⟨news,hsrc,hnews,hrep1⟩:=f1z (P:=P) hr ht (c:=c2) hl1 hspec
  have hlc:l.length ≤ c1:=by
   have h1:=hrep.length
   have h2:cur.toList.length = c1 * i.size:=by rw [← hcs]; simp
   rw [h2] at h1
   exact Nat.le_of_mul_le_mul_right h1 h0
  have hroom:n + m ≤ c1:=by omega
  have hfit:n * i.size + news.length ≤ cur.size:=by rw [hnews,hcs,← Nat.add_mul]; exact Nat.mul_le_mul_right _ hroom
  have hr':=b6v (P:=P) (w:=w) ty ty ty' e e' i ht hi g n c1 cur hg _ m news hsrc hroom hfit
  have hlt:∀ b ∈ fa ++ g1,b < w.heap.size:=fun b hb => a0a.lt _ _ _ hrep b (hsub.subset hb)
  have hnlv:∀ b ∈ fa ++ g1,¬ liveAt h σ b:=fun b hb => (hf b (hsub.subset hb)).2
  have hne:∀ b ∈ fa ++ g1,b ≠ g:=by
   intro b hb he
   subst he
   exact hnlv b hb ⟨o,_,c1,ho,rfl,hσ⟩
  have htk:Taken C σ φ h [o] (fa ++ g1):=⟨fun b hb => (hf b (hsub.subset hb)).1,fun b hb hl => absurd hl (hnlv b hb),fun hdm b hb => ⟨o,by simp,.inr ⟨hsub.subset hb,_,ho,rfl⟩⟩,fun hdm _ => (hr.deep hdm o _ l ho).1.sublist hsub⟩
  have hlen0:(cur.toList.take (n * i.size)).length = n * i.size:=by rw [List.length_take,Array.length_toList]; omega
  have hrepN:a0a C.dm (w.setRow g (cur.toList.take (n * i.size) ++ news ++ cur.toList.drop (n * i.size + news.length)).toArray) i.size (l.take n ++ (l.drop lo).take m) (cur.toList.take (n * i.size) ++ news ++ cur.toList.drop (n * i.size + news.length)).toArray.toList (fa ++ g1):=by
   refine a0a.congr (cs:=cur.toList.take (n * i.size) ++ news) ?_ ?_
   ·rw [List.length_append,hl0,hl1]
    simp only
    rw [List.take_append_of_le_length (by simp [hlen0,hnews,Nat.add_mul])]
   ·refine a0a.append (a0a.world _ _ _ (fun b hb => setRow_other w g b _ (hne b (by simp [hb]))) (a0a.congr (by rw [hl0,List.take_take,Nat.min_self]) ra)) (by rw [hlen0,hl0]) (a0a.world _ _ _ (fun b hb => setRow_other w g b _ (hne b (by simp [hb]))) hrep1)
  have hgb:C.mine g:=hr.base o _ g c1 ho rfl hσ
  have key:=c8w (w':=w.setRow g (cur.toList.take (n * i.size) ++ news ++ cur.toList.drop (n * i.size + news.length)).toArray) hr (by simp) (g:=g) (c:=c1) (ks:=[o])
   ⟨hgb,.inr ⟨o,by simp,_,c1,ho,rfl,hσ⟩⟩ (fun b _ hbg => setRow_other w g b _ hbg) (setRow_heap w g cur _ e' _ hg) h0 hcm (by
    simp only [List.size_toArray,List.length_append,hlen0,List.length_drop,Array.length_toList]
    omega) hrepN htk hlt hnlv (fun _ => by simp)
  refine ⟨_,_,_,_,hr',key.1,key.2,?_,⟨rfl,rfl,rfl,by simp,fun k hk => setRow_other w g k _ (by have:=hgb.1; omega)⟩⟩
  simp only [RV,c4o]
  exact ⟨_,c1,rfl,by rw [List.length_append,hl0,hl1]; omega,hroom,hcm,by simp [upd]⟩
end loud
end Go.R
end
section
set_option linter.all false
namespace Go.R
open Go Go.RowKit
section loud
variable {P:Program} {C:Ctx} {σ:Sg} {φ:Nat → List Nat} {h:List l7} {w w':World} {t:Nat → AV} {ρ:Operand → Value}
theorem b3u.flat {v:Value} {a:AV} (hc:b3u v = some a):R.flat a = true ∧ a.isCell = true ∧ ∀ m w,Rep m w a v.cells.toList []:=by
 unfold b3u at hc
 split at hc <;> try (cases hc; done)
 ·cases hc; simp [R.flat,AV.isCell,Rep,Value.cells]
 ·cases hc; simp [R.flat,AV.isCell,Rep,Value.cells]
 ·rename_i s
  split at hc
  ·cases hc
   rename_i hs
   obtain ⟨⟨l⟩⟩:=s
   have:l.length ≤ 65536:=hs
   simp [R.flat,AV.isCell,Rep,Value.cells,maxLen]
   omega
  ·cases hc
 ·cases hc; simp [R.flat,AV.isCell,Rep,Value.cells]
theorem a6w.flat:∀ {vs:List Value} {as:List AV},a6w vs = some as → b9f as = true ∧ ∀ m w,a0b m w as vs []
 | [],as,hc => by simp only [a6w] at hc; cases hc; simp [b9f,a0b]
 | v :: vs,as,hc => by
  simp only [a6w] at hc
  cases h1:b3u v with
  | none => simp [h1] at hc
  | some a =>
   cases h2:a6w vs with
   | none => simp [h1,h2] at hc
   | some as' =>
    simp only [h1,h2,Option.some.injEq] at hc
    subst hc
    have ih:=a6w.flat h2
    have ha:=b3u.flat h1
    refine ⟨by simp [b9f,ih.1,ha.1],fun m w => ?_⟩
    simp only [a0b]
    refine ⟨v,vs,[],[],rfl,ha.2.1,?_,ih.2 m w,rfl⟩
    have:=ha.2.2 m w
    rwa [Rep.cellV (m:=m) (w:=w) (fp:=[]) ha.2.1] at this
    obtain ⟨c,e1,e2⟩:=this.cell ha.2.1
    have hv:v = c:=by
     unfold b3u at h1
     split at h1 <;> try (cases h1; done)
     all_goals simp [Value.cells] at e1
     all_goals exact e1
    subst hv
    rwa [e1] at this
theorem a5h.flat {v:Value} {a:AV} (hc:a5h v = some a):R.flat a = true ∧ a.isElem = true ∧ ∀ m w,Rep m w a v.cells.toList []:=by
 unfold a5h at hc
 split at hc
 ·rename_i cs
  simp only [Option.map_eq_some_iff] at hc
  obtain ⟨as,h1,rfl⟩:=hc
  have:=a6w.flat h1
  exact ⟨by simp only [R.flat]; exact this.1,rfl,fun m w => by simp only [Rep,Value.cells]; exact this.2 m w⟩
 ·have:=b3u.flat hc
  exact ⟨this.1,by cases a <;> simp_all [AV.isCell,AV.isElem],this.2.2⟩
theorem b4e {m:Bool} {w:World} {a:AV} {cs:List Value} (he:a.isElem = true) (hr:Rep m w a cs []):∀ (n:Nat) (ds:List Value),(∀ i,i < n → (ds.drop (i * cs.length)).take cs.length = cs) → a0a m w cs.length (List.replicate n a) ds []
 | 0,ds,_ => by simp [a0a]
 | n + 1,ds,hd => by
  rw [List.replicate_succ]
  simp only [a0a]
  have h0:ds.take cs.length = cs:=by simpa using hd 0 (by omega)
  refine ⟨[],[],⟨by rw [h0],he⟩,by rw [h0]; exact hr,b4e he hr n _ (fun i hi => ?_),rfl⟩
  rw [List.drop_drop]
  have:=hd (i + 1) (by omega)
  rw [Nat.add_mul,Nat.one_mul] at this
  rwa [Nat.add_comm cs.length]
theorem c9u (z:Array Value) (hz:0 < z.size) (k i:Nat) (hi:(i + 1) * z.size ≤ k):((madeCells z k).toList.drop (i * z.size)).take z.size = z.toList:=by
 apply List.ext_getElem
 ·simp [madeCells]; rw [Nat.add_mul] at hi; omega
 ·intro j h1 h2
  have hj:j < z.size:=by simpa using h2
  simp only [madeCells,List.getElem_take,List.getElem_drop,Array.getElem_toList,Array.getElem_map,Array.getElem_range]
  have:(i * z.size + j) % z.size = j:=by rw [Nat.mul_comm,Nat.mul_add_mod,Nat.mod_eq_of_lt hj]
  rw [this,getElem!_pos z j hj]
theorem d2o (hr:o9 C σ φ h w) (hb:∀ b,w.heap.size ≤ b → C.mine b) {ty e:TypeId} {i:TypeInfo} (ht:P.underlying ty = some (.slice e)) (hi:P.info? e = some i)
  {z:Value} (hz:i.zero = some z) {za:AV} (hza:a5h z = some za) (hzs:za.cells.length = i.size) (h0:0 < i.size) (hby:i.bytes ≤ 65536) {kn kc:IntKind} {n c:Int} (hn:0 ≤ n) (hnc:n ≤ c) (hc:c ≤ 2 ^ 30) :
  ∃ u w' σ' φ',(Instr.makeSlice ty (.int kn n) (.int kc c)).run P w = .ok u w' ∧ o9 C σ' φ' (h ++ [.row i.size (List.replicate n.toNat za)]) w' ∧
   Ev σ h w σ' (h ++ [.row i.size (List.replicate n.toNat za)]) w' ∧ RV C σ' (h ++ [.row i.size (List.replicate n.toNat za)]) w' (.own h.length 0 n.toNat) u ∧ Below C.base w w':=by
 have hf:=a5h.flat hza
 have hzc:z.cells.size = i.size:=by
  have hrv:=(a5h.rv (C:=C) (σ:=σ) (h:=h) (w:=w) hza).cells (by cases za <;> simp_all [R.flat,a6p])
  have:=hrv.length
  rw [hzs] at this
  simpa using this
 have hbytes:(i.bytes:Int) * c ≤ 281474976710656:=by
  have h1:(i.bytes:Int) ≤ 65536:=by omega
  calc (i.bytes:Int) * c ≤ 65536 * 2 ^ 30:=Int.mul_le_mul h1 hc (by omega) (by omega)
   _ ≤ 281474976710656:=by decide
 have hr':=run_make (P:=P) w ty e i z ht hi hz kn kc n c hn hnc hbytes (by omega)
 have hcm:c.toNat ≤ maxLen:=by simp only [maxLen]; omega
 have hrep:a0a C.dm w i.size (List.replicate n.toNat za) (madeCells z.cells (c.toNat * i.size)).toList []:=by
  have hl:z.cells.toList.length = i.size:=by simpa using hzc
  rw [← hl]
  refine b4e hf.2.1 (hf.2.2 _ _) _ _ (fun j hj => ?_)
  rw [hl,← hzc]
  refine c9u _ (by omega) _ _ ?_
  exact Nat.mul_le_mul_right _ (by omega)
 obtain ⟨σ',φ',k1,k2,k3⟩:=d5a hr hb e (ks:=[]) h0 hcm (size_madeCells _ _) hrep Taken.nil (fun _ => by simp)
 simp only [kill] at k1 k2
 refine ⟨_,_,σ',φ',hr',k1,k2,?_,Below.push _ _ _ (hb _ (Nat.le_refl _)).1⟩
 simp only [RV,List.getElem?_append_right (Nat.le_refl _),Nat.sub_self,List.getElem?_cons_zero]
 exact ⟨_,c.toNat,rfl,by simp,by omega,hcm,by rw [k3]; simp⟩
theorem o9.turn (hr:o9 C σ φ h w) {o:Nat} {x x':l7} (ho:h[o]? = some x) (hx:x.isLive = true) (hs:sameShape x x') {g c:Nat} (hσ:σ o = some (g,c)) {ks:List Nat} (hk:o ∉ ks) {fx:List Nat}
  (hsize:w'.heap.size = w.heap.size) (hblk:∀ b,b ≠ g → w'.heap[b]? = w.heap[b]?)
  (hobj:Ev σ h w σ ((kill h ks).set o x') w' → b5a C σ (upd φ o fx) ((kill h ks).set o x') w' o x')
  (hdeep:C.dm = true → x'.rw = true → fx.Nodup ∧ (∀ b ∈ fx,C.mine b) ∧ ∀ o' y,h[o']? = some y → y.rw = true → o' ∉ ks → o' ≠ o → ∀ b ∈ fx,b ∉ φ o') :
  o9 C σ (upd φ o fx) ((kill h ks).set o x') w' ∧ Ev σ h w σ ((kill h ks).set o x') w':=by
 have hlt:o < h.length:=(List.getElem?_eq_some_iff.1 ho).1
 have hget:∀ o',((kill h ks).set o x')[o']? = if o' = o then some x' else (kill h ks)[o']?:=by
  intro o'
  rw [List.getElem?_set,a3x]
  by_cases he:o = o'
  ·subst he; simp [hlt]
  ·simp [he,Ne.symm he]
 have live':∀ o' y,((kill h ks).set o x')[o']? = some y → y.isLive = true → (o' = o ∧ y = x') ∨ (o' ≠ o ∧ h[o']? = some y ∧ o' ∉ ks):=by
  intro o' y hy hly
  rw [hget] at hy
  split at hy
  ·cases hy; exact .inl ⟨by assumption,rfl⟩
  ·rename_i hne
   have:=a7x hy hly
   exact .inr ⟨hne,this.1,this.2⟩
 have ev:Ev σ h w σ ((kill h ks).set o x') w':=by
  refine ⟨?_,?_,?_,?_,by omega⟩
  ·intro o' y hy hly
   rw [hget]
   by_cases he:o' = o
   ·subst he
    rw [ho] at hy
    cases hy
    exact .inr ⟨rfl,x',by simp,hs⟩
   ·rw [if_neg he,b5r]
    split
    ·exact .inl rfl
    ·exact .inr ⟨rfl,y,hy,sameShape.refl hly⟩
  ·intro o' hd
   rw [hget]
   by_cases he:o' = o
   ·subst he; rw [ho] at hd; cases hd; simp [l7.isLive] at hx
   ·rw [if_neg he,b5r]
    split
    ·rfl
    ·exact hd
  ·rintro b hb ⟨o',y,c',h1,h2,h3⟩
   rcases live' o' y h1 h2 with ⟨rfl,rfl⟩ | ⟨_,h4,_⟩
   ·exact ⟨o',x,c',ho,hx,h3⟩
   ·exact ⟨o',y,c',h4,h2,h3⟩
  ·intro b hb hnl
   exact hblk b (fun e => hnl (e ▸ ⟨o,x,c,ho,hx,hσ⟩))
 refine ⟨⟨?_,?_,?_,?_⟩,ev⟩
 ·intro o' y hy
  rw [hget] at hy
  split at hy
  ·rename_i he
   subst he
   cases hy
   exact hobj ev
  ·rename_i hne
   rw [b5r] at hy
   split at hy
   ·cases hy; trivial
   ·have hold:=hr.obj o' y hy
    have same:∀ g' c',σ o' = some (g',c') → y.isLive = true → w'.heap[g']? = w.heap[g']?:=by
     intro g' c' hs' hly
     refine hblk g' (fun e => ?_)
     subst e
     exact hne (hr.inj o' o y x g' c' c hy hly ho hx hs' hσ)
    cases y with
    | dead => trivial
    | box sz v =>
     obtain ⟨g',cur,e,h1,h2,h3,h4⟩:=hold
     exact ⟨g',cur,e,h1,by rw [same g' 1 h1 rfl]; exact h2,h3,ev.rvs _ _ h4⟩
    | map m =>
     obtain ⟨g',cur,e,h1,h2,h3,h4⟩:=hold
     exact ⟨g',cur,e,h1,by rw [same g' 1 h1 rfl]; exact h2,h3,ev.rvs _ _ h4⟩
    | row sz l =>
     obtain ⟨h0,hold⟩:=hold
     refine ⟨h0,?_⟩
     have hφ:upd φ o fx o' = φ o':=by simp [upd,hne]
     rw [hφ]
     cases hs':σ o' with
     | none => rw [hs'] at hold; exact hold
     | some p =>
      obtain ⟨g',c'⟩:=p
      rw [hs'] at hold
      obtain ⟨h1,cur,e,h2,h3,h4,h5⟩:=hold
      obtain ⟨g1,g2⟩:=ev.immS h4 h5
      exact ⟨h1,cur,e,by rw [same g' c' hs' rfl]; exact h2,h3,g1,g2⟩
    | rowx sz l i el => exact b5a.rowx_ev ev rfl (by simp [upd,hne]) (fun g' c' hs' => same g' c' hs' rfl) hold
 ·intro o1 o2 y1 y2 b c1 c2 h1 l1 h2 l2 s1 s2
  rcases live' o1 y1 h1 l1 with ⟨rfl,rfl⟩ | ⟨n1,g1,_⟩ <;> rcases live' o2 y2 h2 l2 with ⟨rfl,rfl⟩ | ⟨n2,g2,_⟩
  ·rfl
  ·exact hr.inj _ _ x y2 b c1 c2 ho hx g2 l2 s1 s2
  ·exact hr.inj _ _ y1 x b c1 c2 g1 l1 ho hx s1 s2
  ·exact hr.inj _ _ y1 y2 b c1 c2 g1 l1 g2 l2 s1 s2
 ·intro o1 y1 b c1 h1 l1 s1
  rcases live' o1 y1 h1 l1 with ⟨rfl,rfl⟩ | ⟨n1,g1,_⟩
  ·exact hr.base _ x b c1 ho hx s1
  ·exact hr.base _ y1 b c1 g1 l1 s1
 ·intro hdm o1 y1 h1 r1
  rcases live' o1 _ h1 (l7.rw_live r1) with ⟨rfl,e⟩ | ⟨n1,g1,k1⟩
  ·subst e
   obtain ⟨d1,d2,d3⟩:=hdeep hdm r1
   have:upd φ o1 fx o1 = fx:=by simp [upd]
   rw [this]
   refine ⟨d1,d2,?_⟩
   intro o2 y2 h2 r2 hne b hb
   rcases live' o2 _ h2 (l7.rw_live r2) with ⟨rfl,_⟩ | ⟨n2,g2,k2⟩
   ·exact absurd rfl hne
   ·have:upd φ o1 fx o2 = φ o2:=by simp [upd,n2]
    rw [this]
    exact d3 o2 y2 g2 r2 k2 n2 b hb
  ·obtain ⟨d1,d2,d3⟩:=hr.deepx hdm o1 y1 g1 r1
   have:upd φ o fx o1 = φ o1:=by simp [upd,n1]
   rw [this]
   refine ⟨d1,d2,?_⟩
   intro o2 y2 h2 r2 hne b hb
   rcases live' o2 _ h2 (l7.rw_live r2) with ⟨rfl,e⟩ | ⟨n2,g2,k2⟩
   ·subst e
    have:upd φ o2 fx o2 = fx:=by simp [upd]
    rw [this]
    obtain ⟨_,_,e3⟩:=hdeep hdm r2
    intro hb2
    exact e3 o1 y1 g1 r1 k1 n1 b hb2 hb
   ·have:upd φ o fx o2 = φ o2:=by simp [upd,n2]
    rw [this]
    exact d3 o2 y2 g2 r2 hne b hb
end loud
end Go.R
end
section
set_option linter.all false
namespace Go.R
open Go Go.RowKit
theorem a0a.set {m:Bool} {w:World} {sz:Nat}:∀ {l:List AV} {cs:List Value} {fp:List Nat} {i:Nat} {a:AV},a0a m w sz l cs fp → l[i]? = some a →
  ∃ A f B,fp = A ++ f ++ B ∧ Rep m w a ((cs.drop (i * sz)).take sz) f ∧ ((cs.drop (i * sz)).take sz).length = sz ∧ a.isElem = true ∧
   ∀ w' a' seg f',(∀ b ∈ A ++ B,w'.heap[b]? = w.heap[b]?) → seg.length = sz → a'.isElem = true → Rep m w' a' seg f' → a0a m w' sz (l.set i a') (cs.take (i * sz) ++ seg ++ cs.drop (i * sz + sz)) (A ++ f' ++ B)
 | [],_,_,_,_,_,h => by simp at h
 | x :: l,cs,fp,0,a,h,hi => by
  simp only [a0a] at h
  obtain ⟨f1,f2,h0,h1,h2,rfl⟩:=h
  simp at hi
  subst hi
  refine ⟨[],f1,f2,by simp,by simpa using h1,by simpa using h0.1,h0.2,?_⟩
  intro w' a' seg f' hw hl he hr
  simp only [List.set_cons_zero,a0a,Nat.zero_mul,List.take_zero,List.nil_append,Nat.zero_add]
  refine ⟨f',f2,⟨by rw [List.take_append_of_le_length (by omega),List.take_of_length_le (by omega)]; exact hl,he⟩,?_,?_,rfl⟩
  ·rw [List.take_append_of_le_length (by omega),List.take_of_length_le (by omega)]; exact hr
  ·rw [List.drop_append_of_le_length (by omega),List.drop_of_length_le (by omega)]
   simpa using a0a.world _ _ _ (fun b hb => hw b (by simpa using hb)) h2
 | x :: l,cs,fp,i + 1,a,h,hi => by
  simp only [a0a] at h
  obtain ⟨f1,f2,h0,h1,h2,rfl⟩:=h
  obtain ⟨A,f,B,rfl,g1,g2,g3,g4⟩:=a0a.set h2 (by simpa using hi)
  have hsz:sz ≤ cs.length:=by have:=h0.1; rw [List.length_take] at this; omega
  rw [List.drop_drop] at g1 g2
  have e:sz + i * sz = (i + 1) * sz:=by rw [Nat.add_mul]; omega
  rw [e] at g1 g2
  refine ⟨f1 ++ A,f,B,by simp,g1,g2,g3,?_⟩
  intro w' a' seg f' hw hl he hr
  have:=g4 w' a' seg f' (fun b hb => hw b (by simp only [List.mem_append] at hb ⊢; rcases hb with hb | hb; exact .inl (.inr hb); exact .inr hb)) hl he hr
  simp only [List.set_cons_succ,a0a]
  have e1:cs.take ((i + 1) * sz) = cs.take sz ++ (cs.drop sz).take (i * sz):=by rw [← e,List.take_add]
  have e2:(cs.drop sz).drop (i * sz + sz) = cs.drop ((i + 1) * sz + sz):=by rw [List.drop_drop]; congr 1; rw [← e]; omega
  rw [e2] at this
  have hl0:(cs.take sz).length = sz:=h0.1
  refine ⟨f1,A ++ f' ++ B,⟨?_,h0.2⟩,?_,?_,by simp⟩
  ·rw [e1,List.append_assoc,List.append_assoc,List.take_append_of_le_length (by omega),List.take_of_length_le (by omega)]; exact hl0
  ·rw [e1,List.append_assoc,List.append_assoc,List.take_append_of_le_length (by omega),List.take_of_length_le (by omega)]
   exact Rep.world _ _ _ (fun b hb => hw b (by simp [hb])) h1
  ·rw [e1,List.append_assoc,List.append_assoc,List.drop_append_of_le_length (by omega),List.drop_of_length_le (by omega),List.nil_append,← List.append_assoc]
   exact this
theorem a0b.append {m:Bool} {w:World}:∀ {as bs:List AV} {cs ds:List Value} {f g:List Nat},a0b m w as cs f → a0b m w bs ds g → a0b m w (as ++ bs) (cs ++ ds) (f ++ g)
 | [],_,_,_,_,_,h,h' => by simp only [a0b] at h; obtain ⟨rfl,rfl⟩:=h; simpa using h'
 | a :: as,bs,cs,ds,f,g,h,h' => by
  simp only [a0b] at h
  obtain ⟨c,cs',f1,f2,rfl,hc,h1,h2,rfl⟩:=h
  simp only [List.cons_append,a0b]
  exact ⟨c,_,f1,f2 ++ g,rfl,hc,h1,a0b.append h2 h',by simp⟩
theorem a0b.world' {m:Bool} {w w':World} {as:List AV} {cs:List Value} {fp:List Nat} (hw:∀ b ∈ fp,w'.heap[b]? = w.heap[b]?) (h:a0b m w as cs fp):a0b m w' as cs fp:=a0b.world as cs fp hw h
theorem Rep.cells1 {m:Bool} {w:World} {a:AV} {cs:List Value} {fp:List Nat} (he:a.isElem = true) (h:Rep m w a cs fp):a0b m w a.cells cs fp:=by
 by_cases hc:a.isCell = true
 ·obtain ⟨c,rfl,_⟩:=h.cell hc
  have hcells:a.cells = [a]:=by cases a <;> simp_all [AV.cells,AV.isCell]
  rw [hcells]
  simp only [a0b]
  exact ⟨c,[],fp,[],rfl,hc,h,⟨rfl,rfl⟩,by simp⟩
 ·cases a with
  | agg as => simp only [Rep] at h; exact h
  | tup as => simp [AV.isElem] at he
  | _ => simp [AV.isCell] at hc
theorem Rep.ofCells {m:Bool} {w:World} {a:AV} {cs:List Value} {fp:List Nat} (he:a.isElem = true) (h:a0b m w a.cells cs fp):Rep m w a cs fp:=by
 by_cases hc:a.isCell = true
 ·have hcells:a.cells = [a]:=by cases a <;> simp_all [AV.cells,AV.isCell]
  rw [hcells] at h
  simp only [a0b] at h
  obtain ⟨c,cs',f1,f2,rfl,_,h1,⟨rfl,rfl⟩,rfl⟩:=h
  simpa using h1
 ·cases a with
  | agg as => simp only [Rep]; exact h
  | tup as => simp [AV.isElem] at he
  | _ => simp [AV.isCell] at hc
def a4f (y:AV) (f:Nat) (v:AV):AV :=
 match y with
 | .agg cs => .agg (putCells cs f v.cells)
 | _ => v
def a9h (y:AV) (f sz:Nat) (v:AV):Prop :=
 v.cells.length = sz ∧ match y with
 | .agg cs => f + sz ≤ cs.length
 | .tup _ => False
 | _ => f = 0 ∧ v.isCell = true
theorem b9s {y:AV} {f sz:Nat} {v:AV} (hp:a9h y f sz v):(a4f y f v).cells = putCells y.cells f v.cells ∧ f + sz ≤ y.cells.length ∧ (a4f y f v).cells.length = y.cells.length:=by
 have hlen:∀ cs:List AV,f + sz ≤ cs.length → (putCells cs f v.cells).length = cs.length:=by
  intro cs hc
  have:=hp.1
  simp only [putCells,List.length_append,List.length_take,List.length_drop]
  omega
 cases y with
 | agg cs =>
  have:=hp.2
  exact ⟨rfl,this,hlen cs this⟩
 | tup _ => exact hp.2.elim
 | _ =>
  obtain ⟨h1,rfl,h2⟩:=hp
  have hc:v.cells = [v]:=by cases v <;> simp_all [AV.cells,AV.isCell]
  rw [hc] at h1
  simp at h1
  subst h1
  simp only [a4f,hc]
  simp [putCells,AV.cells]
section loud
variable {P:Program} {C:Ctx} {σ:Sg} {φ:Nat → List Nat} {h:List l7} {w w':World} {t:Nat → AV} {ρ:Operand → Value}
theorem b9t {ty:TypeId} {sz g off:Nat} {cur:Array Value} {e:TypeId} {v:Value} (hs:isz P ty = some sz) (hg:w.heap[g]? = some (.cells cur e (0,0))) (hv:v.cells.size = sz) (hfit:off + sz ≤ cur.size)
  (h1:∀ u ∈ v.cells.toList,u.oneCell' = true) :
  (Instr.storeAt ty (.pointer (some ⟨g,off,none⟩)) v).run P w = .ok () (w.setRow g (cur.toList.take off ++ v.cells.toList ++ cur.toList.drop (off + sz)).toArray):=by
 have hst:=run_storeCells_at P g off e v.cells.toList 0 cur w hg (by simpa [hv] using hfit) h1
 simp only [Nat.add_zero,Array.length_toList,hv] at hst
 simp [Instr.storeAt,Instr.sureAddr,storeVar,run_sizeOf hs,hv,hst]
theorem d7g {vs:List Value} {as:List AV} (hr:RVs C σ h w as vs) (hc:∀ a ∈ as,a.isCell = true ∧ a6p h a):∀ u ∈ vs,u.oneCell' = true:=by
 induction as generalizing vs with
 | nil => simp only [RVs] at hr; subst hr; simp
 | cons a as ih =>
  simp only [RVs] at hr
  obtain ⟨v,vs',rfl,h1,h2⟩:=hr
  intro u hu
  rcases List.mem_cons.1 hu with rfl | hu
  ·have hcells:=h1.cells (hc a (by simp)).2
   have hac:a.cells = [a]:=by have:=(hc a (by simp)).1; cases a <;> simp_all [AV.cells,AV.isCell]
   obtain ⟨hcell,hsol⟩:=hc a (by simp)
   cases a with
   | int k n => simp only [RV] at h1; subst h1; rfl
   | bool n => simp only [RV] at h1; subst h1; rfl
   | str n => simp only [RV] at h1; obtain ⟨rfl,_⟩:=h1; rfl
   | nil => simp only [RV] at h1; subst h1; rfl
   | lst z l =>
    simp only [RV] at h1
    obtain ⟨fp,⟨cs,rfl,hr'⟩,_⟩:=h1
    obtain ⟨c,rfl,e⟩:=hr'.cell rfl
    rw [e]
    exact Rep.oneCell rfl hr' c (by simp)
   | iptr l f =>
    simp only [RV] at h1
    obtain ⟨fp,⟨cs,rfl,hr'⟩,_⟩:=h1
    obtain ⟨c,rfl,e⟩:=hr'.cell rfl
    rw [e]
    exact Rep.oneCell rfl hr' c (by simp)
   | fn f caps => simp only [RV] at h1; obtain ⟨vs,rfl,_⟩:=h1; rfl
   | own o lo n =>
    simp only [RV] at h1
    simp only [a6p] at hsol
    cases ho:h[o]? with
    | none => simp [ho] at hsol
    | some x =>
     cases x with
     | row sz l => simp only [ho] at h1; obtain ⟨a,cap,rfl,_⟩:=h1; rfl
     | _ => simp [ho] at hsol
   | ptr o i f =>
    simp only [RV] at h1
    simp only [a6p] at hsol
    cases ho:h[o]? with
    | none => simp [ho] at hsol
    | some x =>
     cases x with
     | row sz l => simp only [ho] at h1; obtain ⟨_,g,c,_,rfl⟩:=h1; rfl
     | rowx _ _ _ _ => simp [ho] at hsol
     | box sz l => simp only [ho] at h1; obtain ⟨_,g,c,_,rfl⟩:=h1; rfl
     | _ => simp [ho] at hsol
   | agg _ => simp [AV.isCell] at hcell
   | tup _ => simp [AV.isCell] at hcell
   | undef => simp [a6p] at hsol
   | skip => simp [a6p] at hsol
   | hdr _ _ _ => simp [a6p] at hsol
  ·exact ih h2 (fun b hb => hc b (by simp [hb])) u hu
theorem three {α:Type} (A M B:List α):(A ++ M ++ B).take A.length = A ∧ ((A ++ M ++ B).drop A.length).take M.length = M ∧ (A ++ M ++ B).drop (A.length + M.length) = B:=by
 refine ⟨by simp,by simp,?_⟩
 rw [← List.length_append]; simp
theorem c8s (hr:o9 C σ φ h w) {ty:TypeId} {sz:Nat} (hs:isz P ty = some sz) {o i f z:Nat} {l:List AV} {y v:AV} {a x:Value} (ho:h[o]? = some (.rowx z l i y)) (ha:RV C σ h w (.ptr o i f) a) (hx:RV C σ h w v x)
  (hsol:a6p h v) (hp:a9h y f sz v) (hcs:∀ c ∈ v.cells,c.isCell = true ∧ a6p h c) :
  ∃ w' φ',(Instr.storeAt ty a x).run P w = .ok () w' ∧ o9 C σ φ' (h.set o (.rowx z l i (a4f y f v))) w' ∧ Ev σ h w σ (h.set o (.rowx z l i (a4f y f v))) w' ∧ Below C.base w w':=by
 obtain ⟨hz,hmm,hi,g,c,cur,e,f1,f2,k1,k2,k3,k4,k5,k6,k7,k7',k8,k9⟩:=hr.obj o _ ho
 simp only [RV,ho] at ha
 obtain ⟨_,g',c',hσ',rfl⟩:=ha
 rw [k1] at hσ'
 cases hσ'
 have hv:=hx.cells hsol
 have hlv:=hv.length
 obtain ⟨hc1,hc2,hc3⟩:=b9s hp
 have hl6:=k6.length
 have hvs:x.cells.size = sz:=by rw [← hp.1,← hlv]; simp
 rw [k7'] at hl6 hc2
 have hlen6:((cur.toList.drop (i * z)).take z).length = z:=hl6
 have hroom:i * z + z ≤ cur.size:=by
  rw [List.length_take,List.length_drop,Array.length_toList] at hlen6
  omega
 have hfit:(i * z + f) + sz ≤ cur.size:=by omega
 have hrun:=b9t (P:=P) (w:=w) (ty:=ty) hs k3 hvs hfit (d7g hv hcs)
 have hb:C.mine g:=hr.base o _ g c ho rfl k1
 obtain ⟨W,hW⟩:∃ W,W = w.setRow g (cur.toList.take (i * z + f) ++ x.cells.toList ++ cur.toList.drop (i * z + f + sz)).toArray:=⟨_,rfl⟩
 rw [← hW] at hrun
 have hWs:W.heap.size = w.heap.size:=by rw [hW]; simp
 have hWo:∀ b,b ≠ g → W.heap[b]? = w.heap[b]?:=fun b hb => by rw [hW]; exact setRow_other w g b _ hb
 have hWg:W.heap[g]? = some (.cells (cur.toList.take (i * z + f) ++ x.cells.toList ++ cur.toList.drop (i * z + f + sz)).toArray e (0,0)):=by rw [hW]; exact setRow_heap w g cur _ e _ k3
 obtain ⟨new,hnew⟩:∃ new,new = cur.toList.take (i * z + f) ++ x.cells.toList ++ cur.toList.drop (i * z + f + sz):=⟨_,rfl⟩
 rw [← hnew] at hWg
 have hcl:cur.toList.length = cur.size:=Array.length_toList
 have hxl:x.cells.toList.length = sz:=by simpa using hvs
 have hnl:new.length = cur.size:=by
  rw [hnew]; simp only [List.length_append,List.length_take,List.length_drop,hcl,hxl]; omega
 -- the parts of what is there then
 have a1:cur.toList.take (i * z + f) = cur.toList.take (i * z) ++ ((cur.toList.drop (i * z)).take z).take f:=by
  rw [List.take_add,List.take_take,Nat.min_eq_left (by omega)]
 have a2:cur.toList.drop (i * z + f + sz) = ((cur.toList.drop (i * z)).take z).drop (f + sz) ++ cur.toList.drop (i * z + z):=by
  rw [List.drop_take,List.drop_drop,show i * z + z = (i * z + (f + sz)) + (z - (f + sz)) by omega,← List.drop_drop (i:=z - (f + sz)),List.take_append_drop,Nat.add_assoc]
 obtain ⟨M,hM⟩:∃ M,M = ((cur.toList.drop (i * z)).take z).take f ++ x.cells.toList ++ ((cur.toList.drop (i * z)).take z).drop (f + sz):=⟨_,rfl⟩
 have hMl:M.length = z:=by
  rw [hM]; simp only [List.length_append,List.length_take (i:=f),List.length_drop (i:=f + sz),hlen6,hxl]; omega
 have hAl:(cur.toList.take (i * z)).length = i * z:=by rw [List.length_take,hcl]; omega
 have hn3:new = cur.toList.take (i * z) ++ M ++ cur.toList.drop (i * z + z):=by
  rw [hnew,a1,a2,hM]; simp only [List.append_assoc]
 obtain ⟨t1,t2,t3⟩:=three (cur.toList.take (i * z)) M (cur.toList.drop (i * z + z))
 rw [hAl] at t1 t2 t3
 rw [hMl] at t2 t3
 have p1:new.take (i * z) = cur.toList.take (i * z):=by rw [hn3]; exact t1
 have p2:(new.drop (i * z)).take z = ((cur.toList.drop (i * z)).take z).take f ++ x.cells.toList ++ ((cur.toList.drop (i * z)).take z).drop (f + sz):=by rw [hn3,← hM]; exact t2
 have p3:new.drop ((i + 1) * z) = cur.toList.drop ((i + 1) * z):=by
  have e1:(i + 1) * z = i * z + z:=by rw [Nat.add_mul,Nat.one_mul]
  rw [e1,hn3]; exact t3
 have key:=hr.turn (w':=W) ho (x':=.rowx z l i (a4f y f v)) rfl ⟨rfl,rfl⟩ k1 (ks:=[]) (by simp) (fx:=φ o) hWs hWo (fun ev => by
   have s1:∀ b ∈ f1,C.ok b ∧ ¬ liveAt h σ b:=fun b hb => k9 b (by rw [k8]; simp [hb])
   have s2:∀ b ∈ f2,C.ok b ∧ ¬ liveAt h σ b:=fun b hb => k9 b (by rw [k8]; simp [hb])
   obtain ⟨a1,a2⟩:=ev.immS k5 s1
   obtain ⟨b1,b2⟩:=ev.immS k7 s2
   have hφ:upd φ o (φ o) o = φ o:=by simp [upd]
   refine ⟨hz,hmm,hi,g,c,new.toArray,e,f1,f2,k1,k2,hWg,by rw [List.size_toArray,hnl]; exact k4,?_,?_,?_,by rw [hc3,k7'],by rw [hφ]; exact k8,?_⟩
   ·refine a0a.congr ?_ a1
    have hle:(l.take i).length * z ≤ i * z:=Nat.mul_le_mul_right _ (by rw [List.length_take]; omega)
    have:∀ q:List Value,q.take ((l.take i).length * z) = (q.take (i * z)).take ((l.take i).length * z):=by
     intro q; rw [List.take_take]; congr 1; omega
    rw [this,this cur.toList,p1]
   ·show RVs C σ _ W (a4f y f v).cells ((new.drop (i * z)).take z)
    rw [p2,hc1,putCells,hp.1]
    exact ev.rvs _ _ (((k6.take f).append hv).append (k6.drop (f + sz)))
   ·show a0a C.dm W z (l.drop (i + 1)) (new.drop ((i + 1) * z)) f2
    rw [p3]; exact b1
   ·intro b hb
    rw [hφ,k8] at hb
    rcases List.mem_append.1 hb with hb | hb
    ·exact a2 b hb
    ·exact b2 b hb) (fun hdm _ => by
   obtain ⟨d1,d2,d3⟩:=hr.deepx hdm o _ ho rfl
   exact ⟨d1,d2,fun o' y ho' hy _ hne b hb => d3 o' y ho' hy hne b hb⟩)
 simp only [kill] at key
 exact ⟨_,_,hrun,key.1,key.2,by rw [hW]; exact ⟨rfl,rfl,rfl,by simp,fun k hk => setRow_other w g k _ (by have:=hb.1; omega)⟩⟩
theorem c9v (hr:o9 C σ φ h w) {ty:TypeId} {sz:Nat} (hs:isz P ty = some sz) {o f z:Nat} {y v:AV} {a x:Value} (ho:h[o]? = some (.box z y)) (ha:RV C σ h w (.ptr o 0 f) a) (hx:RV C σ h w v x)
  (hsol:a6p h v) (hp:a9h y f sz v) (hcs:∀ c ∈ v.cells,c.isCell = true ∧ a6p h c) :
  ∃ w' φ',(Instr.storeAt ty a x).run P w = .ok () w' ∧ o9 C σ φ' (h.set o (.box z (a4f y f v))) w' ∧ Ev σ h w σ (h.set o (.box z (a4f y f v))) w' ∧ Below C.base w w':=by
 obtain ⟨g,cur,e,h1,h2,h3,h4⟩:=hr.obj o _ ho
 simp only [RV,ho] at ha
 obtain ⟨_,g',c',hσ',rfl⟩:=ha
 rw [h1] at hσ'
 cases hσ'
 have hv:=hx.cells hsol
 have hlv:=hv.length
 obtain ⟨hc1,hc2,hc3⟩:=b9s hp
 have hl4:=h4.length
 have hvs:x.cells.size = sz:=by rw [← hp.1,← hlv]; simp
 have hfit:f + sz ≤ cur.size:=by rw [← hl4] at hc2; simpa using hc2
 have hrun:=b9t (P:=P) (w:=w) (ty:=ty) hs h2 hvs hfit (d7g hv hcs)
 have hb:C.mine g:=hr.base o _ g 1 ho rfl h1
 have key:=hr.turn (w':=w.setRow g (cur.toList.take f ++ x.cells.toList ++ cur.toList.drop (f + sz)).toArray) ho (x':=.box z (a4f y f v)) rfl rfl h1 (ks:=[]) (by simp) (fx:=φ o) (by simp) (fun b hb => setRow_other w g b _ hb) (fun ev => by
   refine ⟨g,_,e,h1,setRow_heap w g cur _ e _ h2,?_,?_⟩
   ·simp only [List.size_toArray,List.length_append,List.length_take,List.length_drop,Array.length_toList,hvs]; omega
   ·refine ev.rvs _ _ ?_
    rw [hc1,putCells,hp.1]
    exact ((h4.take f).append hv).append (h4.drop (f + sz))) (by intro _ e; cases e)
 simp only [kill] at key
 exact ⟨_,_,hrun,key.1,key.2,⟨rfl,rfl,rfl,by simp,fun k hk => setRow_other w g k _ (by have:=hb.1; omega)⟩⟩
theorem d3e {A s1 fv s3 B:List Nat} (hn2:fv.Nodup) (hn1:(A ++ (s1 ++ s3) ++ B).Nodup) (hdis:∀ b ∈ fv,b ∉ A ++ (s1 ++ s3) ++ B):(A ++ (s1 ++ fv ++ s3) ++ B).Nodup:=by
 have hp1:(A ++ (s1 ++ fv ++ s3) ++ B).Perm (fv ++ (A ++ (s1 ++ s3) ++ B)):=by
  have e1:A ++ (s1 ++ fv ++ s3) ++ B = (A ++ s1) ++ (fv ++ (s3 ++ B)):=by simp
  have e2:fv ++ (A ++ (s1 ++ s3) ++ B) = fv ++ ((A ++ s1) ++ (s3 ++ B)):=by simp
  rw [e1,e2,← List.append_assoc (A ++ s1) fv,← List.append_assoc fv (A ++ s1)]
  exact List.Perm.append_right _ List.perm_append_comm
 rw [hp1.nodup_iff,List.nodup_append]
 refine ⟨hn2,hn1,?_⟩
 intro b hb b' hb' heq
 subst heq
 exact hdis b hb hb'
set_option maxHeartbeats 1000000 in
theorem c9w (hr:o9 C σ φ h w) (hok:∀ b,C.mine b → C.ok b) {ty:TypeId} {sz:Nat} (hs:isz P ty = some sz) {o i f z:Nat} {l:List AV} {el v v':AV} {ks:List Nat} {a x:Value} (ho:h[o]? = some (.row z l)) (hel:l[i]? = some el)
  (ha:RV C σ h w (.ptr o i f) a) (hx:RV C σ h w v x) (hab:a1y C.dm h v = some (v',ks)) (hok':o ∉ ks) (hnd:C.dm = true → ks.Nodup) (hp:a9h el f sz v') :
  ∃ w' φ',(Instr.storeAt ty a x).run P w = .ok () w' ∧ o9 C σ φ' ((kill h ks).set o (.row z (l.set i (a4f el f v')))) w' ∧ Ev σ h w σ ((kill h ks).set o (.row z (l.set i (a4f el f v')))) w' ∧ Below C.base w w':=by
 simp only [RV,ho] at ha
 obtain ⟨hil,g,c,hσ,rfl⟩:=ha
 obtain ⟨hz0,hob⟩:=hr.obj o _ ho
 rw [hσ] at hob
 obtain ⟨hcm,cur,e,h2,h3,h4,h5⟩:=hob
 obtain ⟨fv,⟨cs,rfl,r1⟩,tk⟩:=a1y.rep hr hok v v' ks x hab hx
 obtain ⟨A,fe,B,hfp,g1,g2,g3,g4⟩:=h4.set hel
 have hnt:=b8l hab
 have hve:v'.isElem = true:=by cases v' <;> first | rfl | exact absurd rfl (hnt _)
 have hvc:(mkV v' cs).cells.toList = cs:=by
  cases v' with
  | agg as' => simp [mkV,Value.cells]
  | tup as' => exact absurd rfl (hnt as')
  | _ =>
   obtain ⟨c,rfl,e⟩:=r1.cell rfl
   rw [e]
   exact Rep.cellV rfl r1
 have r1':=r1.cells1 hve
 have hl1:=r1'.length
 obtain ⟨hc1,hc2,hc3⟩:=b9s hp
 have ge:=g1.cells1 g3
 have hle:=ge.length
 rw [g2] at hle
 have hlen4:l.length * z ≤ cur.size:=by simpa using h4.length
 have hvs:(mkV v' cs).cells.size = sz:=by rw [← Array.length_toList,hvc,hl1,hp.1]
 have hisz:i * z + z ≤ l.length * z:=by
  have:(i + 1) * z ≤ l.length * z:=Nat.mul_le_mul_right _ hil
  rwa [Nat.add_mul,Nat.one_mul] at this
 have hfit:i * z + f + sz ≤ cur.size:=by omega
 have hone:∀ u ∈ (mkV v' cs).cells.toList,u.oneCell' = true:=by rw [hvc]; exact Rep.oneCellE hve r1
 have hrun:=b9t (P:=P) (w:=w) (ty:=ty) hs h2 hvs hfit hone
 rw [hvc] at hrun
 obtain ⟨cur',hcur'⟩:∃ c,c = cur.toList.take (i * z + f) ++ cs ++ cur.toList.drop (i * z + f + sz):=⟨_,rfl⟩
 rw [← hcur'] at hrun
 obtain ⟨W,hW⟩:∃ W,W = w.setRow g cur'.toArray:=⟨_,rfl⟩
 rw [← hW] at hrun
 have hwo:∀ b,b ≠ g → W.heap[b]? = w.heap[b]?:=fun b hb => by rw [hW]; exact setRow_other w g b _ hb
 have hWg:W.heap[g]? = some (.cells cur'.toArray e (0,0)):=by rw [hW]; exact setRow_heap w g cur _ e _ h2
 have hWs:W.heap.size = w.heap.size:=by rw [hW]; simp
 have hWb:W.os = w.os ∧ W.tape = w.tape ∧ W.output = w.output:=by rw [hW]; exact ⟨rfl,rfl,rfl⟩
 clear hW
 have hbg:C.mine g:=hr.base o _ g c ho rfl hσ
 have hglive:liveAt h σ g:=⟨o,_,c,ho,rfl,hσ⟩
 have hfvne:∀ b ∈ fv,b ≠ g:=by
  intro b hb he
  subst he
  obtain ⟨k,k1,k2⟩:=tk.live b hb hglive
  rcases k2 with ⟨y,c',y1,y2,y3⟩ | ⟨y1,y,y2,y3⟩
  ·have:=hr.inj o k _ y b c c' ho rfl y1 y2 hσ y3
   subst this
   exact hok' k1
  ·exact (hr.phix y2 y3 y1).2 hglive
 -- the element's new cells
 obtain ⟨p1,q1,e1,t1⟩:=ge.take f
 obtain ⟨p2,q2,e2,t2⟩:=ge.drop (f + sz)
 -- the blocks that the element still leads to
 have hfe:∃ r1 r3,a0b C.dm w (el.cells.take f) (((cur.toList.drop (i * z)).take z).take f) r1 ∧ a0b C.dm w (el.cells.drop (f + sz)) (((cur.toList.drop (i * z)).take z).drop (f + sz)) r3 ∧ List.Sublist (r1 ++ r3) fe:=by
  obtain ⟨p3,q3,e3,t3⟩:=a0b.drop f ge
  have key:∀ {as:List AV} {cs:List Value} {fp:List Nat} (n k:Nat),a0b C.dm w as cs fp → ∃ r1 r3,a0b C.dm w (as.take n) (cs.take n) r1 ∧ a0b C.dm w (as.drop (n + k)) (cs.drop (n + k)) r3 ∧ List.Sublist (r1 ++ r3) fp:=by
   intro as
   induction as with
   | nil =>
    intro cs fp n k hr
    simp only [a0b] at hr
    obtain ⟨rfl,rfl⟩:=hr
    exact ⟨[],[],by simp [a0b],by simp [a0b],by simp⟩
   | cons a as ih =>
    intro cs fp n k hr
    cases n with
    | zero =>
     obtain ⟨f1,f2,e,hd⟩:=hr.drop k
     exact ⟨[],f2,by simp [a0b],by simpa using hd,by rw [e]; simp⟩
    | succ n =>
     simp only [a0b] at hr
     obtain ⟨c,cs',f1,f2,rfl,hc,h1,h2,rfl⟩:=hr
     obtain ⟨r1,r3,x1,x3,xs⟩:=ih n k h2
     refine ⟨f1 ++ r1,r3,?_,?_,by rw [List.append_assoc]; exact List.Sublist.append (List.Sublist.refl _) xs⟩
     ·simp only [List.take_succ_cons,a0b]; exact ⟨c,_,f1,r1,rfl,hc,h1,x1,rfl⟩
     ·rw [show n + 1 + k = (n + k) + 1 by omega]; simpa using x3
  exact key f sz ge
 obtain ⟨s1,s3,u1,u3,hsub⟩:=hfe
 have hseg:∀ b ∈ A ++ fe ++ B,b ≠ g:=by
  intro b hb he
  rw [← hfp] at hb
  exact (h5 b hb).2 (he ▸ hglive)
 have hs1:∀ b ∈ s1,b ∈ fe:=fun b hb => hsub.subset (by simp [hb])
 have hs3:∀ b ∈ s3,b ∈ fe:=fun b hb => hsub.subset (by simp [hb])
 have hnewcells:a0b C.dm W (a4f el f v').cells (((cur.toList.drop (i * z)).take z).take f ++ cs ++ ((cur.toList.drop (i * z)).take z).drop (f + sz)) (s1 ++ fv ++ s3):=by
  rw [hc1,putCells,hp.1]
  refine a0b.append (a0b.append ?_ ?_) ?_
  ·exact a0b.world' (fun b hb => hwo b (hseg b (by simp [hs1 b hb]))) u1
  ·exact a0b.world' (fun b hb => hwo b (hfvne b hb)) r1'
  ·exact a0b.world' (fun b hb => hwo b (hseg b (by simp [hs3 b hb]))) u3
 have hnewlen:(((cur.toList.drop (i * z)).take z).take f ++ cs ++ ((cur.toList.drop (i * z)).take z).drop (f + sz)).length = z:=by
  simp only [List.length_append,List.length_take,List.length_drop]
  have:=g2
  simp only [List.length_take,List.length_drop] at this
  rw [hl1,hp.1]
  omega
 have hnewel:(a4f el f v').isElem = true:=by
  cases el with
  | agg _ => rfl
  | tup _ => exact hp.2.elim
  | _ => exact hve
 have hnew:Rep C.dm W (a4f el f v') (((cur.toList.drop (i * z)).take z).take f ++ cs ++ ((cur.toList.drop (i * z)).take z).drop (f + sz)) (s1 ++ fv ++ s3):=Rep.ofCells hnewel hnewcells
 have hcur:cur.toList.take (i * z + f) ++ cs ++ cur.toList.drop (i * z + f + sz) = cur.toList.take (i * z) ++ (((cur.toList.drop (i * z)).take z).take f ++ cs ++ ((cur.toList.drop (i * z)).take z).drop (f + sz)) ++ cur.toList.drop (i * z + z):=by
  have a1:cur.toList.take (i * z + f) = cur.toList.take (i * z) ++ ((cur.toList.drop (i * z)).take z).take f:=by
   rw [List.take_add,List.take_take,Nat.min_eq_left (by omega)]
  have a2:cur.toList.drop (i * z + f + sz) = ((cur.toList.drop (i * z)).take z).drop (f + sz) ++ cur.toList.drop (i * z + z):=by
   rw [List.drop_take,List.drop_drop,show i * z + z = (i * z + (f + sz)) + (z - (f + sz)) by omega,← List.drop_drop (i:=z - (f + sz)),List.take_append_drop,Nat.add_assoc]
  rw [a1,a2]
  simp only [List.append_assoc]
 have hrepS:=g4 W _ _ _ (fun b hb => hwo b (hseg b (by
  simp only [List.mem_append] at hb ⊢
  rcases hb with hb | hb
  ·exact .inl (.inl hb)
  ·exact .inr hb))) hnewlen hnewel hnew
 rw [← hcur,← hcur'] at hrepS
 have hall:∀ b ∈ A ++ (s1 ++ fv ++ s3) ++ B,b ∈ φ o ∨ b ∈ fv:=by
  intro b hb
  rw [hfp]
  simp only [List.mem_append] at hb ⊢
  rcases hb with (hb | (hb | hb) | hb) | hb
  ·exact .inl (.inl (.inl hb))
  ·exact .inl (.inl (.inr (hs1 b hb)))
  ·exact .inr hb
  ·exact .inl (.inl (.inr (hs3 b hb)))
  ·exact .inl (.inr hb)
 have hltv:=Rep.lt _ _ _ r1
 have key:=hr.turn (w':=W) ho (x':=.row z (l.set i (a4f el f v'))) rfl ⟨rfl,by simp⟩ hσ (ks:=ks) hok' (fx:=A ++ (s1 ++ fv ++ s3) ++ B) hWs hwo (fun ev => by
   refine ⟨hz0,?_⟩
   rw [hσ]
   have:upd φ o (A ++ (s1 ++ fv ++ s3) ++ B) o = A ++ (s1 ++ fv ++ s3) ++ B:=by simp [upd]
   simp only [this]
   refine ⟨hcm,_,e,hWg,?_,hrepS,?_⟩
   ·rw [hcur']
    simp only [List.size_toArray,List.length_append,List.length_take,List.length_drop,Array.length_toList,hl1,hp.1]
    omega
   ·intro b hb
    rcases hall b hb with hb | hb
    ·refine ⟨(h5 b hb).1,fun hl => (h5 b hb).2 (ev.live b ?_ hl)⟩
     have:=a0a.lt _ _ _ h4 b hb
     exact this
    ·refine ⟨tk.ok b hb,fun hl => ?_⟩
     obtain ⟨o',y,c',j1,j2,j3⟩:=hl
     have hlt:o' < (kill h ks).length:=by
      have:=(List.getElem?_eq_some_iff.1 j1).1
      simpa using this
     rw [List.getElem?_set] at j1
     by_cases he:o = o'
     ·subst he
      rw [hσ] at j3
      cases j3
      exact hfvne _ hb rfl
     ·rw [if_neg he] at j1
      obtain ⟨m1,m2⟩:=a7x j1 j2
      obtain ⟨k,k1,k2⟩:=tk.live b hb ⟨o',y,c',m1,j2,j3⟩
      rcases k2 with ⟨y',c'',y1,y2,y3⟩ | ⟨y1,y',y2,y3⟩
      ·have:=hr.inj o' k y y' b c' c'' m1 j2 y1 y2 j3 y3
       subst this
       exact m2 k1
      ·exact (hr.phix y2 y3 y1).2 ⟨o',y,c',m1,j2,j3⟩) (by
   intro hdm _
   obtain ⟨d1,d2,d3⟩:=hr.deep hdm o z l ho
   refine ⟨?_,?_,?_⟩
   ·have hn1:(A ++ (s1 ++ s3) ++ B).Nodup:=by
     rw [hfp] at d1
     exact d1.sublist (List.Sublist.append (List.Sublist.append (List.Sublist.refl _) hsub) (List.Sublist.refl _))
    have hn2:=tk.nodup hdm (hnd hdm)
    have hdis:∀ b ∈ fv,b ∉ A ++ (s1 ++ s3) ++ B:=by
     intro b hb hb'
     obtain ⟨k,k1,k2⟩:=tk.own hdm b hb
     have hbo:b ∈ φ o:=by
      rw [hfp]
      simp only [List.mem_append] at hb' ⊢
      rcases hb' with (hb' | hb' | hb') | hb'
      ·exact .inl (.inl hb')
      ·exact .inl (.inr (hs1 b hb'))
      ·exact .inl (.inr (hs3 b hb'))
      ·exact .inr hb'
     have:=Owned.unique hr hdm k2 (.inr ⟨hbo,_,ho,rfl⟩)
     subst this
     exact hok' k1
    exact d3e hn2 hn1 hdis
   ·intro b hb
    rcases hall b hb with hb | hb
    ·exact d2 b hb
    ·obtain ⟨k,_,hk⟩:=tk.own hdm b hb
     exact hk.base hr hdm
   ·intro o' y' ho' hy' hk' hne b hb hbo
    rcases hall b hb with hb | hb
    ·exact d3 o' y' ho' hy' hne b hb hbo
    ·obtain ⟨k,k1,k2⟩:=tk.own hdm b hb
     have:=Owned.unique hr hdm k2 (.inr ⟨hbo,y',ho',hy'⟩)
     subst this
     exact hk' k1)
 exact ⟨_,_,hrun,key.1,key.2,⟨hWb.1,hWb.2.1,hWb.2.2,by omega,fun k hk => hwo k (by have:=hbg.1; omega)⟩⟩
end loud
section loud
variable {P:Program} {C:Ctx} {σ:Sg} {φ:Nat → List Nat} {h:List l7} {w w':World} {t:Nat → AV} {ρ:Operand → Value}
theorem b1y (z:Array Value) (n:Nat):Builtin.zeroCells z n = madeCells z (n * z.size):=rfl
theorem a0a.cut {m:Bool} {w:World} {sz:Nat} {as:List AV} {cs:List Value} {fp:List Nat} (hr:a0a m w sz as cs fp):a0a m w sz as (cs.take (as.length * sz)) fp :=
 a0a.congr (by rw [List.take_take,Nat.min_self]) hr
theorem d7h (hr:o9 C σ φ h w) {ty e rt:TypeId} {i:TypeInfo} (ht:P.underlying ty = some (.slice e)) (hi:P.info? e = some i) {z:Value} (hz:i.zero = some z) {za:AV} (hza:a5h z = some za) (hzs:za.cells.length = i.size) {o lo n:Nat} {l:List AV} {v:Value} (ho:h[o]? = some (.row i.size l)) (hv:RV C σ h w (.own o lo n) v) :
  ∃ w' φ',(Builtin.clear_ #[ty] rt #[v]).run P w = .ok (.tuple #[]) w' ∧ o9 C σ φ' (h.set o (.row i.size (l.take lo ++ List.replicate n za ++ l.drop (lo + n)))) w' ∧ Ev σ h w σ (h.set o (.row i.size (l.take lo ++ List.replicate n za ++ l.drop (lo + n)))) w' ∧ Below C.base w w':=by
 simp only [RV,ho] at hv
 obtain ⟨a,cap,rfl,hln,hnc,hcm,hm⟩:=hv
 have hzv:(zeroValue e).run P w = .ok z w:=by simp [zeroValue,typeInfo,hi,hz]
 by_cases hn:n = 0
 ·subst hn
  have hlst:l.take lo ++ List.replicate 0 za ++ l.drop (lo + 0) = l:=by simp
  have hset:h.set o (.row i.size l) = h:=by
   apply List.ext_getElem?
   intro j
   rw [List.getElem?_set]
   by_cases hj:o = j
   ·subst hj
    have:=(List.getElem?_eq_some_iff.1 ho).1
    rw [if_pos rfl,if_pos this,ho]
   ·rw [if_neg hj]
  rw [hlst,hset]
  refine ⟨w,φ,?_,hr,Ev.refl _ _ _,Below.refl _ _⟩
  cases a <;> simp [Builtin.clear_,run_underlying ht] <;> rfl
 ·cases hσ:σ o with
  | none => rw [hσ] at hm; omega
  | some p =>
   obtain ⟨g,c⟩:=p
   rw [hσ] at hm
   have ha:=hm.1.resolve_left hn
   subst ha
   obtain ⟨hz0,hob⟩:=hr.obj o _ ho
   rw [hσ] at hob
   obtain ⟨hcm2,cur,e',h2,h3,h4,h5⟩:=hob
   have hf:=a5h.flat hza
   have hzc:z.cells.size = i.size:=by
    have hrv:=(a5h.rv (C:=C) (σ:=σ) (h:=h) (w:=w) hza).cells (by cases za <;> simp_all [R.flat,a6p])
    have:=hrv.length
    rw [hzs] at this
    simpa using this
   have hlen4:l.length * i.size ≤ cur.size:=by simpa using h4.length
   have hfit:lo * i.size + n * i.size ≤ cur.size:=by
    rw [← Nat.add_mul]
    exact Nat.le_trans (Nat.mul_le_mul_right _ hln) hlen4
   obtain ⟨zs,hzs'⟩:∃ zs,zs = (Builtin.zeroCells z.cells n).toList:=⟨_,rfl⟩
   have hzl:zs.length = n * i.size:=by rw [hzs',b1y]; simp [size_madeCells,hzc]
   have hrep0:a0a C.dm w i.size (List.replicate n za) zs []:=by
    have hl:z.cells.toList.length = i.size:=by simpa using hzc
    rw [hzs',b1y,← hl]
    refine b4e hf.2.1 (hf.2.2 _ _) _ _ (fun j hj => ?_)
    rw [hl,← hzc]
    refine c9u _ (by omega) _ _ ?_
    exact Nat.mul_le_mul_right _ (by omega)
   have h1:∀ u ∈ zs,u.oneCell' = true:=by
    intro u hu
    have:=a0a.oneCell hrep0 u
    rw [List.length_replicate,← hzl,List.take_length] at this
    exact this hu
   have hst:=run_storeCells_at P g (lo * i.size) e' zs 0 cur w h2 (by rw [hzl]; simpa using hfit) h1
   simp only [Nat.add_zero,hzl] at hst
   obtain ⟨cur',hcur'⟩:∃ c,c = cur.toList.take (lo * i.size) ++ zs ++ cur.toList.drop (lo * i.size + n * i.size):=⟨_,rfl⟩
   rw [← hcur'] at hst
   obtain ⟨W,hW⟩:∃ W,W = w.setRow g cur'.toArray:=⟨_,rfl⟩
   rw [← hW] at hst
   have hrun:(Builtin.clear_ #[ty] rt #[.slice (some ⟨g,lo * i.size,none⟩) n cap]).run P w = .ok (.tuple #[]) W:=by
    cases n with
    | zero => exact absurd rfl hn
    | succ k => simp [Builtin.clear_,run_underlying ht,hzv,← hzs',hst]
   have hwo:∀ b,b ≠ g → W.heap[b]? = w.heap[b]?:=fun b hb => by rw [hW]; exact setRow_other w g b _ hb
   have hWg:W.heap[g]? = some (.cells cur'.toArray e' (0,0)):=by rw [hW]; exact setRow_heap w g cur _ e' _ h2
   have hWs:W.heap.size = w.heap.size:=by rw [hW]; simp
   have hWb:W.os = w.os ∧ W.tape = w.tape ∧ W.output = w.output:=by rw [hW]; exact ⟨rfl,rfl,rfl⟩
   clear hW
   have hbg:C.mine g:=hr.base o _ g c ho rfl hσ
   have hglive:liveAt h σ g:=⟨o,_,c,ho,rfl,hσ⟩
   have hgφ:∀ b ∈ φ o,b ≠ g:=fun b hb he => (h5 b hb).2 (he ▸ hglive)
   obtain ⟨f0,g0,e0,q1,q2⟩:=h4.split lo
   obtain ⟨f1,g1,e1,q3,q4⟩:=q2.split n
   rw [List.drop_drop,List.drop_drop,← Nat.add_mul] at q4
   have hsub:∀ b ∈ f0 ++ g1,b ∈ φ o:=by
    intro b hb
    rw [e0,e1]
    simp only [List.mem_append] at hb ⊢
    rcases hb with hb | hb
    ·exact .inl hb
    ·exact .inr (.inr hb)
   have hrepN:a0a C.dm W i.size (l.take lo ++ List.replicate n za ++ l.drop (lo + n)) cur' (f0 ++ [] ++ g1):=by
    have lt:(l.take lo).length = lo:=by rw [List.length_take]; omega
    have r1:a0a C.dm W i.size (l.take lo) (cur.toList.take (lo * i.size)) f0:=by
     have:=q1.cut
     rw [lt] at this
     exact a0a.world _ _ _ (fun b hb => hwo b (hgφ b (hsub b (by simp [hb])))) this
    have r2:a0a C.dm W i.size (List.replicate n za) zs []:=a0a.world _ _ _ (by simp) hrep0
    have r3:a0a C.dm W i.size (l.drop (lo + n)) (cur.toList.drop (lo * i.size + n * i.size)) g1:=by
     rw [← Nat.add_mul]
     exact a0a.world _ _ _ (fun b hb => hwo b (hgφ b (hsub b (by simp [hb])))) q4
    rw [hcur']
    have l1:(cur.toList.take (lo * i.size)).length = (l.take lo).length * i.size:=by
     rw [lt,List.length_take,Array.length_toList]; omega
    refine a0a.append (a0a.append r1 l1 r2) ?_ r3
    rw [List.length_append,l1,hzl,List.length_append,List.length_replicate,Nat.add_mul]
   have hsz':cur'.toArray.size = cur.size:=by
    rw [hcur']
    simp only [List.size_toArray,List.length_append,List.length_take,List.length_drop,Array.length_toList,hzl]
    omega
   have hlenN:(l.take lo ++ List.replicate n za ++ l.drop (lo + n)).length = l.length:=by
    simp only [List.length_append,List.length_take,List.length_drop,List.length_replicate]; omega
   have key:=hr.turn (w':=W) ho (x':=.row i.size (l.take lo ++ List.replicate n za ++ l.drop (lo + n))) rfl ⟨rfl,hlenN.symm⟩ hσ (ks:=[]) (by simp) (fx:=f0 ++ [] ++ g1) hWs hwo (fun ev => by
    refine ⟨hz0,?_⟩
    rw [hσ]
    have:upd φ o (f0 ++ [] ++ g1) o = f0 ++ [] ++ g1:=by simp [upd]
    simp only [this]
    refine ⟨hcm2,cur'.toArray,e',hWg,by rw [hsz']; exact h3,hrepN,fun b hb => ?_⟩
    have hb':b ∈ φ o:=hsub b (by simpa using hb)
    exact ⟨(h5 b hb').1,fun hl => (h5 b hb').2 (ev.live b (a0a.lt _ _ _ h4 b hb') hl)⟩) (by
    intro hdm _
    obtain ⟨d1,d2,d3⟩:=hr.deep hdm o _ l ho
    refine ⟨?_,fun b hb => d2 b (hsub b (by simpa using hb)),fun o' y ho' hy _ hne b hb => d3 o' y ho' hy hne b (hsub b (by simpa using hb))⟩
    rw [e0,e1] at d1
    have hs:List.Sublist (f0 ++ [] ++ g1) (f0 ++ (f1 ++ g1)):=by
     rw [List.append_nil]
     exact List.Sublist.append (List.Sublist.refl _) (List.sublist_append_right _ _)
    exact hs.nodup d1)
   simp only [kill] at key
   exact ⟨W,_,hrun,key.1,key.2,⟨hWb.1,hWb.2.1,hWb.2.2,by omega,fun k hk => hwo k (by have:=hbg.1; omega)⟩⟩
end loud
end Go.R
end
section
set_option linter.all false
namespace Go.R
open Go Go.RowKit
inductive CM where
 | flat | fresh | weak
def f5h (cm:CM) (w w':World) (fps:List Nat) (r:AV) (v:Value):Prop:=match cm with
 | .flat => b6h false w' r v []
 | .fresh => ∃ fp,b6h true w' r v fp ∧ fp.Nodup ∧ ∀ b ∈ fp,w.heap.size ≤ b
 | .weak => ∃ fp,b6h false w' r v fp ∧ ∀ b ∈ fp,b ∈ fps ∨ w.heap.size ≤ b
def a0v (P:Program) (f:Nat) (cm:CM) (args:List AV) (r:AV):Prop :=
 ∀ (w:World) (vals:List Value) (fps:List Nat),a0x false w args vals fps →
  Calls P f vals.toArray w fun e w' => match e with
   | .returned v => Below w.heap.size w w' ∧ f5h cm w w' fps r v
   | _ => False
mutual
def a4i (n:Nat):AV → AV × List l7
 | .lst (z + 1) l => (.own n 0 l.length,[.row (z + 1) l])
 | .lst 0 _ => (.undef,[])
 | .agg as => match a8x n as with
  | (bs,xs) => (.agg bs,xs)
 | .tup as => match a8x n as with
  | (bs,xs) => (.tup bs,xs)
 | .iptr _ _ => (.undef,[])
 | .fn _ _ => (.undef,[])
 | a => (a,[])
def a8x (n:Nat):List AV → List AV × List l7
 | [] => ([],[])
 | a :: as => match a4i n a with
  | (b,xs) => match a8x (n + xs.length) as with
   | (bs,ys) => (b :: bs,xs ++ ys)
end
structure b4f (C:Ctx) (W:World) (B n:Nat) (xs:List l7) (s:List (Option (Nat × Nat))) (p:List (List Nat)) (fp:List Nat):Prop where
 ls:s.length = xs.length
 lp:p.length = xs.length
 row:∀ (j:Nat) x,xs[j]? = some x → ∃ z l,x = .row z l ∧ 0 < z ∧ ∃ q,p[j]? = some q ∧ List.Sublist q fp ∧
  match s[j]? with
  | some none => l = [] ∧ q = []
  | some (some (g,c)) => g ∈ fp ∧ c ≤ maxLen ∧ ∃ cur e,W.heap[g]? = some (.cells cur e (0,0)) ∧ cur.size = c * z ∧ a0a true W z l cur.toList q
  | none => False
 inj:fp.Nodup → ∀ (j j':Nat) g c g' c',s[j]? = some (some (g,c)) → s[j']? = some (some (g',c')) → g = g' → j = j'
 dis:fp.Nodup → ∀ (j j':Nat) q q',p[j]? = some q → p[j']? = some q' → j ≠ j' → ∀ b ∈ q,b ∉ q'
 out:fp.Nodup → ∀ (j j':Nat) g c q,s[j]? = some (some (g,c)) → p[j']? = some q → g ∉ q
 sub:∀ (j:Nat) g c,s[j]? = some (some (g,c)) → g ∈ fp
theorem b4f.nil (C:Ctx) (W:World) (B n:Nat) (fp:List Nat):b4f C W B n [] [] [] fp:=by
 refine ⟨rfl,rfl,?_,?_,?_,?_,?_⟩ <;> simp
theorem b4f.append {C:Ctx} {W:World} {B n:Nat} {xs ys:List l7} {s1 s2:List (Option (Nat × Nat))} {p1 p2:List (List Nat)} {f1 f2:List Nat}
  (a:b4f C W B n xs s1 p1 f1) (b:b4f C W B (n + xs.length) ys s2 p2 f2):b4f C W B n (xs ++ ys) (s1 ++ s2) (p1 ++ p2) (f1 ++ f2) where
 ls:=by simp [a.ls,b.ls]
 lp:=by simp [a.lp,b.lp]
 row j x hj:=by
  rw [List.getElem?_append] at hj
  rw [List.getElem?_append,List.getElem?_append,a.ls,a.lp]
  split at hj
  ·rename_i hlt
   obtain ⟨z,l,h1,h2,q,h3,h4,h5⟩:=a.row j x hj
   refine ⟨z,l,h1,h2,q,by rw [if_pos hlt]; exact h3,h4.trans (List.sublist_append_left _ _),?_⟩
   rw [if_pos hlt]
   cases hs:s1[j]? with
   | none => rw [hs] at h5; exact h5
   | some o =>
    rw [hs] at h5
    cases o with
    | none => exact h5
    | some gc => exact ⟨by simp [h5.1],h5.2⟩
  ·rename_i hlt
   obtain ⟨z,l,h1,h2,q,h3,h4,h5⟩:=b.row _ x hj
   refine ⟨z,l,h1,h2,q,by rw [if_neg hlt]; exact h3,h4.trans (List.sublist_append_right _ _),?_⟩
   rw [if_neg hlt]
   cases hs:s2[j - xs.length]? with
   | none => rw [hs] at h5; exact h5
   | some o =>
    rw [hs] at h5
    cases o with
    | none => exact h5
    | some gc => exact ⟨by simp [h5.1],h5.2⟩
 inj hn j j' g c g' c' h1 h2 he:=by
  rw [List.getElem?_append] at h1 h2
  rw [List.nodup_append] at hn
  split at h1 <;> split at h2
  ·exact a.inj hn.1 j j' g c g' c' h1 h2 he
  ·exact absurd he (hn.2.2 _ (a.sub j g c h1) _ (b.sub _ g' c' h2))
  ·exact absurd he.symm (hn.2.2 _ (a.sub _ g' c' h2) _ (b.sub _ g c h1))
  ·have:=b.inj hn.2.1 _ _ g c g' c' h1 h2 he
   omega
 dis hn j j' q q' h1 h2 hne x hx hx':=by
  have subA:∀ j q,p1[j]? = some q → ∀ x ∈ q,x ∈ f1:=fun j q hq x hx => by
   have hl:j < xs.length:=by rw [← a.lp]; exact (List.getElem?_eq_some_iff.1 hq).1
   obtain ⟨z,l,_,_,q',h3,h4,_⟩:=a.row j xs[j] (by simp [hl])
   rw [hq] at h3; cases h3
   exact h4.subset hx
  have subB:∀ j q,p2[j]? = some q → ∀ x ∈ q,x ∈ f2:=fun j q hq x hx => by
   have hl:j < ys.length:=by rw [← b.lp]; exact (List.getElem?_eq_some_iff.1 hq).1
   obtain ⟨z,l,_,_,q',h3,h4,_⟩:=b.row j ys[j] (by simp [hl])
   rw [hq] at h3; cases h3
   exact h4.subset hx
  rw [List.getElem?_append] at h1 h2
  rw [List.nodup_append] at hn
  split at h1 <;> split at h2
  ·exact a.dis hn.1 j j' q q' h1 h2 hne x hx hx'
  ·exact hn.2.2 x (subA _ _ h1 x hx) x (subB _ _ h2 x hx') rfl
  ·exact hn.2.2 x (subA _ _ h2 x hx') x (subB _ _ h1 x hx) rfl
  ·exact b.dis hn.2.1 _ _ q q' h1 h2 (by omega) x hx hx'
 out hn j j' g c q h1 h2 hx:=by
  have subA:∀ j q,p1[j]? = some q → ∀ x ∈ q,x ∈ f1:=fun j q hq x hx => by
   have hl:j < xs.length:=by rw [← a.lp]; exact (List.getElem?_eq_some_iff.1 hq).1
   obtain ⟨z,l,_,_,q',h3,h4,_⟩:=a.row j xs[j] (by simp [hl])
   rw [hq] at h3; cases h3
   exact h4.subset hx
  have subB:∀ j q,p2[j]? = some q → ∀ x ∈ q,x ∈ f2:=fun j q hq x hx => by
   have hl:j < ys.length:=by rw [← b.lp]; exact (List.getElem?_eq_some_iff.1 hq).1
   obtain ⟨z,l,_,_,q',h3,h4,_⟩:=b.row j ys[j] (by simp [hl])
   rw [hq] at h3; cases h3
   exact h4.subset hx
  rw [List.getElem?_append] at h1 h2
  rw [List.nodup_append] at hn
  split at h1 <;> split at h2
  ·exact a.out hn.1 j j' g c q h1 h2 hx
  ·exact hn.2.2 g (a.sub _ g c h1) g (subB _ _ h2 g hx) rfl
  ·exact hn.2.2 g (subA _ _ h2 g hx) g (b.sub _ g c h1) rfl
  ·exact b.out hn.2.1 _ _ g c q h1 h2 hx
 sub j g c h1:=by
  rw [List.getElem?_append] at h1
  split at h1
  ·simp [a.sub j g c h1]
  ·simp [b.sub _ g c h1]
def OpenAt (σ:Sg) (n:Nat) (s:List (Option (Nat × Nat))):Prop:=∀ j x,s[j]? = some x → σ (n + j) = x
theorem OpenAt.left {σ:Sg} {n:Nat} {s1 s2:List (Option (Nat × Nat))} (h:OpenAt σ n (s1 ++ s2)):OpenAt σ n s1:=fun j x hj => h j x (by
 rw [List.getElem?_append_left (List.getElem?_eq_some_iff.1 hj).1]; exact hj)
theorem OpenAt.right {σ:Sg} {n:Nat} {s1 s2:List (Option (Nat × Nat))} (h:OpenAt σ n (s1 ++ s2)):OpenAt σ (n + s1.length) s2:=fun j x hj => by
 have:=h (s1.length + j) x (by rw [List.getElem?_append_right (by omega)]; simpa using hj)
 rwa [← Nat.add_assoc] at this
def b8m (h':List l7) (n:Nat) (xs:List l7):Prop:=∀ (j:Nat) x,xs[j]? = some x → h'[n + j]? = some x
theorem b8m.left {h':List l7} {n:Nat} {xs ys:List l7} (h:b8m h' n (xs ++ ys)):b8m h' n xs:=fun j x hj => h j x (by
 rw [List.getElem?_append_left (List.getElem?_eq_some_iff.1 hj).1]; exact hj)
theorem b8m.right {h':List l7} {n:Nat} {xs ys:List l7} (h:b8m h' n (xs ++ ys)):b8m h' (n + xs.length) ys:=fun j x hj => by
 have:=h (xs.length + j) x (by rw [List.getElem?_append_right (by omega)]; simpa using hj)
 rwa [← Nat.add_assoc] at this
mutual
theorem c9x {C:Ctx} {W:World} {B:Nat}:∀ (n:Nat) (a:AV) (cs:List Value) (fp:List Nat),Rep true W a cs fp →
  ∃ s p,b4f C W B n (a4i n a).2 s p fp ∧ ∀ σ' h',fp.Nodup → OpenAt σ' n s → b8m h' n (a4i n a).2 → RV C σ' h' W (a4i n a).1 (mkV a cs)
 | n,.int k i,cs,fp,hr => by
  simp only [Rep] at hr; obtain ⟨rfl,rfl⟩:=hr
  exact ⟨[],[],b4f.nil C W B n [],fun σ' h' _ _ _ => by simp [a4i,RV,mkV]⟩
 | n,.bool b,cs,fp,hr => by
  simp only [Rep] at hr; obtain ⟨rfl,rfl⟩:=hr
  exact ⟨[],[],b4f.nil C W B n [],fun σ' h' _ _ _ => by simp [a4i,RV,mkV]⟩
 | n,.str b,cs,fp,hr => by
  simp only [Rep] at hr; obtain ⟨rfl,h2,rfl⟩:=hr
  exact ⟨[],[],b4f.nil C W B n [],fun σ' h' _ _ _ => by simp [a4i,RV,mkV,h2]⟩
 | n,.nil,cs,fp,hr => by
  simp only [Rep] at hr; obtain ⟨rfl,rfl⟩:=hr
  exact ⟨[],[],b4f.nil C W B n [],fun σ' h' _ _ _ => by simp [a4i,RV,mkV]⟩
 | n,.iptr e f,cs,fp,hr => ⟨[],[],b4f.nil C W B n fp,fun σ' h' _ _ _ => by simp [a4i,RV]⟩
 | n,.fn e f,cs,fp,hr => ⟨[],[],b4f.nil C W B n fp,fun σ' h' _ _ _ => by simp [a4i,RV]⟩
 | n,.undef,cs,fp,hr => by simp only [Rep] at hr
 | n,.skip,cs,fp,hr => by simp only [Rep] at hr
 | n,.hdr v z l,cs,fp,hr => ⟨[],[],b4f.nil C W B n fp,fun σ' h' _ _ _ => by simp only [Rep] at hr; simp [a4i,RV,mkV,hr.1]⟩
 | n,.own ..,cs,fp,hr => by simp only [Rep] at hr
 | n,.ptr ..,cs,fp,hr => by simp only [Rep] at hr
 | n,.agg as,cs,fp,hr => by
  simp only [Rep] at hr
  obtain ⟨s,p,h1,h2⟩:=c6o (C:=C) (B:=B) n as cs fp hr
  refine ⟨s,p,by simpa only [a4i] using h1,fun σ' h' hn ho hp => ?_⟩
  simp only [a4i,RV,mkV] at hp ⊢
  exact ⟨_,rfl,by simpa using h2 σ' h' hn ho hp⟩
 | n,.tup as,cs,fp,hr => by
  simp only [Rep] at hr
  obtain ⟨s,p,h1,h2⟩:=d3f (C:=C) (B:=B) n as cs fp hr
  refine ⟨s,p,by simpa only [a4i] using h1,fun σ' h' hn ho hp => ?_⟩
  simp only [a4i,RV,mkV] at hp ⊢
  exact ⟨_,rfl,by simpa using h2 σ' h' hn ho hp⟩
 | n,.lst 0 l,cs,fp,hr => ⟨[],[],b4f.nil C W B n fp,fun σ' h' _ _ _ => by simp [a4i,RV]⟩
 | n,.lst (z + 1) l,cs,fp,hr => by
  simp only [Rep] at hr
  rcases hr with ⟨rfl,rfl,a,cap,rfl,hcap,hm⟩ | ⟨b,off,cap,cur,e,fz,fps,rfl,h2,h3,h4,h5,rfl,h7,h8⟩
  ·obtain ⟨rfl,rfl⟩:=hm trivial
   have hz:0 < z + 1:=by omega
   ·refine ⟨[none],[[]],⟨rfl,rfl,?_,?_,?_,?_,?_⟩,?_⟩
    ·intro j x hj
     cases j with
     | zero => simp [a4i] at hj; subst hj; exact ⟨z + 1,[],rfl,hz,[],rfl,List.Sublist.refl _,by simp⟩
     | succ j => simp [a4i] at hj
    ·intro _ j j' g c g' c' h1; cases j <;> simp at h1
    ·intro _ j j' q q' h1 h2 hne; cases j <;> cases j' <;> simp at h1 h2 hne
    ·intro _ j j' g c q h1; cases j <;> simp at h1
    ·intro j g c h1; cases j <;> simp at h1
    ·intro σ' h' _ ho hp
     have e1:=ho 0 none rfl
     have e2:=hp 0 (.row (z + 1) []) (by simp [a4i])
     simp only [Nat.add_zero] at e1 e2
     simp only [a4i,RV,e2,mkV,List.headD_cons]
     exact ⟨none,0,rfl,by simp,by simp,by simp,by rw [e1]; simp⟩
  ·obtain ⟨rfl,rfl,h6⟩:=h5 trivial
   simp only [List.drop_zero] at h8
   refine ⟨[some (b,cap)],[fps],⟨rfl,rfl,?_,?_,?_,?_,?_⟩,?_⟩
   ·intro j x hj
    cases j with
    | zero =>
     simp [a4i] at hj
     subst hj
     exact ⟨z + 1,l,rfl,h7,fps,rfl,List.sublist_cons_self _ _,by simp,h3,cur,e,h4,h6,h8⟩
    | succ j => simp [a4i] at hj
   ·intro _ j j' g c g' c' h1 h2 _; cases j <;> cases j' <;> simp at h1 h2 ⊢
   ·intro _ j j' q q' h1 h2 hne; cases j <;> cases j' <;> simp at h1 h2 hne
   ·intro hn j j' g c q h1 h2
    cases j <;> cases j' <;> simp at h1 h2
    obtain ⟨rfl,rfl⟩:=h1
    subst h2
    exact (List.nodup_cons.1 hn).1
   ·intro j g c h1; cases j <;> simp at h1; simp [h1.1]
   ·intro σ' h' _ ho hp
    have e1:=ho 0 (some (b,cap)) rfl
    have e2:=hp 0 (.row (z + 1) l) (by simp [a4i])
    simp only [Nat.add_zero] at e1 e2
    simp only [a4i,RV,e2,mkV,List.headD_cons]
    exact ⟨_,cap,rfl,by simp,h2,h3,by rw [e1]; simp⟩
theorem d3f {C:Ctx} {W:World} {B:Nat}:∀ (n:Nat) (as:List AV) (vs:List Value) (fp:List Nat),a0x true W as vs fp →
  ∃ s p,b4f C W B n (a8x n as).2 s p fp ∧ ∀ σ' h',fp.Nodup → OpenAt σ' n s → b8m h' n (a8x n as).2 → RVs C σ' h' W (a8x n as).1 vs
 | n,[],vs,fp,hr => by
  simp only [a0x] at hr; obtain ⟨rfl,rfl⟩:=hr
  exact ⟨[],[],b4f.nil C W B n [],fun σ' h' _ _ _ => by simp [a8x,RVs]⟩
 | n,a :: as,vs,fp,hr => by
  simp only [a0x] at hr
  obtain ⟨c,vs',f1,f2,rfl,h1,h2,rfl⟩:=hr
  obtain ⟨s1,p1,g1,g2⟩:=c9x (C:=C) (B:=B) n a c f1 h1
  obtain ⟨s2,p2,k1,k2⟩:=d3f (C:=C) (B:=B) (n + (a4i n a).2.length) as vs' f2 h2
  refine ⟨s1 ++ s2,p1 ++ p2,by simpa only [a8x] using g1.append k1,fun σ' h' hn ho hp => ?_⟩
  simp only [a8x,RVs] at hp ⊢
  rw [List.nodup_append] at hn
  exact ⟨_,_,rfl,g2 σ' h' hn.1 ho.left hp.left,k2 σ' h' hn.2.1 (by have:=ho.right; rwa [g1.ls] at this) hp.right⟩
theorem c6o {C:Ctx} {W:World} {B:Nat}:∀ (n:Nat) (as:List AV) (vs:List Value) (fp:List Nat),a0b true W as vs fp →
  ∃ s p,b4f C W B n (a8x n as).2 s p fp ∧ ∀ σ' h',fp.Nodup → OpenAt σ' n s → b8m h' n (a8x n as).2 → RVs C σ' h' W (a8x n as).1 vs
 | n,[],vs,fp,hr => by
  simp only [a0b] at hr; obtain ⟨rfl,rfl⟩:=hr
  exact ⟨[],[],b4f.nil C W B n [],fun σ' h' _ _ _ => by simp [a8x,RVs]⟩
 | n,a :: as,vs,fp,hr => by
  simp only [a0b] at hr
  obtain ⟨c,vs',f1,f2,rfl,hc,h1,h2,rfl⟩:=hr
  obtain ⟨s1,p1,g1,g2⟩:=c9x (C:=C) (B:=B) n a [c] f1 h1
  obtain ⟨s2,p2,k1,k2⟩:=c6o (C:=C) (B:=B) (n + (a4i n a).2.length) as vs' f2 h2
  refine ⟨s1 ++ s2,p1 ++ p2,by simpa only [a8x] using g1.append k1,fun σ' h' hn ho hp => ?_⟩
  simp only [a8x,RVs] at hp ⊢
  rw [List.nodup_append] at hn
  obtain ⟨c',e1,e2⟩:=h1.cell hc
  cases e1
  have:=g2 σ' h' hn.1 ho.left hp.left
  rw [e2] at this
  exact ⟨_,_,rfl,this,k2 σ' h' hn.2.1 (by have:=ho.right; rwa [g1.ls] at this) hp.right⟩
end
end Go.R
end
section
set_option linter.all false
namespace Go.R
open Go Go.RowKit
mutual
inductive Le:AV → AV → Prop
 | refl (a:AV):Le a a
 | nil (z:Nat):Le .nil (.lst z [])
 | agg {as bs:List AV}:LeL as bs → Le (.agg as) (.agg bs)
 | lst {z:Nat} {as bs:List AV}:LeL as bs → Le (.lst z as) (.lst z bs)
 | tup {as bs:List AV}:LeL as bs → Le (.tup as) (.tup bs)
inductive LeL:List AV → List AV → Prop
 | nil:LeL [] []
 | cons {a b:AV} {as bs:List AV}:Le a b → LeL as bs → LeL (a :: as) (b :: bs)
end
theorem Le.of_eq {a b:AV} (h:a = b):Le a b:=h ▸ .refl a
theorem LeL.refl:∀ (as:List AV),LeL as as
 | [] => .nil
 | a :: as => .cons (.refl a) (LeL.refl as)
theorem LeL.of_eq {a b:List AV} (h:a = b):LeL a b:=h ▸ .refl a
theorem LeL.length:∀ {as bs:List AV},LeL as bs → as.length = bs.length
 | [],_,.nil => rfl
 | _ :: _,_,.cons _ h => by simp [h.length]
theorem LeL.rep {a b:AV} (h:Le a b):∀ (n:Nat),LeL (List.replicate n a) (List.replicate n b)
 | 0 => .nil
 | n + 1 => .cons h (LeL.rep h n)
theorem Le.isCell {a b:AV} (h:Le a b):b.isCell = a.isCell:=by cases h <;> rfl
theorem Le.isElem {a b:AV} (h:Le a b):b.isElem = a.isElem:=by cases h <;> rfl
theorem Le.cells {a b:AV} (h:Le a b):LeL a.cells b.cells:=by
 cases h with
 | refl => exact .refl _
 | nil z => exact .cons (.nil z) .nil
 | agg h => exact h
 | lst h => exact .cons (.lst h) .nil
 | tup h => exact .cons (.tup h) .nil
section
variable {m:Bool} {w:World}
theorem Le.mkV {a b:AV} (h:Le a b) (cs:List Value):R.mkV b cs = R.mkV a cs:=by
 cases h <;> rfl
mutual
theorem Le.rep:∀ {a b:AV},Le a b → ∀ (cs:List Value) (fp:List Nat),Rep m w a cs fp → Rep m w b cs fp
 | _,_,.refl _,_,_,hr => hr
 | _,_,.nil z,cs,fp,hr => by
  simp only [Rep] at hr ⊢
  exact .inl ⟨trivial,hr.2,none,0,hr.1,by simp [maxLen],fun _ => ⟨rfl,rfl⟩⟩
 | _,_,.agg h,cs,fp,hr => by simp only [Rep] at hr ⊢; exact LeL.rep1 h cs fp hr
 | _,_,.tup h,cs,fp,hr => by simp only [Rep] at hr ⊢; exact LeL.repv h cs fp hr
 | _,_,.lst h,cs,fp,hr => by
  simp only [Rep] at hr ⊢
  rw [← h.length]
  rcases hr with ⟨rfl,h2,h3⟩ | ⟨b,off,cap,cur,e,fz,fps,h1,h2,h3,h4,h5,h6,h7,h8⟩
  ·cases h
   exact .inl ⟨rfl,h2,h3⟩
  ·exact .inr ⟨b,off,cap,cur,e,fz,fps,h1,h2,h3,h4,h5,h6,h7,LeL.reps h _ _ h8⟩
theorem LeL.reps {sz:Nat}:∀ {as bs:List AV},LeL as bs → ∀ (cs:List Value) (fp:List Nat),a0a m w sz as cs fp → a0a m w sz bs cs fp
 | _,_,.nil,_,_,hr => hr
 | _,_,.cons h t,cs,fp,hr => by
  simp only [a0a] at hr ⊢
  obtain ⟨f1,f2,⟨h0,he⟩,h1,h2,e2⟩:=hr
  exact ⟨f1,f2,⟨h0,by rw [h.isElem]; exact he⟩,Le.rep h _ _ h1,LeL.reps t _ _ h2,e2⟩
theorem LeL.rep1:∀ {as bs:List AV},LeL as bs → ∀ (cs:List Value) (fp:List Nat),a0b m w as cs fp → a0b m w bs cs fp
 | _,_,.nil,_,_,hr => hr
 | _,_,.cons h t,cs,fp,hr => by
  simp only [a0b] at hr ⊢
  obtain ⟨c,cs',f1,f2,e,hc,h1,h2,e2⟩:=hr
  exact ⟨c,cs',f1,f2,e,by rw [h.isCell]; exact hc,Le.rep h _ _ h1,LeL.rep1 t _ _ h2,e2⟩
theorem LeL.repv:∀ {as bs:List AV},LeL as bs → ∀ (cs:List Value) (fp:List Nat),a0x m w as cs fp → a0x m w bs cs fp
 | _,_,.nil,_,_,hr => hr
 | _,_,.cons h t,cs,fp,hr => by
  simp only [a0x] at hr ⊢
  obtain ⟨c,cs',f1,f2,e,h1,h2,e2⟩:=hr
  exact ⟨c,cs',f1,f2,by rw [h.mkV]; exact e,Le.rep h _ _ h1,LeL.repv t _ _ h2,e2⟩
end
end
section
variable {C:Ctx} {σ:Sg} {φ:Nat → List Nat} {h:List l7} {w:World}
mutual
theorem Le.rv:∀ {a b:AV},Le a b → ∀ (v:Value),RV C σ h w a v → RV C σ h w b v
 | _,_,.refl _,_,hr => hr
 | _,_,.nil z,v,hr => by
  simp only [RV] at hr ⊢
  subst hr
  exact ⟨[],⟨[.slice none 0 0],rfl,by simp only [Rep]; exact .inl ⟨trivial,trivial,none,0,rfl,by simp [maxLen],fun _ => ⟨rfl,rfl⟩⟩⟩,by simp⟩
 | _,_,.agg t,v,hr => by
  simp only [RV] at hr ⊢
  obtain ⟨vs,e,h1⟩:=hr
  exact ⟨vs,e,LeL.rvs t _ h1⟩
 | _,_,.lst t,v,hr => by
  simp only [RV] at hr ⊢
  obtain ⟨fp,⟨cs,e,h1⟩,h2⟩:=hr
  exact ⟨fp,⟨cs,e,Le.rep (.lst t) _ _ h1⟩,h2⟩
 | _,_,.tup t,v,hr => by
  simp only [RV] at hr ⊢
  obtain ⟨vs,e,h1⟩:=hr
  exact ⟨vs,e,LeL.rvs t _ h1⟩
theorem LeL.rvs:∀ {as bs:List AV},LeL as bs → ∀ (vs:List Value),RVs C σ h w as vs → RVs C σ h w bs vs
 | _,_,.nil,_,hr => hr
 | _,_,.cons t ts,vs,hr => by
  simp only [RVs] at hr ⊢
  obtain ⟨v,vs',e,h1,h2⟩:=hr
  exact ⟨v,vs',e,Le.rv t _ h1,LeL.rvs ts _ h2⟩
end
end
inductive LeO:l7 → l7 → Prop
 | refl (x:l7):LeO x x
 | box {z:Nat} {a b:AV}:Le a b → LeO (.box z a) (.box z b)
 | row {z:Nat} {a b:List AV}:LeL a b → LeO (.row z a) (.row z b)
 | rowx {z i:Nat} {l:List AV} {a b:AV}:Le a b → LeO (.rowx z l i a) (.rowx z l i b)
inductive LeH:List l7 → List l7 → Prop
 | nil:LeH [] []
 | cons {x y:l7} {xs ys:List l7}:LeO x y → LeH xs ys → LeH (x :: xs) (y :: ys)
theorem LeH.refl:∀ (xs:List l7),LeH xs xs
 | [] => .nil
 | x :: xs => .cons (.refl x) (LeH.refl xs)
theorem LeH.of_eq {a b:List l7} (h:a = b):LeH a b:=h ▸ .refl a
theorem LeH.length:∀ {xs ys:List l7},LeH xs ys → xs.length = ys.length
 | [],_,.nil => rfl
 | _ :: _,_,.cons _ t => by simp [t.length]
theorem LeH.get:∀ {xs ys:List l7} {o:Nat} {y:l7},LeH xs ys → ys[o]? = some y → ∃ x,xs[o]? = some x ∧ LeO x y
 | _,_,_,_,.nil,h => by simp at h
 | _,_,0,y,.cons h _,e => by simp at e; subst e; exact ⟨_,by simp,h⟩
 | _,_,o + 1,y,.cons _ t,e => by
  obtain ⟨x,h1,h2⟩:=LeH.get t (by simpa using e)
  exact ⟨x,by simpa using h1,h2⟩
theorem LeH.get':∀ {xs ys:List l7} {o:Nat} {x:l7},LeH xs ys → xs[o]? = some x → ∃ y,ys[o]? = some y ∧ LeO x y
 | _,_,_,_,.nil,h => by simp at h
 | _,_,0,y,.cons h _,e => by simp at e; subst e; exact ⟨_,by simp,h⟩
 | _,_,o + 1,y,.cons _ t,e => by
  obtain ⟨x,h1,h2⟩:=LeH.get' t (by simpa using e)
  exact ⟨x,by simpa using h1,h2⟩
theorem LeO.live {x y:l7} (h:LeO x y):y.isLive = x.isLive:=by cases h <;> rfl
theorem LeO.rw {x y:l7} (h:LeO x y):y.rw = x.rw:=by cases h <;> rfl
theorem LeO.shape {x y:l7} (h:LeO x y) (hl:x.isLive = true):sameShape x y:=by
 cases h with
 | refl => exact sameShape.refl hl
 | box _ => rfl
 | row t => exact ⟨rfl,t.length⟩
 | rowx _ => exact ⟨rfl,rfl⟩
theorem LeH.last {x y:l7} (hl:LeO x y):∀ {h:List l7},LeH (h ++ [x]) (h ++ [y])
 | [] => .cons hl .nil
 | a :: h => .cons (.refl a) (LeH.last hl (h:=h))
theorem LeL.set {a b:AV} (hl:Le a b):∀ {l:List AV} {i:Nat},LeL (l.set i a) (l.set i b)
 | [],_ => .nil
 | x :: l,0 => .cons hl (.refl l)
 | x :: l,i + 1 => .cons (.refl x) (LeL.set hl (l:=l))
theorem LeH.setr {z:Nat} {a b:List AV} (hl:LeL a b):∀ {h:List l7} {o:Nat},LeH (h.set o (.row z a)) (h.set o (.row z b))
 | [],_ => .nil
 | x :: h,0 => .cons (.row hl) (.refl h)
 | x :: h,o + 1 => .cons (.refl x) (LeH.setr hl (h:=h))
section
variable {C:Ctx} {σ:Sg} {φ:Nat → List Nat} {h h':List l7} {w:World}
theorem LeH.liveAt (hh:LeH h h') {b:Nat}:liveAt h' σ b ↔ liveAt h σ b:=by
 constructor
 ·rintro ⟨o,y,c,h1,h2,h3⟩
  obtain ⟨x,g1,g2⟩:=hh.get h1
  exact ⟨o,x,c,g1,by rw [← g2.live]; exact h2,h3⟩
 ·rintro ⟨o,y,c,h1,h2,h3⟩
  obtain ⟨x,g1,g2⟩:=hh.get' h1
  exact ⟨o,x,c,g1,by rw [g2.live]; exact h2,h3⟩
theorem LeH.ev (hh:LeH h h'):Ev σ h w σ h' w where
 obj o x ho hx:=by
  obtain ⟨y,g1,g2⟩:=hh.get' ho
  exact .inr ⟨rfl,y,g1,g2.shape hx⟩
 gone o ho:=by
  obtain ⟨y,g1,g2⟩:=hh.get' ho
  cases g2; exact g1
 live b _ hl:=hh.liveAt.1 hl
 blk b _ _:=rfl
 size:=Nat.le_refl _
theorem LeH.heap (hh:LeH h h') (hr:o9 C σ φ h w):o9 C σ φ h' w where
 obj o y ho:=by
  obtain ⟨x,g1,g2⟩:=hh.get ho
  have hob:=hr.obj o x g1
  have ev:=LeH.ev (σ:=σ) (w:=w) hh
  cases x with
  | dead => cases g2; trivial
  | box z v =>
   obtain ⟨g,cur,e,h1,h2,h3,h4⟩:=hob
   have h5:=Ev.rvs ev _ _ h4
   cases g2 with
   | refl => exact ⟨g,cur,e,h1,h2,h3,h5⟩
   | box hl => exact ⟨g,cur,e,h1,h2,h3,LeL.rvs hl.cells _ h5⟩
  | map m =>
   obtain ⟨g,cur,e,h1,h2,h3,h4⟩:=hob
   have h5:=Ev.rvs ev _ _ h4
   cases g2
   exact ⟨g,cur,e,h1,h2,h3,h5⟩
  | row z l =>
   obtain ⟨h0,hob⟩:=hob
   have key:∀ l',LeL l l' → b5a C σ φ h' w o (.row z l'):=by
    intro l' hl
    refine ⟨h0,?_⟩
    cases hs:σ o with
    | none =>
     rw [hs] at hob
     obtain ⟨rfl,e⟩:=hob
     cases hl
     exact ⟨rfl,e⟩
    | some p =>
     rw [hs] at hob
     obtain ⟨h1,cur,e,h2,h3,h4,h5⟩:=hob
     exact ⟨h1,cur,e,h2,h3,LeL.reps hl _ _ h4,fun b hb => ⟨(h5 b hb).1,fun hv => (h5 b hb).2 (hh.liveAt.1 hv)⟩⟩
   cases g2 with
   | refl => exact key l (.refl l)
   | row hl => exact key _ hl
  | rowx z l i el =>
   have hob':=b5a.rowx_ev (σ':=σ) (φ':=φ) (w':=w) ev rfl rfl (fun _ _ _ => rfl) hob
   cases g2 with
   | refl => exact hob'
   | rowx hl =>
    obtain ⟨hz,hmm,hi,g,c,cur,e,f1,f2,k1,k2,k3,k4,k5,k6,k7,k7',k8,k9⟩:=hob'
    exact ⟨hz,hmm,hi,g,c,cur,e,f1,f2,k1,k2,k3,k4,k5,LeL.rvs hl.cells _ k6,k7,by rw [← hl.cells.length]; exact k7',k8,k9⟩
 inj o o' y y' b c c' h1 h2 h3 h4 h5 h6:=by
  obtain ⟨x,g1,g2⟩:=hh.get h1
  obtain ⟨x',g1',g2'⟩:=hh.get h3
  exact hr.inj o o' x x' b c c' g1 (by rw [← g2.live]; exact h2) g1' (by rw [← g2'.live]; exact h4) h5 h6
 base o y b c h1 h2 h3:=by
  obtain ⟨x,g1,g2⟩:=hh.get h1
  exact hr.base o x b c g1 (by rw [← g2.live]; exact h2) h3
 deepx hdm o y ho hy:=by
  obtain ⟨x,g1,g2⟩:=hh.get ho
  obtain ⟨d1,d2,d3⟩:=hr.deepx hdm o x g1 (by rw [← g2.rw]; exact hy)
  refine ⟨d1,d2,?_⟩
  intro o' y' ho' hy' hne
  obtain ⟨x',g1',g2'⟩:=hh.get ho'
  exact d3 o' x' g1' (by rw [← g2'.rw]; exact hy') hne
end
end Go.R
end
section
set_option linter.all false
namespace Go.R
open Go Go.RowKit
mutual
def ren (f:Nat → Option Nat):AV → AV
 | .own o lo n => match f o with
  | some o' => .own o' lo n
  | none => .undef
 | .ptr o i k => match f o with
  | some o' => .ptr o' i k
  | none => .undef
 | .agg as => .agg (a7h f as)
 | .tup as => .tup (a7h f as)
 | .fn g as => .fn g (a7h f as)
 | a => a
def a7h (f:Nat → Option Nat):List AV → List AV
 | [] => []
 | a :: as => ren f a :: a7h f as
end
def kept (n0:Nat):List l7 → Nat → List Nat
 | [],_ => []
 | x :: xs,i => match decide (i < n0) || x.isLive with
  | true => i :: kept n0 xs (i + 1)
  | false => kept n0 xs (i + 1)
def c9y:List Nat → Nat → Nat → Option Nat
 | [],_,_ => none
 | i :: is,j,o => if o = i then some j else c9y is (j + 1) o
def a5w (f:Nat → Option Nat):l7 → l7
 | .box z v => .box z (ren f v)
 | .rowx z l i el => .rowx z l i (ren f el)
 | .map m => .map (m.map fun p => (p.1,ren f p.2))
 | x => x
theorem c4q (f:Nat → Option Nat):∀ m:List (List UInt8 × AV),(m.map fun p => (p.1,ren f p.2)).map Prod.snd = a7h f (m.map Prod.snd)
 | [] => by simp [a7h]
 | p :: m => by simp only [List.map_cons,a7h,c4q f m]
theorem d6p.ren {m:List (List UInt8 × AV)} {es:Array MapEntry} (h:d6p m es) (f:Nat → Option Nat):d6p (m.map fun p => (p.1,Go.R.ren f p.2)) es:=by
 unfold d6p at *
 rw [h,List.map_map]; rfl
def gcF (n0:Nat) (h:List l7):Nat → Option Nat:=c9y (kept n0 h 0) 0
def gcV (n0:Nat) (h:List l7) (a:AV):AV:=ren (gcF n0 h) a
def gcH (n0:Nat) (h:List l7):List l7:=(kept n0 h 0).map fun i => a5w (gcF n0 h) (h.getD i .dead)
theorem c4r {n0:Nat}:∀ (h:List l7) (i o:Nat),o ∈ kept n0 h i ↔ i ≤ o ∧ ∃ x,h[o - i]? = some x ∧ (o < n0 ∨ x.isLive = true)
 | [],i,o => by simp [kept]
 | x :: xs,i,o => by
  have ih:=c4r xs (i + 1) o (n0:=n0)
  have key:(i + 1 ≤ o ∧ ∃ y,xs[o - (i + 1)]? = some y ∧ (o < n0 ∨ y.isLive = true)) ↔ (i < o ∧ ∃ y,(x :: xs)[o - i]? = some y ∧ (o < n0 ∨ y.isLive = true)):=by
   constructor
   ·rintro ⟨h1,y,h2,h3⟩
    refine ⟨by omega,y,?_,h3⟩
    rw [show o - i = (o - (i + 1)) + 1 by omega]
    simpa using h2
   ·rintro ⟨h1,y,h2,h3⟩
    refine ⟨by omega,y,?_,h3⟩
    rw [show o - i = (o - (i + 1)) + 1 by omega] at h2
    simpa using h2
  rw [key] at ih
  simp only [kept]
  split
  ·rename_i hc
   simp only [Bool.or_eq_true,decide_eq_true_eq] at hc
   rw [List.mem_cons,ih]
   constructor
   ·rintro (rfl | ⟨h1,h2⟩)
    ·exact ⟨Nat.le_refl _,x,by simp,hc⟩
    ·exact ⟨by omega,h2⟩
   ·rintro ⟨h1,h2⟩
    by_cases he:o = i
    ·exact .inl he
    ·exact .inr ⟨by omega,h2⟩
  ·rename_i hc
   simp only [Bool.or_eq_false_iff,decide_eq_false_iff_not] at hc
   rw [ih]
   constructor
   ·rintro ⟨h1,h2⟩; exact ⟨by omega,h2⟩
   ·rintro ⟨h1,y,h2,h3⟩
    by_cases he:o = i
    ·subst he
     simp at h2
     subst h2
     rcases h3 with h3 | h3
     ·exact absurd h3 hc.1
     ·rw [hc.2] at h3; cases h3
    ·exact ⟨by omega,y,h2,h3⟩
theorem c3t {n0:Nat}:∀ (h:List l7) (i:Nat),(kept n0 h i).Nodup
 | [],i => by simp [kept]
 | x :: xs,i => by
  simp only [kept]
  split
  ·rw [List.nodup_cons]
   refine ⟨fun hm => ?_,c3t xs (i + 1)⟩
   have:=((c4r xs (i + 1) i).1 hm).1
   omega
  ·exact c3t xs (i + 1)
theorem c3u:∀ (l:List Nat) (j o k:Nat),l.Nodup → (c9y l j o = some k ↔ j ≤ k ∧ l[k - j]? = some o)
 | [],j,o,k,_ => by simp [c9y]
 | i :: is,j,o,k,hn => by
  rw [List.nodup_cons] at hn
  simp only [c9y]
  split
  ·rename_i he
   subst he
   simp only [Option.some.injEq]
   constructor
   ·rintro rfl; exact ⟨Nat.le_refl _,by simp⟩
   ·rintro ⟨h1,h2⟩
    by_cases hk:j = k
    ·exact hk
    ·exfalso
     rw [show k - j = (k - j - 1) + 1 by omega] at h2
     simp only [List.getElem?_cons_succ] at h2
     exact hn.1 (List.mem_of_getElem? h2)
  ·rename_i he
   rw [c3u is (j + 1) o k hn.2]
   constructor
   ·rintro ⟨h1,h2⟩
    refine ⟨by omega,?_⟩
    rw [show k - j = (k - (j + 1)) + 1 by omega]
    simpa using h2
   ·rintro ⟨h1,h2⟩
    by_cases hk:j = k
    ·subst hk
     simp at h2
     exact absurd h2.symm he
    ·refine ⟨by omega,?_⟩
     rw [show k - j = (k - (j + 1)) + 1 by omega] at h2
     simpa using h2
section
variable {C:Ctx} {σ:Sg} {φ:Nat → List Nat} {h:List l7} {w:World} {n0:Nat}
theorem c4s {o k:Nat}:gcF n0 h o = some k ↔ (kept n0 h 0)[k]? = some o:=by
 unfold gcF
 rw [c3u _ _ _ _ (c3t h 0)]
 simp
theorem e6c {o:Nat} {x:l7} (ho:h[o]? = some x) (hx:x.isLive = true):∃ k,gcF n0 h o = some k:=by
 have hm:o ∈ kept n0 h 0:=(c4r h 0 o).2 ⟨Nat.zero_le _,x,by simpa using ho,.inr hx⟩
 obtain ⟨k,hk⟩:=List.mem_iff_getElem?.1 hm
 exact ⟨k,c4s.2 hk⟩
theorem c8x {k:Nat} {y:l7}:(gcH n0 h)[k]? = some y ↔ ∃ o x,(kept n0 h 0)[k]? = some o ∧ h[o]? = some x ∧ y = a5w (gcF n0 h) x:=by
 unfold gcH
 rw [List.getElem?_map,Option.map_eq_some_iff]
 constructor
 ·rintro ⟨o,h1,rfl⟩
  obtain ⟨_,x,h2,_⟩:=(c4r h 0 o).1 (List.mem_of_getElem? h1)
  refine ⟨o,x,h1,by simpa using h2,?_⟩
  have:h.getD o .dead = x:=by simp at h2; simp [h2]
  rw [this]
 ·rintro ⟨o,x,h1,h2,rfl⟩
  refine ⟨o,h1,?_⟩
  have:h.getD o .dead = x:=by simp [h2]
  rw [this]
theorem a5m {f:Nat → Option Nat} {x:l7}:(a5w f x).isLive = x.isLive:=by cases x <;> rfl
theorem b6k {f:Nat → Option Nat} {x:l7}:(a5w f x).rw = x.rw:=by cases x <;> rfl
def gcσ (n0:Nat) (h:List l7) (σ:Sg):Sg:=fun k => match (kept n0 h 0)[k]? with
 | some o => σ o
 | none => none
def gcφ (n0:Nat) (h:List l7) (φ:Nat → List Nat):Nat → List Nat:=fun k => match (kept n0 h 0)[k]? with
 | some o => φ o
 | none => []
theorem d3g {b:Nat}:liveAt (gcH n0 h) (gcσ n0 h σ) b ↔ liveAt h σ b:=by
 constructor
 ·rintro ⟨k,y,c,h1,h2,h3⟩
  obtain ⟨o,x,g1,g2,rfl⟩:=c8x.1 h1
  rw [a5m] at h2
  simp only [gcσ,g1] at h3
  exact ⟨o,x,c,g2,h2,h3⟩
 ·rintro ⟨o,x,c,h1,h2,h3⟩
  obtain ⟨k,hk⟩:=e6c (n0:=n0) h1 h2
  have hk':=c4s.1 hk
  refine ⟨k,a5w (gcF n0 h) x,c,c8x.2 ⟨o,x,hk',h1,rfl⟩,by rw [a5m]; exact h2,?_⟩
  simp only [gcσ,hk']
  exact h3
mutual
theorem f5j:∀ (a:AV) (v:Value),RV C σ h w a v → RV C (gcσ n0 h σ) (gcH n0 h) w (ren (gcF n0 h) a) v
 | .undef,_,_ => by simp only [ren,RV]
 | .skip,_,hr => by simpa only [ren,RV] using hr
 | .hdr _ _ _,_,hr => by simpa only [ren,RV] using hr
 | .int _ _,_,hr => by simpa only [ren,RV] using hr
 | .bool _,_,hr => by simpa only [ren,RV] using hr
 | .str _,_,hr => by simpa only [ren,RV] using hr
 | .nil,_,hr => by simpa only [ren,RV] using hr
 | .lst z l,v,hr => by
  simp only [ren,RV] at hr ⊢
  obtain ⟨fp,h1,h2⟩:=hr
  exact ⟨fp,h1,fun b hb => ⟨(h2 b hb).1,fun hl => (h2 b hb).2 (d3g.1 hl)⟩⟩
 | .iptr l f,v,hr => by
  simp only [ren,RV] at hr ⊢
  obtain ⟨fp,h1,h2⟩:=hr
  exact ⟨fp,h1,fun b hb => ⟨(h2 b hb).1,fun hl => (h2 b hb).2 (d3g.1 hl)⟩⟩
 | .own o lo n,v,hr => by
  simp only [ren]
  cases hf:gcF n0 h o with
  | none => simp only [RV]
  | some k =>
   have hk:=c4s.1 hf
   simp only [RV] at hr ⊢
   cases ho:h[o]? with
   | none => rw [ho] at hr; exact hr.elim
   | some x =>
    rw [ho] at hr
    have hg:=c8x.2 ⟨o,x,hk,ho,rfl⟩
    rw [hg]
    have hσ:gcσ n0 h σ k = σ o:=by simp only [gcσ,hk]
    cases x with
    | dead => simp only [a5w]
    | map _ => exact hr.elim
    | box _ _ => exact hr.elim
    | row sz l =>
     simp only [a5w]
     unfold b9i at hr ⊢
     rw [hσ]
     exact hr
    | rowx sz l i el =>
     simp only [a5w]
     unfold b9i at hr ⊢
     rw [hσ]
     exact hr
 | .ptr o i f,v,hr => by
  simp only [ren]
  cases hf:gcF n0 h o with
  | none => simp only [RV]
  | some k =>
   have hk:=c4s.1 hf
   simp only [RV] at hr ⊢
   cases ho:h[o]? with
   | none => rw [ho] at hr; exact hr.elim
   | some x =>
    rw [ho] at hr
    have hg:=c8x.2 ⟨o,x,hk,ho,rfl⟩
    rw [hg]
    have hσ:gcσ n0 h σ k = σ o:=by simp only [gcσ,hk]
    cases x with
    | dead => simp only [a5w]
    | map _ => simp only [a5w]; rw [hσ]; exact hr
    | box _ _ => simp only [a5w]; rw [hσ]; exact hr
    | row sz l => simp only [a5w]; rw [hσ]; exact hr
    | rowx sz l j el => simp only [a5w]; rw [hσ]; exact hr
 | .agg as,v,hr => by
  simp only [ren,RV] at hr ⊢
  obtain ⟨vs,e,h1⟩:=hr
  exact ⟨vs,e,d5c as _ h1⟩
 | .tup as,v,hr => by
  simp only [ren,RV] at hr ⊢
  obtain ⟨vs,e,h1⟩:=hr
  exact ⟨vs,e,d5c as _ h1⟩
 | .fn f caps,v,hr => by
  simp only [ren,RV] at hr ⊢
  obtain ⟨vs,e,h1⟩:=hr
  exact ⟨vs,e,d5c caps _ h1⟩
theorem d5c:∀ (as:List AV) (vs:List Value),RVs C σ h w as vs → RVs C (gcσ n0 h σ) (gcH n0 h) w (a7h (gcF n0 h) as) vs
 | [],_,hr => by simpa only [a7h,RVs] using hr
 | a :: as,vs,hr => by
  simp only [a7h,RVs] at hr ⊢
  obtain ⟨v,vs',e,h1,h2⟩:=hr
  exact ⟨v,vs',e,f5j a v h1,d5c as vs' h2⟩
end
theorem d3h {f:Nat → Option Nat}:∀ (a:AV),(ren f a).cells = a7h f a.cells ∨ ∃ o,f o = none ∧ (ren f a) = .undef
 | .own o lo n => by
  simp only [ren]
  cases hf:f o with
  | none => exact .inr ⟨o,hf,rfl⟩
  | some k => left; simp [AV.cells,a7h,ren,hf]
 | .ptr o lo n => by
  simp only [ren]
  cases hf:f o with
  | none => exact .inr ⟨o,hf,rfl⟩
  | some k => left; simp [AV.cells,a7h,ren,hf]
 | .agg as => by left; simp [ren,AV.cells]
 | .tup as => by left; simp [ren,AV.cells,a7h]
 | .fn _ as => by left; simp [ren,AV.cells,a7h]
 | .undef => by left; simp [ren,AV.cells,a7h]
 | .skip => by left; simp [ren,AV.cells,a7h]
 | .hdr _ _ _ => by left; simp [ren,AV.cells,a7h]
 | .int _ _ => by left; simp [ren,AV.cells,a7h]
 | .bool _ => by left; simp [ren,AV.cells,a7h]
 | .str _ => by left; simp [ren,AV.cells,a7h]
 | .nil => by left; simp [ren,AV.cells,a7h]
 | .lst _ _ => by left; simp [ren,AV.cells,a7h]
 | .iptr _ _ => by left; simp [ren,AV.cells,a7h]
theorem d7i {f:Nat → Option Nat}:∀ (as:List AV),(a7h f as).length = as.length
 | [] => rfl
 | a :: as => by simp only [a7h,List.length_cons,d7i as]
theorem b5j {f:Nat → Option Nat} (a:AV):(ren f a).cells.length = a.cells.length:=by
 rcases d3h (f:=f) a with h | ⟨o,h1,h2⟩
 ·rw [h,d7i]
 ·have hc:a.cells = [a]:=by cases a <;> simp [ren] at h2 <;> rfl
  rw [h2,hc]; rfl
end
inductive Gh where
 | kill (o:Nat)
 | nilT (s z:Nat)
 | nilC (o i z:Nat)
 | frz (s:Nat)
 | frzC (o i:Nat)
 | nilS (s i z:Nat)
 | frzS (s i:Nat)
 | mv (o:Nat)
 | trim (s:Nat)
 | cls (o:Nat)
def nin (x:Nat):List Nat → Bool
 | [] => true
 | y :: ys => match Nat.beq x y with
  | true => false
  | false => nin x ys
def ndn:List Nat → Bool
 | [] => true
 | y :: ys => nin y ys && ndn ys
theorem d5d {x:Nat}:∀ {ys:List Nat},nin x ys = true → x ∉ ys
 | [],_ => by simp
 | y :: ys,h => by
  simp only [nin] at h
  split at h
  ·cases h
  ·rename_i e
   have:x ≠ y:=fun he => by subst he; rw [Nat.beq_refl] at e; cases e
   simp [this,d5d h]
theorem e2q:∀ {ys:List Nat},ndn ys = true → ys.Nodup
 | [],_ => .nil
 | y :: ys,h => by
  simp only [ndn,Bool.and_eq_true] at h
  exact List.nodup_cons.2 ⟨d5d h.1,e2q h.2⟩
def mvF (o n:Nat) (k:Nat):Option Nat:=if k = o then some n else some k
def gh1 (t:Nat → AV) (h:List l7):Gh → Option ((Nat → AV) × List l7)
 | .kill o => some (t,h.set o .dead)
 | .nilT s z => match t s,z with
  | .nil,z + 1 => some (upd t s (.own h.length 0 0),h ++ [.row (z + 1) []])
  | _,_ => none
 | .nilC o i z => match h[o]?,z with
  | some (.box n (.agg cs)),z + 1 => match cs[i]? with
   | some .nil => some (t,h.set o (.box n (.agg (cs.set i (.own h.length 0 0)))) ++ [.row (z + 1) []])
   | _ => none
  | some (.box n .nil),z + 1 => some (t,h.set o (.box n (.own h.length 0 0)) ++ [.row (z + 1) []])
  | _,_ => none
 | .frz s => match t s with
  | .own o lo n => match h[o]? with
   | some (.row z l) => some (upd t s (.lst z ((l.drop lo).take n)),h.set o .dead)
   | _ => none
  | _ => none
 | .frzC o i => match h[o]? with
  | some (.box m (.agg cs)) => match cs[i]? with
   | some (.own q lo n) => match h[q]? with
    | some (.row z l) => some (t,(h.set q .dead).set o (.box m (.agg (cs.set i (.lst z ((l.drop lo).take n))))))
    | _ => none
   | _ => none
  | _ => none
 | .nilS s i z => match t s,z with
  | .agg cs,z + 1 => match cs[i]? with
   | some .nil => some (upd t s (.agg (cs.set i (.own h.length 0 0))),h ++ [.row (z + 1) []])
   | _ => none
  | _,_ => none
 | .frzS s i => match t s with
  | .agg cs => match cs[i]? with
   | some (.own q lo n) => match h[q]? with
    | some (.row z l) => some (upd t s (.agg (cs.set i (.lst z ((l.drop lo).take n)))),h.set q .dead)
    | _ => none
   | _ => none
  | _ => none
 | .mv o => match h[o]? with
  | some (.row z l) => some (fun n => ren (mvF o h.length) (t n),(h.set o .dead).map (a5w (mvF o h.length)) ++ [.row z l])
  | _ => none
 | .trim s => match t s with
  | .own o 0 n => match h[o]? with
   | some (.row z l) => some (upd t s (.own h.length 0 (l.take n).length),h.set o .dead ++ [.row z (l.take n)])
   | _ => none
  | _ => none
 | .cls o => match h[o]? with
  | some (.rowx z l i el) => match a1y true h el with
   | some (el',ks) => match nin o ks && ndn ks && el'.isElem with
    | true => some (t,(kill h ks).set o (.row z (l.set i el')))
    | false => none
   | none => none
  | _ => none
def Gh.frzs:Gh → Bool
 | .frz _ => true
 | .frzC _ _ => true
 | .frzS _ _ => true
 | _ => false
def f3c (m:Bool) (t:Nat → AV) (h:List l7) (g:Gh):Option ((Nat → AV) × List l7):=match m with
 | false => gh1 t h g
 | true => match g.frzs with
  | true => none
  | false => gh1 t h g
def ghs (m:Bool) (t:Nat → AV) (h:List l7):List Gh → Option ((Nat → AV) × List l7)
 | [] => some (t,h)
 | g :: gs => match f3c m t h g with
  | some (t',h') => ghs m t' h' gs
  | none => none
end Go.R
end
