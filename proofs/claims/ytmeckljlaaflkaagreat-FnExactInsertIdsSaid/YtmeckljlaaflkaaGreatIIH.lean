/- Weights, sizes, copies, comparisons: what the laws' own helpers give. -/
import Derived.Test.YtmeckljlaaflkaaGreatIIM
import Derived.Test.YtmeckljlaaflkaaGreatP0
set_option linter.all false
namespace Go.R
open Go
set_option linter.all false
theorem p_eqAtom (x:GAtom):laws_eqAtom x x = some true:=by
  unfold laws_eqAtom
  simp

theorem p_eqAtomS_L1 (b:List GAtom):∀ (xs:List GAtom) (i:Nat),b.drop i = xs → laws_eqAtomS_L1 b xs i = some (.go ())
  | [],i,_ => by rw [laws_eqAtomS_L1]
  | x :: xs,i,h => by
    rw [laws_eqAtomS_L1,idx_drop h,Option.bind_some,p_eqAtom,Option.bind_some,if_neg (by simp),p_eqAtomS_L1 b xs (i + 1) (drop_next h)]
theorem p_eqAtomS (a:List GAtom):laws_eqAtomS a a = some true:=by
  unfold laws_eqAtomS
  rw [if_neg (by simp),p_eqAtomS_L1 a a 0 (by simp)]
  rfl

theorem p_eqCond (x:GCond):laws_eqCond x x = some true:=by
  unfold laws_eqCond
  simp [p_eqAtomS]

theorem p_eqCondS_L1 (b:List GCond):∀ (xs:List GCond) (i:Nat),b.drop i = xs → laws_eqCondS_L1 b xs i = some (.go ())
  | [],i,_ => by rw [laws_eqCondS_L1]
  | x :: xs,i,h => by
    rw [laws_eqCondS_L1,idx_drop h,Option.bind_some,p_eqCond,Option.bind_some,if_neg (by simp),p_eqCondS_L1 b xs (i + 1) (drop_next h)]
theorem p_eqCondS (a:List GCond):laws_eqCondS a a = some true:=by
  unfold laws_eqCondS
  rw [if_neg (by simp),p_eqCondS_L1 a a 0 (by simp)]
  rfl

theorem p_eqIntS_L1 (b:List Int):∀ (xs:List Int) (i:Nat),b.drop i = xs → laws_eqIntS_L1 b xs i = some (.go ())
  | [],i,_ => by rw [laws_eqIntS_L1]
  | x :: xs,i,h => by
    rw [laws_eqIntS_L1,idx_drop h,Option.bind_some,if_neg (by simp),p_eqIntS_L1 b xs (i + 1) (drop_next h)]
theorem p_eqIntS (a:List Int):laws_eqIntS a a = some true:=by
  unfold laws_eqIntS
  rw [if_neg (by simp),p_eqIntS_L1 a a 0 (by simp)]
  rfl

theorem p_eqMut (x:GMut):laws_eqMut x x = some true:=by
  unfold laws_eqMut
  simp [p_eqAtomS]

theorem p_eqMutS_L1 (b:List GMut):∀ (xs:List GMut) (i:Nat),b.drop i = xs → laws_eqMutS_L1 b xs i = some (.go ())
  | [],i,_ => by rw [laws_eqMutS_L1]
  | x :: xs,i,h => by
    rw [laws_eqMutS_L1,idx_drop h,Option.bind_some,p_eqMut,Option.bind_some,if_neg (by simp),p_eqMutS_L1 b xs (i + 1) (drop_next h)]
theorem p_eqMutS (a:List GMut):laws_eqMutS a a = some true:=by
  unfold laws_eqMutS
  rw [if_neg (by simp),p_eqMutS_L1 a a 0 (by simp)]
  rfl

theorem p_eqStringS_L1 (b:List Str):∀ (xs:List Str) (i:Nat),b.drop i = xs → laws_eqStringS_L1 b xs i = some (.go ())
  | [],i,_ => by rw [laws_eqStringS_L1]
  | x :: xs,i,h => by
    rw [laws_eqStringS_L1,idx_drop h,Option.bind_some,if_neg (by simp),p_eqStringS_L1 b xs (i + 1) (drop_next h)]
theorem p_eqStringS (a:List Str):laws_eqStringS a a = some true:=by
  unfold laws_eqStringS
  rw [if_neg (by simp),p_eqStringS_L1 a a 0 (by simp)]
  rfl

theorem p_eqSet (x:GSet):laws_eqSet x x = some true:=by
  unfold laws_eqSet
  simp [p_eqAtomS,p_eqStringS]

theorem p_eqSetS_L1 (b:List GSet):∀ (xs:List GSet) (i:Nat),b.drop i = xs → laws_eqSetS_L1 b xs i = some (.go ())
  | [],i,_ => by rw [laws_eqSetS_L1]
  | x :: xs,i,h => by
    rw [laws_eqSetS_L1,idx_drop h,Option.bind_some,p_eqSet,Option.bind_some,if_neg (by simp),p_eqSetS_L1 b xs (i + 1) (drop_next h)]
theorem p_eqSetS (a:List GSet):laws_eqSetS a a = some true:=by
  unfold laws_eqSetS
  rw [if_neg (by simp),p_eqSetS_L1 a a 0 (by simp)]
  rfl

theorem p_eqOp (x:GOp):laws_eqOp x x = some true:=by
  unfold laws_eqOp
  simp [p_eqCondS,p_eqSetS,p_eqMutS,p_eqStringS]

theorem p_eqOpS_L1 (b:List GOp):∀ (xs:List GOp) (i:Nat),b.drop i = xs → laws_eqOpS_L1 b xs i = some (.go ())
  | [],i,_ => by rw [laws_eqOpS_L1]
  | x :: xs,i,h => by
    rw [laws_eqOpS_L1,idx_drop h,Option.bind_some,p_eqOp,Option.bind_some,if_neg (by simp),p_eqOpS_L1 b xs (i + 1) (drop_next h)]
theorem p_eqOpS (a:List GOp):laws_eqOpS a a = some true:=by
  unfold laws_eqOpS
  rw [if_neg (by simp),p_eqOpS_L1 a a 0 (by simp)]
  rfl

def wtAtom (x:GAtom):Nat:=x.T.length

theorem p_szAtom (x:GAtom) (n:Int) (h0:0 ≤ n) (h1:n ≤ 2 ^ 30) (ok:okGAtom x):∃ r,laws_szAtom x n = some r ∧ (r < 0 ∨ (0 ≤ r ∧ r = n - (wtAtom x:Nat))):=by
  unfold laws_szAtom wtAtom
  have k2:=ok.2.2
  simp only [okS,maxLen] at k2
  rw [w64_id (by omega)]
  split
  · exact ⟨_,rfl,.inl (by omega)⟩
  rename_i h12
  simp only [decide_eq_true_eq] at h12
  exact ⟨_,rfl,.inr ⟨by omega,by omega⟩⟩

def swAtomS:List GAtom → Nat
  | [] => 0
  | x :: xs => wtAtom x + swAtomS xs
def wtAtomS (l:List GAtom):Nat:=l.length + swAtomS l
theorem swAtomS_mem:∀ {l:List GAtom} {x:GAtom},x ∈ l → wtAtom x ≤ swAtomS l
  | [],_,h => by simp at h
  | y :: l,x,h => by
    rw [swAtomS]
    rcases List.mem_cons.1 h with rfl | h
    · omega
    · have:=swAtomS_mem h; omega

theorem p_szAtomS_L1:∀ (l:List GAtom) (n:Int),0 ≤ n → n ≤ 2 ^ 30 → (∀ a ∈ l,(okGAtom) a) → laws_szAtomS_L1 l n = some (.ret (-1)) ∨ ∃ r,laws_szAtomS_L1 l n = some (.go r) ∧ r = n - (swAtomS l:Nat) ∧ 0 ≤ r
  | [],n,h0,h1,ok => .inr ⟨n,rfl,by simp [swAtomS],h0⟩
  | a :: l,n,h0,h1,ok => by
    rw [laws_szAtomS_L1]
    obtain ⟨r,e,hr⟩:=p_szAtom a n h0 h1 (ok a (by simp))
    rw [e,Option.bind_some]
    split
    · exact .inl rfl
    · rename_i h
      simp only [decide_eq_true_eq] at h
      have hr:=hr.resolve_left h
      rcases p_szAtomS_L1 l r (by omega) (by omega) (fun x hx => ok x (by simp [hx])) with h2 | ⟨r',e',g2,g3⟩
      · exact .inl h2
      · exact .inr ⟨r',e',by rw [g2,hr.2]; simp only [swAtomS]; omega,g3⟩
theorem p_szAtomS (l:List GAtom) (n:Int) (h0:0 ≤ n) (h1:n ≤ 2 ^ 30) (ok:(okL (okGAtom)) l):∃ r,laws_szAtomS l n = some r ∧ (r < 0 ∨ (0 ≤ r ∧ r = n - (wtAtomS l:Nat))):=by
  unfold laws_szAtomS wtAtomS
  have k1:=ok.1
  simp only [maxLen] at k1
  rw [w64_id (by omega)]
  split
  · exact ⟨_,rfl,.inl (by omega)⟩
  · rename_i h
    simp only [decide_eq_true_eq] at h
    rcases p_szAtomS_L1 l (n - l.length) (by omega) (by omega) ok.2 with h2 | ⟨r',e',g1,g2⟩
    · exact ⟨-1,by rw [h2]; rfl,.inl (by omega)⟩
    · exact ⟨r',by rw [e']; rfl,.inr ⟨g2,by omega⟩⟩

def wtCond (x:GCond):Nat:=x.Column.length + wtAtomS x.Value

theorem p_szCond (x:GCond) (n:Int) (h0:0 ≤ n) (h1:n ≤ 2 ^ 30) (ok:okGCond x):∃ r,laws_szCond x n = some r ∧ (r < 0 ∨ (0 ≤ r ∧ r = n - (wtCond x:Nat))):=by
  unfold laws_szCond wtCond
  have k0:=ok.1
  simp only [okS,maxLen] at k0
  rw [w64_id (by omega)]
  split
  · exact ⟨_,rfl,.inl (by omega)⟩
  rename_i h10
  simp only [decide_eq_true_eq] at h10
  obtain ⟨r2,e2,hr2⟩:=p_szAtomS x.Value (n - x.Column.length) (by omega) (by omega) ok.2.2
  rw [e2,Option.bind_some]
  split
  · exact ⟨_,rfl,.inl (by omega)⟩
  rename_i h12
  simp only [decide_eq_true_eq] at h12
  have hr2:=hr2.resolve_left h12
  exact ⟨_,rfl,.inr ⟨by omega,by omega⟩⟩

def swCondS:List GCond → Nat
  | [] => 0
  | x :: xs => wtCond x + swCondS xs
def wtCondS (l:List GCond):Nat:=l.length + swCondS l
theorem swCondS_mem:∀ {l:List GCond} {x:GCond},x ∈ l → wtCond x ≤ swCondS l
  | [],_,h => by simp at h
  | y :: l,x,h => by
    rw [swCondS]
    rcases List.mem_cons.1 h with rfl | h
    · omega
    · have:=swCondS_mem h; omega

theorem p_szCondS_L1:∀ (l:List GCond) (n:Int),0 ≤ n → n ≤ 2 ^ 30 → (∀ a ∈ l,(okGCond) a) → laws_szCondS_L1 l n = some (.ret (-1)) ∨ ∃ r,laws_szCondS_L1 l n = some (.go r) ∧ r = n - (swCondS l:Nat) ∧ 0 ≤ r
  | [],n,h0,h1,ok => .inr ⟨n,rfl,by simp [swCondS],h0⟩
  | a :: l,n,h0,h1,ok => by
    rw [laws_szCondS_L1]
    obtain ⟨r,e,hr⟩:=p_szCond a n h0 h1 (ok a (by simp))
    rw [e,Option.bind_some]
    split
    · exact .inl rfl
    · rename_i h
      simp only [decide_eq_true_eq] at h
      have hr:=hr.resolve_left h
      rcases p_szCondS_L1 l r (by omega) (by omega) (fun x hx => ok x (by simp [hx])) with h2 | ⟨r',e',g2,g3⟩
      · exact .inl h2
      · exact .inr ⟨r',e',by rw [g2,hr.2]; simp only [swCondS]; omega,g3⟩
theorem p_szCondS (l:List GCond) (n:Int) (h0:0 ≤ n) (h1:n ≤ 2 ^ 30) (ok:(okL (okGCond)) l):∃ r,laws_szCondS l n = some r ∧ (r < 0 ∨ (0 ≤ r ∧ r = n - (wtCondS l:Nat))):=by
  unfold laws_szCondS wtCondS
  have k1:=ok.1
  simp only [maxLen] at k1
  rw [w64_id (by omega)]
  split
  · exact ⟨_,rfl,.inl (by omega)⟩
  · rename_i h
    simp only [decide_eq_true_eq] at h
    rcases p_szCondS_L1 l (n - l.length) (by omega) (by omega) ok.2 with h2 | ⟨r',e',g1,g2⟩
    · exact ⟨-1,by rw [h2]; rfl,.inl (by omega)⟩
    · exact ⟨r',by rw [e']; rfl,.inr ⟨g2,by omega⟩⟩

def wtMut (x:GMut):Nat:=x.Column.length + wtAtomS x.Value

theorem p_szMut (x:GMut) (n:Int) (h0:0 ≤ n) (h1:n ≤ 2 ^ 30) (ok:okGMut x):∃ r,laws_szMut x n = some r ∧ (r < 0 ∨ (0 ≤ r ∧ r = n - (wtMut x:Nat))):=by
  unfold laws_szMut wtMut
  have k0:=ok.1
  simp only [okS,maxLen] at k0
  rw [w64_id (by omega)]
  split
  · exact ⟨_,rfl,.inl (by omega)⟩
  rename_i h10
  simp only [decide_eq_true_eq] at h10
  obtain ⟨r2,e2,hr2⟩:=p_szAtomS x.Value (n - x.Column.length) (by omega) (by omega) ok.2.2
  rw [e2,Option.bind_some]
  split
  · exact ⟨_,rfl,.inl (by omega)⟩
  rename_i h12
  simp only [decide_eq_true_eq] at h12
  have hr2:=hr2.resolve_left h12
  exact ⟨_,rfl,.inr ⟨by omega,by omega⟩⟩

def swMutS:List GMut → Nat
  | [] => 0
  | x :: xs => wtMut x + swMutS xs
def wtMutS (l:List GMut):Nat:=l.length + swMutS l
theorem swMutS_mem:∀ {l:List GMut} {x:GMut},x ∈ l → wtMut x ≤ swMutS l
  | [],_,h => by simp at h
  | y :: l,x,h => by
    rw [swMutS]
    rcases List.mem_cons.1 h with rfl | h
    · omega
    · have:=swMutS_mem h; omega

theorem p_szMutS_L1:∀ (l:List GMut) (n:Int),0 ≤ n → n ≤ 2 ^ 30 → (∀ a ∈ l,(okGMut) a) → laws_szMutS_L1 l n = some (.ret (-1)) ∨ ∃ r,laws_szMutS_L1 l n = some (.go r) ∧ r = n - (swMutS l:Nat) ∧ 0 ≤ r
  | [],n,h0,h1,ok => .inr ⟨n,rfl,by simp [swMutS],h0⟩
  | a :: l,n,h0,h1,ok => by
    rw [laws_szMutS_L1]
    obtain ⟨r,e,hr⟩:=p_szMut a n h0 h1 (ok a (by simp))
    rw [e,Option.bind_some]
    split
    · exact .inl rfl
    · rename_i h
      simp only [decide_eq_true_eq] at h
      have hr:=hr.resolve_left h
      rcases p_szMutS_L1 l r (by omega) (by omega) (fun x hx => ok x (by simp [hx])) with h2 | ⟨r',e',g2,g3⟩
      · exact .inl h2
      · exact .inr ⟨r',e',by rw [g2,hr.2]; simp only [swMutS]; omega,g3⟩
theorem p_szMutS (l:List GMut) (n:Int) (h0:0 ≤ n) (h1:n ≤ 2 ^ 30) (ok:(okL (okGMut)) l):∃ r,laws_szMutS l n = some r ∧ (r < 0 ∨ (0 ≤ r ∧ r = n - (wtMutS l:Nat))):=by
  unfold laws_szMutS wtMutS
  have k1:=ok.1
  simp only [maxLen] at k1
  rw [w64_id (by omega)]
  split
  · exact ⟨_,rfl,.inl (by omega)⟩
  · rename_i h
    simp only [decide_eq_true_eq] at h
    rcases p_szMutS_L1 l (n - l.length) (by omega) (by omega) ok.2 with h2 | ⟨r',e',g1,g2⟩
    · exact ⟨-1,by rw [h2]; rfl,.inl (by omega)⟩
    · exact ⟨r',by rw [e']; rfl,.inr ⟨g2,by omega⟩⟩

def swStringS:List Str → Nat
  | [] => 0
  | x :: xs => x.length + swStringS xs
def wtStringS (l:List Str):Nat:=l.length + swStringS l
theorem swStringS_mem:∀ {l:List Str} {x:Str},x ∈ l → x.length ≤ swStringS l
  | [],_,h => by simp at h
  | y :: l,x,h => by
    rw [swStringS]
    rcases List.mem_cons.1 h with rfl | h
    · omega
    · have:=swStringS_mem h; omega

def wtSet (x:GSet):Nat:=x.Column.length + wtAtomS x.Value + wtStringS x.Names

def swSetS:List GSet → Nat
  | [] => 0
  | x :: xs => wtSet x + swSetS xs
def wtSetS (l:List GSet):Nat:=l.length + swSetS l
theorem swSetS_mem:∀ {l:List GSet} {x:GSet},x ∈ l → wtSet x ≤ swSetS l
  | [],_,h => by simp at h
  | y :: l,x,h => by
    rw [swSetS]
    rcases List.mem_cons.1 h with rfl | h
    · omega
    · have:=swSetS_mem h; omega

def wtOp (x:GOp):Nat:=x.Table.length + x.Name.length + wtCondS x.Where + wtSetS x.Row + wtMutS x.Muts + wtStringS x.Columns

theorem p_szStringS_L1:∀ (l:List Str) (n:Int),0 ≤ n → n ≤ 2 ^ 30 → (∀ a ∈ l,(okS) a) → laws_szStringS_L1 l n = some (.ret (-1)) ∨ ∃ r,laws_szStringS_L1 l n = some (.go r) ∧ r = n - (swStringS l:Nat) ∧ 0 ≤ r
  | [],n,h0,h1,ok => .inr ⟨n,rfl,by simp [swStringS],h0⟩
  | a :: l,n,h0,h1,ok => by
    rw [laws_szStringS_L1]
    have k1:=ok a (by simp)
    simp only [okS,maxLen] at k1
    rw [w64_id (by omega)]
    split
    · exact .inl rfl
    · rename_i h
      simp only [decide_eq_true_eq] at h
      rcases p_szStringS_L1 l (n - a.length) (by omega) (by omega) (fun x hx => ok x (by simp [hx])) with h2 | ⟨r',e',g2,g3⟩
      · exact .inl h2
      · exact .inr ⟨r',e',by rw [g2]; simp only [swStringS]; omega,g3⟩
theorem p_szStringS (l:List Str) (n:Int) (h0:0 ≤ n) (h1:n ≤ 2 ^ 30) (ok:(okL (okS)) l):∃ r,laws_szStringS l n = some r ∧ (r < 0 ∨ (0 ≤ r ∧ r = n - (wtStringS l:Nat))):=by
  unfold laws_szStringS wtStringS
  have k1:=ok.1
  simp only [maxLen] at k1
  rw [w64_id (by omega)]
  split
  · exact ⟨_,rfl,.inl (by omega)⟩
  · rename_i h
    simp only [decide_eq_true_eq] at h
    rcases p_szStringS_L1 l (n - l.length) (by omega) (by omega) ok.2 with h2 | ⟨r',e',g1,g2⟩
    · exact ⟨-1,by rw [h2]; rfl,.inl (by omega)⟩
    · exact ⟨r',by rw [e']; rfl,.inr ⟨g2,by omega⟩⟩

theorem p_szSet (x:GSet) (n:Int) (h0:0 ≤ n) (h1:n ≤ 2 ^ 30) (ok:okGSet x):∃ r,laws_szSet x n = some r ∧ (r < 0 ∨ (0 ≤ r ∧ r = n - (wtSet x:Nat))):=by
  unfold laws_szSet wtSet
  have k0:=ok.1
  simp only [okS,maxLen] at k0
  rw [w64_id (by omega)]
  split
  · exact ⟨_,rfl,.inl (by omega)⟩
  rename_i h10
  simp only [decide_eq_true_eq] at h10
  obtain ⟨r1,e1,hr1⟩:=p_szAtomS x.Value (n - x.Column.length) (by omega) (by omega) ok.2.1
  rw [e1,Option.bind_some]
  split
  · exact ⟨_,rfl,.inl (by omega)⟩
  rename_i h11
  simp only [decide_eq_true_eq] at h11
  have hr1:=hr1.resolve_left h11
  obtain ⟨r2,e2,hr2⟩:=p_szStringS x.Names r1 (by omega) (by omega) ok.2.2
  rw [e2,Option.bind_some]
  split
  · exact ⟨_,rfl,.inl (by omega)⟩
  rename_i h12
  simp only [decide_eq_true_eq] at h12
  have hr2:=hr2.resolve_left h12
  exact ⟨_,rfl,.inr ⟨by omega,by omega⟩⟩

theorem p_szSetS_L1:∀ (l:List GSet) (n:Int),0 ≤ n → n ≤ 2 ^ 30 → (∀ a ∈ l,(okGSet) a) → laws_szSetS_L1 l n = some (.ret (-1)) ∨ ∃ r,laws_szSetS_L1 l n = some (.go r) ∧ r = n - (swSetS l:Nat) ∧ 0 ≤ r
  | [],n,h0,h1,ok => .inr ⟨n,rfl,by simp [swSetS],h0⟩
  | a :: l,n,h0,h1,ok => by
    rw [laws_szSetS_L1]
    obtain ⟨r,e,hr⟩:=p_szSet a n h0 h1 (ok a (by simp))
    rw [e,Option.bind_some]
    split
    · exact .inl rfl
    · rename_i h
      simp only [decide_eq_true_eq] at h
      have hr:=hr.resolve_left h
      rcases p_szSetS_L1 l r (by omega) (by omega) (fun x hx => ok x (by simp [hx])) with h2 | ⟨r',e',g2,g3⟩
      · exact .inl h2
      · exact .inr ⟨r',e',by rw [g2,hr.2]; simp only [swSetS]; omega,g3⟩
theorem p_szSetS (l:List GSet) (n:Int) (h0:0 ≤ n) (h1:n ≤ 2 ^ 30) (ok:(okL (okGSet)) l):∃ r,laws_szSetS l n = some r ∧ (r < 0 ∨ (0 ≤ r ∧ r = n - (wtSetS l:Nat))):=by
  unfold laws_szSetS wtSetS
  have k1:=ok.1
  simp only [maxLen] at k1
  rw [w64_id (by omega)]
  split
  · exact ⟨_,rfl,.inl (by omega)⟩
  · rename_i h
    simp only [decide_eq_true_eq] at h
    rcases p_szSetS_L1 l (n - l.length) (by omega) (by omega) ok.2 with h2 | ⟨r',e',g1,g2⟩
    · exact ⟨-1,by rw [h2]; rfl,.inl (by omega)⟩
    · exact ⟨r',by rw [e']; rfl,.inr ⟨g2,by omega⟩⟩

theorem p_szOp (x:GOp) (n:Int) (h0:0 ≤ n) (h1:n ≤ 2 ^ 30) (ok:okGOp x):∃ r,laws_szOp x n = some r ∧ (r < 0 ∨ (0 ≤ r ∧ r = n - (wtOp x:Nat))):=by
  unfold laws_szOp wtOp
  have k1:=ok.2.1
  simp only [okS,maxLen] at k1
  rw [w64_id (by omega)]
  split
  · exact ⟨_,rfl,.inl (by omega)⟩
  rename_i h11
  simp only [decide_eq_true_eq] at h11
  have k2:=ok.2.2.1
  simp only [okS,maxLen] at k2
  rw [w64_id (by omega)]
  split
  · exact ⟨_,rfl,.inl (by omega)⟩
  rename_i h12
  simp only [decide_eq_true_eq] at h12
  obtain ⟨r3,e3,hr3⟩:=p_szCondS x.Where ((n - x.Table.length) - x.Name.length) (by omega) (by omega) ok.2.2.2.1
  rw [e3,Option.bind_some]
  split
  · exact ⟨_,rfl,.inl (by omega)⟩
  rename_i h13
  simp only [decide_eq_true_eq] at h13
  have hr3:=hr3.resolve_left h13
  obtain ⟨r4,e4,hr4⟩:=p_szSetS x.Row r3 (by omega) (by omega) ok.2.2.2.2.1
  rw [e4,Option.bind_some]
  split
  · exact ⟨_,rfl,.inl (by omega)⟩
  rename_i h14
  simp only [decide_eq_true_eq] at h14
  have hr4:=hr4.resolve_left h14
  obtain ⟨r5,e5,hr5⟩:=p_szMutS x.Muts r4 (by omega) (by omega) ok.2.2.2.2.2.1
  rw [e5,Option.bind_some]
  split
  · exact ⟨_,rfl,.inl (by omega)⟩
  rename_i h15
  simp only [decide_eq_true_eq] at h15
  have hr5:=hr5.resolve_left h15
  obtain ⟨r6,e6,hr6⟩:=p_szStringS x.Columns r5 (by omega) (by omega) ok.2.2.2.2.2.2.1
  rw [e6,Option.bind_some]
  split
  · exact ⟨_,rfl,.inl (by omega)⟩
  rename_i h16
  simp only [decide_eq_true_eq] at h16
  have hr6:=hr6.resolve_left h16
  exact ⟨_,rfl,.inr ⟨by omega,by omega⟩⟩

def swOpS:List GOp → Nat
  | [] => 0
  | x :: xs => wtOp x + swOpS xs
def wtOpS (l:List GOp):Nat:=l.length + swOpS l
theorem swOpS_mem:∀ {l:List GOp} {x:GOp},x ∈ l → wtOp x ≤ swOpS l
  | [],_,h => by simp at h
  | y :: l,x,h => by
    rw [swOpS]
    rcases List.mem_cons.1 h with rfl | h
    · omega
    · have:=swOpS_mem h; omega

theorem p_szOpS_L1:∀ (l:List GOp) (n:Int),0 ≤ n → n ≤ 2 ^ 30 → (∀ a ∈ l,(okGOp) a) → laws_szOpS_L1 l n = some (.ret (-1)) ∨ ∃ r,laws_szOpS_L1 l n = some (.go r) ∧ r = n - (swOpS l:Nat) ∧ 0 ≤ r
  | [],n,h0,h1,ok => .inr ⟨n,rfl,by simp [swOpS],h0⟩
  | a :: l,n,h0,h1,ok => by
    rw [laws_szOpS_L1]
    obtain ⟨r,e,hr⟩:=p_szOp a n h0 h1 (ok a (by simp))
    rw [e,Option.bind_some]
    split
    · exact .inl rfl
    · rename_i h
      simp only [decide_eq_true_eq] at h
      have hr:=hr.resolve_left h
      rcases p_szOpS_L1 l r (by omega) (by omega) (fun x hx => ok x (by simp [hx])) with h2 | ⟨r',e',g2,g3⟩
      · exact .inl h2
      · exact .inr ⟨r',e',by rw [g2,hr.2]; simp only [swOpS]; omega,g3⟩
theorem p_szOpS (l:List GOp) (n:Int) (h0:0 ≤ n) (h1:n ≤ 2 ^ 30) (ok:(okL (okGOp)) l):∃ r,laws_szOpS l n = some r ∧ (r < 0 ∨ (0 ≤ r ∧ r = n - (wtOpS l:Nat))):=by
  unfold laws_szOpS wtOpS
  have k1:=ok.1
  simp only [maxLen] at k1
  rw [w64_id (by omega)]
  split
  · exact ⟨_,rfl,.inl (by omega)⟩
  · rename_i h
    simp only [decide_eq_true_eq] at h
    rcases p_szOpS_L1 l (n - l.length) (by omega) (by omega) ok.2 with h2 | ⟨r',e',g1,g2⟩
    · exact ⟨-1,by rw [h2]; rfl,.inl (by omega)⟩
    · exact ⟨r',by rw [e']; rfl,.inr ⟨g2,by omega⟩⟩

theorem p_toAtom (x:GAtom) (h:wtAtom x ≤ 2 ^ 30):laws_toAtom x = some x:=by
  unfold wtAtom at h
  unfold laws_toAtom
  rfl

theorem p_toAtomS_L1:∀ (xs:List GAtom) (i:Nat) (out:List GAtom),(∀ a ∈ xs,wtAtom a ≤ 2 ^ 30) → i + xs.length = out.length → laws_toAtomS_L1 xs i out = some (out.take i ++ xs)
  | [],i,out,_,h => by
    rw [laws_toAtomS_L1]; simp at h; rw [h]; simp
  | x :: xs,i,out,hx,h => by
    rw [laws_toAtomS_L1]
    have hi:i < out.length:=by simp at h; omega
    rw [p_toAtom x (hx x (by simp)),Option.bind_some,if_pos hi,List.getElem?_eq_getElem hi,Option.bind_some,p_toAtomS_L1 xs (i + 1) _ (fun a ha => hx a (by simp [ha])) (by simp at h ⊢; omega),set_fill _ _ _ _ hi]
theorem p_toAtomS (a:List GAtom) (h:wtAtomS a ≤ 2 ^ 30):laws_toAtomS a = some a:=by
  unfold laws_toAtomS
  rw [if_pos (by unfold wtAtomS at h; omega),p_toAtomS_L1 a 0 _ (fun a ha => by have:=swAtomS_mem ha; unfold wtAtomS at h; omega) (by simp)]
  rfl

theorem p_toCond (x:GCond) (h:wtCond x ≤ 2 ^ 30):laws_toCond x = some x:=by
  unfold wtCond at h
  unfold laws_toCond
  simp only [p_toAtomS x.Value (by omega),Option.bind_some]

theorem p_toCondS_L1:∀ (xs:List GCond) (i:Nat) (out:List GCond),(∀ a ∈ xs,wtCond a ≤ 2 ^ 30) → i + xs.length = out.length → laws_toCondS_L1 xs i out = some (out.take i ++ xs)
  | [],i,out,_,h => by
    rw [laws_toCondS_L1]; simp at h; rw [h]; simp
  | x :: xs,i,out,hx,h => by
    rw [laws_toCondS_L1]
    have hi:i < out.length:=by simp at h; omega
    rw [p_toCond x (hx x (by simp)),Option.bind_some,if_pos hi,List.getElem?_eq_getElem hi,Option.bind_some,p_toCondS_L1 xs (i + 1) _ (fun a ha => hx a (by simp [ha])) (by simp at h ⊢; omega),set_fill _ _ _ _ hi]
theorem p_toCondS (a:List GCond) (h:wtCondS a ≤ 2 ^ 30):laws_toCondS a = some a:=by
  unfold laws_toCondS
  rw [if_pos (by unfold wtCondS at h; omega),p_toCondS_L1 a 0 _ (fun a ha => by have:=swCondS_mem ha; unfold wtCondS at h; omega) (by simp)]
  rfl

theorem p_toMut (x:GMut) (h:wtMut x ≤ 2 ^ 30):laws_toMut x = some x:=by
  unfold wtMut at h
  unfold laws_toMut
  simp only [p_toAtomS x.Value (by omega),Option.bind_some]

theorem p_toMutS_L1:∀ (xs:List GMut) (i:Nat) (out:List GMut),(∀ a ∈ xs,wtMut a ≤ 2 ^ 30) → i + xs.length = out.length → laws_toMutS_L1 xs i out = some (out.take i ++ xs)
  | [],i,out,_,h => by
    rw [laws_toMutS_L1]; simp at h; rw [h]; simp
  | x :: xs,i,out,hx,h => by
    rw [laws_toMutS_L1]
    have hi:i < out.length:=by simp at h; omega
    rw [p_toMut x (hx x (by simp)),Option.bind_some,if_pos hi,List.getElem?_eq_getElem hi,Option.bind_some,p_toMutS_L1 xs (i + 1) _ (fun a ha => hx a (by simp [ha])) (by simp at h ⊢; omega),set_fill _ _ _ _ hi]
theorem p_toMutS (a:List GMut) (h:wtMutS a ≤ 2 ^ 30):laws_toMutS a = some a:=by
  unfold laws_toMutS
  rw [if_pos (by unfold wtMutS at h; omega),p_toMutS_L1 a 0 _ (fun a ha => by have:=swMutS_mem ha; unfold wtMutS at h; omega) (by simp)]
  rfl

theorem p_toStringS_L1:∀ (xs:List Str) (i:Nat) (out:List Str),(∀ a ∈ xs,True) → i + xs.length = out.length → laws_toStringS_L1 xs i out = some (out.take i ++ xs)
  | [],i,out,_,h => by
    rw [laws_toStringS_L1]; simp at h; rw [h]; simp
  | x :: xs,i,out,hx,h => by
    rw [laws_toStringS_L1]
    have hi:i < out.length:=by simp at h; omega
    rw [if_pos hi,List.getElem?_eq_getElem hi,Option.bind_some,p_toStringS_L1 xs (i + 1) _ (fun a ha => hx a (by simp [ha])) (by simp at h ⊢; omega),set_fill _ _ _ _ hi]
theorem p_toStringS (a:List Str) (h:wtStringS a ≤ 2 ^ 30):laws_toStringS a = some a:=by
  unfold laws_toStringS
  rw [if_pos (by unfold wtStringS at h; omega),p_toStringS_L1 a 0 _ (fun _ _ => trivial) (by simp)]
  rfl

theorem p_toSet (x:GSet) (h:wtSet x ≤ 2 ^ 30):laws_toSet x = some x:=by
  unfold wtSet at h
  unfold laws_toSet
  simp only [p_toAtomS x.Value (by omega),Option.bind_some,p_toStringS x.Names (by omega),Option.bind_some]

theorem p_toSetS_L1:∀ (xs:List GSet) (i:Nat) (out:List GSet),(∀ a ∈ xs,wtSet a ≤ 2 ^ 30) → i + xs.length = out.length → laws_toSetS_L1 xs i out = some (out.take i ++ xs)
  | [],i,out,_,h => by
    rw [laws_toSetS_L1]; simp at h; rw [h]; simp
  | x :: xs,i,out,hx,h => by
    rw [laws_toSetS_L1]
    have hi:i < out.length:=by simp at h; omega
    rw [p_toSet x (hx x (by simp)),Option.bind_some,if_pos hi,List.getElem?_eq_getElem hi,Option.bind_some,p_toSetS_L1 xs (i + 1) _ (fun a ha => hx a (by simp [ha])) (by simp at h ⊢; omega),set_fill _ _ _ _ hi]
theorem p_toSetS (a:List GSet) (h:wtSetS a ≤ 2 ^ 30):laws_toSetS a = some a:=by
  unfold laws_toSetS
  rw [if_pos (by unfold wtSetS at h; omega),p_toSetS_L1 a 0 _ (fun a ha => by have:=swSetS_mem ha; unfold wtSetS at h; omega) (by simp)]
  rfl

theorem p_toOp (x:GOp) (h:wtOp x ≤ 2 ^ 30):laws_toOp x = some x:=by
  unfold wtOp at h
  unfold laws_toOp
  simp only [p_toCondS x.Where (by omega),Option.bind_some,p_toSetS x.Row (by omega),Option.bind_some,p_toMutS x.Muts (by omega),Option.bind_some,p_toStringS x.Columns (by omega),Option.bind_some]

theorem p_toOpS_L1:∀ (xs:List GOp) (i:Nat) (out:List GOp),(∀ a ∈ xs,wtOp a ≤ 2 ^ 30) → i + xs.length = out.length → laws_toOpS_L1 xs i out = some (out.take i ++ xs)
  | [],i,out,_,h => by
    rw [laws_toOpS_L1]; simp at h; rw [h]; simp
  | x :: xs,i,out,hx,h => by
    rw [laws_toOpS_L1]
    have hi:i < out.length:=by simp at h; omega
    rw [p_toOp x (hx x (by simp)),Option.bind_some,if_pos hi,List.getElem?_eq_getElem hi,Option.bind_some,p_toOpS_L1 xs (i + 1) _ (fun a ha => hx a (by simp [ha])) (by simp at h ⊢; omega),set_fill _ _ _ _ hi]
theorem p_toOpS (a:List GOp) (h:wtOpS a ≤ 2 ^ 30):laws_toOpS a = some a:=by
  unfold laws_toOpS
  rw [if_pos (by unfold wtOpS at h; omega),p_toOpS_L1 a 0 _ (fun a ha => by have:=swOpS_mem ha; unfold wtOpS at h; omega) (by simp)]
  rfl

def wtIntS (l:List Int):Nat:=l.length
theorem cnt_wtAtomS:∀ (l:List GAtom),cntAtomS l ≤ 8 * wtAtomS l
  | [] => by simp [cntAtomS]
  | x :: l => by
    have ih:=cnt_wtAtomS l
    unfold wtAtomS at ih ⊢
    simp only [cntAtomS,swAtomS,List.length_cons,wtAtom]
    omega
theorem fit_wtAtomS (l:List GAtom) (h:wtAtomS l < 2 ^ 61):fitAtomS l:=by
  unfold wtAtomS at h
  unfold fitAtomS
  omega

theorem cnt_wtCondS:∀ (l:List GCond),cntCondS l ≤ 8 * wtCondS l
  | [] => by simp [cntCondS]
  | x :: l => by
    have ih:=cnt_wtCondS l
    unfold wtCondS at ih ⊢
    have h0:=cnt_wtAtomS x.Value
    simp only [cntCondS,swCondS,List.length_cons,wtCond]
    omega
theorem fit_wtCondS (l:List GCond) (h:wtCondS l < 2 ^ 61):fitCondS l:=by
  unfold wtCondS at h
  refine ⟨by omega,fun x hx => ?_⟩
  have:=swCondS_mem hx
  simp only [wtCond] at this
  exact fit_wtAtomS _ (by omega)

theorem cnt_wtIntS:∀ (l:List Int),cntIntS l ≤ 8 * wtIntS l
  | [] => by simp [cntIntS]
  | x :: l => by
    have ih:=cnt_wtIntS l
    unfold wtIntS at ih ⊢
    simp only [cntIntS,List.length_cons]
    omega
theorem fit_wtIntS (l:List Int) (h:wtIntS l < 2 ^ 61):fitIntS l:=by
  unfold wtIntS at h
  unfold fitIntS
  omega

theorem cnt_wtMutS:∀ (l:List GMut),cntMutS l ≤ 8 * wtMutS l
  | [] => by simp [cntMutS]
  | x :: l => by
    have ih:=cnt_wtMutS l
    unfold wtMutS at ih ⊢
    have h0:=cnt_wtAtomS x.Value
    simp only [cntMutS,swMutS,List.length_cons,wtMut]
    omega
theorem fit_wtMutS (l:List GMut) (h:wtMutS l < 2 ^ 61):fitMutS l:=by
  unfold wtMutS at h
  refine ⟨by omega,fun x hx => ?_⟩
  have:=swMutS_mem hx
  simp only [wtMut] at this
  exact fit_wtAtomS _ (by omega)

theorem cnt_wtStringS:∀ (l:List Str),cntStringS l ≤ 8 * wtStringS l
  | [] => by simp [cntStringS]
  | x :: l => by
    have ih:=cnt_wtStringS l
    unfold wtStringS at ih ⊢
    simp only [cntStringS,swStringS,List.length_cons]
    omega
theorem fit_wtStringS (l:List Str) (h:wtStringS l < 2 ^ 61):fitStringS l:=by
  unfold wtStringS at h
  unfold fitStringS
  omega

theorem cnt_wtSetS:∀ (l:List GSet),cntSetS l ≤ 8 * wtSetS l
  | [] => by simp [cntSetS]
  | x :: l => by
    have ih:=cnt_wtSetS l
    unfold wtSetS at ih ⊢
    have h0:=cnt_wtAtomS x.Value
    have h1:=cnt_wtStringS x.Names
    simp only [cntSetS,swSetS,List.length_cons,wtSet]
    omega
theorem fit_wtSetS (l:List GSet) (h:wtSetS l < 2 ^ 61):fitSetS l:=by
  unfold wtSetS at h
  refine ⟨by omega,fun x hx => ?_⟩
  have:=swSetS_mem hx
  simp only [wtSet] at this
  exact ⟨fit_wtAtomS _ (by omega),fit_wtStringS _ (by omega)⟩

theorem cnt_wtOpS:∀ (l:List GOp),cntOpS l ≤ 8 * wtOpS l
  | [] => by simp [cntOpS]
  | x :: l => by
    have ih:=cnt_wtOpS l
    unfold wtOpS at ih ⊢
    have h0:=cnt_wtCondS x.Where
    have h1:=cnt_wtSetS x.Row
    have h2:=cnt_wtMutS x.Muts
    have h3:=cnt_wtStringS x.Columns
    simp only [cntOpS,swOpS,List.length_cons,wtOp]
    omega
theorem fit_wtOpS (l:List GOp) (h:wtOpS l < 2 ^ 61):fitOpS l:=by
  unfold wtOpS at h
  refine ⟨by omega,fun x hx => ?_⟩
  have:=swOpS_mem hx
  simp only [wtOp] at this
  exact ⟨fit_wtCondS _ (by omega),fit_wtSetS _ (by omega),fit_wtMutS _ (by omega),fit_wtStringS _ (by omega)⟩
end Go.R
