/- Weights, sizes, copies, comparisons: what the laws' own helpers give. -/
import Derived.Test.YtmeckljlaaflkaaGreatSWM
import Derived.Test.YtmeckljlaaflkaaGreatP0
set_option linter.all false
namespace Go.R
open Go
set_option linter.all false
theorem p_eqAtom (x:GAtom):laws_eqAtom x x = some true:=by
  unfold laws_eqAtom
  simp

theorem p_eqAtomS_L1 (b:List GAtom):∀ (xs:List GAtom) (i:Nat),b.drop i = xs → laws_eqAtomS_L1 b xs i = some (.go ())
  | [],i,_ => by rw [laws_eqAtomS_L1]
  | x :: xs,i,h => by
    rw [laws_eqAtomS_L1,idx_drop h,Option.bind_some,p_eqAtom,Option.bind_some,if_neg (by simp),p_eqAtomS_L1 b xs (i + 1) (drop_next h)]
theorem p_eqAtomS (a:List GAtom):laws_eqAtomS a a = some true:=by
  unfold laws_eqAtomS
  rw [if_neg (by simp),p_eqAtomS_L1 a a 0 (by simp)]
  rfl

theorem p_eqAtomSS_L1 (b:List (List GAtom)):∀ (xs:List (List GAtom)) (i:Nat),b.drop i = xs → laws_eqAtomSS_L1 b xs i = some (.go ())
  | [],i,_ => by rw [laws_eqAtomSS_L1]
  | x :: xs,i,h => by
    rw [laws_eqAtomSS_L1,idx_drop h,Option.bind_some,p_eqAtomS,Option.bind_some,if_neg (by simp),p_eqAtomSS_L1 b xs (i + 1) (drop_next h)]
theorem p_eqAtomSS (a:List (List GAtom)):laws_eqAtomSS a a = some true:=by
  unfold laws_eqAtomSS
  rw [if_neg (by simp),p_eqAtomSS_L1 a a 0 (by simp)]
  rfl

theorem p_eqColumn (x:GColumn):laws_eqColumn x x = some true:=by
  unfold laws_eqColumn
  simp

theorem p_eqColumnS_L1 (b:List GColumn):∀ (xs:List GColumn) (i:Nat),b.drop i = xs → laws_eqColumnS_L1 b xs i = some (.go ())
  | [],i,_ => by rw [laws_eqColumnS_L1]
  | x :: xs,i,h => by
    rw [laws_eqColumnS_L1,idx_drop h,Option.bind_some,p_eqColumn,Option.bind_some,if_neg (by simp),p_eqColumnS_L1 b xs (i + 1) (drop_next h)]
theorem p_eqColumnS (a:List GColumn):laws_eqColumnS a a = some true:=by
  unfold laws_eqColumnS
  rw [if_neg (by simp),p_eqColumnS_L1 a a 0 (by simp)]
  rfl

theorem p_eqIntS_L1 (b:List Int):∀ (xs:List Int) (i:Nat),b.drop i = xs → laws_eqIntS_L1 b xs i = some (.go ())
  | [],i,_ => by rw [laws_eqIntS_L1]
  | x :: xs,i,h => by
    rw [laws_eqIntS_L1,idx_drop h,Option.bind_some,if_neg (by simp),p_eqIntS_L1 b xs (i + 1) (drop_next h)]
theorem p_eqIntS (a:List Int):laws_eqIntS a a = some true:=by
  unfold laws_eqIntS
  rw [if_neg (by simp),p_eqIntS_L1 a a 0 (by simp)]
  rfl

theorem p_eqRow (x:GRow):laws_eqRow x x = some true:=by
  unfold laws_eqRow
  simp [p_eqAtomSS]

theorem p_eqStringS_L1 (b:List Str):∀ (xs:List Str) (i:Nat),b.drop i = xs → laws_eqStringS_L1 b xs i = some (.go ())
  | [],i,_ => by rw [laws_eqStringS_L1]
  | x :: xs,i,h => by
    rw [laws_eqStringS_L1,idx_drop h,Option.bind_some,if_neg (by simp),p_eqStringS_L1 b xs (i + 1) (drop_next h)]
theorem p_eqStringS (a:List Str):laws_eqStringS a a = some true:=by
  unfold laws_eqStringS
  rw [if_neg (by simp),p_eqStringS_L1 a a 0 (by simp)]
  rfl

theorem p_eqSet (x:GSet):laws_eqSet x x = some true:=by
  unfold laws_eqSet
  simp [p_eqAtomS,p_eqStringS]

theorem p_eqSetS_L1 (b:List GSet):∀ (xs:List GSet) (i:Nat),b.drop i = xs → laws_eqSetS_L1 b xs i = some (.go ())
  | [],i,_ => by rw [laws_eqSetS_L1]
  | x :: xs,i,h => by
    rw [laws_eqSetS_L1,idx_drop h,Option.bind_some,p_eqSet,Option.bind_some,if_neg (by simp),p_eqSetS_L1 b xs (i + 1) (drop_next h)]
theorem p_eqSetS (a:List GSet):laws_eqSetS a a = some true:=by
  unfold laws_eqSetS
  rw [if_neg (by simp),p_eqSetS_L1 a a 0 (by simp)]
  rfl

theorem p_eqTable (x:GTable):laws_eqTable x x = some true:=by
  unfold laws_eqTable
  simp [p_eqColumnS,p_eqIntS]

def wtAtom (x:GAtom):Nat:=x.T.length

theorem p_szAtom (x:GAtom) (n:Int) (h0:0 ≤ n) (h1:n ≤ 2 ^ 30) (ok:okGAtom x):∃ r,laws_szAtom x n = some r ∧ (r < 0 ∨ (0 ≤ r ∧ r = n - (wtAtom x:Nat))):=by
  unfold laws_szAtom wtAtom
  have k2:=ok.2.2
  simp only [okS,maxLen] at k2
  rw [w64_id (by omega)]
  split
  · exact ⟨_,rfl,.inl (by omega)⟩
  rename_i h12
  simp only [decide_eq_true_eq] at h12
  exact ⟨_,rfl,.inr ⟨by omega,by omega⟩⟩

def swAtomS:List GAtom → Nat
  | [] => 0
  | x :: xs => wtAtom x + swAtomS xs
def wtAtomS (l:List GAtom):Nat:=l.length + swAtomS l
theorem swAtomS_mem:∀ {l:List GAtom} {x:GAtom},x ∈ l → wtAtom x ≤ swAtomS l
  | [],_,h => by simp at h
  | y :: l,x,h => by
    rw [swAtomS]
    rcases List.mem_cons.1 h with rfl | h
    · omega
    · have:=swAtomS_mem h; omega

theorem p_szAtomS_L1:∀ (l:List GAtom) (n:Int),0 ≤ n → n ≤ 2 ^ 30 → (∀ a ∈ l,(okGAtom) a) → laws_szAtomS_L1 l n = some (.ret (-1)) ∨ ∃ r,laws_szAtomS_L1 l n = some (.go r) ∧ r = n - (swAtomS l:Nat) ∧ 0 ≤ r
  | [],n,h0,h1,ok => .inr ⟨n,rfl,by simp [swAtomS],h0⟩
  | a :: l,n,h0,h1,ok => by
    rw [laws_szAtomS_L1]
    obtain ⟨r,e,hr⟩:=p_szAtom a n h0 h1 (ok a (by simp))
    rw [e,Option.bind_some]
    split
    · exact .inl rfl
    · rename_i h
      simp only [decide_eq_true_eq] at h
      have hr:=hr.resolve_left h
      rcases p_szAtomS_L1 l r (by omega) (by omega) (fun x hx => ok x (by simp [hx])) with h2 | ⟨r',e',g2,g3⟩
      · exact .inl h2
      · exact .inr ⟨r',e',by rw [g2,hr.2]; simp only [swAtomS]; omega,g3⟩
theorem p_szAtomS (l:List GAtom) (n:Int) (h0:0 ≤ n) (h1:n ≤ 2 ^ 30) (ok:(okL (okGAtom)) l):∃ r,laws_szAtomS l n = some r ∧ (r < 0 ∨ (0 ≤ r ∧ r = n - (wtAtomS l:Nat))):=by
  unfold laws_szAtomS wtAtomS
  have k1:=ok.1
  simp only [maxLen] at k1
  rw [w64_id (by omega)]
  split
  · exact ⟨_,rfl,.inl (by omega)⟩
  · rename_i h
    simp only [decide_eq_true_eq] at h
    rcases p_szAtomS_L1 l (n - l.length) (by omega) (by omega) ok.2 with h2 | ⟨r',e',g1,g2⟩
    · exact ⟨-1,by rw [h2]; rfl,.inl (by omega)⟩
    · exact ⟨r',by rw [e']; rfl,.inr ⟨g2,by omega⟩⟩

def swAtomSS:List (List GAtom) → Nat
  | [] => 0
  | x :: xs => wtAtomS x + swAtomSS xs
def wtAtomSS (l:List (List GAtom)):Nat:=l.length + swAtomSS l
theorem swAtomSS_mem:∀ {l:List (List GAtom)} {x:(List GAtom)},x ∈ l → wtAtomS x ≤ swAtomSS l
  | [],_,h => by simp at h
  | y :: l,x,h => by
    rw [swAtomSS]
    rcases List.mem_cons.1 h with rfl | h
    · omega
    · have:=swAtomSS_mem h; omega

theorem p_szAtomSS_L1:∀ (l:List (List GAtom)) (n:Int),0 ≤ n → n ≤ 2 ^ 30 → (∀ a ∈ l,(okL (okGAtom)) a) → laws_szAtomSS_L1 l n = some (.ret (-1)) ∨ ∃ r,laws_szAtomSS_L1 l n = some (.go r) ∧ r = n - (swAtomSS l:Nat) ∧ 0 ≤ r
  | [],n,h0,h1,ok => .inr ⟨n,rfl,by simp [swAtomSS],h0⟩
  | a :: l,n,h0,h1,ok => by
    rw [laws_szAtomSS_L1]
    obtain ⟨r,e,hr⟩:=p_szAtomS a n h0 h1 (ok a (by simp))
    rw [e,Option.bind_some]
    split
    · exact .inl rfl
    · rename_i h
      simp only [decide_eq_true_eq] at h
      have hr:=hr.resolve_left h
      rcases p_szAtomSS_L1 l r (by omega) (by omega) (fun x hx => ok x (by simp [hx])) with h2 | ⟨r',e',g2,g3⟩
      · exact .inl h2
      · exact .inr ⟨r',e',by rw [g2,hr.2]; simp only [swAtomSS]; omega,g3⟩
theorem p_szAtomSS (l:List (List GAtom)) (n:Int) (h0:0 ≤ n) (h1:n ≤ 2 ^ 30) (ok:(okL (okL (okGAtom))) l):∃ r,laws_szAtomSS l n = some r ∧ (r < 0 ∨ (0 ≤ r ∧ r = n - (wtAtomSS l:Nat))):=by
  unfold laws_szAtomSS wtAtomSS
  have k1:=ok.1
  simp only [maxLen] at k1
  rw [w64_id (by omega)]
  split
  · exact ⟨_,rfl,.inl (by omega)⟩
  · rename_i h
    simp only [decide_eq_true_eq] at h
    rcases p_szAtomSS_L1 l (n - l.length) (by omega) (by omega) ok.2 with h2 | ⟨r',e',g1,g2⟩
    · exact ⟨-1,by rw [h2]; rfl,.inl (by omega)⟩
    · exact ⟨r',by rw [e']; rfl,.inr ⟨g2,by omega⟩⟩

def wtColumn (x:GColumn):Nat:=x.Name.length + x.Ref.length

theorem p_szColumn (x:GColumn) (n:Int) (h0:0 ≤ n) (h1:n ≤ 2 ^ 30) (ok:okGColumn x):∃ r,laws_szColumn x n = some r ∧ (r < 0 ∨ (0 ≤ r ∧ r = n - (wtColumn x:Nat))):=by
  unfold laws_szColumn wtColumn
  have k0:=ok.1
  simp only [okS,maxLen] at k0
  rw [w64_id (by omega)]
  split
  · exact ⟨_,rfl,.inl (by omega)⟩
  rename_i h10
  simp only [decide_eq_true_eq] at h10
  have k6:=ok.2.2.2.2.2.2.1
  simp only [okS,maxLen] at k6
  rw [w64_id (by omega)]
  split
  · exact ⟨_,rfl,.inl (by omega)⟩
  rename_i h16
  simp only [decide_eq_true_eq] at h16
  exact ⟨_,rfl,.inr ⟨by omega,by omega⟩⟩

def swColumnS:List GColumn → Nat
  | [] => 0
  | x :: xs => wtColumn x + swColumnS xs
def wtColumnS (l:List GColumn):Nat:=l.length + swColumnS l
theorem swColumnS_mem:∀ {l:List GColumn} {x:GColumn},x ∈ l → wtColumn x ≤ swColumnS l
  | [],_,h => by simp at h
  | y :: l,x,h => by
    rw [swColumnS]
    rcases List.mem_cons.1 h with rfl | h
    · omega
    · have:=swColumnS_mem h; omega

theorem p_szColumnS_L1:∀ (l:List GColumn) (n:Int),0 ≤ n → n ≤ 2 ^ 30 → (∀ a ∈ l,(okGColumn) a) → laws_szColumnS_L1 l n = some (.ret (-1)) ∨ ∃ r,laws_szColumnS_L1 l n = some (.go r) ∧ r = n - (swColumnS l:Nat) ∧ 0 ≤ r
  | [],n,h0,h1,ok => .inr ⟨n,rfl,by simp [swColumnS],h0⟩
  | a :: l,n,h0,h1,ok => by
    rw [laws_szColumnS_L1]
    obtain ⟨r,e,hr⟩:=p_szColumn a n h0 h1 (ok a (by simp))
    rw [e,Option.bind_some]
    split
    · exact .inl rfl
    · rename_i h
      simp only [decide_eq_true_eq] at h
      have hr:=hr.resolve_left h
      rcases p_szColumnS_L1 l r (by omega) (by omega) (fun x hx => ok x (by simp [hx])) with h2 | ⟨r',e',g2,g3⟩
      · exact .inl h2
      · exact .inr ⟨r',e',by rw [g2,hr.2]; simp only [swColumnS]; omega,g3⟩
theorem p_szColumnS (l:List GColumn) (n:Int) (h0:0 ≤ n) (h1:n ≤ 2 ^ 30) (ok:(okL (okGColumn)) l):∃ r,laws_szColumnS l n = some r ∧ (r < 0 ∨ (0 ≤ r ∧ r = n - (wtColumnS l:Nat))):=by
  unfold laws_szColumnS wtColumnS
  have k1:=ok.1
  simp only [maxLen] at k1
  rw [w64_id (by omega)]
  split
  · exact ⟨_,rfl,.inl (by omega)⟩
  · rename_i h
    simp only [decide_eq_true_eq] at h
    rcases p_szColumnS_L1 l (n - l.length) (by omega) (by omega) ok.2 with h2 | ⟨r',e',g1,g2⟩
    · exact ⟨-1,by rw [h2]; rfl,.inl (by omega)⟩
    · exact ⟨r',by rw [e']; rfl,.inr ⟨g2,by omega⟩⟩

def wtIntS (l:List Int):Nat:=l.length

theorem p_szIntS (l:List Int) (n:Int) (h0:0 ≤ n) (h1:n ≤ 2 ^ 30) (ok:(okL (okI .i64)) l):∃ r,laws_szIntS l n = some r ∧ (r < 0 ∨ (0 ≤ r ∧ r = n - (wtIntS l:Nat))):=by
  unfold laws_szIntS wtIntS
  have k1:=ok.1
  simp only [maxLen] at k1
  rw [w64_id (by omega)]
  split
  · exact ⟨_,rfl,.inl (by omega)⟩
  · rename_i h
    simp only [decide_eq_true_eq] at h
    exact ⟨_,rfl,.inr ⟨by omega,by omega⟩⟩

def wtRow (x:GRow):Nat:=wtAtomSS x.Cells

theorem p_szRow (x:GRow) (n:Int) (h0:0 ≤ n) (h1:n ≤ 2 ^ 30) (ok:okGRow x):∃ r,laws_szRow x n = some r ∧ (r < 0 ∨ (0 ≤ r ∧ r = n - (wtRow x:Nat))):=by
  unfold laws_szRow wtRow
  obtain ⟨r1,e1,hr1⟩:=p_szAtomSS x.Cells n (by omega) (by omega) ok.2
  rw [e1,Option.bind_some]
  split
  · exact ⟨_,rfl,.inl (by omega)⟩
  rename_i h11
  simp only [decide_eq_true_eq] at h11
  have hr1:=hr1.resolve_left h11
  exact ⟨_,rfl,.inr ⟨by omega,by omega⟩⟩

def swStringS:List Str → Nat
  | [] => 0
  | x :: xs => x.length + swStringS xs
def wtStringS (l:List Str):Nat:=l.length + swStringS l
theorem swStringS_mem:∀ {l:List Str} {x:Str},x ∈ l → x.length ≤ swStringS l
  | [],_,h => by simp at h
  | y :: l,x,h => by
    rw [swStringS]
    rcases List.mem_cons.1 h with rfl | h
    · omega
    · have:=swStringS_mem h; omega

def wtSet (x:GSet):Nat:=x.Column.length + wtAtomS x.Value + wtStringS x.Names

theorem p_szStringS_L1:∀ (l:List Str) (n:Int),0 ≤ n → n ≤ 2 ^ 30 → (∀ a ∈ l,(okS) a) → laws_szStringS_L1 l n = some (.ret (-1)) ∨ ∃ r,laws_szStringS_L1 l n = some (.go r) ∧ r = n - (swStringS l:Nat) ∧ 0 ≤ r
  | [],n,h0,h1,ok => .inr ⟨n,rfl,by simp [swStringS],h0⟩
  | a :: l,n,h0,h1,ok => by
    rw [laws_szStringS_L1]
    have k1:=ok a (by simp)
    simp only [okS,maxLen] at k1
    rw [w64_id (by omega)]
    split
    · exact .inl rfl
    · rename_i h
      simp only [decide_eq_true_eq] at h
      rcases p_szStringS_L1 l (n - a.length) (by omega) (by omega) (fun x hx => ok x (by simp [hx])) with h2 | ⟨r',e',g2,g3⟩
      · exact .inl h2
      · exact .inr ⟨r',e',by rw [g2]; simp only [swStringS]; omega,g3⟩
theorem p_szStringS (l:List Str) (n:Int) (h0:0 ≤ n) (h1:n ≤ 2 ^ 30) (ok:(okL (okS)) l):∃ r,laws_szStringS l n = some r ∧ (r < 0 ∨ (0 ≤ r ∧ r = n - (wtStringS l:Nat))):=by
  unfold laws_szStringS wtStringS
  have k1:=ok.1
  simp only [maxLen] at k1
  rw [w64_id (by omega)]
  split
  · exact ⟨_,rfl,.inl (by omega)⟩
  · rename_i h
    simp only [decide_eq_true_eq] at h
    rcases p_szStringS_L1 l (n - l.length) (by omega) (by omega) ok.2 with h2 | ⟨r',e',g1,g2⟩
    · exact ⟨-1,by rw [h2]; rfl,.inl (by omega)⟩
    · exact ⟨r',by rw [e']; rfl,.inr ⟨g2,by omega⟩⟩

theorem p_szSet (x:GSet) (n:Int) (h0:0 ≤ n) (h1:n ≤ 2 ^ 30) (ok:okGSet x):∃ r,laws_szSet x n = some r ∧ (r < 0 ∨ (0 ≤ r ∧ r = n - (wtSet x:Nat))):=by
  unfold laws_szSet wtSet
  have k0:=ok.1
  simp only [okS,maxLen] at k0
  rw [w64_id (by omega)]
  split
  · exact ⟨_,rfl,.inl (by omega)⟩
  rename_i h10
  simp only [decide_eq_true_eq] at h10
  obtain ⟨r1,e1,hr1⟩:=p_szAtomS x.Value (n - x.Column.length) (by omega) (by omega) ok.2.1
  rw [e1,Option.bind_some]
  split
  · exact ⟨_,rfl,.inl (by omega)⟩
  rename_i h11
  simp only [decide_eq_true_eq] at h11
  have hr1:=hr1.resolve_left h11
  obtain ⟨r2,e2,hr2⟩:=p_szStringS x.Names r1 (by omega) (by omega) ok.2.2
  rw [e2,Option.bind_some]
  split
  · exact ⟨_,rfl,.inl (by omega)⟩
  rename_i h12
  simp only [decide_eq_true_eq] at h12
  have hr2:=hr2.resolve_left h12
  exact ⟨_,rfl,.inr ⟨by omega,by omega⟩⟩

def swSetS:List GSet → Nat
  | [] => 0
  | x :: xs => wtSet x + swSetS xs
def wtSetS (l:List GSet):Nat:=l.length + swSetS l
theorem swSetS_mem:∀ {l:List GSet} {x:GSet},x ∈ l → wtSet x ≤ swSetS l
  | [],_,h => by simp at h
  | y :: l,x,h => by
    rw [swSetS]
    rcases List.mem_cons.1 h with rfl | h
    · omega
    · have:=swSetS_mem h; omega

theorem p_szSetS_L1:∀ (l:List GSet) (n:Int),0 ≤ n → n ≤ 2 ^ 30 → (∀ a ∈ l,(okGSet) a) → laws_szSetS_L1 l n = some (.ret (-1)) ∨ ∃ r,laws_szSetS_L1 l n = some (.go r) ∧ r = n - (swSetS l:Nat) ∧ 0 ≤ r
  | [],n,h0,h1,ok => .inr ⟨n,rfl,by simp [swSetS],h0⟩
  | a :: l,n,h0,h1,ok => by
    rw [laws_szSetS_L1]
    obtain ⟨r,e,hr⟩:=p_szSet a n h0 h1 (ok a (by simp))
    rw [e,Option.bind_some]
    split
    · exact .inl rfl
    · rename_i h
      simp only [decide_eq_true_eq] at h
      have hr:=hr.resolve_left h
      rcases p_szSetS_L1 l r (by omega) (by omega) (fun x hx => ok x (by simp [hx])) with h2 | ⟨r',e',g2,g3⟩
      · exact .inl h2
      · exact .inr ⟨r',e',by rw [g2,hr.2]; simp only [swSetS]; omega,g3⟩
theorem p_szSetS (l:List GSet) (n:Int) (h0:0 ≤ n) (h1:n ≤ 2 ^ 30) (ok:(okL (okGSet)) l):∃ r,laws_szSetS l n = some r ∧ (r < 0 ∨ (0 ≤ r ∧ r = n - (wtSetS l:Nat))):=by
  unfold laws_szSetS wtSetS
  have k1:=ok.1
  simp only [maxLen] at k1
  rw [w64_id (by omega)]
  split
  · exact ⟨_,rfl,.inl (by omega)⟩
  · rename_i h
    simp only [decide_eq_true_eq] at h
    rcases p_szSetS_L1 l (n - l.length) (by omega) (by omega) ok.2 with h2 | ⟨r',e',g1,g2⟩
    · exact ⟨-1,by rw [h2]; rfl,.inl (by omega)⟩
    · exact ⟨r',by rw [e']; rfl,.inr ⟨g2,by omega⟩⟩

def wtTable (x:GTable):Nat:=x.Name.length + wtColumnS x.Columns + wtIntS x.Unique

theorem p_szTable (x:GTable) (n:Int) (h0:0 ≤ n) (h1:n ≤ 2 ^ 30) (ok:okGTable x):∃ r,laws_szTable x n = some r ∧ (r < 0 ∨ (0 ≤ r ∧ r = n - (wtTable x:Nat))):=by
  unfold laws_szTable wtTable
  have k0:=ok.1
  simp only [okS,maxLen] at k0
  rw [w64_id (by omega)]
  split
  · exact ⟨_,rfl,.inl (by omega)⟩
  rename_i h10
  simp only [decide_eq_true_eq] at h10
  obtain ⟨r1,e1,hr1⟩:=p_szColumnS x.Columns (n - x.Name.length) (by omega) (by omega) ok.2.1
  rw [e1,Option.bind_some]
  split
  · exact ⟨_,rfl,.inl (by omega)⟩
  rename_i h11
  simp only [decide_eq_true_eq] at h11
  have hr1:=hr1.resolve_left h11
  obtain ⟨r2,e2,hr2⟩:=p_szIntS x.Unique r1 (by omega) (by omega) ok.2.2.1
  rw [e2,Option.bind_some]
  split
  · exact ⟨_,rfl,.inl (by omega)⟩
  rename_i h12
  simp only [decide_eq_true_eq] at h12
  have hr2:=hr2.resolve_left h12
  exact ⟨_,rfl,.inr ⟨by omega,by omega⟩⟩

theorem p_toAtom (x:GAtom) (h:wtAtom x ≤ 2 ^ 30):laws_toAtom x = some x:=by
  unfold wtAtom at h
  unfold laws_toAtom
  rfl

theorem p_toAtomS_L1:∀ (xs:List GAtom) (i:Nat) (out:List GAtom),(∀ a ∈ xs,wtAtom a ≤ 2 ^ 30) → i + xs.length = out.length → laws_toAtomS_L1 xs i out = some (out.take i ++ xs)
  | [],i,out,_,h => by
    rw [laws_toAtomS_L1]; simp at h; rw [h]; simp
  | x :: xs,i,out,hx,h => by
    rw [laws_toAtomS_L1]
    have hi:i < out.length:=by simp at h; omega
    rw [p_toAtom x (hx x (by simp)),Option.bind_some,if_pos hi,List.getElem?_eq_getElem hi,Option.bind_some,p_toAtomS_L1 xs (i + 1) _ (fun a ha => hx a (by simp [ha])) (by simp at h ⊢; omega),set_fill _ _ _ _ hi]
theorem p_toAtomS (a:List GAtom) (h:wtAtomS a ≤ 2 ^ 30):laws_toAtomS a = some a:=by
  unfold laws_toAtomS
  rw [if_pos (by unfold wtAtomS at h; omega),p_toAtomS_L1 a 0 _ (fun a ha => by have:=swAtomS_mem ha; unfold wtAtomS at h; omega) (by simp)]
  rfl

theorem p_toAtomSS_L1:∀ (xs:List (List GAtom)) (i:Nat) (out:List (List GAtom)),(∀ a ∈ xs,wtAtomS a ≤ 2 ^ 30) → i + xs.length = out.length → laws_toAtomSS_L1 xs i out = some (out.take i ++ xs)
  | [],i,out,_,h => by
    rw [laws_toAtomSS_L1]; simp at h; rw [h]; simp
  | x :: xs,i,out,hx,h => by
    rw [laws_toAtomSS_L1]
    have hi:i < out.length:=by simp at h; omega
    rw [p_toAtomS x (hx x (by simp)),Option.bind_some,if_pos hi,List.getElem?_eq_getElem hi,Option.bind_some,p_toAtomSS_L1 xs (i + 1) _ (fun a ha => hx a (by simp [ha])) (by simp at h ⊢; omega),set_fill _ _ _ _ hi]
theorem p_toAtomSS (a:List (List GAtom)) (h:wtAtomSS a ≤ 2 ^ 30):laws_toAtomSS a = some a:=by
  unfold laws_toAtomSS
  rw [if_pos (by unfold wtAtomSS at h; omega),p_toAtomSS_L1 a 0 _ (fun a ha => by have:=swAtomSS_mem ha; unfold wtAtomSS at h; omega) (by simp)]
  rfl

theorem p_toColumn (x:GColumn) (h:wtColumn x ≤ 2 ^ 30):laws_toColumn x = some x:=by
  unfold wtColumn at h
  unfold laws_toColumn
  rfl

theorem p_toColumnS_L1:∀ (xs:List GColumn) (i:Nat) (out:List GColumn),(∀ a ∈ xs,wtColumn a ≤ 2 ^ 30) → i + xs.length = out.length → laws_toColumnS_L1 xs i out = some (out.take i ++ xs)
  | [],i,out,_,h => by
    rw [laws_toColumnS_L1]; simp at h; rw [h]; simp
  | x :: xs,i,out,hx,h => by
    rw [laws_toColumnS_L1]
    have hi:i < out.length:=by simp at h; omega
    rw [p_toColumn x (hx x (by simp)),Option.bind_some,if_pos hi,List.getElem?_eq_getElem hi,Option.bind_some,p_toColumnS_L1 xs (i + 1) _ (fun a ha => hx a (by simp [ha])) (by simp at h ⊢; omega),set_fill _ _ _ _ hi]
theorem p_toColumnS (a:List GColumn) (h:wtColumnS a ≤ 2 ^ 30):laws_toColumnS a = some a:=by
  unfold laws_toColumnS
  rw [if_pos (by unfold wtColumnS at h; omega),p_toColumnS_L1 a 0 _ (fun a ha => by have:=swColumnS_mem ha; unfold wtColumnS at h; omega) (by simp)]
  rfl

theorem p_toIntS_L1:∀ (xs:List Int) (i:Nat) (out:List Int),(∀ a ∈ xs,True) → i + xs.length = out.length → laws_toIntS_L1 xs i out = some (out.take i ++ xs)
  | [],i,out,_,h => by
    rw [laws_toIntS_L1]; simp at h; rw [h]; simp
  | x :: xs,i,out,hx,h => by
    rw [laws_toIntS_L1]
    have hi:i < out.length:=by simp at h; omega
    rw [if_pos hi,List.getElem?_eq_getElem hi,Option.bind_some,p_toIntS_L1 xs (i + 1) _ (fun a ha => hx a (by simp [ha])) (by simp at h ⊢; omega),set_fill _ _ _ _ hi]
theorem p_toIntS (a:List Int) (h:wtIntS a ≤ 2 ^ 30):laws_toIntS a = some a:=by
  unfold laws_toIntS
  rw [if_pos (by unfold wtIntS at h; omega),p_toIntS_L1 a 0 _ (fun _ _ => trivial) (by simp)]
  rfl

theorem p_toRow (x:GRow) (h:wtRow x ≤ 2 ^ 30):laws_toRow x = some x:=by
  unfold wtRow at h
  unfold laws_toRow
  simp only [p_toAtomSS x.Cells (by omega),Option.bind_some]

theorem p_toStringS_L1:∀ (xs:List Str) (i:Nat) (out:List Str),(∀ a ∈ xs,True) → i + xs.length = out.length → laws_toStringS_L1 xs i out = some (out.take i ++ xs)
  | [],i,out,_,h => by
    rw [laws_toStringS_L1]; simp at h; rw [h]; simp
  | x :: xs,i,out,hx,h => by
    rw [laws_toStringS_L1]
    have hi:i < out.length:=by simp at h; omega
    rw [if_pos hi,List.getElem?_eq_getElem hi,Option.bind_some,p_toStringS_L1 xs (i + 1) _ (fun a ha => hx a (by simp [ha])) (by simp at h ⊢; omega),set_fill _ _ _ _ hi]
theorem p_toStringS (a:List Str) (h:wtStringS a ≤ 2 ^ 30):laws_toStringS a = some a:=by
  unfold laws_toStringS
  rw [if_pos (by unfold wtStringS at h; omega),p_toStringS_L1 a 0 _ (fun _ _ => trivial) (by simp)]
  rfl

theorem p_toSet (x:GSet) (h:wtSet x ≤ 2 ^ 30):laws_toSet x = some x:=by
  unfold wtSet at h
  unfold laws_toSet
  simp only [p_toAtomS x.Value (by omega),Option.bind_some,p_toStringS x.Names (by omega),Option.bind_some]

theorem p_toSetS_L1:∀ (xs:List GSet) (i:Nat) (out:List GSet),(∀ a ∈ xs,wtSet a ≤ 2 ^ 30) → i + xs.length = out.length → laws_toSetS_L1 xs i out = some (out.take i ++ xs)
  | [],i,out,_,h => by
    rw [laws_toSetS_L1]; simp at h; rw [h]; simp
  | x :: xs,i,out,hx,h => by
    rw [laws_toSetS_L1]
    have hi:i < out.length:=by simp at h; omega
    rw [p_toSet x (hx x (by simp)),Option.bind_some,if_pos hi,List.getElem?_eq_getElem hi,Option.bind_some,p_toSetS_L1 xs (i + 1) _ (fun a ha => hx a (by simp [ha])) (by simp at h ⊢; omega),set_fill _ _ _ _ hi]
theorem p_toSetS (a:List GSet) (h:wtSetS a ≤ 2 ^ 30):laws_toSetS a = some a:=by
  unfold laws_toSetS
  rw [if_pos (by unfold wtSetS at h; omega),p_toSetS_L1 a 0 _ (fun a ha => by have:=swSetS_mem ha; unfold wtSetS at h; omega) (by simp)]
  rfl

theorem p_toTable (x:GTable) (h:wtTable x ≤ 2 ^ 30):laws_toTable x = some x:=by
  unfold wtTable at h
  unfold laws_toTable
  simp only [p_toColumnS x.Columns (by omega),Option.bind_some,p_toIntS x.Unique (by omega),Option.bind_some]
theorem cnt_wtAtomS:∀ (l:List GAtom),cntAtomS l ≤ 8 * wtAtomS l
  | [] => by simp [cntAtomS]
  | x :: l => by
    have ih:=cnt_wtAtomS l
    unfold wtAtomS at ih ⊢
    simp only [cntAtomS,swAtomS,List.length_cons,wtAtom]
    omega
theorem fit_wtAtomS (l:List GAtom) (h:wtAtomS l < 2 ^ 61):fitAtomS l:=by
  unfold wtAtomS at h
  unfold fitAtomS
  omega

theorem cnt_wtAtomSS:∀ (l:List (List GAtom)),cntAtomSS l ≤ 8 * wtAtomSS l
  | [] => by simp [cntAtomSS]
  | x :: l => by
    have ih:=cnt_wtAtomSS l
    unfold wtAtomSS at ih ⊢
    have h0:=cnt_wtAtomS x
    simp only [cntAtomSS,swAtomSS,List.length_cons]
    omega
theorem fit_wtAtomSS (l:List (List GAtom)) (h:wtAtomSS l < 2 ^ 61):fitAtomSS l:=by
  unfold wtAtomSS at h
  refine ⟨by omega,fun x hx => ?_⟩
  have:=swAtomSS_mem hx
  exact fit_wtAtomS _ (by omega)

theorem cnt_wtColumnS:∀ (l:List GColumn),cntColumnS l ≤ 8 * wtColumnS l
  | [] => by simp [cntColumnS]
  | x :: l => by
    have ih:=cnt_wtColumnS l
    unfold wtColumnS at ih ⊢
    simp only [cntColumnS,swColumnS,List.length_cons,wtColumn]
    omega
theorem fit_wtColumnS (l:List GColumn) (h:wtColumnS l < 2 ^ 61):fitColumnS l:=by
  unfold wtColumnS at h
  unfold fitColumnS
  omega

theorem cnt_wtIntS:∀ (l:List Int),cntIntS l ≤ 8 * wtIntS l
  | [] => by simp [cntIntS]
  | x :: l => by
    have ih:=cnt_wtIntS l
    unfold wtIntS at ih ⊢
    simp only [cntIntS,List.length_cons]
    omega
theorem fit_wtIntS (l:List Int) (h:wtIntS l < 2 ^ 61):fitIntS l:=by
  unfold wtIntS at h
  unfold fitIntS
  omega

theorem cnt_wtRow (x:GRow):cntRow x ≤ 8 * wtRow x:=by
  have h0:=cnt_wtAtomSS x.Cells
  simp only [cntRow,wtRow]
  omega
theorem fit_wtRow (x:GRow) (h:wtRow x < 2 ^ 61):fitRow x:=by
  simp only [wtRow] at h
  exact fit_wtAtomSS _ (by omega)

theorem cnt_wtStringS:∀ (l:List Str),cntStringS l ≤ 8 * wtStringS l
  | [] => by simp [cntStringS]
  | x :: l => by
    have ih:=cnt_wtStringS l
    unfold wtStringS at ih ⊢
    simp only [cntStringS,swStringS,List.length_cons]
    omega
theorem fit_wtStringS (l:List Str) (h:wtStringS l < 2 ^ 61):fitStringS l:=by
  unfold wtStringS at h
  unfold fitStringS
  omega

theorem cnt_wtSetS:∀ (l:List GSet),cntSetS l ≤ 8 * wtSetS l
  | [] => by simp [cntSetS]
  | x :: l => by
    have ih:=cnt_wtSetS l
    unfold wtSetS at ih ⊢
    have h0:=cnt_wtAtomS x.Value
    have h1:=cnt_wtStringS x.Names
    simp only [cntSetS,swSetS,List.length_cons,wtSet]
    omega
theorem fit_wtSetS (l:List GSet) (h:wtSetS l < 2 ^ 61):fitSetS l:=by
  unfold wtSetS at h
  refine ⟨by omega,fun x hx => ?_⟩
  have:=swSetS_mem hx
  simp only [wtSet] at this
  exact ⟨fit_wtAtomS _ (by omega),fit_wtStringS _ (by omega)⟩

theorem cnt_wtTable (x:GTable):cntTable x ≤ 8 * wtTable x:=by
  have h0:=cnt_wtColumnS x.Columns
  have h1:=cnt_wtIntS x.Unique
  simp only [cntTable,wtTable]
  omega
theorem fit_wtTable (x:GTable) (h:wtTable x < 2 ^ 61):fitTable x:=by
  simp only [wtTable] at h
  exact ⟨fit_wtColumnS _ (by omega),fit_wtIntS _ (by omega)⟩
end Go.R
