/- Weights, sizes, copies, comparisons: what the laws' own helpers give. -/
import Derived.Test.YtdlnekmchikddaaGreatCM4
import Derived.Test.YtdlnekmchikddaaGreatP0
set_option linter.all false
namespace Go.R
open Go
set_option linter.all false
theorem p_eqAtom (x:GAtom):laws_eqAtom x x = some true:=by
  unfold laws_eqAtom
  simp

theorem p_eqAtomS_L1 (b:List GAtom):∀ (xs:List GAtom) (i:Nat),b.drop i = xs → laws_eqAtomS_L1 b xs i = some (.go ())
  | [],i,_ => by rw [laws_eqAtomS_L1]
  | x :: xs,i,h => by
    rw [laws_eqAtomS_L1,idx_drop h,Option.bind_some,p_eqAtom,Option.bind_some,if_neg (by simp),p_eqAtomS_L1 b xs (i + 1) (drop_next h)]
theorem p_eqAtomS (a:List GAtom):laws_eqAtomS a a = some true:=by
  unfold laws_eqAtomS
  rw [if_neg (by simp),p_eqAtomS_L1 a a 0 (by simp)]
  rfl

theorem p_eqAtomSS_L1 (b:List (List GAtom)):∀ (xs:List (List GAtom)) (i:Nat),b.drop i = xs → laws_eqAtomSS_L1 b xs i = some (.go ())
  | [],i,_ => by rw [laws_eqAtomSS_L1]
  | x :: xs,i,h => by
    rw [laws_eqAtomSS_L1,idx_drop h,Option.bind_some,p_eqAtomS,Option.bind_some,if_neg (by simp),p_eqAtomSS_L1 b xs (i + 1) (drop_next h)]
theorem p_eqAtomSS (a:List (List GAtom)):laws_eqAtomSS a a = some true:=by
  unfold laws_eqAtomSS
  rw [if_neg (by simp),p_eqAtomSS_L1 a a 0 (by simp)]
  rfl

theorem p_eqColumn (x:GColumn):laws_eqColumn x x = some true:=by
  unfold laws_eqColumn
  simp

theorem p_eqColumnS_L1 (b:List GColumn):∀ (xs:List GColumn) (i:Nat),b.drop i = xs → laws_eqColumnS_L1 b xs i = some (.go ())
  | [],i,_ => by rw [laws_eqColumnS_L1]
  | x :: xs,i,h => by
    rw [laws_eqColumnS_L1,idx_drop h,Option.bind_some,p_eqColumn,Option.bind_some,if_neg (by simp),p_eqColumnS_L1 b xs (i + 1) (drop_next h)]
theorem p_eqColumnS (a:List GColumn):laws_eqColumnS a a = some true:=by
  unfold laws_eqColumnS
  rw [if_neg (by simp),p_eqColumnS_L1 a a 0 (by simp)]
  rfl

theorem p_eqIntS_L1 (b:List Int):∀ (xs:List Int) (i:Nat),b.drop i = xs → laws_eqIntS_L1 b xs i = some (.go ())
  | [],i,_ => by rw [laws_eqIntS_L1]
  | x :: xs,i,h => by
    rw [laws_eqIntS_L1,idx_drop h,Option.bind_some,if_neg (by simp),p_eqIntS_L1 b xs (i + 1) (drop_next h)]
theorem p_eqIntS (a:List Int):laws_eqIntS a a = some true:=by
  unfold laws_eqIntS
  rw [if_neg (by simp),p_eqIntS_L1 a a 0 (by simp)]
  rfl

theorem p_eqRow (x:GRow):laws_eqRow x x = some true:=by
  unfold laws_eqRow
  simp [p_eqAtomSS]

theorem p_eqRowS_L1 (b:List GRow):∀ (xs:List GRow) (i:Nat),b.drop i = xs → laws_eqRowS_L1 b xs i = some (.go ())
  | [],i,_ => by rw [laws_eqRowS_L1]
  | x :: xs,i,h => by
    rw [laws_eqRowS_L1,idx_drop h,Option.bind_some,p_eqRow,Option.bind_some,if_neg (by simp),p_eqRowS_L1 b xs (i + 1) (drop_next h)]
theorem p_eqRowS (a:List GRow):laws_eqRowS a a = some true:=by
  unfold laws_eqRowS
  rw [if_neg (by simp),p_eqRowS_L1 a a 0 (by simp)]
  rfl

theorem p_eqRowSS_L1 (b:List (List GRow)):∀ (xs:List (List GRow)) (i:Nat),b.drop i = xs → laws_eqRowSS_L1 b xs i = some (.go ())
  | [],i,_ => by rw [laws_eqRowSS_L1]
  | x :: xs,i,h => by
    rw [laws_eqRowSS_L1,idx_drop h,Option.bind_some,p_eqRowS,Option.bind_some,if_neg (by simp),p_eqRowSS_L1 b xs (i + 1) (drop_next h)]
theorem p_eqRowSS (a:List (List GRow)):laws_eqRowSS a a = some true:=by
  unfold laws_eqRowSS
  rw [if_neg (by simp),p_eqRowSS_L1 a a 0 (by simp)]
  rfl

theorem p_eqTable (x:GTable):laws_eqTable x x = some true:=by
  unfold laws_eqTable
  simp [p_eqColumnS,p_eqIntS]

theorem p_eqTableS_L1 (b:List GTable):∀ (xs:List GTable) (i:Nat),b.drop i = xs → laws_eqTableS_L1 b xs i = some (.go ())
  | [],i,_ => by rw [laws_eqTableS_L1]
  | x :: xs,i,h => by
    rw [laws_eqTableS_L1,idx_drop h,Option.bind_some,p_eqTable,Option.bind_some,if_neg (by simp),p_eqTableS_L1 b xs (i + 1) (drop_next h)]
theorem p_eqTableS (a:List GTable):laws_eqTableS a a = some true:=by
  unfold laws_eqTableS
  rw [if_neg (by simp),p_eqTableS_L1 a a 0 (by simp)]
  rfl

theorem p_eqSchema (x:GSchema):laws_eqSchema x x = some true:=by
  unfold laws_eqSchema
  simp [p_eqTableS]

theorem p_eqStore (x:GStore):laws_eqStore x x = some true:=by
  unfold laws_eqStore
  simp [p_eqRowSS]

def wtAtom (x:GAtom):Nat:=x.T.length

theorem p_szAtom (x:GAtom) (n:Int) (h0:0 ≤ n) (h1:n ≤ 2 ^ 30) (ok:okGAtom x):∃ r,laws_szAtom x n = some r ∧ (r < 0 ∨ (0 ≤ r ∧ r = n - (wtAtom x:Nat))):=by
  unfold laws_szAtom wtAtom
  have k2:=ok.2.2
  simp only [okS,maxLen] at k2
  rw [w64_id (by omega)]
  split
  · exact ⟨_,rfl,.inl (by omega)⟩
  rename_i h12
  simp only [decide_eq_true_eq] at h12
  exact ⟨_,rfl,.inr ⟨by omega,by omega⟩⟩

def swAtomS:List GAtom → Nat
  | [] => 0
  | x :: xs => wtAtom x + swAtomS xs
def wtAtomS (l:List GAtom):Nat:=l.length + swAtomS l
theorem swAtomS_mem:∀ {l:List GAtom} {x:GAtom},x ∈ l → wtAtom x ≤ swAtomS l
  | [],_,h => by simp at h
  | y :: l,x,h => by
    rw [swAtomS]
    rcases List.mem_cons.1 h with rfl | h
    · omega
    · have:=swAtomS_mem h; omega

theorem p_szAtomS_L1:∀ (l:List GAtom) (n:Int),0 ≤ n → n ≤ 2 ^ 30 → (∀ a ∈ l,(okGAtom) a) → laws_szAtomS_L1 l n = some (.ret (-1)) ∨ ∃ r,laws_szAtomS_L1 l n = some (.go r) ∧ r = n - (swAtomS l:Nat) ∧ 0 ≤ r
  | [],n,h0,h1,ok => .inr ⟨n,rfl,by simp [swAtomS],h0⟩
  | a :: l,n,h0,h1,ok => by
    rw [laws_szAtomS_L1]
    obtain ⟨r,e,hr⟩:=p_szAtom a n h0 h1 (ok a (by simp))
    rw [e,Option.bind_some]
    split
    · exact .inl rfl
    · rename_i h
      simp only [decide_eq_true_eq] at h
      have hr:=hr.resolve_left h
      rcases p_szAtomS_L1 l r (by omega) (by omega) (fun x hx => ok x (by simp [hx])) with h2 | ⟨r',e',g2,g3⟩
      · exact .inl h2
      · exact .inr ⟨r',e',by rw [g2,hr.2]; simp only [swAtomS]; omega,g3⟩
theorem p_szAtomS (l:List GAtom) (n:Int) (h0:0 ≤ n) (h1:n ≤ 2 ^ 30) (ok:(okL (okGAtom)) l):∃ r,laws_szAtomS l n = some r ∧ (r < 0 ∨ (0 ≤ r ∧ r = n - (wtAtomS l:Nat))):=by
  unfold laws_szAtomS wtAtomS
  have k1:=ok.1
  simp only [maxLen] at k1
  rw [w64_id (by omega)]
  split
  · exact ⟨_,rfl,.inl (by omega)⟩
  · rename_i h
    simp only [decide_eq_true_eq] at h
    rcases p_szAtomS_L1 l (n - l.length) (by omega) (by omega) ok.2 with h2 | ⟨r',e',g1,g2⟩
    · exact ⟨-1,by rw [h2]; rfl,.inl (by omega)⟩
    · exact ⟨r',by rw [e']; rfl,.inr ⟨g2,by omega⟩⟩

def swAtomSS:List (List GAtom) → Nat
  | [] => 0
  | x :: xs => wtAtomS x + swAtomSS xs
def wtAtomSS (l:List (List GAtom)):Nat:=l.length + swAtomSS l
theorem swAtomSS_mem:∀ {l:List (List GAtom)} {x:(List GAtom)},x ∈ l → wtAtomS x ≤ swAtomSS l
  | [],_,h => by simp at h
  | y :: l,x,h => by
    rw [swAtomSS]
    rcases List.mem_cons.1 h with rfl | h
    · omega
    · have:=swAtomSS_mem h; omega

theorem p_szAtomSS_L1:∀ (l:List (List GAtom)) (n:Int),0 ≤ n → n ≤ 2 ^ 30 → (∀ a ∈ l,(okL (okGAtom)) a) → laws_szAtomSS_L1 l n = some (.ret (-1)) ∨ ∃ r,laws_szAtomSS_L1 l n = some (.go r) ∧ r = n - (swAtomSS l:Nat) ∧ 0 ≤ r
  | [],n,h0,h1,ok => .inr ⟨n,rfl,by simp [swAtomSS],h0⟩
  | a :: l,n,h0,h1,ok => by
    rw [laws_szAtomSS_L1]
    obtain ⟨r,e,hr⟩:=p_szAtomS a n h0 h1 (ok a (by simp))
    rw [e,Option.bind_some]
    split
    · exact .inl rfl
    · rename_i h
      simp only [decide_eq_true_eq] at h
      have hr:=hr.resolve_left h
      rcases p_szAtomSS_L1 l r (by omega) (by omega) (fun x hx => ok x (by simp [hx])) with h2 | ⟨r',e',g2,g3⟩
      · exact .inl h2
      · exact .inr ⟨r',e',by rw [g2,hr.2]; simp only [swAtomSS]; omega,g3⟩
theorem p_szAtomSS (l:List (List GAtom)) (n:Int) (h0:0 ≤ n) (h1:n ≤ 2 ^ 30) (ok:(okL (okL (okGAtom))) l):∃ r,laws_szAtomSS l n = some r ∧ (r < 0 ∨ (0 ≤ r ∧ r = n - (wtAtomSS l:Nat))):=by
  unfold laws_szAtomSS wtAtomSS
  have k1:=ok.1
  simp only [maxLen] at k1
  rw [w64_id (by omega)]
  split
  · exact ⟨_,rfl,.inl (by omega)⟩
  · rename_i h
    simp only [decide_eq_true_eq] at h
    rcases p_szAtomSS_L1 l (n - l.length) (by omega) (by omega) ok.2 with h2 | ⟨r',e',g1,g2⟩
    · exact ⟨-1,by rw [h2]; rfl,.inl (by omega)⟩
    · exact ⟨r',by rw [e']; rfl,.inr ⟨g2,by omega⟩⟩

def wtColumn (x:GColumn):Nat:=x.Name.length + x.Ref.length

theorem p_szColumn (x:GColumn) (n:Int) (h0:0 ≤ n) (h1:n ≤ 2 ^ 30) (ok:okGColumn x):∃ r,laws_szColumn x n = some r ∧ (r < 0 ∨ (0 ≤ r ∧ r = n - (wtColumn x:Nat))):=by
  unfold laws_szColumn wtColumn
  have k0:=ok.1
  simp only [okS,maxLen] at k0
  rw [w64_id (by omega)]
  split
  · exact ⟨_,rfl,.inl (by omega)⟩
  rename_i h10
  simp only [decide_eq_true_eq] at h10
  have k6:=ok.2.2.2.2.2.2.1
  simp only [okS,maxLen] at k6
  rw [w64_id (by omega)]
  split
  · exact ⟨_,rfl,.inl (by omega)⟩
  rename_i h16
  simp only [decide_eq_true_eq] at h16
  exact ⟨_,rfl,.inr ⟨by omega,by omega⟩⟩

def swColumnS:List GColumn → Nat
  | [] => 0
  | x :: xs => wtColumn x + swColumnS xs
def wtColumnS (l:List GColumn):Nat:=l.length + swColumnS l
theorem swColumnS_mem:∀ {l:List GColumn} {x:GColumn},x ∈ l → wtColumn x ≤ swColumnS l
  | [],_,h => by simp at h
  | y :: l,x,h => by
    rw [swColumnS]
    rcases List.mem_cons.1 h with rfl | h
    · omega
    · have:=swColumnS_mem h; omega

theorem p_szColumnS_L1:∀ (l:List GColumn) (n:Int),0 ≤ n → n ≤ 2 ^ 30 → (∀ a ∈ l,(okGColumn) a) → laws_szColumnS_L1 l n = some (.ret (-1)) ∨ ∃ r,laws_szColumnS_L1 l n = some (.go r) ∧ r = n - (swColumnS l:Nat) ∧ 0 ≤ r
  | [],n,h0,h1,ok => .inr ⟨n,rfl,by simp [swColumnS],h0⟩
  | a :: l,n,h0,h1,ok => by
    rw [laws_szColumnS_L1]
    obtain ⟨r,e,hr⟩:=p_szColumn a n h0 h1 (ok a (by simp))
    rw [e,Option.bind_some]
    split
    · exact .inl rfl
    · rename_i h
      simp only [decide_eq_true_eq] at h
      have hr:=hr.resolve_left h
      rcases p_szColumnS_L1 l r (by omega) (by omega) (fun x hx => ok x (by simp [hx])) with h2 | ⟨r',e',g2,g3⟩
      · exact .inl h2
      · exact .inr ⟨r',e',by rw [g2,hr.2]; simp only [swColumnS]; omega,g3⟩
theorem p_szColumnS (l:List GColumn) (n:Int) (h0:0 ≤ n) (h1:n ≤ 2 ^ 30) (ok:(okL (okGColumn)) l):∃ r,laws_szColumnS l n = some r ∧ (r < 0 ∨ (0 ≤ r ∧ r = n - (wtColumnS l:Nat))):=by
  unfold laws_szColumnS wtColumnS
  have k1:=ok.1
  simp only [maxLen] at k1
  rw [w64_id (by omega)]
  split
  · exact ⟨_,rfl,.inl (by omega)⟩
  · rename_i h
    simp only [decide_eq_true_eq] at h
    rcases p_szColumnS_L1 l (n - l.length) (by omega) (by omega) ok.2 with h2 | ⟨r',e',g1,g2⟩
    · exact ⟨-1,by rw [h2]; rfl,.inl (by omega)⟩
    · exact ⟨r',by rw [e']; rfl,.inr ⟨g2,by omega⟩⟩

def wtIntS (l:List Int):Nat:=l.length

theorem p_szIntS (l:List Int) (n:Int) (h0:0 ≤ n) (h1:n ≤ 2 ^ 30) (ok:(okL (okI .i64)) l):∃ r,laws_szIntS l n = some r ∧ (r < 0 ∨ (0 ≤ r ∧ r = n - (wtIntS l:Nat))):=by
  unfold laws_szIntS wtIntS
  have k1:=ok.1
  simp only [maxLen] at k1
  rw [w64_id (by omega)]
  split
  · exact ⟨_,rfl,.inl (by omega)⟩
  · rename_i h
    simp only [decide_eq_true_eq] at h
    exact ⟨_,rfl,.inr ⟨by omega,by omega⟩⟩

def wtRow (x:GRow):Nat:=wtAtomSS x.Cells

theorem p_szRow (x:GRow) (n:Int) (h0:0 ≤ n) (h1:n ≤ 2 ^ 30) (ok:okGRow x):∃ r,laws_szRow x n = some r ∧ (r < 0 ∨ (0 ≤ r ∧ r = n - (wtRow x:Nat))):=by
  unfold laws_szRow wtRow
  obtain ⟨r1,e1,hr1⟩:=p_szAtomSS x.Cells n (by omega) (by omega) ok.2
  rw [e1,Option.bind_some]
  split
  · exact ⟨_,rfl,.inl (by omega)⟩
  rename_i h11
  simp only [decide_eq_true_eq] at h11
  have hr1:=hr1.resolve_left h11
  exact ⟨_,rfl,.inr ⟨by omega,by omega⟩⟩

def swRowS:List GRow → Nat
  | [] => 0
  | x :: xs => wtRow x + swRowS xs
def wtRowS (l:List GRow):Nat:=l.length + swRowS l
theorem swRowS_mem:∀ {l:List GRow} {x:GRow},x ∈ l → wtRow x ≤ swRowS l
  | [],_,h => by simp at h
  | y :: l,x,h => by
    rw [swRowS]
    rcases List.mem_cons.1 h with rfl | h
    · omega
    · have:=swRowS_mem h; omega

theorem p_szRowS_L1:∀ (l:List GRow) (n:Int),0 ≤ n → n ≤ 2 ^ 30 → (∀ a ∈ l,(okGRow) a) → laws_szRowS_L1 l n = some (.ret (-1)) ∨ ∃ r,laws_szRowS_L1 l n = some (.go r) ∧ r = n - (swRowS l:Nat) ∧ 0 ≤ r
  | [],n,h0,h1,ok => .inr ⟨n,rfl,by simp [swRowS],h0⟩
  | a :: l,n,h0,h1,ok => by
    rw [laws_szRowS_L1]
    obtain ⟨r,e,hr⟩:=p_szRow a n h0 h1 (ok a (by simp))
    rw [e,Option.bind_some]
    split
    · exact .inl rfl
    · rename_i h
      simp only [decide_eq_true_eq] at h
      have hr:=hr.resolve_left h
      rcases p_szRowS_L1 l r (by omega) (by omega) (fun x hx => ok x (by simp [hx])) with h2 | ⟨r',e',g2,g3⟩
      · exact .inl h2
      · exact .inr ⟨r',e',by rw [g2,hr.2]; simp only [swRowS]; omega,g3⟩
theorem p_szRowS (l:List GRow) (n:Int) (h0:0 ≤ n) (h1:n ≤ 2 ^ 30) (ok:(okL (okGRow)) l):∃ r,laws_szRowS l n = some r ∧ (r < 0 ∨ (0 ≤ r ∧ r = n - (wtRowS l:Nat))):=by
  unfold laws_szRowS wtRowS
  have k1:=ok.1
  simp only [maxLen] at k1
  rw [w64_id (by omega)]
  split
  · exact ⟨_,rfl,.inl (by omega)⟩
  · rename_i h
    simp only [decide_eq_true_eq] at h
    rcases p_szRowS_L1 l (n - l.length) (by omega) (by omega) ok.2 with h2 | ⟨r',e',g1,g2⟩
    · exact ⟨-1,by rw [h2]; rfl,.inl (by omega)⟩
    · exact ⟨r',by rw [e']; rfl,.inr ⟨g2,by omega⟩⟩

def swRowSS:List (List GRow) → Nat
  | [] => 0
  | x :: xs => wtRowS x + swRowSS xs
def wtRowSS (l:List (List GRow)):Nat:=l.length + swRowSS l
theorem swRowSS_mem:∀ {l:List (List GRow)} {x:(List GRow)},x ∈ l → wtRowS x ≤ swRowSS l
  | [],_,h => by simp at h
  | y :: l,x,h => by
    rw [swRowSS]
    rcases List.mem_cons.1 h with rfl | h
    · omega
    · have:=swRowSS_mem h; omega

theorem p_szRowSS_L1:∀ (l:List (List GRow)) (n:Int),0 ≤ n → n ≤ 2 ^ 30 → (∀ a ∈ l,(okL (okGRow)) a) → laws_szRowSS_L1 l n = some (.ret (-1)) ∨ ∃ r,laws_szRowSS_L1 l n = some (.go r) ∧ r = n - (swRowSS l:Nat) ∧ 0 ≤ r
  | [],n,h0,h1,ok => .inr ⟨n,rfl,by simp [swRowSS],h0⟩
  | a :: l,n,h0,h1,ok => by
    rw [laws_szRowSS_L1]
    obtain ⟨r,e,hr⟩:=p_szRowS a n h0 h1 (ok a (by simp))
    rw [e,Option.bind_some]
    split
    · exact .inl rfl
    · rename_i h
      simp only [decide_eq_true_eq] at h
      have hr:=hr.resolve_left h
      rcases p_szRowSS_L1 l r (by omega) (by omega) (fun x hx => ok x (by simp [hx])) with h2 | ⟨r',e',g2,g3⟩
      · exact .inl h2
      · exact .inr ⟨r',e',by rw [g2,hr.2]; simp only [swRowSS]; omega,g3⟩
theorem p_szRowSS (l:List (List GRow)) (n:Int) (h0:0 ≤ n) (h1:n ≤ 2 ^ 30) (ok:(okL (okL (okGRow))) l):∃ r,laws_szRowSS l n = some r ∧ (r < 0 ∨ (0 ≤ r ∧ r = n - (wtRowSS l:Nat))):=by
  unfold laws_szRowSS wtRowSS
  have k1:=ok.1
  simp only [maxLen] at k1
  rw [w64_id (by omega)]
  split
  · exact ⟨_,rfl,.inl (by omega)⟩
  · rename_i h
    simp only [decide_eq_true_eq] at h
    rcases p_szRowSS_L1 l (n - l.length) (by omega) (by omega) ok.2 with h2 | ⟨r',e',g1,g2⟩
    · exact ⟨-1,by rw [h2]; rfl,.inl (by omega)⟩
    · exact ⟨r',by rw [e']; rfl,.inr ⟨g2,by omega⟩⟩

def wtTable (x:GTable):Nat:=x.Name.length + wtColumnS x.Columns + wtIntS x.Unique

def swTableS:List GTable → Nat
  | [] => 0
  | x :: xs => wtTable x + swTableS xs
def wtTableS (l:List GTable):Nat:=l.length + swTableS l
theorem swTableS_mem:∀ {l:List GTable} {x:GTable},x ∈ l → wtTable x ≤ swTableS l
  | [],_,h => by simp at h
  | y :: l,x,h => by
    rw [swTableS]
    rcases List.mem_cons.1 h with rfl | h
    · omega
    · have:=swTableS_mem h; omega

def wtSchema (x:GSchema):Nat:=wtTableS x.Tables

theorem p_szTable (x:GTable) (n:Int) (h0:0 ≤ n) (h1:n ≤ 2 ^ 30) (ok:okGTable x):∃ r,laws_szTable x n = some r ∧ (r < 0 ∨ (0 ≤ r ∧ r = n - (wtTable x:Nat))):=by
  unfold laws_szTable wtTable
  have k0:=ok.1
  simp only [okS,maxLen] at k0
  rw [w64_id (by omega)]
  split
  · exact ⟨_,rfl,.inl (by omega)⟩
  rename_i h10
  simp only [decide_eq_true_eq] at h10
  obtain ⟨r1,e1,hr1⟩:=p_szColumnS x.Columns (n - x.Name.length) (by omega) (by omega) ok.2.1
  rw [e1,Option.bind_some]
  split
  · exact ⟨_,rfl,.inl (by omega)⟩
  rename_i h11
  simp only [decide_eq_true_eq] at h11
  have hr1:=hr1.resolve_left h11
  obtain ⟨r2,e2,hr2⟩:=p_szIntS x.Unique r1 (by omega) (by omega) ok.2.2.1
  rw [e2,Option.bind_some]
  split
  · exact ⟨_,rfl,.inl (by omega)⟩
  rename_i h12
  simp only [decide_eq_true_eq] at h12
  have hr2:=hr2.resolve_left h12
  exact ⟨_,rfl,.inr ⟨by omega,by omega⟩⟩

theorem p_szTableS_L1:∀ (l:List GTable) (n:Int),0 ≤ n → n ≤ 2 ^ 30 → (∀ a ∈ l,(okGTable) a) → laws_szTableS_L1 l n = some (.ret (-1)) ∨ ∃ r,laws_szTableS_L1 l n = some (.go r) ∧ r = n - (swTableS l:Nat) ∧ 0 ≤ r
  | [],n,h0,h1,ok => .inr ⟨n,rfl,by simp [swTableS],h0⟩
  | a :: l,n,h0,h1,ok => by
    rw [laws_szTableS_L1]
    obtain ⟨r,e,hr⟩:=p_szTable a n h0 h1 (ok a (by simp))
    rw [e,Option.bind_some]
    split
    · exact .inl rfl
    · rename_i h
      simp only [decide_eq_true_eq] at h
      have hr:=hr.resolve_left h
      rcases p_szTableS_L1 l r (by omega) (by omega) (fun x hx => ok x (by simp [hx])) with h2 | ⟨r',e',g2,g3⟩
      · exact .inl h2
      · exact .inr ⟨r',e',by rw [g2,hr.2]; simp only [swTableS]; omega,g3⟩
theorem p_szTableS (l:List GTable) (n:Int) (h0:0 ≤ n) (h1:n ≤ 2 ^ 30) (ok:(okL (okGTable)) l):∃ r,laws_szTableS l n = some r ∧ (r < 0 ∨ (0 ≤ r ∧ r = n - (wtTableS l:Nat))):=by
  unfold laws_szTableS wtTableS
  have k1:=ok.1
  simp only [maxLen] at k1
  rw [w64_id (by omega)]
  split
  · exact ⟨_,rfl,.inl (by omega)⟩
  · rename_i h
    simp only [decide_eq_true_eq] at h
    rcases p_szTableS_L1 l (n - l.length) (by omega) (by omega) ok.2 with h2 | ⟨r',e',g1,g2⟩
    · exact ⟨-1,by rw [h2]; rfl,.inl (by omega)⟩
    · exact ⟨r',by rw [e']; rfl,.inr ⟨g2,by omega⟩⟩

theorem p_szSchema (x:GSchema) (n:Int) (h0:0 ≤ n) (h1:n ≤ 2 ^ 30) (ok:okGSchema x):∃ r,laws_szSchema x n = some r ∧ (r < 0 ∨ (0 ≤ r ∧ r = n - (wtSchema x:Nat))):=by
  unfold laws_szSchema wtSchema
  obtain ⟨r0,e0,hr0⟩:=p_szTableS x.Tables n (by omega) (by omega) ok
  rw [e0,Option.bind_some]
  split
  · exact ⟨_,rfl,.inl (by omega)⟩
  rename_i h10
  simp only [decide_eq_true_eq] at h10
  have hr0:=hr0.resolve_left h10
  exact ⟨_,rfl,.inr ⟨by omega,by omega⟩⟩

def wtStore (x:GStore):Nat:=wtRowSS x.Tables

theorem p_szStore (x:GStore) (n:Int) (h0:0 ≤ n) (h1:n ≤ 2 ^ 30) (ok:okGStore x):∃ r,laws_szStore x n = some r ∧ (r < 0 ∨ (0 ≤ r ∧ r = n - (wtStore x:Nat))):=by
  unfold laws_szStore wtStore
  obtain ⟨r0,e0,hr0⟩:=p_szRowSS x.Tables n (by omega) (by omega) ok.1
  rw [e0,Option.bind_some]
  split
  · exact ⟨_,rfl,.inl (by omega)⟩
  rename_i h10
  simp only [decide_eq_true_eq] at h10
  have hr0:=hr0.resolve_left h10
  exact ⟨_,rfl,.inr ⟨by omega,by omega⟩⟩

theorem p_toAtom (x:GAtom) (h:wtAtom x ≤ 2 ^ 30):laws_toAtom x = some x:=by
  unfold wtAtom at h
  unfold laws_toAtom
  rfl

theorem p_toAtomS_L1:∀ (xs:List GAtom) (i:Nat) (out:List GAtom),(∀ a ∈ xs,wtAtom a ≤ 2 ^ 30) → i + xs.length = out.length → laws_toAtomS_L1 xs i out = some (out.take i ++ xs)
  | [],i,out,_,h => by
    rw [laws_toAtomS_L1]; simp at h; rw [h]; simp
  | x :: xs,i,out,hx,h => by
    rw [laws_toAtomS_L1]
    have hi:i < out.length:=by simp at h; omega
    rw [p_toAtom x (hx x (by simp)),Option.bind_some,if_pos hi,List.getElem?_eq_getElem hi,Option.bind_some,p_toAtomS_L1 xs (i + 1) _ (fun a ha => hx a (by simp [ha])) (by simp at h ⊢; omega),set_fill _ _ _ _ hi]
theorem p_toAtomS (a:List GAtom) (h:wtAtomS a ≤ 2 ^ 30):laws_toAtomS a = some a:=by
  unfold laws_toAtomS
  rw [if_pos (by unfold wtAtomS at h; omega),p_toAtomS_L1 a 0 _ (fun a ha => by have:=swAtomS_mem ha; unfold wtAtomS at h; omega) (by simp)]
  rfl

theorem p_toAtomSS_L1:∀ (xs:List (List GAtom)) (i:Nat) (out:List (List GAtom)),(∀ a ∈ xs,wtAtomS a ≤ 2 ^ 30) → i + xs.length = out.length → laws_toAtomSS_L1 xs i out = some (out.take i ++ xs)
  | [],i,out,_,h => by
    rw [laws_toAtomSS_L1]; simp at h; rw [h]; simp
  | x :: xs,i,out,hx,h => by
    rw [laws_toAtomSS_L1]
    have hi:i < out.length:=by simp at h; omega
    rw [p_toAtomS x (hx x (by simp)),Option.bind_some,if_pos hi,List.getElem?_eq_getElem hi,Option.bind_some,p_toAtomSS_L1 xs (i + 1) _ (fun a ha => hx a (by simp [ha])) (by simp at h ⊢; omega),set_fill _ _ _ _ hi]
theorem p_toAtomSS (a:List (List GAtom)) (h:wtAtomSS a ≤ 2 ^ 30):laws_toAtomSS a = some a:=by
  unfold laws_toAtomSS
  rw [if_pos (by unfold wtAtomSS at h; omega),p_toAtomSS_L1 a 0 _ (fun a ha => by have:=swAtomSS_mem ha; unfold wtAtomSS at h; omega) (by simp)]
  rfl

theorem p_toColumn (x:GColumn) (h:wtColumn x ≤ 2 ^ 30):laws_toColumn x = some x:=by
  unfold wtColumn at h
  unfold laws_toColumn
  rfl

theorem p_toColumnS_L1:∀ (xs:List GColumn) (i:Nat) (out:List GColumn),(∀ a ∈ xs,wtColumn a ≤ 2 ^ 30) → i + xs.length = out.length → laws_toColumnS_L1 xs i out = some (out.take i ++ xs)
  | [],i,out,_,h => by
    rw [laws_toColumnS_L1]; simp at h; rw [h]; simp
  | x :: xs,i,out,hx,h => by
    rw [laws_toColumnS_L1]
    have hi:i < out.length:=by simp at h; omega
    rw [p_toColumn x (hx x (by simp)),Option.bind_some,if_pos hi,List.getElem?_eq_getElem hi,Option.bind_some,p_toColumnS_L1 xs (i + 1) _ (fun a ha => hx a (by simp [ha])) (by simp at h ⊢; omega),set_fill _ _ _ _ hi]
theorem p_toColumnS (a:List GColumn) (h:wtColumnS a ≤ 2 ^ 30):laws_toColumnS a = some a:=by
  unfold laws_toColumnS
  rw [if_pos (by unfold wtColumnS at h; omega),p_toColumnS_L1 a 0 _ (fun a ha => by have:=swColumnS_mem ha; unfold wtColumnS at h; omega) (by simp)]
  rfl

theorem p_toIntS_L1:∀ (xs:List Int) (i:Nat) (out:List Int),(∀ a ∈ xs,True) → i + xs.length = out.length → laws_toIntS_L1 xs i out = some (out.take i ++ xs)
  | [],i,out,_,h => by
    rw [laws_toIntS_L1]; simp at h; rw [h]; simp
  | x :: xs,i,out,hx,h => by
    rw [laws_toIntS_L1]
    have hi:i < out.length:=by simp at h; omega
    rw [if_pos hi,List.getElem?_eq_getElem hi,Option.bind_some,p_toIntS_L1 xs (i + 1) _ (fun a ha => hx a (by simp [ha])) (by simp at h ⊢; omega),set_fill _ _ _ _ hi]
theorem p_toIntS (a:List Int) (h:wtIntS a ≤ 2 ^ 30):laws_toIntS a = some a:=by
  unfold laws_toIntS
  rw [if_pos (by unfold wtIntS at h; omega),p_toIntS_L1 a 0 _ (fun _ _ => trivial) (by simp)]
  rfl

theorem p_toRow (x:GRow) (h:wtRow x ≤ 2 ^ 30):laws_toRow x = some x:=by
  unfold wtRow at h
  unfold laws_toRow
  simp only [p_toAtomSS x.Cells (by omega),Option.bind_some]

theorem p_toRowS_L1:∀ (xs:List GRow) (i:Nat) (out:List GRow),(∀ a ∈ xs,wtRow a ≤ 2 ^ 30) → i + xs.length = out.length → laws_toRowS_L1 xs i out = some (out.take i ++ xs)
  | [],i,out,_,h => by
    rw [laws_toRowS_L1]; simp at h; rw [h]; simp
  | x :: xs,i,out,hx,h => by
    rw [laws_toRowS_L1]
    have hi:i < out.length:=by simp at h; omega
    rw [p_toRow x (hx x (by simp)),Option.bind_some,if_pos hi,List.getElem?_eq_getElem hi,Option.bind_some,p_toRowS_L1 xs (i + 1) _ (fun a ha => hx a (by simp [ha])) (by simp at h ⊢; omega),set_fill _ _ _ _ hi]
theorem p_toRowS (a:List GRow) (h:wtRowS a ≤ 2 ^ 30):laws_toRowS a = some a:=by
  unfold laws_toRowS
  rw [if_pos (by unfold wtRowS at h; omega),p_toRowS_L1 a 0 _ (fun a ha => by have:=swRowS_mem ha; unfold wtRowS at h; omega) (by simp)]
  rfl

theorem p_toRowSS_L1:∀ (xs:List (List GRow)) (i:Nat) (out:List (List GRow)),(∀ a ∈ xs,wtRowS a ≤ 2 ^ 30) → i + xs.length = out.length → laws_toRowSS_L1 xs i out = some (out.take i ++ xs)
  | [],i,out,_,h => by
    rw [laws_toRowSS_L1]; simp at h; rw [h]; simp
  | x :: xs,i,out,hx,h => by
    rw [laws_toRowSS_L1]
    have hi:i < out.length:=by simp at h; omega
    rw [p_toRowS x (hx x (by simp)),Option.bind_some,if_pos hi,List.getElem?_eq_getElem hi,Option.bind_some,p_toRowSS_L1 xs (i + 1) _ (fun a ha => hx a (by simp [ha])) (by simp at h ⊢; omega),set_fill _ _ _ _ hi]
theorem p_toRowSS (a:List (List GRow)) (h:wtRowSS a ≤ 2 ^ 30):laws_toRowSS a = some a:=by
  unfold laws_toRowSS
  rw [if_pos (by unfold wtRowSS at h; omega),p_toRowSS_L1 a 0 _ (fun a ha => by have:=swRowSS_mem ha; unfold wtRowSS at h; omega) (by simp)]
  rfl

theorem p_toTable (x:GTable) (h:wtTable x ≤ 2 ^ 30):laws_toTable x = some x:=by
  unfold wtTable at h
  unfold laws_toTable
  simp only [p_toColumnS x.Columns (by omega),Option.bind_some,p_toIntS x.Unique (by omega),Option.bind_some]

theorem p_toTableS_L1:∀ (xs:List GTable) (i:Nat) (out:List GTable),(∀ a ∈ xs,wtTable a ≤ 2 ^ 30) → i + xs.length = out.length → laws_toTableS_L1 xs i out = some (out.take i ++ xs)
  | [],i,out,_,h => by
    rw [laws_toTableS_L1]; simp at h; rw [h]; simp
  | x :: xs,i,out,hx,h => by
    rw [laws_toTableS_L1]
    have hi:i < out.length:=by simp at h; omega
    rw [p_toTable x (hx x (by simp)),Option.bind_some,if_pos hi,List.getElem?_eq_getElem hi,Option.bind_some,p_toTableS_L1 xs (i + 1) _ (fun a ha => hx a (by simp [ha])) (by simp at h ⊢; omega),set_fill _ _ _ _ hi]
theorem p_toTableS (a:List GTable) (h:wtTableS a ≤ 2 ^ 30):laws_toTableS a = some a:=by
  unfold laws_toTableS
  rw [if_pos (by unfold wtTableS at h; omega),p_toTableS_L1 a 0 _ (fun a ha => by have:=swTableS_mem ha; unfold wtTableS at h; omega) (by simp)]
  rfl

theorem p_toSchema (x:GSchema) (h:wtSchema x ≤ 2 ^ 30):laws_toSchema x = some x:=by
  unfold wtSchema at h
  unfold laws_toSchema
  simp only [p_toTableS x.Tables (by omega),Option.bind_some]

theorem p_toStore (x:GStore) (h:wtStore x ≤ 2 ^ 30):laws_toStore x = some x:=by
  unfold wtStore at h
  unfold laws_toStore
  simp only [p_toRowSS x.Tables (by omega),Option.bind_some]
end Go.R
