/- Sizes, copies, comparisons: what the laws' own helpers give. -/
import Derived.Test.YthejoafcjkoahaaGreatOCF
import Derived.Test.YthejoafcjkoahaaGreatP0
set_option linter.all false
namespace Go.R
open Go
set_option linter.all false
def smS (n:Int) (t:Str):Prop:=(t.length:Int) ≤ n
theorem smS_mono {n m:Int} (h:n ≤ m) {t:Str} (ht:smS n t):smS m t:=Int.le_trans ht h
theorem p_eqAtom (x:GAtom):laws_eqAtom x x = some true:=by
  unfold laws_eqAtom
  simp

theorem p_eqAtomS_L1 (b:List GAtom):∀ (xs:List GAtom) (i:Nat),b.drop i = xs → laws_eqAtomS_L1 b xs i = some (.go ())
  | [],i,_ => by rw [laws_eqAtomS_L1]
  | x :: xs,i,h => by
    rw [laws_eqAtomS_L1,idx_drop h,Option.bind_some,p_eqAtom,Option.bind_some,if_neg (by simp),p_eqAtomS_L1 b xs (i + 1) (drop_next h)]
theorem p_eqAtomS (a:List GAtom):laws_eqAtomS a a = some true:=by
  unfold laws_eqAtomS
  rw [if_neg (by simp),p_eqAtomS_L1 a a 0 (by simp)]
  rfl

theorem p_eqColumn (x:GColumn):laws_eqColumn x x = some true:=by
  unfold laws_eqColumn
  simp

theorem p_eqColumnS_L1 (b:List GColumn):∀ (xs:List GColumn) (i:Nat),b.drop i = xs → laws_eqColumnS_L1 b xs i = some (.go ())
  | [],i,_ => by rw [laws_eqColumnS_L1]
  | x :: xs,i,h => by
    rw [laws_eqColumnS_L1,idx_drop h,Option.bind_some,p_eqColumn,Option.bind_some,if_neg (by simp),p_eqColumnS_L1 b xs (i + 1) (drop_next h)]
theorem p_eqColumnS (a:List GColumn):laws_eqColumnS a a = some true:=by
  unfold laws_eqColumnS
  rw [if_neg (by simp),p_eqColumnS_L1 a a 0 (by simp)]
  rfl

theorem p_eqCond (x:GCond):laws_eqCond x x = some true:=by
  unfold laws_eqCond
  simp [p_eqAtomS]

theorem p_eqCondS_L1 (b:List GCond):∀ (xs:List GCond) (i:Nat),b.drop i = xs → laws_eqCondS_L1 b xs i = some (.go ())
  | [],i,_ => by rw [laws_eqCondS_L1]
  | x :: xs,i,h => by
    rw [laws_eqCondS_L1,idx_drop h,Option.bind_some,p_eqCond,Option.bind_some,if_neg (by simp),p_eqCondS_L1 b xs (i + 1) (drop_next h)]
theorem p_eqCondS (a:List GCond):laws_eqCondS a a = some true:=by
  unfold laws_eqCondS
  rw [if_neg (by simp),p_eqCondS_L1 a a 0 (by simp)]
  rfl

theorem p_eqIntS_L1 (b:List Int):∀ (xs:List Int) (i:Nat),b.drop i = xs → laws_eqIntS_L1 b xs i = some (.go ())
  | [],i,_ => by rw [laws_eqIntS_L1]
  | x :: xs,i,h => by
    rw [laws_eqIntS_L1,idx_drop h,Option.bind_some,if_neg (by simp),p_eqIntS_L1 b xs (i + 1) (drop_next h)]
theorem p_eqIntS (a:List Int):laws_eqIntS a a = some true:=by
  unfold laws_eqIntS
  rw [if_neg (by simp),p_eqIntS_L1 a a 0 (by simp)]
  rfl

theorem p_eqMut (x:GMut):laws_eqMut x x = some true:=by
  unfold laws_eqMut
  simp [p_eqAtomS]

theorem p_eqMutS_L1 (b:List GMut):∀ (xs:List GMut) (i:Nat),b.drop i = xs → laws_eqMutS_L1 b xs i = some (.go ())
  | [],i,_ => by rw [laws_eqMutS_L1]
  | x :: xs,i,h => by
    rw [laws_eqMutS_L1,idx_drop h,Option.bind_some,p_eqMut,Option.bind_some,if_neg (by simp),p_eqMutS_L1 b xs (i + 1) (drop_next h)]
theorem p_eqMutS (a:List GMut):laws_eqMutS a a = some true:=by
  unfold laws_eqMutS
  rw [if_neg (by simp),p_eqMutS_L1 a a 0 (by simp)]
  rfl

theorem p_eqStringS_L1 (b:List Str):∀ (xs:List Str) (i:Nat),b.drop i = xs → laws_eqStringS_L1 b xs i = some (.go ())
  | [],i,_ => by rw [laws_eqStringS_L1]
  | x :: xs,i,h => by
    rw [laws_eqStringS_L1,idx_drop h,Option.bind_some,if_neg (by simp),p_eqStringS_L1 b xs (i + 1) (drop_next h)]
theorem p_eqStringS (a:List Str):laws_eqStringS a a = some true:=by
  unfold laws_eqStringS
  rw [if_neg (by simp),p_eqStringS_L1 a a 0 (by simp)]
  rfl

theorem p_eqSet (x:GSet):laws_eqSet x x = some true:=by
  unfold laws_eqSet
  simp [p_eqAtomS,p_eqStringS]

theorem p_eqSetS_L1 (b:List GSet):∀ (xs:List GSet) (i:Nat),b.drop i = xs → laws_eqSetS_L1 b xs i = some (.go ())
  | [],i,_ => by rw [laws_eqSetS_L1]
  | x :: xs,i,h => by
    rw [laws_eqSetS_L1,idx_drop h,Option.bind_some,p_eqSet,Option.bind_some,if_neg (by simp),p_eqSetS_L1 b xs (i + 1) (drop_next h)]
theorem p_eqSetS (a:List GSet):laws_eqSetS a a = some true:=by
  unfold laws_eqSetS
  rw [if_neg (by simp),p_eqSetS_L1 a a 0 (by simp)]
  rfl

theorem p_eqOp (x:GOp):laws_eqOp x x = some true:=by
  unfold laws_eqOp
  simp [p_eqCondS,p_eqSetS,p_eqMutS,p_eqStringS]

theorem p_eqTable (x:GTable):laws_eqTable x x = some true:=by
  unfold laws_eqTable
  simp [p_eqColumnS,p_eqIntS]

theorem p_eqTableS_L1 (b:List GTable):∀ (xs:List GTable) (i:Nat),b.drop i = xs → laws_eqTableS_L1 b xs i = some (.go ())
  | [],i,_ => by rw [laws_eqTableS_L1]
  | x :: xs,i,h => by
    rw [laws_eqTableS_L1,idx_drop h,Option.bind_some,p_eqTable,Option.bind_some,if_neg (by simp),p_eqTableS_L1 b xs (i + 1) (drop_next h)]
theorem p_eqTableS (a:List GTable):laws_eqTableS a a = some true:=by
  unfold laws_eqTableS
  rw [if_neg (by simp),p_eqTableS_L1 a a 0 (by simp)]
  rfl

theorem p_eqSchema (x:GSchema):laws_eqSchema x x = some true:=by
  unfold laws_eqSchema
  simp [p_eqTableS]

def smAtom (n:Int) (x:GAtom):Prop:=smS n x.T ∧ True
theorem smAtom_mono {n m:Int} (h:n ≤ m) {x:GAtom} (hx:smAtom n x):smAtom m x:=⟨smS_mono h hx.1,trivial⟩

theorem p_szAtom (x:GAtom) (n:Int) (h0:0 ≤ n) (h1:n ≤ 2 ^ 30) (ok:okGAtom x):∃ r,laws_szAtom x n = some r ∧ (r < 0 ∨ (0 ≤ r ∧ r ≤ n ∧ smAtom n x)):=by
  unfold laws_szAtom
  have k2:=ok.2.2
  simp only [okS,maxLen] at k2
  rw [w64_id (by omega)]
  split
  · exact ⟨_,rfl,.inl (by omega)⟩
  rename_i h12
  simp only [decide_eq_true_eq] at h12
  exact ⟨_,rfl,.inr ⟨by omega,by omega,(show smS n x.T from by unfold smS; omega),trivial⟩⟩

def smAtomS (n:Int) (l:List GAtom):Prop:=(l.length:Int) ≤ n ∧ ∀ x ∈ l,smAtom n x
theorem smAtomS_mono {n m:Int} (h:n ≤ m) {l:List GAtom} (hl:smAtomS n l):smAtomS m l:=⟨Int.le_trans hl.1 h,fun x hx => smAtom_mono h (hl.2 x hx)⟩

theorem p_szAtomS_L1:∀ (l:List GAtom) (n:Int),0 ≤ n → n ≤ 2 ^ 30 → (∀ a ∈ l,(okGAtom) a) → laws_szAtomS_L1 l n = some (.ret (-1)) ∨ ∃ r,laws_szAtomS_L1 l n = some (.go r) ∧ 0 ≤ r ∧ r ≤ n ∧ ∀ a ∈ l,smAtom n a
  | [],n,h0,h1,ok => .inr ⟨n,rfl,h0,Int.le_refl _,by simp⟩
  | a :: l,n,h0,h1,ok => by
    rw [laws_szAtomS_L1]
    obtain ⟨r,e,hr⟩:=p_szAtom a n h0 h1 (ok a (by simp))
    rw [e,Option.bind_some]
    split
    · exact .inl rfl
    · rename_i h
      simp only [decide_eq_true_eq] at h
      have hr:=hr.resolve_left h
      rcases p_szAtomS_L1 l r (by omega) (by omega) (fun x hx => ok x (by simp [hx])) with h2 | ⟨r',e',g1,g2,g3⟩
      · exact .inl h2
      · refine .inr ⟨r',e',g1,by omega,?_⟩
        intro x hx
        rcases List.mem_cons.1 hx with hx | hx
        · rw [hx]; exact hr.2.2
        · exact smAtom_mono (by omega) (g3 x hx)
theorem p_szAtomS (l:List GAtom) (n:Int) (h0:0 ≤ n) (h1:n ≤ 2 ^ 30) (ok:(okL (okGAtom)) l):∃ r,laws_szAtomS l n = some r ∧ (r < 0 ∨ (0 ≤ r ∧ r ≤ n ∧ smAtomS n l)):=by
  unfold laws_szAtomS
  have k1:=ok.1
  simp only [maxLen] at k1
  rw [w64_id (by omega)]
  split
  · exact ⟨_,rfl,.inl (by omega)⟩
  · rename_i h
    simp only [decide_eq_true_eq] at h
    rcases p_szAtomS_L1 l (n - l.length) (by omega) (by omega) ok.2 with h2 | ⟨r',e',g1,g2,g3⟩
    · exact ⟨-1,by rw [h2]; rfl,.inl (by omega)⟩
    · exact ⟨r',by rw [e']; rfl,.inr ⟨g1,by omega,by omega,fun a ha => smAtom_mono (by omega) (g3 a ha)⟩⟩

def smColumn (n:Int) (x:GColumn):Prop:=smS n x.Name ∧ smS n x.Ref ∧ True
theorem smColumn_mono {n m:Int} (h:n ≤ m) {x:GColumn} (hx:smColumn n x):smColumn m x:=⟨smS_mono h hx.1,smS_mono h hx.2.1,trivial⟩

theorem p_szColumn (x:GColumn) (n:Int) (h0:0 ≤ n) (h1:n ≤ 2 ^ 30) (ok:okGColumn x):∃ r,laws_szColumn x n = some r ∧ (r < 0 ∨ (0 ≤ r ∧ r ≤ n ∧ smColumn n x)):=by
  unfold laws_szColumn
  have k0:=ok.1
  simp only [okS,maxLen] at k0
  rw [w64_id (by omega)]
  split
  · exact ⟨_,rfl,.inl (by omega)⟩
  rename_i h10
  simp only [decide_eq_true_eq] at h10
  have k6:=ok.2.2.2.2.2.2.1
  simp only [okS,maxLen] at k6
  rw [w64_id (by omega)]
  split
  · exact ⟨_,rfl,.inl (by omega)⟩
  rename_i h16
  simp only [decide_eq_true_eq] at h16
  exact ⟨_,rfl,.inr ⟨by omega,by omega,(show smS n x.Name from by unfold smS; omega),(show smS n x.Ref from by unfold smS; omega),trivial⟩⟩

def smColumnS (n:Int) (l:List GColumn):Prop:=(l.length:Int) ≤ n ∧ ∀ x ∈ l,smColumn n x
theorem smColumnS_mono {n m:Int} (h:n ≤ m) {l:List GColumn} (hl:smColumnS n l):smColumnS m l:=⟨Int.le_trans hl.1 h,fun x hx => smColumn_mono h (hl.2 x hx)⟩

theorem p_szColumnS_L1:∀ (l:List GColumn) (n:Int),0 ≤ n → n ≤ 2 ^ 30 → (∀ a ∈ l,(okGColumn) a) → laws_szColumnS_L1 l n = some (.ret (-1)) ∨ ∃ r,laws_szColumnS_L1 l n = some (.go r) ∧ 0 ≤ r ∧ r ≤ n ∧ ∀ a ∈ l,smColumn n a
  | [],n,h0,h1,ok => .inr ⟨n,rfl,h0,Int.le_refl _,by simp⟩
  | a :: l,n,h0,h1,ok => by
    rw [laws_szColumnS_L1]
    obtain ⟨r,e,hr⟩:=p_szColumn a n h0 h1 (ok a (by simp))
    rw [e,Option.bind_some]
    split
    · exact .inl rfl
    · rename_i h
      simp only [decide_eq_true_eq] at h
      have hr:=hr.resolve_left h
      rcases p_szColumnS_L1 l r (by omega) (by omega) (fun x hx => ok x (by simp [hx])) with h2 | ⟨r',e',g1,g2,g3⟩
      · exact .inl h2
      · refine .inr ⟨r',e',g1,by omega,?_⟩
        intro x hx
        rcases List.mem_cons.1 hx with hx | hx
        · rw [hx]; exact hr.2.2
        · exact smColumn_mono (by omega) (g3 x hx)
theorem p_szColumnS (l:List GColumn) (n:Int) (h0:0 ≤ n) (h1:n ≤ 2 ^ 30) (ok:(okL (okGColumn)) l):∃ r,laws_szColumnS l n = some r ∧ (r < 0 ∨ (0 ≤ r ∧ r ≤ n ∧ smColumnS n l)):=by
  unfold laws_szColumnS
  have k1:=ok.1
  simp only [maxLen] at k1
  rw [w64_id (by omega)]
  split
  · exact ⟨_,rfl,.inl (by omega)⟩
  · rename_i h
    simp only [decide_eq_true_eq] at h
    rcases p_szColumnS_L1 l (n - l.length) (by omega) (by omega) ok.2 with h2 | ⟨r',e',g1,g2,g3⟩
    · exact ⟨-1,by rw [h2]; rfl,.inl (by omega)⟩
    · exact ⟨r',by rw [e']; rfl,.inr ⟨g1,by omega,by omega,fun a ha => smColumn_mono (by omega) (g3 a ha)⟩⟩

def smCond (n:Int) (x:GCond):Prop:=smS n x.Column ∧ smAtomS n x.Value ∧ True
theorem smCond_mono {n m:Int} (h:n ≤ m) {x:GCond} (hx:smCond n x):smCond m x:=⟨smS_mono h hx.1,smAtomS_mono h hx.2.1,trivial⟩

theorem p_szCond (x:GCond) (n:Int) (h0:0 ≤ n) (h1:n ≤ 2 ^ 30) (ok:okGCond x):∃ r,laws_szCond x n = some r ∧ (r < 0 ∨ (0 ≤ r ∧ r ≤ n ∧ smCond n x)):=by
  unfold laws_szCond
  have k0:=ok.1
  simp only [okS,maxLen] at k0
  rw [w64_id (by omega)]
  split
  · exact ⟨_,rfl,.inl (by omega)⟩
  rename_i h10
  simp only [decide_eq_true_eq] at h10
  obtain ⟨r2,e2,hr2⟩:=p_szAtomS x.Value (n - x.Column.length) (by omega) (by omega) ok.2.2
  rw [e2,Option.bind_some]
  split
  · exact ⟨_,rfl,.inl (by omega)⟩
  rename_i h12
  simp only [decide_eq_true_eq] at h12
  have hr2:=hr2.resolve_left h12
  exact ⟨_,rfl,.inr ⟨by omega,by omega,(show smS n x.Column from by unfold smS; omega),smAtomS_mono (by omega) hr2.2.2,trivial⟩⟩

def smCondS (n:Int) (l:List GCond):Prop:=(l.length:Int) ≤ n ∧ ∀ x ∈ l,smCond n x
theorem smCondS_mono {n m:Int} (h:n ≤ m) {l:List GCond} (hl:smCondS n l):smCondS m l:=⟨Int.le_trans hl.1 h,fun x hx => smCond_mono h (hl.2 x hx)⟩

theorem p_szCondS_L1:∀ (l:List GCond) (n:Int),0 ≤ n → n ≤ 2 ^ 30 → (∀ a ∈ l,(okGCond) a) → laws_szCondS_L1 l n = some (.ret (-1)) ∨ ∃ r,laws_szCondS_L1 l n = some (.go r) ∧ 0 ≤ r ∧ r ≤ n ∧ ∀ a ∈ l,smCond n a
  | [],n,h0,h1,ok => .inr ⟨n,rfl,h0,Int.le_refl _,by simp⟩
  | a :: l,n,h0,h1,ok => by
    rw [laws_szCondS_L1]
    obtain ⟨r,e,hr⟩:=p_szCond a n h0 h1 (ok a (by simp))
    rw [e,Option.bind_some]
    split
    · exact .inl rfl
    · rename_i h
      simp only [decide_eq_true_eq] at h
      have hr:=hr.resolve_left h
      rcases p_szCondS_L1 l r (by omega) (by omega) (fun x hx => ok x (by simp [hx])) with h2 | ⟨r',e',g1,g2,g3⟩
      · exact .inl h2
      · refine .inr ⟨r',e',g1,by omega,?_⟩
        intro x hx
        rcases List.mem_cons.1 hx with hx | hx
        · rw [hx]; exact hr.2.2
        · exact smCond_mono (by omega) (g3 x hx)
theorem p_szCondS (l:List GCond) (n:Int) (h0:0 ≤ n) (h1:n ≤ 2 ^ 30) (ok:(okL (okGCond)) l):∃ r,laws_szCondS l n = some r ∧ (r < 0 ∨ (0 ≤ r ∧ r ≤ n ∧ smCondS n l)):=by
  unfold laws_szCondS
  have k1:=ok.1
  simp only [maxLen] at k1
  rw [w64_id (by omega)]
  split
  · exact ⟨_,rfl,.inl (by omega)⟩
  · rename_i h
    simp only [decide_eq_true_eq] at h
    rcases p_szCondS_L1 l (n - l.length) (by omega) (by omega) ok.2 with h2 | ⟨r',e',g1,g2,g3⟩
    · exact ⟨-1,by rw [h2]; rfl,.inl (by omega)⟩
    · exact ⟨r',by rw [e']; rfl,.inr ⟨g1,by omega,by omega,fun a ha => smCond_mono (by omega) (g3 a ha)⟩⟩

def smIntS (n:Int) (l:List Int):Prop:=(l.length:Int) ≤ n ∧ ∀ x ∈ l,True
theorem smIntS_mono {n m:Int} (h:n ≤ m) {l:List Int} (hl:smIntS n l):smIntS m l:=⟨Int.le_trans hl.1 h,fun x hx => trivial⟩

theorem p_szIntS (l:List Int) (n:Int) (h0:0 ≤ n) (h1:n ≤ 2 ^ 30) (ok:(okL (okI .i64)) l):∃ r,laws_szIntS l n = some r ∧ (r < 0 ∨ (0 ≤ r ∧ r ≤ n ∧ smIntS n l)):=by
  unfold laws_szIntS
  have k1:=ok.1
  simp only [maxLen] at k1
  rw [w64_id (by omega)]
  split
  · exact ⟨_,rfl,.inl (by omega)⟩
  · rename_i h
    simp only [decide_eq_true_eq] at h
    exact ⟨_,rfl,.inr ⟨by omega,by omega,by omega,fun _ _ => trivial⟩⟩

def smMut (n:Int) (x:GMut):Prop:=smS n x.Column ∧ smAtomS n x.Value ∧ True
theorem smMut_mono {n m:Int} (h:n ≤ m) {x:GMut} (hx:smMut n x):smMut m x:=⟨smS_mono h hx.1,smAtomS_mono h hx.2.1,trivial⟩

theorem p_szMut (x:GMut) (n:Int) (h0:0 ≤ n) (h1:n ≤ 2 ^ 30) (ok:okGMut x):∃ r,laws_szMut x n = some r ∧ (r < 0 ∨ (0 ≤ r ∧ r ≤ n ∧ smMut n x)):=by
  unfold laws_szMut
  have k0:=ok.1
  simp only [okS,maxLen] at k0
  rw [w64_id (by omega)]
  split
  · exact ⟨_,rfl,.inl (by omega)⟩
  rename_i h10
  simp only [decide_eq_true_eq] at h10
  obtain ⟨r2,e2,hr2⟩:=p_szAtomS x.Value (n - x.Column.length) (by omega) (by omega) ok.2.2
  rw [e2,Option.bind_some]
  split
  · exact ⟨_,rfl,.inl (by omega)⟩
  rename_i h12
  simp only [decide_eq_true_eq] at h12
  have hr2:=hr2.resolve_left h12
  exact ⟨_,rfl,.inr ⟨by omega,by omega,(show smS n x.Column from by unfold smS; omega),smAtomS_mono (by omega) hr2.2.2,trivial⟩⟩

def smMutS (n:Int) (l:List GMut):Prop:=(l.length:Int) ≤ n ∧ ∀ x ∈ l,smMut n x
theorem smMutS_mono {n m:Int} (h:n ≤ m) {l:List GMut} (hl:smMutS n l):smMutS m l:=⟨Int.le_trans hl.1 h,fun x hx => smMut_mono h (hl.2 x hx)⟩

theorem p_szMutS_L1:∀ (l:List GMut) (n:Int),0 ≤ n → n ≤ 2 ^ 30 → (∀ a ∈ l,(okGMut) a) → laws_szMutS_L1 l n = some (.ret (-1)) ∨ ∃ r,laws_szMutS_L1 l n = some (.go r) ∧ 0 ≤ r ∧ r ≤ n ∧ ∀ a ∈ l,smMut n a
  | [],n,h0,h1,ok => .inr ⟨n,rfl,h0,Int.le_refl _,by simp⟩
  | a :: l,n,h0,h1,ok => by
    rw [laws_szMutS_L1]
    obtain ⟨r,e,hr⟩:=p_szMut a n h0 h1 (ok a (by simp))
    rw [e,Option.bind_some]
    split
    · exact .inl rfl
    · rename_i h
      simp only [decide_eq_true_eq] at h
      have hr:=hr.resolve_left h
      rcases p_szMutS_L1 l r (by omega) (by omega) (fun x hx => ok x (by simp [hx])) with h2 | ⟨r',e',g1,g2,g3⟩
      · exact .inl h2
      · refine .inr ⟨r',e',g1,by omega,?_⟩
        intro x hx
        rcases List.mem_cons.1 hx with hx | hx
        · rw [hx]; exact hr.2.2
        · exact smMut_mono (by omega) (g3 x hx)
theorem p_szMutS (l:List GMut) (n:Int) (h0:0 ≤ n) (h1:n ≤ 2 ^ 30) (ok:(okL (okGMut)) l):∃ r,laws_szMutS l n = some r ∧ (r < 0 ∨ (0 ≤ r ∧ r ≤ n ∧ smMutS n l)):=by
  unfold laws_szMutS
  have k1:=ok.1
  simp only [maxLen] at k1
  rw [w64_id (by omega)]
  split
  · exact ⟨_,rfl,.inl (by omega)⟩
  · rename_i h
    simp only [decide_eq_true_eq] at h
    rcases p_szMutS_L1 l (n - l.length) (by omega) (by omega) ok.2 with h2 | ⟨r',e',g1,g2,g3⟩
    · exact ⟨-1,by rw [h2]; rfl,.inl (by omega)⟩
    · exact ⟨r',by rw [e']; rfl,.inr ⟨g1,by omega,by omega,fun a ha => smMut_mono (by omega) (g3 a ha)⟩⟩

def smStringS (n:Int) (l:List Str):Prop:=(l.length:Int) ≤ n ∧ ∀ x ∈ l,smS n x
theorem smStringS_mono {n m:Int} (h:n ≤ m) {l:List Str} (hl:smStringS n l):smStringS m l:=⟨Int.le_trans hl.1 h,fun x hx => smS_mono h (hl.2 x hx)⟩

def smSet (n:Int) (x:GSet):Prop:=smS n x.Column ∧ smAtomS n x.Value ∧ smStringS n x.Names ∧ True
theorem smSet_mono {n m:Int} (h:n ≤ m) {x:GSet} (hx:smSet n x):smSet m x:=⟨smS_mono h hx.1,smAtomS_mono h hx.2.1,smStringS_mono h hx.2.2.1,trivial⟩

def smSetS (n:Int) (l:List GSet):Prop:=(l.length:Int) ≤ n ∧ ∀ x ∈ l,smSet n x
theorem smSetS_mono {n m:Int} (h:n ≤ m) {l:List GSet} (hl:smSetS n l):smSetS m l:=⟨Int.le_trans hl.1 h,fun x hx => smSet_mono h (hl.2 x hx)⟩

def smOp (n:Int) (x:GOp):Prop:=smS n x.Table ∧ smS n x.Name ∧ smCondS n x.Where ∧ smSetS n x.Row ∧ smMutS n x.Muts ∧ smStringS n x.Columns ∧ True
theorem smOp_mono {n m:Int} (h:n ≤ m) {x:GOp} (hx:smOp n x):smOp m x:=⟨smS_mono h hx.1,smS_mono h hx.2.1,smCondS_mono h hx.2.2.1,smSetS_mono h hx.2.2.2.1,smMutS_mono h hx.2.2.2.2.1,smStringS_mono h hx.2.2.2.2.2.1,trivial⟩

theorem p_szStringS_L1:∀ (l:List Str) (n:Int),0 ≤ n → n ≤ 2 ^ 30 → (∀ a ∈ l,(okS) a) → laws_szStringS_L1 l n = some (.ret (-1)) ∨ ∃ r,laws_szStringS_L1 l n = some (.go r) ∧ 0 ≤ r ∧ r ≤ n ∧ ∀ a ∈ l,smS n a
  | [],n,h0,h1,ok => .inr ⟨n,rfl,h0,Int.le_refl _,by simp⟩
  | a :: l,n,h0,h1,ok => by
    rw [laws_szStringS_L1]
    have k1:=ok a (by simp)
    simp only [okS,maxLen] at k1
    rw [w64_id (by omega)]
    split
    · exact .inl rfl
    · rename_i h
      simp only [decide_eq_true_eq] at h
      rcases p_szStringS_L1 l (n - a.length) (by omega) (by omega) (fun x hx => ok x (by simp [hx])) with h2 | ⟨r',e',g1,g2,g3⟩
      · exact .inl h2
      · refine .inr ⟨r',e',g1,by omega,?_⟩
        intro x hx
        rcases List.mem_cons.1 hx with hx | hx
        · rw [hx]; exact (show smS n a from by unfold smS; omega)
        · exact smS_mono (by omega) (g3 x hx)
theorem p_szStringS (l:List Str) (n:Int) (h0:0 ≤ n) (h1:n ≤ 2 ^ 30) (ok:(okL (okS)) l):∃ r,laws_szStringS l n = some r ∧ (r < 0 ∨ (0 ≤ r ∧ r ≤ n ∧ smStringS n l)):=by
  unfold laws_szStringS
  have k1:=ok.1
  simp only [maxLen] at k1
  rw [w64_id (by omega)]
  split
  · exact ⟨_,rfl,.inl (by omega)⟩
  · rename_i h
    simp only [decide_eq_true_eq] at h
    rcases p_szStringS_L1 l (n - l.length) (by omega) (by omega) ok.2 with h2 | ⟨r',e',g1,g2,g3⟩
    · exact ⟨-1,by rw [h2]; rfl,.inl (by omega)⟩
    · exact ⟨r',by rw [e']; rfl,.inr ⟨g1,by omega,by omega,fun a ha => smS_mono (by omega) (g3 a ha)⟩⟩

theorem p_szSet (x:GSet) (n:Int) (h0:0 ≤ n) (h1:n ≤ 2 ^ 30) (ok:okGSet x):∃ r,laws_szSet x n = some r ∧ (r < 0 ∨ (0 ≤ r ∧ r ≤ n ∧ smSet n x)):=by
  unfold laws_szSet
  have k0:=ok.1
  simp only [okS,maxLen] at k0
  rw [w64_id (by omega)]
  split
  · exact ⟨_,rfl,.inl (by omega)⟩
  rename_i h10
  simp only [decide_eq_true_eq] at h10
  obtain ⟨r1,e1,hr1⟩:=p_szAtomS x.Value (n - x.Column.length) (by omega) (by omega) ok.2.1
  rw [e1,Option.bind_some]
  split
  · exact ⟨_,rfl,.inl (by omega)⟩
  rename_i h11
  simp only [decide_eq_true_eq] at h11
  have hr1:=hr1.resolve_left h11
  obtain ⟨r2,e2,hr2⟩:=p_szStringS x.Names r1 (by omega) (by omega) ok.2.2
  rw [e2,Option.bind_some]
  split
  · exact ⟨_,rfl,.inl (by omega)⟩
  rename_i h12
  simp only [decide_eq_true_eq] at h12
  have hr2:=hr2.resolve_left h12
  exact ⟨_,rfl,.inr ⟨by omega,by omega,(show smS n x.Column from by unfold smS; omega),smAtomS_mono (by omega) hr1.2.2,smStringS_mono (by omega) hr2.2.2,trivial⟩⟩

theorem p_szSetS_L1:∀ (l:List GSet) (n:Int),0 ≤ n → n ≤ 2 ^ 30 → (∀ a ∈ l,(okGSet) a) → laws_szSetS_L1 l n = some (.ret (-1)) ∨ ∃ r,laws_szSetS_L1 l n = some (.go r) ∧ 0 ≤ r ∧ r ≤ n ∧ ∀ a ∈ l,smSet n a
  | [],n,h0,h1,ok => .inr ⟨n,rfl,h0,Int.le_refl _,by simp⟩
  | a :: l,n,h0,h1,ok => by
    rw [laws_szSetS_L1]
    obtain ⟨r,e,hr⟩:=p_szSet a n h0 h1 (ok a (by simp))
    rw [e,Option.bind_some]
    split
    · exact .inl rfl
    · rename_i h
      simp only [decide_eq_true_eq] at h
      have hr:=hr.resolve_left h
      rcases p_szSetS_L1 l r (by omega) (by omega) (fun x hx => ok x (by simp [hx])) with h2 | ⟨r',e',g1,g2,g3⟩
      · exact .inl h2
      · refine .inr ⟨r',e',g1,by omega,?_⟩
        intro x hx
        rcases List.mem_cons.1 hx with hx | hx
        · rw [hx]; exact hr.2.2
        · exact smSet_mono (by omega) (g3 x hx)
theorem p_szSetS (l:List GSet) (n:Int) (h0:0 ≤ n) (h1:n ≤ 2 ^ 30) (ok:(okL (okGSet)) l):∃ r,laws_szSetS l n = some r ∧ (r < 0 ∨ (0 ≤ r ∧ r ≤ n ∧ smSetS n l)):=by
  unfold laws_szSetS
  have k1:=ok.1
  simp only [maxLen] at k1
  rw [w64_id (by omega)]
  split
  · exact ⟨_,rfl,.inl (by omega)⟩
  · rename_i h
    simp only [decide_eq_true_eq] at h
    rcases p_szSetS_L1 l (n - l.length) (by omega) (by omega) ok.2 with h2 | ⟨r',e',g1,g2,g3⟩
    · exact ⟨-1,by rw [h2]; rfl,.inl (by omega)⟩
    · exact ⟨r',by rw [e']; rfl,.inr ⟨g1,by omega,by omega,fun a ha => smSet_mono (by omega) (g3 a ha)⟩⟩

theorem p_szOp (x:GOp) (n:Int) (h0:0 ≤ n) (h1:n ≤ 2 ^ 30) (ok:okGOp x):∃ r,laws_szOp x n = some r ∧ (r < 0 ∨ (0 ≤ r ∧ r ≤ n ∧ smOp n x)):=by
  unfold laws_szOp
  have k1:=ok.2.1
  simp only [okS,maxLen] at k1
  rw [w64_id (by omega)]
  split
  · exact ⟨_,rfl,.inl (by omega)⟩
  rename_i h11
  simp only [decide_eq_true_eq] at h11
  have k2:=ok.2.2.1
  simp only [okS,maxLen] at k2
  rw [w64_id (by omega)]
  split
  · exact ⟨_,rfl,.inl (by omega)⟩
  rename_i h12
  simp only [decide_eq_true_eq] at h12
  obtain ⟨r3,e3,hr3⟩:=p_szCondS x.Where ((n - x.Table.length) - x.Name.length) (by omega) (by omega) ok.2.2.2.1
  rw [e3,Option.bind_some]
  split
  · exact ⟨_,rfl,.inl (by omega)⟩
  rename_i h13
  simp only [decide_eq_true_eq] at h13
  have hr3:=hr3.resolve_left h13
  obtain ⟨r4,e4,hr4⟩:=p_szSetS x.Row r3 (by omega) (by omega) ok.2.2.2.2.1
  rw [e4,Option.bind_some]
  split
  · exact ⟨_,rfl,.inl (by omega)⟩
  rename_i h14
  simp only [decide_eq_true_eq] at h14
  have hr4:=hr4.resolve_left h14
  obtain ⟨r5,e5,hr5⟩:=p_szMutS x.Muts r4 (by omega) (by omega) ok.2.2.2.2.2.1
  rw [e5,Option.bind_some]
  split
  · exact ⟨_,rfl,.inl (by omega)⟩
  rename_i h15
  simp only [decide_eq_true_eq] at h15
  have hr5:=hr5.resolve_left h15
  obtain ⟨r6,e6,hr6⟩:=p_szStringS x.Columns r5 (by omega) (by omega) ok.2.2.2.2.2.2.1
  rw [e6,Option.bind_some]
  split
  · exact ⟨_,rfl,.inl (by omega)⟩
  rename_i h16
  simp only [decide_eq_true_eq] at h16
  have hr6:=hr6.resolve_left h16
  exact ⟨_,rfl,.inr ⟨by omega,by omega,(show smS n x.Table from by unfold smS; omega),(show smS n x.Name from by unfold smS; omega),smCondS_mono (by omega) hr3.2.2,smSetS_mono (by omega) hr4.2.2,smMutS_mono (by omega) hr5.2.2,smStringS_mono (by omega) hr6.2.2,trivial⟩⟩

def smTable (n:Int) (x:GTable):Prop:=smS n x.Name ∧ smColumnS n x.Columns ∧ smIntS n x.Unique ∧ True
theorem smTable_mono {n m:Int} (h:n ≤ m) {x:GTable} (hx:smTable n x):smTable m x:=⟨smS_mono h hx.1,smColumnS_mono h hx.2.1,smIntS_mono h hx.2.2.1,trivial⟩

def smTableS (n:Int) (l:List GTable):Prop:=(l.length:Int) ≤ n ∧ ∀ x ∈ l,smTable n x
theorem smTableS_mono {n m:Int} (h:n ≤ m) {l:List GTable} (hl:smTableS n l):smTableS m l:=⟨Int.le_trans hl.1 h,fun x hx => smTable_mono h (hl.2 x hx)⟩

def smSchema (n:Int) (x:GSchema):Prop:=smTableS n x.Tables ∧ True
theorem smSchema_mono {n m:Int} (h:n ≤ m) {x:GSchema} (hx:smSchema n x):smSchema m x:=⟨smTableS_mono h hx.1,trivial⟩

theorem p_szTable (x:GTable) (n:Int) (h0:0 ≤ n) (h1:n ≤ 2 ^ 30) (ok:okGTable x):∃ r,laws_szTable x n = some r ∧ (r < 0 ∨ (0 ≤ r ∧ r ≤ n ∧ smTable n x)):=by
  unfold laws_szTable
  have k0:=ok.1
  simp only [okS,maxLen] at k0
  rw [w64_id (by omega)]
  split
  · exact ⟨_,rfl,.inl (by omega)⟩
  rename_i h10
  simp only [decide_eq_true_eq] at h10
  obtain ⟨r1,e1,hr1⟩:=p_szColumnS x.Columns (n - x.Name.length) (by omega) (by omega) ok.2.1
  rw [e1,Option.bind_some]
  split
  · exact ⟨_,rfl,.inl (by omega)⟩
  rename_i h11
  simp only [decide_eq_true_eq] at h11
  have hr1:=hr1.resolve_left h11
  obtain ⟨r2,e2,hr2⟩:=p_szIntS x.Unique r1 (by omega) (by omega) ok.2.2.1
  rw [e2,Option.bind_some]
  split
  · exact ⟨_,rfl,.inl (by omega)⟩
  rename_i h12
  simp only [decide_eq_true_eq] at h12
  have hr2:=hr2.resolve_left h12
  exact ⟨_,rfl,.inr ⟨by omega,by omega,(show smS n x.Name from by unfold smS; omega),smColumnS_mono (by omega) hr1.2.2,smIntS_mono (by omega) hr2.2.2,trivial⟩⟩

theorem p_szTableS_L1:∀ (l:List GTable) (n:Int),0 ≤ n → n ≤ 2 ^ 30 → (∀ a ∈ l,(okGTable) a) → laws_szTableS_L1 l n = some (.ret (-1)) ∨ ∃ r,laws_szTableS_L1 l n = some (.go r) ∧ 0 ≤ r ∧ r ≤ n ∧ ∀ a ∈ l,smTable n a
  | [],n,h0,h1,ok => .inr ⟨n,rfl,h0,Int.le_refl _,by simp⟩
  | a :: l,n,h0,h1,ok => by
    rw [laws_szTableS_L1]
    obtain ⟨r,e,hr⟩:=p_szTable a n h0 h1 (ok a (by simp))
    rw [e,Option.bind_some]
    split
    · exact .inl rfl
    · rename_i h
      simp only [decide_eq_true_eq] at h
      have hr:=hr.resolve_left h
      rcases p_szTableS_L1 l r (by omega) (by omega) (fun x hx => ok x (by simp [hx])) with h2 | ⟨r',e',g1,g2,g3⟩
      · exact .inl h2
      · refine .inr ⟨r',e',g1,by omega,?_⟩
        intro x hx
        rcases List.mem_cons.1 hx with hx | hx
        · rw [hx]; exact hr.2.2
        · exact smTable_mono (by omega) (g3 x hx)
theorem p_szTableS (l:List GTable) (n:Int) (h0:0 ≤ n) (h1:n ≤ 2 ^ 30) (ok:(okL (okGTable)) l):∃ r,laws_szTableS l n = some r ∧ (r < 0 ∨ (0 ≤ r ∧ r ≤ n ∧ smTableS n l)):=by
  unfold laws_szTableS
  have k1:=ok.1
  simp only [maxLen] at k1
  rw [w64_id (by omega)]
  split
  · exact ⟨_,rfl,.inl (by omega)⟩
  · rename_i h
    simp only [decide_eq_true_eq] at h
    rcases p_szTableS_L1 l (n - l.length) (by omega) (by omega) ok.2 with h2 | ⟨r',e',g1,g2,g3⟩
    · exact ⟨-1,by rw [h2]; rfl,.inl (by omega)⟩
    · exact ⟨r',by rw [e']; rfl,.inr ⟨g1,by omega,by omega,fun a ha => smTable_mono (by omega) (g3 a ha)⟩⟩

theorem p_szSchema (x:GSchema) (n:Int) (h0:0 ≤ n) (h1:n ≤ 2 ^ 30) (ok:okGSchema x):∃ r,laws_szSchema x n = some r ∧ (r < 0 ∨ (0 ≤ r ∧ r ≤ n ∧ smSchema n x)):=by
  unfold laws_szSchema
  obtain ⟨r0,e0,hr0⟩:=p_szTableS x.Tables n (by omega) (by omega) ok
  rw [e0,Option.bind_some]
  split
  · exact ⟨_,rfl,.inl (by omega)⟩
  rename_i h10
  simp only [decide_eq_true_eq] at h10
  have hr0:=hr0.resolve_left h10
  exact ⟨_,rfl,.inr ⟨by omega,by omega,smTableS_mono (by omega) hr0.2.2,trivial⟩⟩

theorem p_toAtom (x:GAtom) (h:smAtom (2 ^ 30) x):laws_toAtom x = some x:=by
  unfold laws_toAtom
  rfl

theorem p_toAtomS_L1:∀ (xs:List GAtom) (i:Nat) (out:List GAtom),(∀ a ∈ xs,smAtom (2 ^ 30) a) → i + xs.length = out.length → laws_toAtomS_L1 xs i out = some (out.take i ++ xs)
  | [],i,out,_,h => by
    rw [laws_toAtomS_L1]; simp at h; rw [h]; simp
  | x :: xs,i,out,hx,h => by
    rw [laws_toAtomS_L1]
    have hi:i < out.length:=by simp at h; omega
    rw [p_toAtom x (hx x (by simp)),Option.bind_some,if_pos hi,List.getElem?_eq_getElem hi,Option.bind_some,p_toAtomS_L1 xs (i + 1) _ (fun a ha => hx a (by simp [ha])) (by simp at h ⊢; omega),set_fill _ _ _ _ hi]
theorem p_toAtomS (a:List GAtom) (h:smAtomS (2 ^ 30) a):laws_toAtomS a = some a:=by
  unfold laws_toAtomS
  rw [if_pos h.1,p_toAtomS_L1 a 0 _ (fun a ha => h.2 a ha) (by simp)]
  rfl

theorem p_toColumn (x:GColumn) (h:smColumn (2 ^ 30) x):laws_toColumn x = some x:=by
  unfold laws_toColumn
  rfl

theorem p_toColumnS_L1:∀ (xs:List GColumn) (i:Nat) (out:List GColumn),(∀ a ∈ xs,smColumn (2 ^ 30) a) → i + xs.length = out.length → laws_toColumnS_L1 xs i out = some (out.take i ++ xs)
  | [],i,out,_,h => by
    rw [laws_toColumnS_L1]; simp at h; rw [h]; simp
  | x :: xs,i,out,hx,h => by
    rw [laws_toColumnS_L1]
    have hi:i < out.length:=by simp at h; omega
    rw [p_toColumn x (hx x (by simp)),Option.bind_some,if_pos hi,List.getElem?_eq_getElem hi,Option.bind_some,p_toColumnS_L1 xs (i + 1) _ (fun a ha => hx a (by simp [ha])) (by simp at h ⊢; omega),set_fill _ _ _ _ hi]
theorem p_toColumnS (a:List GColumn) (h:smColumnS (2 ^ 30) a):laws_toColumnS a = some a:=by
  unfold laws_toColumnS
  rw [if_pos h.1,p_toColumnS_L1 a 0 _ (fun a ha => h.2 a ha) (by simp)]
  rfl

theorem p_toCond (x:GCond) (h:smCond (2 ^ 30) x):laws_toCond x = some x:=by
  unfold laws_toCond
  simp only [p_toAtomS x.Value h.2.1,Option.bind_some]

theorem p_toCondS_L1:∀ (xs:List GCond) (i:Nat) (out:List GCond),(∀ a ∈ xs,smCond (2 ^ 30) a) → i + xs.length = out.length → laws_toCondS_L1 xs i out = some (out.take i ++ xs)
  | [],i,out,_,h => by
    rw [laws_toCondS_L1]; simp at h; rw [h]; simp
  | x :: xs,i,out,hx,h => by
    rw [laws_toCondS_L1]
    have hi:i < out.length:=by simp at h; omega
    rw [p_toCond x (hx x (by simp)),Option.bind_some,if_pos hi,List.getElem?_eq_getElem hi,Option.bind_some,p_toCondS_L1 xs (i + 1) _ (fun a ha => hx a (by simp [ha])) (by simp at h ⊢; omega),set_fill _ _ _ _ hi]
theorem p_toCondS (a:List GCond) (h:smCondS (2 ^ 30) a):laws_toCondS a = some a:=by
  unfold laws_toCondS
  rw [if_pos h.1,p_toCondS_L1 a 0 _ (fun a ha => h.2 a ha) (by simp)]
  rfl

theorem p_toIntS_L1:∀ (xs:List Int) (i:Nat) (out:List Int),(∀ a ∈ xs,(fun _ _ => True) (2 ^ 30) a) → i + xs.length = out.length → laws_toIntS_L1 xs i out = some (out.take i ++ xs)
  | [],i,out,_,h => by
    rw [laws_toIntS_L1]; simp at h; rw [h]; simp
  | x :: xs,i,out,hx,h => by
    rw [laws_toIntS_L1]
    have hi:i < out.length:=by simp at h; omega
    rw [if_pos hi,List.getElem?_eq_getElem hi,Option.bind_some,p_toIntS_L1 xs (i + 1) _ (fun a ha => hx a (by simp [ha])) (by simp at h ⊢; omega),set_fill _ _ _ _ hi]
theorem p_toIntS (a:List Int) (h:smIntS (2 ^ 30) a):laws_toIntS a = some a:=by
  unfold laws_toIntS
  rw [if_pos h.1,p_toIntS_L1 a 0 _ (fun _ _ => trivial) (by simp)]
  rfl

theorem p_toMut (x:GMut) (h:smMut (2 ^ 30) x):laws_toMut x = some x:=by
  unfold laws_toMut
  simp only [p_toAtomS x.Value h.2.1,Option.bind_some]

theorem p_toMutS_L1:∀ (xs:List GMut) (i:Nat) (out:List GMut),(∀ a ∈ xs,smMut (2 ^ 30) a) → i + xs.length = out.length → laws_toMutS_L1 xs i out = some (out.take i ++ xs)
  | [],i,out,_,h => by
    rw [laws_toMutS_L1]; simp at h; rw [h]; simp
  | x :: xs,i,out,hx,h => by
    rw [laws_toMutS_L1]
    have hi:i < out.length:=by simp at h; omega
    rw [p_toMut x (hx x (by simp)),Option.bind_some,if_pos hi,List.getElem?_eq_getElem hi,Option.bind_some,p_toMutS_L1 xs (i + 1) _ (fun a ha => hx a (by simp [ha])) (by simp at h ⊢; omega),set_fill _ _ _ _ hi]
theorem p_toMutS (a:List GMut) (h:smMutS (2 ^ 30) a):laws_toMutS a = some a:=by
  unfold laws_toMutS
  rw [if_pos h.1,p_toMutS_L1 a 0 _ (fun a ha => h.2 a ha) (by simp)]
  rfl

theorem p_toStringS_L1:∀ (xs:List Str) (i:Nat) (out:List Str),(∀ a ∈ xs,smS (2 ^ 30) a) → i + xs.length = out.length → laws_toStringS_L1 xs i out = some (out.take i ++ xs)
  | [],i,out,_,h => by
    rw [laws_toStringS_L1]; simp at h; rw [h]; simp
  | x :: xs,i,out,hx,h => by
    rw [laws_toStringS_L1]
    have hi:i < out.length:=by simp at h; omega
    rw [if_pos hi,List.getElem?_eq_getElem hi,Option.bind_some,p_toStringS_L1 xs (i + 1) _ (fun a ha => hx a (by simp [ha])) (by simp at h ⊢; omega),set_fill _ _ _ _ hi]
theorem p_toStringS (a:List Str) (h:smStringS (2 ^ 30) a):laws_toStringS a = some a:=by
  unfold laws_toStringS
  rw [if_pos h.1,p_toStringS_L1 a 0 _ (fun a ha => h.2 a ha) (by simp)]
  rfl

theorem p_toSet (x:GSet) (h:smSet (2 ^ 30) x):laws_toSet x = some x:=by
  unfold laws_toSet
  simp only [p_toAtomS x.Value h.2.1,Option.bind_some,p_toStringS x.Names h.2.2.1,Option.bind_some]

theorem p_toSetS_L1:∀ (xs:List GSet) (i:Nat) (out:List GSet),(∀ a ∈ xs,smSet (2 ^ 30) a) → i + xs.length = out.length → laws_toSetS_L1 xs i out = some (out.take i ++ xs)
  | [],i,out,_,h => by
    rw [laws_toSetS_L1]; simp at h; rw [h]; simp
  | x :: xs,i,out,hx,h => by
    rw [laws_toSetS_L1]
    have hi:i < out.length:=by simp at h; omega
    rw [p_toSet x (hx x (by simp)),Option.bind_some,if_pos hi,List.getElem?_eq_getElem hi,Option.bind_some,p_toSetS_L1 xs (i + 1) _ (fun a ha => hx a (by simp [ha])) (by simp at h ⊢; omega),set_fill _ _ _ _ hi]
theorem p_toSetS (a:List GSet) (h:smSetS (2 ^ 30) a):laws_toSetS a = some a:=by
  unfold laws_toSetS
  rw [if_pos h.1,p_toSetS_L1 a 0 _ (fun a ha => h.2 a ha) (by simp)]
  rfl

theorem p_toOp (x:GOp) (h:smOp (2 ^ 30) x):laws_toOp x = some x:=by
  unfold laws_toOp
  simp only [p_toCondS x.Where h.2.2.1,Option.bind_some,p_toSetS x.Row h.2.2.2.1,Option.bind_some,p_toMutS x.Muts h.2.2.2.2.1,Option.bind_some,p_toStringS x.Columns h.2.2.2.2.2.1,Option.bind_some]

theorem p_toTable (x:GTable) (h:smTable (2 ^ 30) x):laws_toTable x = some x:=by
  unfold laws_toTable
  simp only [p_toColumnS x.Columns h.2.1,Option.bind_some,p_toIntS x.Unique h.2.2.1,Option.bind_some]

theorem p_toTableS_L1:∀ (xs:List GTable) (i:Nat) (out:List GTable),(∀ a ∈ xs,smTable (2 ^ 30) a) → i + xs.length = out.length → laws_toTableS_L1 xs i out = some (out.take i ++ xs)
  | [],i,out,_,h => by
    rw [laws_toTableS_L1]; simp at h; rw [h]; simp
  | x :: xs,i,out,hx,h => by
    rw [laws_toTableS_L1]
    have hi:i < out.length:=by simp at h; omega
    rw [p_toTable x (hx x (by simp)),Option.bind_some,if_pos hi,List.getElem?_eq_getElem hi,Option.bind_some,p_toTableS_L1 xs (i + 1) _ (fun a ha => hx a (by simp [ha])) (by simp at h ⊢; omega),set_fill _ _ _ _ hi]
theorem p_toTableS (a:List GTable) (h:smTableS (2 ^ 30) a):laws_toTableS a = some a:=by
  unfold laws_toTableS
  rw [if_pos h.1,p_toTableS_L1 a 0 _ (fun a ha => h.2 a ha) (by simp)]
  rfl

theorem p_toSchema (x:GSchema) (h:smSchema (2 ^ 30) x):laws_toSchema x = some x:=by
  unfold laws_toSchema
  simp only [p_toTableS x.Tables h.1,Option.bind_some]
end Go.R
