import Derived.Test.YtldahjcikmpifaaGreatC2
set_option linter.all false
namespace Go.R
open Go
inductive AX where
 | t (n:Nat)
 | c (v:AV)
inductive AOp where
 | mov (x:AX)
 | pick (c a b:AX)
 | load (sz:Nat) (ag:Bool) (a:AX)
 | faddr (off:Nat) (a:AX)
 | field (off sz:Nat) (ag:Bool) (x:AX)
 | iaddr (sz:Nat) (x i:AX)
 | idxs (x i:AX)
 | slice (sz:Nat) (x:AX) (lo hi:Option AX)
 | sliceS (x:AX) (lo hi:Option AX)
 | bin (op:BinOp) (x y:AX)
 | eqB (ng:Bool) (x y:AX)
 | eqs (ng:Bool) (ks:List Nat) (x y:AX)
 | not (x:AX)
 | neg (x:AX)
 | len (x:AX)
 | lenS (x:AX)
 | mnmx (mx:Bool) (x y:AX)
 | extract (i:Nat) (x:AX)
 | mkfn (f:Nat) (caps:List AX)
 | nilck (x:AX)
 | convI (k:IntKind) (x:AX)
 | build (zero:List AV) (parts:List (Nat × Nat × AX))
 | box (sz:Nat) (x:AX)
 | mkslice (sz bytes:Nat) (zero:AV) (n c:AX)
 | bslice (sz:Nat) (xs:List AX)
 | append (sz bytes:Nat) (s x:AX)
 | store (sz:Nat) (a x:AX)
 | call (f:Nat) (args:List AX)
 | calv (x:AX) (args:List AX)
 | convBS (x:AX)
 | isnil (ng:Bool) (x:AX)
 | clr (sz:Nat) (zero:AV) (x:AX)
 | sl3 (x lo hi mx:AX)
 | cap (x:AX)
 | appz (sz bytes:Nat) (zero:AV) (s n:AX)
 | mkmap
 | mapset (m k x:AX)
 | mapget (z:AV) (m k:AX)
 | isnilp (ng:Bool) (x:AX)
 | never
def AX.ev (t:Nat → AV):AX → AV
 | .t n => t n
 | .c v => v
def ldV (el:AV) (f sz:Nat) (ag:Bool):AV :=
 match el with
 | .agg cs => match ag with
  | true => .agg ((cs.drop f).take sz)
  | false => cs.getD f .undef
 | v => v
def ldP (el:AV) (f sz:Nat) (ag:Bool):Prop :=
 match el with
 | .agg cs => match ag with
  | true => f + sz ≤ cs.length
  | false => f < cs.length
 | .undef => False
 | .skip => False
 | .tup _ => False
 | _ => ag = false ∧ f = 0
def c8h (op:BinOp) (x y:AV):AV :=
 match op,x,y with
 | .add,.int k a,.int _ b => .int k (k.wrap (a + b))
 | .sub,.int k a,.int _ b => .int k (k.wrap (a - b))
 | .mul,.int k a,.int _ b => .int k (k.wrap (a * b))
 | .quo,.int k a,.int _ b => .int k (k.wrap (a.tdiv b))
 | .rem,.int k a,.int _ b => .int k (a.tmod b)
 | .shr,.int k a,.int _ b => .int k (a.fdiv (2 ^ (min b.toNat k.bits)))
 | .eql,.int _ a,.int _ b => .bool (a == b)
 | .neq,.int _ a,.int _ b => .bool (a != b)
 | .lss,.int _ a,.int _ b => .bool (decide (a < b))
 | .leq,.int _ a,.int _ b => .bool (decide (a ≤ b))
 | .gtr,.int _ a,.int _ b => .bool (decide (a > b))
 | .geq,.int _ a,.int _ b => .bool (decide (a ≥ b))
 | .add,.str a,.str b => .str (a ++ b)
 | .eql,.str a,.str b => .bool (a == b)
 | .neq,.str a,.str b => .bool !(a == b)
 | .lss,.str a,.str b => .bool (Op.bytesLess a b)
 | .leq,.str a,.str b => .bool (Op.bytesLess a b || a == b)
 | .gtr,.str a,.str b => .bool !(Op.bytesLess a b || a == b)
 | .geq,.str a,.str b => .bool !(Op.bytesLess a b)
 | _,_,_ => .undef
def d0r (op:BinOp) (x y:AV):Prop :=
 match op,x,y with
 | .add,.int k _,.int k' _ => k = k'
 | .sub,.int k _,.int k' _ => k = k'
 | .mul,.int k _,.int k' _ => k = k'
 | .quo,.int k _,.int k' b => k = k' ∧ b ≠ 0
 | .rem,.int k _,.int k' b => k = k' ∧ b ≠ 0
 | .shr,.int _ _,.int _ b => 0 ≤ b
 | .eql,.int k _,.int k' _ => k = k'
 | .neq,.int k _,.int k' _ => k = k'
 | .lss,.int k _,.int k' _ => k = k'
 | .leq,.int k _,.int k' _ => k = k'
 | .gtr,.int k _,.int k' _ => k = k'
 | .geq,.int k _,.int k' _ => k = k'
 | .add,.str a,.str b => a.length + b.length ≤ maxLen
 | .eql,.str _,.str _ => True
 | .neq,.str _,.str _ => True
 | .lss,.str _,.str _ => True
 | .leq,.str _,.str _ => True
 | .gtr,.str _,.str _ => True
 | .geq,.str _,.str _ => True
 | _,_,_ => False
def c2s:AV → AV → Bool
 | .int _ a,.int _ b => a == b
 | .bool a,.bool b => a == b
 | .str a,.str b => a == b
 | _,_ => false
def b8i:List AV → List AV → Bool
 | a :: as,b :: bs => c2s a b && b8i as bs
 | _,_ => true
def cellP (k:Nat) (a b:AV):Prop :=
 match a,b with
 | .int j _,.int j' _ => k = 0 ∧ j = j'
 | .bool _,.bool _ => k = 1
 | .str _,.str _ => k = 2
 | _,_ => False
def b9o:List Nat → List AV → List AV → Prop
 | [],[],[] => True
 | k :: ks,a :: as,b :: bs => cellP k a b ∧ b9o ks as bs
 | _,_,_ => False
def a7h (h:List y9) (a:AV):Prop :=
 match a with
 | .undef => False
 | .hdr _ _ _ => False
 | .skip => False
 | .tup _ => False
 | .own o _ _ => match h[o]? with
  | some (.row _ _) => True
  | _ => False
 | .ptr o _ _ => match h[o]? with
  | some (.row _ _) => True
  | some (.box _ _) => True
  | _ => False
 | _ => True
def putCells (cs:List AV) (off:Nat) (new:List AV):List AV:=cs.take off ++ new ++ cs.drop (off + new.length)
def c4a (zero:List AV) (e:AX → AV):List (Nat × Nat × AX) → List AV
 | [] => zero
 | (off,_,x) :: rest => c4a (putCells zero off (e x).cells) e rest
def c5r (h:List y9) (n:Nat) (e:AX → AV):List (Nat × Nat × AX) → Prop
 | [] => True
 | (off,sz,x) :: rest => ((e x).cells.length = sz ∧ off + sz ≤ n ∧ a7h h (e x)) ∧ c5r h n e rest
def d2c (lo hi:AV) (n:Nat):Prop :=
 match lo,hi with
 | .int _ a,.int _ b => 0 ≤ a ∧ a ≤ b ∧ b ≤ n
 | _,_ => False
def b4n (x:AV) (lo hi:Option AV):AV :=
 match x,lo,hi with
 | .lst z l,none,none => .lst z l
 | .lst z l,none,some (.int _ b) => .lst z (l.take b.toNat)
 | .lst z l,some (.int _ a),none => .lst z (l.drop a.toNat)
 | .lst z l,some (.int _ a),some (.int _ b) => .lst z ((l.drop a.toNat).take (b.toNat - a.toNat))
 | .own o l n,none,none => .own o l n
 | .own o l n,none,some (.int _ b) => .own o l b.toNat
 | .own o l n,some (.int _ a),none => .own o (l + a.toNat) (n - a.toNat)
 | .own o l n,some (.int _ a),some (.int _ b) => .own o (l + a.toNat) (b.toNat - a.toNat)
 | .str s,none,none => .str s
 | .str s,none,some (.int _ b) => .str (s.take b.toNat)
 | .str s,some (.int _ a),none => .str (s.drop a.toNat)
 | .str s,some (.int _ a),some (.int _ b) => .str ((s.drop a.toNat).take (b.toNat - a.toNat))
 | .nil,_,_ => .nil
 | _,_,_ => .undef
def c8i (x:AV) (lo hi:Option AV):Prop :=
 match x with
 | .lst _ l => d2c (lo.getD (.int .i64 0)) (hi.getD (.int .i64 l.length)) l.length
 | .own _ _ n => d2c (lo.getD (.int .i64 0)) (hi.getD (.int .i64 n)) n
 | .str s => d2c (lo.getD (.int .i64 0)) (hi.getD (.int .i64 s.length)) s.length
 | .nil => d2c (lo.getD (.int .i64 0)) (hi.getD (.int .i64 0)) 0
 | _ => False
def d9p (h:List y9) (sz:Nat) (x:AV):Prop :=
 match x with
 | .lst z _ => z = sz
 | .own o _ _ => match h[o]? with
  | some (.row z _) => z = sz
  | _ => False
 | .nil => True
 | _ => False
def AOp.quiet:AOp → Bool
 | .box .. => false
 | .mkslice .. => false
 | .bslice .. => false
 | .append .. => false
 | .store .. => false
 | .call .. => false
 | .calv .. => false
 | .convBS .. => false
 | .isnil .. => false
 | .clr .. => false
 | .sl3 .. => false
 | .cap .. => false
 | .appz .. => false
 | .mkmap => false
 | .mapset .. => false
 | .mapget .. => false
 | .isnilp .. => false
 | .never => false
 | _ => true
def aqV (o:AOp) (e:AX → AV) (h:List y9):AV :=
 match o with
 | .mov x => e x
 | .pick c a b => match e c with
  | .bool true => e a
  | .bool false => e b
  | _ => .undef
 | .load sz ag a => match e a with
  | .iptr el f => ldV el f sz ag
  | .ptr o i f => match h[o]? with
   | some (.box _ v) => ldV v f sz ag
   | some (.row _ l) => ldV (l.getD i .undef) f sz ag
   | some (.rowx _ _ _ el) => ldV el f sz ag
   | _ => .undef
  | _ => .undef
 | .faddr off a => match e a with
  | .iptr el f => .iptr el (f + off)
  | .ptr o i f => .ptr o i (f + off)
  | _ => .undef
 | .field off sz ag x => ldV (e x) off sz ag
 | .iaddr _ x i => match e x,e i with
  | .lst _ l,.int _ n => .iptr (l.getD n.toNat .undef) 0
  | .own o lo _,.int _ n => .ptr o (lo + n.toNat) 0
  | _,_ => .undef
 | .idxs x i => match e x,e i with
  | .str s,.int _ n => .int .u8 ((s.getD n.toNat 0).toNat:Int)
  | _,_ => .undef
 | .slice _ x lo hi => b4n (e x) (lo.map e) (hi.map e)
 | .sliceS x lo hi => b4n (e x) (lo.map e) (hi.map e)
 | .bin op x y => c8h op (e x) (e y)
 | .eqB ng x y => match e x,e y with
  | .bool a,.bool b => match ng with
   | true => .bool !(a == b)
   | false => .bool (a == b)
  | _,_ => .undef
 | .eqs ng _ x y => match e x,e y with
  | .agg a,.agg b => match ng with
   | true => .bool !(b8i a b)
   | false => .bool (b8i a b)
  | _,_ => .undef
 | .not x => match e x with
  | .bool b => .bool !b
  | _ => .undef
 | .neg x => match e x with
  | .int k n => .int k (k.wrap (0 - n))
  | _ => .undef
 | .len x => match e x with
  | .lst _ l => .int .i64 l.length
  | .own _ _ n => .int .i64 n
  | .nil => .int .i64 0
  | _ => .undef
 | .lenS x => match e x with
  | .str s => .int .i64 s.length
  | _ => .undef
 | .mnmx mx x y => match e x,e y with
  | .int k a,.int _ b => match mx with
   | true => .int k (if b > a then b else a)
   | false => .int k (if b < a then b else a)
  | _,_ => .undef
 | .extract i x => match e x with
  | .tup vs => vs.getD i .undef
  | _ => .undef
 | .mkfn f caps => .fn f (caps.map e)
 | .nilck x => e x
 | .convI k x => match e x with
  | .int _ n => .int k (k.wrap n)
  | _ => .undef
 | .build zero parts => .agg (c4a zero e parts)
 | _ => .undef
def aqP (o:AOp) (e:AX → AV) (h:List y9):Prop :=
 match o with
 | .mov _ => True
 | .pick c _ _ => match e c with
  | .bool true => True
  | .bool false => True
  | _ => False
 | .load sz ag a => match e a with
  | .iptr el f => ldP el f sz ag
  | .ptr o i f => match h[o]? with
   | some (.box _ v) => ldP v f sz ag
   | some (.row _ l) => ldP (l.getD i .undef) f sz ag
   | some (.rowx _ _ j el) => i = j ∧ ldP el f sz ag
   | _ => False
  | _ => False
 | .faddr _ a => match e a with
  | .iptr _ _ => True
  | .ptr o _ _ => match h[o]? with
   | some (.box _ _) => True
   | some (.rowx _ _ _ _) => True
   | some (.row _ _) => True
   | _ => False
  | _ => False
 | .field off sz ag x => match e x with
  | .agg cs => ldP (.agg cs) off sz ag
  | _ => False
 | .iaddr sz x i => match e x,e i with
  | .lst z l,.int _ n => (0 ≤ n ∧ n < l.length) ∧ z = sz
  | .own o lo len,.int _ n => (0 ≤ n ∧ n < len) ∧ match h[o]? with
   | some (.row sz' _) => sz' = sz
   | some (.rowx sz' _ _ _) => sz' = sz
   | _ => False
  | _,_ => False
 | .idxs x i => match e x,e i with
  | .str s,.int _ n => 0 ≤ n ∧ n < s.length
  | _,_ => False
 | .slice sz x lo hi => c8i (e x) (lo.map e) (hi.map e) ∧ d9p h sz (e x)
 | .sliceS x lo hi => c8i (e x) (lo.map e) (hi.map e) ∧ match e x with
  | .str _ => True
  | _ => False
 | .bin op x y => d0r op (e x) (e y)
 | .eqB _ x y => match e x,e y with
  | .bool _,.bool _ => True
  | _,_ => False
 | .eqs _ ks x y => match e x,e y with
  | .agg a,.agg b => b9o ks a b
  | _,_ => False
 | .not x => match e x with
  | .bool _ => True
  | _ => False
 | .neg x => match e x with
  | .int _ _ => True
  | _ => False
 | .len x => match e x with
  | .lst _ _ => True
  | .own o _ _ => match h[o]? with
   | some (.row _ _) => True
   | some (.rowx _ _ _ _) => True
   | _ => False
  | .nil => True
  | _ => False
 | .lenS x => match e x with
  | .str _ => True
  | _ => False
 | .mnmx _ x y => match e x,e y with
  | .int k _,.int k' _ => k = k'
  | _,_ => False
 | .extract i x => match e x with
  | .tup vs => i < vs.length
  | _ => False
 | .mkfn _ _ => True
 | .nilck x => match e x with
  | .iptr _ _ => True
  | .fn _ _ => True
  | .ptr o _ _ => match h[o]? with
   | some (.box _ _) => True
   | some (.rowx _ _ _ _) => True
   | some (.row _ _) => True
   | _ => False
  | _ => False
 | .convI _ x => match e x with
  | .int _ _ => True
  | _ => False
 | .build zero parts => c5r h zero.length e parts
 | _ => False
def isHdr:AV → Bool
 | .hdr _ _ _ => true
 | _ => false
def b9p:AV → Bool
 | .hdr _ _ _ => true
 | .int _ _ => true
 | .bool _ => true
 | .str _ => true
 | .nil => true
 | _ => false
def c2t:Bool → AV → Bool
 | true,.agg cs => cs.all b9p
 | false,a => b9p a
 | _,_ => false
def mmT (o:AOp) (e:AX → AV) (h:List y9):Prop :=
 match o with
 | .load sz ag a => match e a with
  | .ptr o i f => match h[o]? with
   | some (.row _ l) => c2t ag (ldV (l.getD i .undef) f sz ag) = true
   | _ => True
  | _ => True
 | _ => True
def mmP (m:Bool) (o:AOp) (e:AX → AV) (h:List y9):Prop:=match m with
 | false => True
 | true => mmT o e h
def aqQ (m:Bool) (o:AOp) (e:AX → AV) (h:List y9):Prop:=match m with
 | false => aqP o e h
 | true => aqP o e h ∧ mmT o e h
theorem aqQ.p {m:Bool} {o:AOp} {e:AX → AV} {h:List y9} (hq:aqQ m o e h):aqP o e h:=by
 cases m
 ·exact hq
 ·exact hq.1
theorem aqQ.m {m:Bool} {o:AOp} {e:AX → AV} {h:List y9} (hq:aqQ m o e h):mmP m o e h:=by
 cases m
 ·trivial
 ·exact hq.2
theorem aqQ.of {m:Bool} {o:AOp} {e:AX → AV} {h:List y9} (hp:aqP o e h) (hm:mmT o e h):aqQ m o e h:=by
 cases m
 ·exact hp
 ·exact ⟨hp,hm⟩
theorem aqQ.mk {m:Bool} {o:AOp} {e:AX → AV} {h:List y9} (hp:aqP o e h) (hm:mmP m o e h):aqQ m o e h:=by
 cases m
 ·exact hp
 ·exact ⟨hp,hm⟩
def aqF (o:AOp) (e:AX → AV):Prop :=
 match o with
 | .len x => match e x with
  | .lst _ l => l.length ≤ maxLen
  | .own _ _ n => n ≤ maxLen
  | _ => True
 | .lenS x => match e x with
  | .str s => s.length ≤ maxLen
  | _ => True
 | _ => True
section
variable {C:Ctx} {σ:Sg} {φ:Nat → List Nat} {h:List y9} {w:World}
mutual
theorem Rep.rv:∀ (a:AV) (cs:List Value) (fp:List Nat),Rep false w a cs fp → (∀ b ∈ fp,C.imm b ∧ ¬ liveAt h σ b) → RV C σ h w a (mkV a cs)
 | .int k n,cs,fp,hr,hf => by simp only [Rep] at hr; simp [RV,mkV,hr.1]
 | .bool b,cs,fp,hr,hf => by simp only [Rep] at hr; simp [RV,mkV,hr.1]
 | .str s,cs,fp,hr,hf => by simp only [Rep] at hr; simp [RV,mkV,hr.1,hr.2.1]
 | .nil,cs,fp,hr,hf => by simp only [Rep] at hr; simp [RV,mkV,hr.1]
 | .lst z l,cs,fp,hr,hf => by simp only [RV]; exact ⟨fp,⟨cs,rfl,hr⟩,hf⟩
 | .iptr e f,cs,fp,hr,hf => by simp only [RV]; exact ⟨fp,⟨cs,rfl,hr⟩,hf⟩
 | .agg as,cs,fp,hr,hf => by
  simp only [Rep] at hr
  simp only [RV,mkV]
  exact ⟨_,rfl,by simpa using a0o.rvs as cs fp hr hf⟩
 | .tup as,cs,fp,hr,hf => by
  simp only [Rep] at hr
  simp only [RV,mkV]
  exact ⟨_,rfl,by simpa using a1q.rvs as cs fp hr hf⟩
 | .fn f caps,cs,fp,hr,hf => by
  simp only [Rep] at hr
  obtain ⟨vs,rfl,hr⟩:=hr
  simp only [RV,mkV]
  exact ⟨_,by simp,a1q.rvs caps _ fp hr hf⟩
 | .hdr v z l,cs,fp,hr,hf => by simp only [Rep] at hr; simp [RV,mkV,hr.1]
 | .undef,_,_,hr,_ => by simp only [Rep] at hr
 | .skip,_,_,hr,_ => by simp only [Rep] at hr
 | .own ..,_,_,hr,_ => by simp only [Rep] at hr
 | .ptr ..,_,_,hr,_ => by simp only [Rep] at hr
theorem a0o.rvs:∀ (as:List AV) (cs:List Value) (fp:List Nat),a0o false w as cs fp → (∀ b ∈ fp,C.imm b ∧ ¬ liveAt h σ b) → RVs C σ h w as cs
 | [],cs,fp,hr,hf => by simp only [a0o] at hr; simp [RVs,hr.1]
 | a :: as,cs,fp,hr,hf => by
  simp only [a0o] at hr
  obtain ⟨c,cs',f1,f2,rfl,hc,h1,h2,rfl⟩:=hr
  simp only [RVs]
  have hv:=Rep.rv a [c] f1 h1 (fun b hb => hf b (by simp [hb]))
  refine ⟨c,cs',rfl,?_,a0o.rvs as cs' f2 h2 (fun b hb => hf b (by simp [hb]))⟩
  obtain ⟨c',e1,e2⟩:=h1.cell hc
  cases e1
  rw [e2] at hv
  exact hv
theorem a1q.rvs:∀ (as:List AV) (vs:List Value) (fp:List Nat),a1q false w as vs fp → (∀ b ∈ fp,C.imm b ∧ ¬ liveAt h σ b) → RVs C σ h w as vs
 | [],cs,fp,hr,hf => by simp only [a1q] at hr; simp [RVs,hr.1]
 | a :: as,cs,fp,hr,hf => by
  simp only [a1q] at hr
  obtain ⟨c,cs',f1,f2,rfl,h1,h2,rfl⟩:=hr
  simp only [RVs]
  exact ⟨_,cs',rfl,Rep.rv a c f1 h1 (fun b hb => hf b (by simp [hb])),a1q.rvs as cs' f2 h2 (fun b hb => hf b (by simp [hb]))⟩
end
end
end Go.R
