/- What each operation yields, over typed data. -/
import Derived.Test.YthneidgpgfgecaaD1
set_option linter.all false
namespace Go.R
open Go Go.RowKit
set_option linter.unusedVariables false
set_option linter.unusedSimpArgs false

def Opr (P:Program) (dm:Md) (op:AOp) (bs:List (Nat × AV)) (h:List o9) (v:AV) (h':List o9):Prop:=∀ k:AV → List o9 → Prop,k v h' → a4x P dm op (AX.ev (ofL bs)) h k
def d2x (P:Program) (dm:Md) (op:AOp) (bs:List (Nat × AV)) (h:List o9) (v:AV) (h':List o9) (F:Prop):Prop:=∀ k:AV → List o9 → Prop,(F → k v h') → a4x P dm op (AX.ev (ofL bs)) h k

section
variable {P:Program} {dm:Md} {bs:List (Nat × AV)} {h h':List o9} {n other:a8b} {re:List a3y} {K:(Nat → AV) → List o9 → Prop} {d:Nat} {op:AOp} {v:AV} {F:Prop}

theorem a0b (hop:Opr P dm op bs h v h') (hn:a5s P dm n (ofL ((d,v) :: bs)) h' K):a5s P dm (.q ⟨some d,none,op⟩ n) (ofL bs) h K:=hop _ hn
theorem a0o (hop:d2x P dm op bs h v h' F) (hn:F → a5s P dm n (ofL ((d,v) :: bs)) h' K):a5s P dm (.q ⟨some d,none,op⟩ n) (ofL bs) h K:=hop _ hn
theorem a4o (hop:Opr P dm op bs h v h') (hn:a5s P dm n (ofL bs) h' K):a5s P dm (.q ⟨none,none,op⟩ n) (ofL bs) h K:=hop _ hn
theorem a3i (hop:Opr P dm op bs h v h') (ha:b5u dm.m re (ofL ((d,v) :: bs)) h h') (ho:a5s P dm other (ofL bs) h K) (hn:a5s P dm n (ofL ((d,v) :: bs)) h' K):a5s P dm (.l ⟨some d,none,op⟩ re n other) (ofL bs) h K:=⟨hop _ ⟨ha,hn⟩,ho⟩
theorem c4y (hop:Opr P dm op bs h v h') (ha:b5u dm.m re (ofL bs) h h') (ho:a5s P dm other (ofL bs) h K) (hn:a5s P dm n (ofL bs) h' K):a5s P dm (.l ⟨none,none,op⟩ re n other) (ofL bs) h K:=⟨hop _ ⟨ha,hn⟩,ho⟩
theorem d8a {ng:Bool} {x:AX} {z:Nat} {l:List AV} {d:Nat} (hx:x.ev (ofL bs) = .lst z l) (hn:∀ b,(b = true → l = []) → a5s P dm n (ofL ((d,.bool (b != ng)) :: bs)) h K):a5s P dm (.q ⟨some d,none,.isnil ng x⟩ n) (ofL bs) h K:=by
  show a4x P dm (.isnil ng x) (AX.ev (ofL bs)) h _
  simp only [a4x,hx]
  exact hn
theorem d6x {α:Type} {enc:α → AV} {l:List α} (h:l.map enc = []):l = []:=by simpa using h
theorem b1w {m:Bool} {re:List a3y} {t:Nat → AV}:b5u m re t h h:=by
  cases re with
  | nil => trivial
  | cons a b => exact .inl rfl

/-! guards -/
theorem a8u {T:a8b} {s:Nat} {b e:Bool} (ht:ofL bs s = .bool e) (he:e = b) (hn:a5s P dm T (ofL ((s,.bool b) :: bs)) h K):a5s P dm T (ofL bs) h K:=by
  subst he
  have:ofL ((s,.bool e) :: bs) = ofL bs:=b2a ht
  rw [this] at hn
  exact hn
theorem s_on {s:Nat} {b:Bool} {o:Option Nat} (ht:ofL bs s = .bool b) (hn:a5s P dm (.q ⟨o,none,op⟩ n) (ofL bs) h K):a5s P dm (.q ⟨o,some (s,b),op⟩ n) (ofL bs) h K:=by
  show b9c P dm _ _ h _
  unfold b9c
  simp only [ht]
  rw [if_pos trivial,b2a ht]
  exact hn
theorem a1m {s:Nat} {b b':Bool} (ht:ofL bs s = .bool b') (hb:(b' == b) = false) (hn:a5s P dm n (ofL ((d,.skip) :: bs)) h K):a5s P dm (.q ⟨some d,some (s,b),op⟩ n) (ofL bs) h K:=by
  show b9c P dm _ _ h _
  unfold b9c
  simp only [ht]
  have hne:¬ b' = b:=by simpa using hb
  have hx:(!b) = b':=by cases b <;> cases b' <;> simp_all
  rw [if_neg hne,hx,b2a ht]
  exact hn
/-! code -/
variable {m:Bool} {n0:Nat} {a b:a0r} {Q:AQ} {t:Nat → AV}
theorem a0y {T:a8b} (hn:a5s P dm T t h (kN Q)):awp P dm n0 (.reg T) t h Q:=hn
theorem a0m (hn:Q .norm t h):a5s P dm .done t h (kN Q):=hn
theorem a0e (hn:Q .norm t h):awp P dm n0 .skip t h Q:=hn
theorem a0g (hn:awp P dm n0 b t h Q):c2g (awp P dm n0 b) Q .norm t h:=hn
theorem a5z {X:Type} {S:X → List (Nat × AV) × List o9} (y:X) (hn:b2x m n0 t h (S y)):d2u m n0 S Q .norm t h:=⟨y,hn⟩
theorem a2s {id:Nat} (hn:Q .norm t h):b4t id Q .norm t h:=hn
theorem a1w {id:Nat} (hn:Q .norm t h):b4t id Q (.exit id) t h:=by simp only [b4t,if_pos]; exact hn
theorem a1x {F:(Nat → AV) → List o9 → AQ → Prop} {i:Nat} (hn:Q (.exit i) t h):c2g F Q (.exit i) t h:=hn
theorem a1i {X:Type} {S:X → List (Nat × AV) × List o9} {μ:X → Nat} {x:X} {i:Nat} (hn:Q (.exit i) t h):c9p m n0 S μ x Q (.exit i) t h:=hn
theorem a1e {X:Type} {S:X → List (Nat × AV) × List o9} {μ:X → Nat} {x:X} (y:X) (hy:μ y < μ x) (hn:b2x m n0 t h (S y)):c9p m n0 S μ x Q .norm t h:=⟨y,hy,hn⟩
theorem sr {T:a8b} (hn:a5s P dm T t h (kN (c2g (awp P dm n0 b) Q))):awp P dm n0 (.seq (.reg T) b) t h Q:=hn
theorem dk (hn:awp P dm n0 b t h Q):a5s P dm .done t h (kN (c2g (awp P dm n0 b) Q)):=hn
theorem a1y {i:Nat} (hn:Q (.exit i) t h):awp P dm n0 (.exit i) t h Q:=hn
theorem a0k (hn:Q .ret t h):awp P dm n0 .ret t h Q:=hn
theorem a3j {id:Nat} (hn:awp P dm n0 a t h (b4t id Q)):awp P dm n0 (.block id a) t h Q:=hn
theorem y5 {s:Nat} {e:Bool} (ht:ofL bs s = .bool e) (he:e = true) (hn:awp P dm n0 a (ofL ((s,.bool true) :: bs)) h Q):awp P dm n0 (.cond (.t s) a b) (ofL bs) h Q:=by
  subst he
  simp only [awp,AX.ev,ht,if_pos]
  exact hn
theorem y7 {s:Nat} {e:Bool} (ht:ofL bs s = .bool e) (he:e = false) (hn:awp P dm n0 b (ofL ((s,.bool false) :: bs)) h Q):awp P dm n0 (.cond (.t s) a b) (ofL bs) h Q:=by
  subst he
  simp only [awp,AX.ev,ht]
  exact hn
theorem a0l {os:List AOp} {r:AV} (hp:b4x m t h os) (hf:rflats (b3t t h os) = true) (hl:Le (pack (b3t t h os)) r):d2r m .flat os r .ret t h:=⟨hp,_,⟨hf,rfl⟩,hl⟩
theorem a4v {os:List AOp} {r:AV} {bs:List AV} {ks:List Nat} (hp:b4x m t h os) (ha:a1b true h (b3t t h os) = some (bs,ks)) (hn:ks.Nodup) (hl:Le (pack bs) r):d2r m .fresh os r .ret t h:=by
  refine ⟨hp,pack bs,?_,hl⟩
  simp only [Ret,ha]
  exact ⟨hn,trivial⟩
theorem a8n {os:List AOp} {r:AV} {hout:List o9} {n0:Nat} {t':Nat → AV} {h':List o9} (gs:List Gh) (js:List Nat) (hg:ghs m t h gs = some (t',h')) (hp:b4x m t' h' os) (hk:b5v n0 h'.length js = true) (hh:LeH (b0n h' js) hout) (hl:Le (ren (a7j js) (pack (b3t t' h' os))) r):d6f m n0 os r hout .ret t h :=
  ⟨gs,js,t',h',hg,hp,hk,hh,hl⟩
theorem d6y {os:List AOp} {r:AV} {bs:List AV} {ks:List Nat} (hp:b4x m t h os) (ha:a1b false h (b3t t h os) = some (bs,ks)) (hl:Le (pack bs) r):d2r m .weak os r .ret t h:=by
  refine ⟨hp,pack bs,?_,hl⟩
  simp only [Ret,ha]
end

section
variable {P:Program} {dm:Md} {bs:List (Nat × AV)} {h:List o9} {α:Type} {enc:α → AV} {l:List α} {z:Nat} {x i:AX} {e:α} {k:IntKind}

theorem b0y {op:AOp} {e:AX → AV} {h:List o9} {k:AV → List o9 → Prop} (hq:op.quiet = true) (hm:mmT op e h) (h1:aqP op e h ∧ (aqF op e → k (aqV op e h) h)):a4x P dm op e h k:=by
  cases op <;> first | exact ⟨aqQ.of h1.1 hm,h1.2⟩ | cases hq
theorem o_q {op:AOp} (v:AV) (hq:op.quiet = true) (hp:aqQ dm.m op (AX.ev (ofL bs)) h) (hv:aqV op (AX.ev (ofL bs)) h = v):Opr P dm op bs h v h:=by
  intro k hk
  subst hv
  cases op <;> first | (exact ⟨hp,fun _ => hk⟩) | (cases hq)
theorem b0c (v:AV) (hv:x.ev (ofL bs) = v):Opr P dm (.mov x) bs h v h:=o_q v rfl (.of trivial trivial) hv
theorem a1c (hx:x.ev (ofL bs) = .lst z (l.map enc)):d2x P dm (.len x) bs h (.int .i64 l.length) h (l.length ≤ maxLen):=by
  intro k hk
  refine b0y rfl trivial ?_
  simp only [aqP,aqF,aqV,hx,List.length_map]
  exact ⟨trivial,hk⟩
theorem a5f {o lo m z:Nat} {l:List AV} (hx:x.ev (ofL bs) = .own o lo m) (ho:h[o]? = some (.row z l)):d2x P dm (.len x) bs h (.int .i64 m) h (m ≤ maxLen):=by
  intro k hk
  refine b0y rfl trivial ?_
  simp only [aqP,aqF,aqV,hx,ho]
  exact ⟨trivial,hk⟩
theorem c7a (hx:x.ev (ofL bs) = .nil):Opr P dm (.len x) bs h (.int .i64 0) h:=by
  intro k hk
  refine b0y rfl trivial ?_
  simp only [aqP,aqF,aqV,hx]
  exact ⟨trivial,fun _ => hk⟩
theorem d6z {s:List UInt8} (hx:x.ev (ofL bs) = .str s):d2x P dm (.lenS x) bs h (.int .i64 s.length) h (s.length ≤ maxLen):=by
  intro k hk
  refine b0y rfl trivial ?_
  simp only [aqP,aqF,aqV,hx]
  exact ⟨trivial,hk⟩
theorem a4w {n:Int} (hx:x.ev (ofL bs) = .lst z (l.map enc)) (hi:i.ev (ofL bs) = .int k n) (h0:0 ≤ n) (hl:l[n.toNat]? = some e):Opr P dm (.iaddr z x i) bs h (.iptr (enc e) 0) h:=by
  intro k hk
  have hlt:n.toNat < l.length:=(List.getElem?_eq_some_iff.1 hl).1
  have hg:(l.map enc).getD n.toNat .undef = enc e:=by simp [hl]
  refine b0y rfl trivial ?_
  simp only [aqP,aqF,aqV,hx,hi,List.length_map,hg]
  exact ⟨⟨⟨h0,by omega⟩,trivial⟩,fun _ => hk⟩
theorem a1a {j:Nat} (hx:x.ev (ofL bs) = .lst z (l.map enc)) (hi:i.ev (ofL bs) = .int k (j:Int)) (hl:l[j]? = some e):Opr P dm (.iaddr z x i) bs h (.iptr (enc e) 0) h :=
  a4w hx hi (by omega) (by simpa using hl)
theorem a2d {o lo m z':Nat} {l:List AV} {n:Int} (hx:x.ev (ofL bs) = .own o lo m) (hi:i.ev (ofL bs) = .int k n) (h0:0 ≤ n) (h1:n < m) (ho:h[o]? = some (.row z' l)) (hz:z' = z):Opr P dm (.iaddr z x i) bs h (.ptr o (lo + n.toNat) 0) h:=by
  intro k hk
  subst hz
  refine b0y rfl trivial ?_
  simp only [aqP,aqF,aqV,hx,hi,ho]
  exact ⟨⟨⟨h0,h1⟩,trivial⟩,fun _ => hk⟩
theorem a5q {o m z':Nat} {l:List AV} {j:Nat} (hx:x.ev (ofL bs) = .own o 0 m) (hi:i.ev (ofL bs) = .int k (j:Int)) (h1:j < m) (ho:h[o]? = some (.row z' l)) (hz:z' = z):Opr P dm (.iaddr z x i) bs h (.ptr o j 0) h:=by
  have:=a2d (P:=P) (dm:=dm) (z:=z) hx hi (by omega) (by omega) ho hz
  simpa using this
theorem a6o {dm:Bool} {a:AX} {o j f sz z:Nat} {ag:Bool} {v:AV} (hx:a.ev (ofL bs) = .ptr o j f) (ho:h[o]? = some (.row z (l.map enc))) (hl:l[j]? = some e) (hp:ldP (enc e) f sz ag) (hv:ldV (enc e) f sz ag = v):Opr P (dm:Bool) (.load sz ag a) bs h v h:=by
  intro k hk
  have hg:(l.map enc).getD j .undef = enc e:=by simp [hl]
  have key:aqP (.load sz ag a) (AX.ev (ofL bs)) h:=by
    simp only [aqP,hx,ho,hg]
    exact hp
  refine ⟨key,fun _ => ?_⟩
  simp only [aqV,hx,ho,hg,hv]
  exact hk
theorem nle {a b:Nat} (h:Nat.ble a b = true:=by rfl):a ≤ b:=Nat.le_of_ble_eq_true h
theorem c4z {o m:Nat} {l:List AV} {n:Int} {hi:AX} (hx:x.ev (ofL bs) = .own o 0 m) (ho:h[o]? = some (.row z l)) (hh:hi.ev (ofL bs) = .int k n) (h0:0 ≤ n) (h1:n ≤ m):Opr P dm (.slice z x none (some hi)) bs h (.own o 0 n.toNat) h:=by
  intro k hk
  refine b0y rfl trivial ?_
  simp only [aqP,aqF,aqV,hx,ho,hh,c2c,b1o,d1y,c5q,Option.map_some,Option.map_none,Option.getD_some,Option.getD_none]
  exact ⟨⟨⟨by omega,h0,h1⟩,trivial⟩,fun _ => hk⟩
theorem c5a {o m:Nat} {l:List AV} {n:Int} {lo:AX} (hx:x.ev (ofL bs) = .own o 0 m) (ho:h[o]? = some (.row z l)) (hh:lo.ev (ofL bs) = .int k n) (h0:0 ≤ n) (h1:n ≤ m):Opr P dm (.slice z x (some lo) none) bs h (.own o n.toNat (m - n.toNat)) h:=by
  intro k hk
  refine b0y rfl trivial ?_
  simp only [aqP,aqF,aqV,hx,ho,hh,c2c,b1o,d1y,c5q,Option.map_some,Option.map_none,Option.getD_some,Option.getD_none,Nat.zero_add]
  exact ⟨⟨⟨h0,h1,by omega⟩,trivial⟩,fun _ => hk⟩
theorem a2t {c:AV} {sz j:Nat} (hv:x.ev (ofL bs) = c) (hs:a6f h c) (hl:c.cells.length = sz) (hj:h.length = j):Opr P dm (.box sz x) bs h (.ptr j 0 0) (h ++ [.box sz c]):=by
  intro k hk
  subst hj hv
  exact ⟨⟨hs,hl⟩,hk⟩
theorem a1h {a:AX} {o j f z sz:Nat} {y v y':AV} (ha:a.ev (ofL bs) = .ptr o j f) (ho:h[o]? = some (.box z y)) (hx:x.ev (ofL bs) = v) (hs:a6f h v) (hp:a8z y f sz v) (hl:b7r h v.cells) (hy:a5d y f v = y'):Opr P dm (.store sz a x) bs h .skip (h.set o (.box z y')):=by
  intro k hk
  subst hx hy
  simp only [a4x,ha,ho]
  exact ⟨⟨hs,hp,hl⟩,hk⟩
theorem a5a {a:AX} {o j f z sz:Nat} {v v0 v':AV} {e':α} {ks:List Nat} {h2:List o9} (ha:a.ev (ofL bs) = .ptr o j f) (ho:h[o]? = some (.row z (l.map enc))) (hl:l[j]? = some e) (hx:x.ev (ofL bs) = v) (hab:a1z dm.d h v = some (v0,ks)) (hv0:v0 = v') (hk:o ∉ ks) (hnd:dm.d = true → ks.Nodup) (hp:a8z (enc e) f sz v') (hy:Le (a5d (enc e) f v') (enc e')) (hh:kill h ks = h2) :
    Opr P dm (.store sz a x) bs h .skip (h2.set o (.row z ((l.set j e').map enc))):=by
  intro k hk'
  subst hx hh hv0
  have hg:(l.map enc)[j]? = some (enc e):=by simp [hl]
  simp only [a4x,ha,ho,hg,hab]
  refine ⟨⟨hk,hnd,hp⟩,_,hy,?_⟩
  rw [← List.map_set]
  exact hk'
theorem b4q {sz bytes j m:Nat} {zero:AV} {nx cx:AX} {k':IntKind} {c:Int} (e:α) (hz:Le zero (enc e)) (hn:nx.ev (ofL bs) = .int k (m:Int)) (hc:cx.ev (ofL bs) = .int k' c) (h1:(m:Int) ≤ c) (h2:c ≤ 2 ^ 30) (hj:h.length = j) :
    Opr P dm (.mkslice sz bytes zero nx cx) bs h (.own j 0 m) (h ++ [.row sz ((List.replicate m e).map enc)]):=by
  intro k hk
  subst hj
  simp only [a4x,hn,hc]
  refine ⟨⟨by omega,h1,h2⟩,(List.replicate m e).map enc,?_,by simpa using hk⟩
  rw [Int.toNat_natCast,List.map_replicate]
  exact LeL.rep hz m
theorem a3t {sz j m:Nat} {xs:List AX} {as as':List AV} {ks:List Nat} {h2:List o9} (ha:a1b dm.d h (xs.map (AX.ev (ofL bs))) = some (as,ks)) (hnd:dm.d = true → ks.Nodup) (hl:c8j sz as) (he:LeL as as') (hm:as'.length = m) (hh:kill h ks = h2) (hj:h.length = j) :
    Opr P dm (.bslice sz xs) bs h (.own j 0 m) (h2 ++ [.row sz as']):=by
  intro k hk
  subst hj hm hh
  simp only [a4x,ha]
  exact .inl ⟨⟨hnd,hl⟩,as',he,by rw [he.length]; exact hk⟩
theorem d0v {sz:Nat} {xs:List AX} {as':List AV} {ks:List Nat} {h2:List o9} (hm:dm.m = false) (ha:a1b false h (xs.map (AX.ev (ofL bs))) = some (as',ks)) (hl:c8j sz as') (hh:kill h ks = h2) :
    Opr P dm (.bslice sz xs) bs h (.lst sz as') h2:=by
  intro k hk
  subst hh
  simp only [a4x]
  exact .inr ⟨hm,as',ks,ha,hl,hk⟩
theorem d0w {sz bytes j n m len:Nat} {s:AX} {l0 l1 L:List AV} {ks0 ks1:List Nat} {h2:List o9} (hd:b6e h sz (s.ev (ofL bs)) = some (l0,n,ks0)) (hs:b1h false h sz (x.ev (ofL bs)) = some (l1,m,ks1)) (hL:l0 ++ l1 = L) (hn:n + m = len) (hb:len ≤ 2 ^ 30) (hh:kill h (ks0 ++ ks1) = h2) (hj:h.length = j) :
    Opr P (false:Bool) (.append sz bytes s x) bs h (.own j 0 len) (h2 ++ [.row sz L]):=by
  intro k hk
  subst hL hn hh hj
  simp only [a4x,hd,hs]
  exact ⟨hb,hk⟩
theorem a4m (hdd:dm.d = true) {sz bytes j n m len:Nat} {s:AX} {l0 l1 L:List AV} {ks0 ks1:List Nat} {h2:List o9} (cons:Bool) (hd:b6e h sz (s.ev (ofL bs)) = some (l0,n,ks0)) (hs:b1h cons h sz (x.ev (ofL bs)) = some (l1,m,ks1)) (hf:cons = false → ∀ a ∈ l1,R.flat a = true) (hf2:∀ z l',x.ev (ofL bs) = .lst z l' → ∀ a ∈ l1,R.flat a = true) (hnd:(ks0 ++ ks1).Nodup) (hL:l0 ++ l1 = L) (hn:n + m = len) (hb:len ≤ 2 ^ 30) (hh:kill h (ks0 ++ ks1) = h2) (hj:h.length = j) :
    Opr P dm (.append sz bytes s x) bs h (.own j 0 len) (h2 ++ [.row sz L]):=by
  intro k hk
  subst hL hn hh hj
  simp only [a4x,hdd]
  refine .inl ⟨cons,?_⟩
  simp only [hd,hs]
  exact ⟨⟨hf,hf2,hnd,hb⟩,hk⟩
/-! open rows -/
/-! the same, looked at again -/
def Agn (m:Bool) (op:AOp) (bs:List (Nat × AV)) (h:List o9) (v:AV):Prop:=aqQ m op (AX.ev (ofL bs)) h ∧ v = aqV op (AX.ev (ofL bs)) h
theorem Agn.of {m:Bool} {op:AOp} (hq:op.quiet = true) {v:AV} (ho:∀ k:AV → List o9 → Prop,k v h → (aqP op (AX.ev (ofL bs)) h ∧ (aqF op (AX.ev (ofL bs)) → k (aqV op (AX.ev (ofL bs)) h) h))) (hf:aqF op (AX.ev (ofL bs))) (hm:mmT op (AX.ev (ofL bs)) h:=by trivial):Agn m op bs h v:=by
  obtain ⟨h1,h2⟩:=ho (fun r _ => v = r) rfl
  exact ⟨.of h1 hm,h2 hf⟩
theorem b2b {n:Int} (hx:x.ev (ofL bs) = .lst z (l.map enc)) (hi:i.ev (ofL bs) = .int k n) (h0:0 ≤ n) (hl:l[n.toNat]? = some e):Agn false (.iaddr z x i) bs h (.iptr (enc e) 0) :=
  Agn.of rfl (fun k hk => a4w (P:=default) (dm:=(false:Bool)) hx hi h0 hl k hk) (by trivial)
theorem b4r {j:Nat} (hx:x.ev (ofL bs) = .lst z (l.map enc)) (hi:i.ev (ofL bs) = .int k (j:Int)) (hl:l[j]? = some e):Agn false (.iaddr z x i) bs h (.iptr (enc e) 0) :=
  b2b hx hi (by omega) (by simpa using hl)
theorem a2h {o m z':Nat} {l:List AV} {j:Nat} (hx:x.ev (ofL bs) = .own o 0 m) (hi:i.ev (ofL bs) = .int k (j:Int)) (h1:j < m) (ho:h[o]? = some (.row z' l)) (hz:z' = z):Agn false (.iaddr z x i) bs h (.ptr o j 0) :=
  Agn.of rfl (fun k hk => a5q (P:=default) (dm:=(false:Bool)) hx hi h1 ho hz k hk) trivial
theorem b6r {o m:Nat} {l:List AV} {n:Int} {hi:AX} (hx:x.ev (ofL bs) = .own o 0 m) (ho:h[o]? = some (.row z l)) (hh:hi.ev (ofL bs) = .int k n) (h0:0 ≤ n) (h1:n ≤ m):Agn false (.slice z x none (some hi)) bs h (.own o 0 n.toNat) :=
  Agn.of rfl (fun k hk => c4z (P:=default) (dm:=(false:Bool)) hx ho hh h0 h1 k hk) trivial
theorem a9c {o m:Nat} {l:List AV} {n:Int} {lo:AX} (hx:x.ev (ofL bs) = .own o 0 m) (ho:h[o]? = some (.row z l)) (hh:lo.ev (ofL bs) = .int k n) (h0:0 ≤ n) (h1:n ≤ m):Agn false (.slice z x (some lo) none) bs h (.own o n.toNat (m - n.toNat)) :=
  Agn.of rfl (fun k hk => c5a (P:=default) (dm:=(false:Bool)) hx ho hh h0 h1 k hk) trivial
theorem a3x {a:AX} {o j f sz z:Nat} {ag:Bool} {v:AV} (hx:a.ev (ofL bs) = .ptr o j f) (ho:h[o]? = some (.row z (l.map enc))) (hl:l[j]? = some e) (hp:ldP (enc e) f sz ag) (hv:ldV (enc e) f sz ag = v):Agn false (.load sz ag a) bs h v:=by
  have hg:(l.map enc).getD j .undef = enc e:=by simp [hl]
  refine ⟨?_,?_⟩
  · show aqP (.load sz ag a) (AX.ev (ofL bs)) h
    simp only [aqP,hx,ho,hg]
    exact hp
  · simp only [aqV,hx,ho,hg,hv]
/-! calls -/
variable {f:Nat} {args:List AX} {r:AV} {cs cs':List AV}
theorem c7b {h:List o9} {p:Nat → Nat → Nat → Option AV} {a a':AV} {as as':List AV} (h1:a3e h p a = some a') (h2:a3k h p as = some as'):a3k h p (a :: as) = some (a' :: as'):=by simp only [a3k,h1,h2]
theorem d7a {h:List o9} {p:Nat → Nat → Nat → Option AV} {kf:Nat} {cf:List AV} (hcf:∀ h p,a3k h p cf = some cf):a3e h p (.fn kf cf) = some (.fn kf cf):=by simp only [a3e,hcf]; rfl
theorem a1t {bs':List AV} {v:AV} (hc:a0d P f .flat bs' r) (hb:closes h (args.map (AX.ev (ofL bs))) = some cs) (hl:LeL cs bs') (hv:r = v):Opr P dm (.call f args) bs h v h:=fun k hk => a2a.flat hc hb hl (by rw [hv]; exact hk)
theorem a3f {bs':List AV} {v:AV} {h':List o9} (hc:a0d P f .fresh bs' r) (hb:closes h (args.map (AX.ev (ofL bs))) = some cs) (hl:LeL cs bs') (hv:a1s h.length r = (v,h')):Opr P dm (.call f args) bs h v (h ++ h'):=fun k hk => a2a.fresh hc hb hl (by rw [hv]; exact hk)
theorem d4y (hm:dm.m = false) {bs':List AV} {ks:List Nat} {h2:List o9} {v:AV} (hc:a0d P f .weak bs' r) (hb:a1b false h (args.map (AX.ev (ofL bs))) = some (cs,ks)) (hl:LeL cs bs') (hv:r = v) (hh:kill h ks = h2):Opr P dm (.call f args) bs h v h2:=fun k hk => a2a.weak hm hc hb hl (by rw [hh,hv]; exact hk)
def d4z (h:List o9) (fl:List Bool) (js:List Nat) (as:List AV):Option (List AV × List o9 × List Nat):=match b5s h fl as with
  | some (cs,ks) => match b5v 0 h.length js with
    | true => some (a6u (a7j js) cs,b0n (kill h ks) js,ks)
    | false => none
  | none => none
theorem c3t {h:List o9} {fl:List Bool} {js ks:List Nat} {as cs2:List AV} {hs:List o9} (hf:d4z h fl js as = some (cs2,hs,ks)):∃ cs,b5s h fl as = some (cs,ks) ∧ b5v 0 h.length js = true ∧ a6u (a7j js) cs = cs2 ∧ b0n (kill h ks) js = hs:=by
  unfold d4z at hf
  split at hf
  · rename_i cs ks' e
    split at hf
    · rename_i e2
      cases hf
      exact ⟨cs,e,e2,rfl,rfl⟩
    · cases hf
  · cases hf
theorem b9p {as' cs2:List AV} {ks:List Nat} {hi hout h2 hs:List o9} {v:AV} (fl:List Bool) (js:List Nat) (hm:dm.m = true → fl = []) (hc:a1l P dm.nz f as' hi r hout) (hf:d4z h fl js (args.map (AX.ev (ofL bs))) = some (cs2,hs,ks)) (hl:LeL cs2 as') (hh:LeH hs hi) (hv:ren (a6w h.length js) r = v) (h2e:b0o (kill h ks) js hout = h2):Opr P dm (.call f args) bs h v h2:=by
  obtain ⟨cs,hf2,hn,rfl,rfl⟩:=c3t hf
  obtain ⟨_,_,k1,k2⟩:=b2q hn
  exact fun k hk => a2a.heapf fl ks js hm hf2 hc k1 k2 hl hh (by rw [hv,h2e]; exact hk)
theorem b3u {as' cs2:List AV} {ks:List Nat} {hi hout h2 hs:List o9} {v:AV} (fl:List Bool) (js:List Nat) (hm:dm.m = true → fl = []) (hc:a1l P dm.nz f as' hi r hout) (hf:d4z h fl js (args.map (AX.ev (ofL bs))) = some (cs2,hs,ks)) (hl:LeL cs2 as') (hh:LeH hs hi) (hv:ren (a6w h.length js) r = v) (h2e:b0o (kill h ks) js hout = h2):d2x P dm (.call f args) bs h v h2 (b4l hi hout):=by
  obtain ⟨cs,hf2,hn,rfl,rfl⟩:=c3t hf
  obtain ⟨_,_,k1,k2⟩:=b2q hn
  exact fun k hk => a2a.heapfs fl ks js hm hf2 hc k1 k2 hl hh (fun hs => by rw [hv,h2e]; exact hk hs)
theorem b3v {p:Nat → Nat → Nat → Option AV}:∀ {as bs as' bs':List AV},a3k h p as = some as' → a3k h p bs = some bs' → a3k h p (as ++ bs) = some (as' ++ bs')
  | [],bs,as',bs',h1,h2 => by simp only [a3k] at h1; cases h1; simpa using h2
  | a :: as,bs,as',bs',h1,h2 => by
    simp only [a3k,List.cons_append] at h1 ⊢
    split at h1
    · rename_i x xs e1 e2
      cases h1
      rw [e1,b3v e2 h2]
      rfl
    · cases h1
theorem LeL.append:∀ {as bs as' bs':List AV},LeL as as' → LeL bs bs' → LeL (as ++ bs) (as' ++ bs')
  | _,_,_,_,.nil,h => h
  | _,_,_,_,.cons a t,h => .cons a (LeL.append t h)
theorem b9q {g:Nat} {cf bs':List AV} {v:AV} (hx:x.ev (ofL bs) = .fn g cf) (hok:c8k P g = true) (hcf:∀ h p,a3k h p cf = some cf) (hc:a0d P g .flat (bs' ++ cf) r) (hb:closes h (args.map (AX.ev (ofL bs))) = some cs) (hl:LeL cs bs') (hv:r = v):Opr P dm (.calv x args) bs h v h:=by
  intro k hk
  simp only [a4x,hx]
  refine ⟨hok,a2a.flat hc (b3v hb (hcf _ _)) (LeL.append hl (.refl _)) ?_⟩
  rw [hv]; exact hk
end

/-! clear -/
section
variable {P:Program} {dm:Md} {bs:List (Nat × AV)} {h:List o9} {α:Type} {enc:α → AV} {l:List α} {z:Nat} {x:AX} {y:α} {zero:AV}
theorem LeL.repz {n:Nat} (hz:Le zero (enc y)):LeL (List.replicate n zero) ((List.replicate n y).map enc):=by
  rw [List.map_replicate]
  induction n with
  | zero => exact .nil
  | succ n ih => exact .cons hz ih
theorem d8b {o lo n:Nat} {L:List α} (hx:x.ev (ofL bs) = .own o lo n) (ho:h[o]? = some (.row z (l.map enc))) (hz:Le zero (enc y)) (hL:l.take lo ++ List.replicate n y ++ l.drop (lo + n) = L):Opr P dm (.clr z zero x) bs h (.tup []) (h.set o (.row z (L.map enc))):=by
  intro k hk
  subst hL
  simp only [a4x,hx,ho]
  refine ⟨trivial,_,LeL.repz hz,?_⟩
  rw [← List.map_take,← List.map_drop,← List.map_append,← List.map_append]
  exact hk
theorem LeO.tk (l:List α) (n:Nat):LeO (.row z ((l.map enc).take n)) (.row z ((l.take n).map enc)):=by rw [List.map_take]; exact .refl _
theorem d6i (hx:x.ev (ofL bs) = .nil):Opr P dm (.cap x) bs h (.int .i64 0) h:=by
  intro k hk
  simp only [a4x,hx]
  exact hk
theorem d7b {sz bytes j:Nat} {nx:AX} {k':IntKind} {n:Int} (hx:x.ev (ofL bs) = .nil) (hn:nx.ev (ofL bs) = .int k' n) (hz:Le zero (enc y)) (h1:0 < n ∧ n ≤ 2 ^ 30) (hj:h.length = j):Opr P dm (.appz sz bytes zero x nx) bs h (.own j 0 n.toNat) (h ++ [.row sz ((List.replicate n.toNat y).map enc)]):=by
  intro k hk
  subst hj
  simp only [a4x,hx,hn]
  exact ⟨h1,_,LeL.repz hz,hk⟩
end

/-! writing in place -/
section
variable {P:Program} {dm:Md} {n0:Nat} {bs:List (Nat × AV)} {h:List o9} {α β:Type} {enc:α → AV} {enc':β → AV} {l:List α} {z:Nat} {x:α}
theorem b7v {i:Nat} {y:AV} (hx:l[i]? = some x):((l.map enc).set i y)[i]? = some y:=by
  have hlt:=(List.getElem?_eq_some_iff.1 hx).1
  simp [hlt]
theorem a2u {i:Nat} {y:α} (hx:l[i]? = some x):(l.set i y)[i]? = some y:=by
  have hlt:=(List.getElem?_eq_some_iff.1 hx).1
  simp [hlt]
theorem c7c {a:a0r} {t:Nat → AV} {Q:AQ} {o i f z':Nat} {l':List β} {el:AV} (ho:h[o]? = some (.row z (l.map enc))) (hx:l[i]? = some x) (he:enc x = el) (hf:el.cells[f]? = some (.lst z' (l'.map enc'))) (hn:∀ v,awp P dm n0 a t (h.set o (.row z ((l.map enc).set i (b0t el f (.hdr v z' (l'.map enc')))))) Q):awp P dm n0 (.rev a) t h Q:=by
  subst he
  exact .inl ⟨o,i,f,z,_,_,z',_,ho,by simp [hx],hf,hn⟩
theorem b2c {a:AX} {o i f z':Nat} {L l':List AV} {el:AV} {v:Value} (ha:a.ev (ofL bs) = .ptr o i f) (ho:h[o]? = some (.row z L)) (hl:L[i]? = some el) (hp:ldP el f 1 false) (hv:ldV el f 1 false = .hdr v z' l'):Opr P dm (.load 1 false a) bs h (.hdr v z' l') h:=by
  intro k hk
  have hg:L.getD i .undef = el:=by simp [hl]
  refine b0y rfl ?_ ?_
  · simp only [mmT,ha,ho,hg,hv,b7m,b5l]
  · simp only [aqP,aqF,aqV,ha,ho,hg,hv]
    exact ⟨hp,fun _ => hk⟩
theorem b6s {f:Nat} {args:List AX} {o i j z':Nat} {n n':Int} {v:Value} {l' l'':List β} {el:AV} {y:α} (hd:dm.d = true) (hm:dm.m = true) (hc:a1l P ⟨true,true,false⟩ f [.own 0 0 l'.length,.int .i64 n] [.row z' (l'.map enc')] (.int .i64 n') [.row z' (l''.map enc')])
    (ha:args.map (AX.ev (ofL bs)) = [.hdr v z' (l'.map enc'),.int .i64 n]) (ho:h[o]? = some (.row z ((l.map enc).set i el))) (hx:l[i]? = some x) (hf:el.cells[j]? = some (.hdr v z' (l'.map enc'))) (hz:0 < z') (hy:b0t el j (.lst z' (l''.map enc')) = enc y):Opr P dm (.call f args) bs h (.int .i64 n') (h.set o (.row z ((l.set i y).map enc))):=by
  intro k hk
  refine .inl (.inr (.inr (.inr (.inr (.inr ⟨hm,hd,o,i,j,z,z',_,_,l''.map enc',el,v,n,n',ha,ho,b7v hx,hf,hz,by simpa using hc,?_⟩)))))
  have e:((l.map enc).set i el).set i (b0t el j (.lst z' (l''.map enc'))) = (l.set i y).map enc:=by
    rw [List.set_set,hy,List.map_set]
  rw [e]
  exact hk
end

/-! lists -/
section
variable {α:Type} {enc:α → AV}
theorem b5x {o a b z:Nat} {l:List AV} (h:AV.own o a b = AV.lst z l):False:=by cases h
theorem flw (hf:∀ x,R.flat (enc x) = true) (l:List α) (n m:Nat):∀ a ∈ ((l.map enc).drop n).take m,R.flat a = true:=by
  intro a ha
  obtain ⟨x,_,rfl⟩:=List.mem_map.1 (List.mem_of_mem_drop (List.mem_of_mem_take ha))
  exact hf x
theorem tkw (l:List α) (n m:Nat):((l.map enc).drop n).take m = ((l.drop n).take m).map enc:=by rw [List.map_take,List.map_drop]
theorem flo (hf:∀ x,R.flat (enc x) = true) (l:List α) (n:Nat):∀ a ∈ ((l.map enc).drop 0).take n,R.flat a = true:=by
  intro a ha
  obtain ⟨x,_,rfl⟩:=List.mem_map.1 (List.mem_of_mem_take ha)
  exact hf x
theorem apo (a b:List α):((a.map enc).take a.length) ++ (((b.map enc).drop 0).take b.length) = (a ++ b).map enc:=by
  rw [List.drop_zero,List.take_of_length_le (by simp),List.take_of_length_le (by simp),List.map_append]
theorem c7d (a b:List α) (B:List AV) (h:B = b.map enc):((a.map enc).take a.length) ++ ((B.drop 0).take B.length) = (a ++ b).map enc:=by
  subst h
  rw [List.drop_zero,List.take_of_length_le (by simp),List.take_of_length_le (by simp),List.map_append]
theorem apg (a b:List α) {B:List AV} (h:B = b.map enc):((a.map enc).take a.length) ++ B = (a ++ b).map enc:=by
  rw [h,List.take_of_length_le (by simp),List.map_append]
theorem apl (a b:List α):((a.map enc).take a.length) ++ b.map enc = (a ++ b).map enc:=by
  rw [List.take_of_length_le (by simp),List.map_append]
theorem tko (a:List α):((a.map enc).drop 0).take a.length = a.map enc:=by
  rw [List.drop_zero,List.take_of_length_le (by simp)]
theorem d9b {β:Type} {enc2:β → AV} {a:List α} {b:List β} (h:(a.map enc).length = (b.map enc2).length):((a.map enc).drop 0).take b.length = a.map enc:=by
  rw [List.length_map,List.length_map] at h
  rw [← h]
  exact tko a
theorem tk (a:List α):(a.map enc).take a.length = a.map enc:=List.take_of_length_le (by simp)
theorem repm (n:Nat) (x:α):List.replicate n (enc x) = (List.replicate n x).map enc:=by simp
theorem flm (hf:∀ x,R.flat (enc x) = true) (l:List α):∀ a ∈ l.map enc,R.flat a = true:=by
  intro a ha
  obtain ⟨x,_,rfl⟩:=List.mem_map.1 ha
  exact hf x
end
end Go.R
