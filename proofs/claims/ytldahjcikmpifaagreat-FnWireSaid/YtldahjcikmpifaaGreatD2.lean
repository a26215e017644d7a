/- What each operation yields, over typed data. -/
import Derived.Test.YtldahjcikmpifaaGreatD1
set_option linter.all false
namespace Go.R
open Go Go.RowKit
set_option linter.unusedVariables false
set_option linter.unusedSimpArgs false

def Opr (P:Program) (dm:Md) (op:AOp) (bs:List (Nat × AV)) (h:List o9) (v:AV) (h':List o9):Prop:=∀ k:AV → List o9 → Prop,k v h' → a4u P dm op (AX.ev (ofL bs)) h k
def d7a (P:Program) (dm:Md) (op:AOp) (bs:List (Nat × AV)) (h:List o9) (v:AV) (h':List o9) (F:Prop):Prop:=∀ k:AV → List o9 → Prop,(F → k v h') → a4u P dm op (AX.ev (ofL bs)) h k

section
variable {P:Program} {dm:Md} {bs:List (Nat × AV)} {h h':List o9} {n other:a9c} {re:List a4i} {K:(Nat → AV) → List o9 → Prop} {d:Nat} {op:AOp} {v:AV} {F:Prop}

theorem o8 (hop:Opr P dm op bs h v h') (hn:a4w P dm n (ofL ((d,v) :: bs)) h' K):a4w P dm (.q ⟨some d,none,op⟩ n) (ofL bs) h K:=hop _ hn
theorem a1n (hop:d7a P dm op bs h v h' F) (hn:F → a4w P dm n (ofL ((d,v) :: bs)) h' K):a4w P dm (.q ⟨some d,none,op⟩ n) (ofL bs) h K:=hop _ hn
theorem a1i (hop:Opr P dm op bs h v h') (hn:a4w P dm n (ofL bs) h' K):a4w P dm (.q ⟨none,none,op⟩ n) (ofL bs) h K:=hop _ hn
theorem a1r (hop:Opr P dm op bs h v h') (ha:b7w dm.m re (ofL ((d,v) :: bs)) h h') (ho:a4w P dm other (ofL bs) h K) (hn:a4w P dm n (ofL ((d,v) :: bs)) h' K):a4w P dm (.l ⟨some d,none,op⟩ re n other) (ofL bs) h K:=⟨hop _ ⟨ha,hn⟩,ho⟩
theorem a6g (hop:Opr P dm op bs h v h') (ha:b7w dm.m re (ofL bs) h h') (ho:a4w P dm other (ofL bs) h K) (hn:a4w P dm n (ofL bs) h' K):a4w P dm (.l ⟨none,none,op⟩ re n other) (ofL bs) h K:=⟨hop _ ⟨ha,hn⟩,ho⟩
theorem e0o {ng:Bool} {x:AX} {z:Nat} {l:List AV} {d:Nat} (hx:x.ev (ofL bs) = .lst z l) (hn:∀ b,(b = true → l = []) → a4w P dm n (ofL ((d,.bool (b != ng)) :: bs)) h K):a4w P dm (.q ⟨some d,none,.isnil ng x⟩ n) (ofL bs) h K:=by
  show a4u P dm (.isnil ng x) (AX.ev (ofL bs)) h _
  simp only [a4u,hx]
  exact hn
theorem d7b {α:Type} {enc:α → AV} {l:List α} (h:l.map enc = []):l = []:=by simpa using h
theorem a9t {m:Bool} {re:List a4i} {t:Nat → AV}:b7w m re t h h:=by
  cases re with
  | nil => trivial
  | cons a b => exact .inl rfl

/-! guards -/
theorem a1k {T:a9c} {s:Nat} {b e:Bool} (ht:ofL bs s = .bool e) (he:e = b) (hn:a4w P dm T (ofL ((s,.bool b) :: bs)) h K):a4w P dm T (ofL bs) h K:=by
  subst he
  have:ofL ((s,.bool e) :: bs) = ofL bs:=b1q ht
  rw [this] at hn
  exact hn
theorem s_on {s:Nat} {b:Bool} {o:Option Nat} (ht:ofL bs s = .bool b) (hn:a4w P dm (.q ⟨o,none,op⟩ n) (ofL bs) h K):a4w P dm (.q ⟨o,some (s,b),op⟩ n) (ofL bs) h K:=by
  show b5w P dm _ _ h _
  unfold b5w
  simp only [ht]
  rw [if_pos trivial,b1q ht]
  exact hn
theorem d0v {s:Nat} {b:Bool} {o:Option Nat} (ht:ofL bs s = .bool b) (hn:a4w P dm (.l ⟨o,none,op⟩ re n other) (ofL bs) h K):a4w P dm (.l ⟨o,some (s,b),op⟩ re n other) (ofL bs) h K:=by
  refine ⟨?_,hn.2⟩
  unfold b5w
  simp only [ht]
  rw [if_pos trivial,b1q ht]
  exact hn.1
theorem a0a {s:Nat} {b b':Bool} (ht:ofL bs s = .bool b') (hb:(b' == b) = false) (hn:a4w P dm n (ofL ((d,.skip) :: bs)) h K):a4w P dm (.q ⟨some d,some (s,b),op⟩ n) (ofL bs) h K:=by
  show b5w P dm _ _ h _
  unfold b5w
  simp only [ht]
  have hne:¬ b' = b:=by simpa using hb
  have hx:(!b) = b':=by cases b <;> cases b' <;> simp_all
  rw [if_neg hne,hx,b1q ht]
  exact hn
theorem c4i {s:Nat} {b b':Bool} (ht:ofL bs s = .bool b') (hb:(b' == b) = false) (ho:a4w P dm other (ofL bs) h K) (hn:a4w P dm n (ofL ((d,.skip) :: bs)) h K):a4w P dm (.l ⟨some d,some (s,b),op⟩ re n other) (ofL bs) h K:=by
  refine ⟨?_,ho⟩
  unfold b5w
  simp only [ht]
  have hne:¬ b' = b:=by simpa using hb
  have hx:(!b) = b':=by cases b <;> cases b' <;> simp_all
  rw [if_neg hne,hx,b1q ht]
  exact ⟨a9t,hn⟩
theorem a2s {s:Nat} {b:Bool} (ht:ofL bs s = .skip) (hn:a4w P dm n (ofL ((d,.skip) :: bs)) h K):a4w P dm (.q ⟨some d,some (s,b),op⟩ n) (ofL bs) h K:=by
  show b5w P dm _ _ h _
  unfold b5w
  simp only [ht]
  exact hn
theorem c2w {s:Nat} {b:Bool} (ht:ofL bs s = .skip) (ho:a4w P dm other (ofL bs) h K) (hn:a4w P dm n (ofL ((d,.skip) :: bs)) h K):a4w P dm (.l ⟨some d,some (s,b),op⟩ re n other) (ofL bs) h K:=by
  refine ⟨?_,ho⟩
  unfold b5w
  simp only [ht]
  exact ⟨a9t,hn⟩

/-! code -/
variable {m:Bool} {n0:Nat} {a b:a0p} {Q:AQ} {t:Nat → AV}
theorem a0z {T:a9c} (hn:a4w P dm T t h (kN Q)):awp P dm n0 (.reg T) t h Q:=hn
theorem a0e (hn:Q .norm t h):a4w P dm .done t h (kN Q):=hn
theorem a0i (hn:Q .norm t h):awp P dm n0 .skip t h Q:=hn
theorem a0h (hn:awp P dm n0 b t h Q):c8s (awp P dm n0 b) Q .norm t h:=hn
theorem a5z {X:Type} {S:X → List (Nat × AV) × List o9} (y:X) (hn:b5b m n0 t h (S y)):e0n m n0 S Q .norm t h:=⟨y,hn⟩
theorem a3l {id:Nat} (hn:Q .norm t h):b8z id Q .norm t h:=hn
theorem a3z {id:Nat} (hn:Q .norm t h):b8z id Q (.exit id) t h:=by simp only [b8z,if_pos]; exact hn
theorem a4a {F:(Nat → AV) → List o9 → AQ → Prop} {i:Nat} (hn:Q (.exit i) t h):c8s F Q (.exit i) t h:=hn
theorem a2w {X:Type} {S:X → List (Nat × AV) × List o9} {μ:X → Nat} {x:X} {i:Nat} (hn:Q (.exit i) t h):d3k m n0 S μ x Q (.exit i) t h:=hn
theorem a2p {X:Type} {S:X → List (Nat × AV) × List o9} {μ:X → Nat} {x:X} (y:X) (hy:μ y < μ x) (hn:b5b m n0 t h (S y)):d3k m n0 S μ x Q .norm t h:=⟨y,hy,hn⟩
theorem sr {T:a9c} (hn:a4w P dm T t h (kN (c8s (awp P dm n0 b) Q))):awp P dm n0 (.seq (.reg T) b) t h Q:=hn
theorem dk (hn:awp P dm n0 b t h Q):a4w P dm .done t h (kN (c8s (awp P dm n0 b) Q)):=hn
theorem a4b {i:Nat} (hn:Q (.exit i) t h):awp P dm n0 (.exit i) t h Q:=hn
theorem a0d (hn:Q .ret t h):awp P dm n0 .ret t h Q:=hn
theorem a3s {id:Nat} (hn:awp P dm n0 a t h (b8z id Q)):awp P dm n0 (.block id a) t h Q:=hn
theorem a0b {s:Nat} {e:Bool} (ht:ofL bs s = .bool e) (he:e = true) (hn:awp P dm n0 a (ofL ((s,.bool true) :: bs)) h Q):awp P dm n0 (.cond (.t s) a b) (ofL bs) h Q:=by
  subst he
  simp only [awp,AX.ev,ht,if_pos]
  exact hn
theorem a0c {s:Nat} {e:Bool} (ht:ofL bs s = .bool e) (he:e = false) (hn:awp P dm n0 b (ofL ((s,.bool false) :: bs)) h Q):awp P dm n0 (.cond (.t s) a b) (ofL bs) h Q:=by
  subst he
  simp only [awp,AX.ev,ht]
  exact hn
theorem d7c (hn:awp P dm n0 b t h Q):awp P dm n0 (.cond (.c (.bool false)) a b) t h Q:=hn
theorem a0m {os:List AOp} {r:AV} (hp:b5y m t h os) (hf:rflats (b5c t h os) = true) (hl:Le (pack (b5c t h os)) r):d6u m .flat os r .ret t h:=⟨hp,_,⟨hf,rfl⟩,hl⟩
theorem a1j {os:List AOp} {r:AV} {bs:List AV} {ks:List Nat} (hp:b5y m t h os) (ha:a1l true h (b5c t h os) = some (bs,ks)) (hn:ks.Nodup) (hl:Le (pack bs) r):d6u m .fresh os r .ret t h:=by
  refine ⟨hp,pack bs,?_,hl⟩
  simp only [Ret,ha]
  exact ⟨hn,trivial⟩
theorem a3a {os:List AOp} {r:AV} {hout:List o9} {n0:Nat} {t':Nat → AV} {h':List o9} (gs:List Gh) (js:List Nat) (hg:ghs m t h gs = some (t',h')) (hp:b5y m t' h' os) (hk:b7x n0 h'.length js = true) (hh:LeH (b1y h' js) hout) (hl:Le (ren (a8g js) (pack (b5c t' h' os))) r):e0l m n0 os r hout .ret t h :=
  ⟨gs,js,t',h',hg,hp,hk,hh,hl⟩
theorem c0r {os:List AOp} {r:AV} {bs:List AV} {ks:List Nat} (hp:b5y m t h os) (ha:a1l false h (b5c t h os) = some (bs,ks)) (hl:Le (pack bs) r):d6u m .weak os r .ret t h:=by
  refine ⟨hp,pack bs,?_,hl⟩
  simp only [Ret,ha]
end

section
variable {P:Program} {dm:Md} {bs:List (Nat × AV)} {h:List o9} {α:Type} {enc:α → AV} {l:List α} {z:Nat} {x i:AX} {e:α} {k:IntKind}

theorem b0g {op:AOp} {e:AX → AV} {h:List o9} {k:AV → List o9 → Prop} (hq:op.quiet = true) (hm:mmT op e h) (h1:aqP op e h ∧ (aqF op e → k (aqV op e h) h)):a4u P dm op e h k:=by
  cases op <;> first | exact ⟨aqQ.of h1.1 hm,h1.2⟩ | cases hq
theorem o_q {op:AOp} (v:AV) (hq:op.quiet = true) (hp:aqQ dm.m op (AX.ev (ofL bs)) h) (hv:aqV op (AX.ev (ofL bs)) h = v):Opr P dm op bs h v h:=by
  intro k hk
  subst hv
  cases op <;> first | (exact ⟨hp,fun _ => hk⟩) | (cases hq)
theorem a2z (v:AV) (hv:x.ev (ofL bs) = v):Opr P dm (.mov x) bs h v h:=o_q v rfl (.of trivial trivial) hv
theorem a3d (hx:x.ev (ofL bs) = .lst z (l.map enc)):d7a P dm (.len x) bs h (.int .i64 l.length) h (l.length ≤ maxLen):=by
  intro k hk
  refine b0g rfl trivial ?_
  simp only [aqP,aqF,aqV,hx,List.length_map]
  exact ⟨trivial,hk⟩
theorem a6h {o lo m z:Nat} {l:List AV} (hx:x.ev (ofL bs) = .own o lo m) (ho:h[o]? = some (.row z l)):d7a P dm (.len x) bs h (.int .i64 m) h (m ≤ maxLen):=by
  intro k hk
  refine b0g rfl trivial ?_
  simp only [aqP,aqF,aqV,hx,ho]
  exact ⟨trivial,hk⟩
theorem b6a {s:List UInt8} (hx:x.ev (ofL bs) = .str s):d7a P dm (.lenS x) bs h (.int .i64 s.length) h (s.length ≤ maxLen):=by
  intro k hk
  refine b0g rfl trivial ?_
  simp only [aqP,aqF,aqV,hx]
  exact ⟨trivial,hk⟩
theorem a5l {n:Int} (hx:x.ev (ofL bs) = .lst z (l.map enc)) (hi:i.ev (ofL bs) = .int k n) (h0:0 ≤ n) (hl:l[n.toNat]? = some e):Opr P dm (.iaddr z x i) bs h (.iptr (enc e) 0) h:=by
  intro k hk
  have hlt:n.toNat < l.length:=(List.getElem?_eq_some_iff.1 hl).1
  have hg:(l.map enc).getD n.toNat .undef = enc e:=by simp [hl]
  refine b0g rfl trivial ?_
  simp only [aqP,aqF,aqV,hx,hi,List.length_map,hg]
  exact ⟨⟨⟨h0,by omega⟩,trivial⟩,fun _ => hk⟩
theorem a3o {j:Nat} (hx:x.ev (ofL bs) = .lst z (l.map enc)) (hi:i.ev (ofL bs) = .int k (j:Int)) (hl:l[j]? = some e):Opr P dm (.iaddr z x i) bs h (.iptr (enc e) 0) h :=
  a5l hx hi (by omega) (by simpa using hl)
theorem a2i {o lo m z':Nat} {l:List AV} {n:Int} (hx:x.ev (ofL bs) = .own o lo m) (hi:i.ev (ofL bs) = .int k n) (h0:0 ≤ n) (h1:n < m) (ho:h[o]? = some (.row z' l)) (hz:z' = z):Opr P dm (.iaddr z x i) bs h (.ptr o (lo + n.toNat) 0) h:=by
  intro k hk
  subst hz
  refine b0g rfl trivial ?_
  simp only [aqP,aqF,aqV,hx,hi,ho]
  exact ⟨⟨⟨h0,h1⟩,trivial⟩,fun _ => hk⟩
theorem b6b {o m z':Nat} {l:List AV} {j:Nat} (hx:x.ev (ofL bs) = .own o 0 m) (hi:i.ev (ofL bs) = .int k (j:Int)) (h1:j < m) (ho:h[o]? = some (.row z' l)) (hz:z' = z):Opr P dm (.iaddr z x i) bs h (.ptr o j 0) h:=by
  have:=a2i (P:=P) (dm:=dm) (z:=z) hx hi (by omega) (by omega) ho hz
  simpa using this
theorem d2o {s:List UInt8} {n:Int} {c:UInt8} (hx:x.ev (ofL bs) = .str s) (hi:i.ev (ofL bs) = .int k n) (h0:0 ≤ n) (hl:s[n.toNat]? = some c):Opr P dm (.idxs x i) bs h (.int .u8 c.toNat) h:=by
  intro k hk
  have hlt:n.toNat < s.length:=(List.getElem?_eq_some_iff.1 hl).1
  have hg:s.getD n.toNat 0 = c:=by simp [hl]
  refine b0g rfl trivial ?_
  simp only [aqP,aqF,aqV,hx,hi,hg]
  exact ⟨⟨h0,by omega⟩,fun _ => hk⟩
theorem b4s {s:List UInt8} {j:Nat} {c:UInt8} (hx:x.ev (ofL bs) = .str s) (hi:i.ev (ofL bs) = .int k (j:Int)) (hl:s[j]? = some c):Opr P dm (.idxs x i) bs h (.int .u8 c.toNat) h :=
  d2o hx hi (by omega) (by simpa using hl)
theorem a3r {dm:Bool} {a:AX} {o j f sz z:Nat} {ag:Bool} {v:AV} (hx:a.ev (ofL bs) = .ptr o j f) (ho:h[o]? = some (.row z (l.map enc))) (hl:l[j]? = some e) (hp:ldP (enc e) f sz ag) (hv:ldV (enc e) f sz ag = v):Opr P (dm:Bool) (.load sz ag a) bs h v h:=by
  intro k hk
  have hg:(l.map enc).getD j .undef = enc e:=by simp [hl]
  have key:aqP (.load sz ag a) (AX.ev (ofL bs)) h:=by
    simp only [aqP,hx,ho,hg]
    exact hp
  refine ⟨key,fun _ => ?_⟩
  simp only [aqV,hx,ho,hg,hv]
  exact hk
theorem a9d {a:AX} {f sz:Nat} {ag:Bool} {el c v:AV} (hx:a.ev (ofL bs) = .iptr el f) (he:el = c) (hp:ldP c f sz ag) (hv:ldV c f sz ag = v):Opr P dm (.load sz ag a) bs h v h:=by
  intro k hk
  subst he
  refine b0g rfl (by simp only [mmT,hx]) ?_
  simp only [aqP,aqF,aqV,hx,hv]
  exact ⟨hp,fun _ => hk⟩
theorem nle {a b:Nat} (h:Nat.ble a b = true:=by rfl):a ≤ b:=Nat.le_of_ble_eq_true h
theorem c8u {o m:Nat} {l:List AV} {n:Int} {hi:AX} (hx:x.ev (ofL bs) = .own o 0 m) (ho:h[o]? = some (.row z l)) (hh:hi.ev (ofL bs) = .int k n) (h0:0 ≤ n) (h1:n ≤ m):Opr P dm (.slice z x none (some hi)) bs h (.own o 0 n.toNat) h:=by
  intro k hk
  refine b0g rfl trivial ?_
  simp only [aqP,aqF,aqV,hx,ho,hh,c5n,b3f,d6b,c9h,Option.map_some,Option.map_none,Option.getD_some,Option.getD_none]
  exact ⟨⟨⟨by omega,h0,h1⟩,trivial⟩,fun _ => hk⟩
theorem c0s {o m:Nat} {l:List AV} {n:Int} {lo:AX} (hx:x.ev (ofL bs) = .own o 0 m) (ho:h[o]? = some (.row z l)) (hh:lo.ev (ofL bs) = .int k n) (h0:0 ≤ n) (h1:n ≤ m):Opr P dm (.slice z x (some lo) none) bs h (.own o n.toNat (m - n.toNat)) h:=by
  intro k hk
  refine b0g rfl trivial ?_
  simp only [aqP,aqF,aqV,hx,ho,hh,c5n,b3f,d6b,c9h,Option.map_some,Option.map_none,Option.getD_some,Option.getD_none,Nat.zero_add]
  exact ⟨⟨⟨h0,h1,by omega⟩,trivial⟩,fun _ => hk⟩
theorem a1g {c:AV} {sz j:Nat} (hv:x.ev (ofL bs) = c) (hs:a6o h c) (hl:c.cells.length = sz) (hj:h.length = j):Opr P dm (.box sz x) bs h (.ptr j 0 0) (h ++ [.box sz c]):=by
  intro k hk
  subst hj hv
  exact ⟨⟨hs,hl⟩,hk⟩
theorem x9 {a:AX} {o j f z sz:Nat} {y v y':AV} (ha:a.ev (ofL bs) = .ptr o j f) (ho:h[o]? = some (.box z y)) (hx:x.ev (ofL bs) = v) (hs:a6o h v) (hp:b0d y f sz v) (hl:c0l h v.cells) (hy:a5q y f v = y'):Opr P dm (.store sz a x) bs h .skip (h.set o (.box z y')):=by
  intro k hk
  subst hx hy
  simp only [a4u,ha,ho]
  exact ⟨⟨hs,hp,hl⟩,hk⟩
theorem b1a {a:AX} {o j f z sz:Nat} {v v0 v':AV} {e':α} {ks:List Nat} {h2:List o9} (ha:a.ev (ofL bs) = .ptr o j f) (ho:h[o]? = some (.row z (l.map enc))) (hl:l[j]? = some e) (hx:x.ev (ofL bs) = v) (hab:a2u dm.d h v = some (v0,ks)) (hv0:v0 = v') (hk:o ∉ ks) (hnd:dm.d = true → ks.Nodup) (hp:b0d (enc e) f sz v') (hy:Le (a5q (enc e) f v') (enc e')) (hh:kill h ks = h2) :
    Opr P dm (.store sz a x) bs h .skip (h2.set o (.row z ((l.set j e').map enc))):=by
  intro k hk'
  subst hx hh hv0
  have hg:(l.map enc)[j]? = some (enc e):=by simp [hl]
  simp only [a4u,ha,ho,hg,hab]
  refine ⟨⟨hk,hnd,hp⟩,_,hy,?_⟩
  rw [← List.map_set]
  exact hk'
theorem a1c {sz j m:Nat} {xs:List AX} {as as':List AV} {ks:List Nat} {h2:List o9} (ha:a1l dm.d h (xs.map (AX.ev (ofL bs))) = some (as,ks)) (hnd:dm.d = true → ks.Nodup) (hl:d4y sz as) (he:LeL as as') (hm:as'.length = m) (hh:kill h ks = h2) (hj:h.length = j) :
    Opr P dm (.bslice sz xs) bs h (.own j 0 m) (h2 ++ [.row sz as']):=by
  intro k hk
  subst hj hm hh
  simp only [a4u,ha]
  exact .inl ⟨⟨hnd,hl⟩,as',he,by rw [he.length]; exact hk⟩
theorem d5h {sz bytes j n m len:Nat} {s:AX} {l0 l1 L:List AV} {ks0 ks1:List Nat} {h2:List o9} (hd:b8j h sz (s.ev (ofL bs)) = some (l0,n,ks0)) (hs:b3h false h sz (x.ev (ofL bs)) = some (l1,m,ks1)) (hL:l0 ++ l1 = L) (hn:n + m = len) (hb:len ≤ 2 ^ 30) (hh:kill h (ks0 ++ ks1) = h2) (hj:h.length = j) :
    Opr P (false:Bool) (.append sz bytes s x) bs h (.own j 0 len) (h2 ++ [.row sz L]):=by
  intro k hk
  subst hL hn hh hj
  simp only [a4u,hd,hs]
  exact ⟨hb,hk⟩
theorem a2a (hdd:dm.d = true) {sz bytes j n m len:Nat} {s:AX} {l0 l1 L:List AV} {ks0 ks1:List Nat} {h2:List o9} (cons:Bool) (hd:b8j h sz (s.ev (ofL bs)) = some (l0,n,ks0)) (hs:b3h cons h sz (x.ev (ofL bs)) = some (l1,m,ks1)) (hf:cons = false → ∀ a ∈ l1,R.flat a = true) (hf2:∀ z l',x.ev (ofL bs) = .lst z l' → ∀ a ∈ l1,R.flat a = true) (hnd:(ks0 ++ ks1).Nodup) (hL:l0 ++ l1 = L) (hn:n + m = len) (hb:len ≤ 2 ^ 30) (hh:kill h (ks0 ++ ks1) = h2) (hj:h.length = j) :
    Opr P dm (.append sz bytes s x) bs h (.own j 0 len) (h2 ++ [.row sz L]):=by
  intro k hk
  subst hL hn hh hj
  simp only [a4u,hdd]
  refine .inl ⟨cons,?_⟩
  simp only [hd,hs]
  exact ⟨⟨hf,hf2,hnd,hb⟩,hk⟩
/-! open rows -/
theorem d7d {o lo m z' j:Nat} {l:List AV} {el:AV} {n:Int} {i:AX} {z:Nat} {kk:IntKind} (hx:x.ev (ofL bs) = .own o lo m) (hi:i.ev (ofL bs) = .int kk n) (h0:0 ≤ n) (h1:n < m) (ho:h[o]? = some (.rowx z' l j el)) (hz:z' = z):Opr P dm (.iaddr z x i) bs h (.ptr o (lo + n.toNat) 0) h:=by
  intro k hk
  subst hz
  refine b0g rfl trivial ?_
  simp only [aqP,aqF,aqV,hx,hi,ho]
  exact ⟨⟨⟨h0,h1⟩,trivial⟩,fun _ => hk⟩
theorem d5i {o m z' j':Nat} {l:List AV} {el:AV} {j:Nat} {i:AX} {z:Nat} {kk:IntKind} (hx:x.ev (ofL bs) = .own o 0 m) (hi:i.ev (ofL bs) = .int kk (j:Int)) (h1:j < m) (ho:h[o]? = some (.rowx z' l j' el)) (hz:z' = z):Opr P dm (.iaddr z x i) bs h (.ptr o j 0) h:=by
  have:=d7d (P:=P) (dm:=dm) (z:=z) hx hi (by omega) (by omega) ho hz
  simpa using this
theorem d9s {a:AX} {o j f sz z:Nat} {ag:Bool} {l:List AV} {el v:AV} (hx:a.ev (ofL bs) = .ptr o j f) (ho:h[o]? = some (.rowx z l j el)) (hp:ldP el f sz ag) (hv:ldV el f sz ag = v):Opr P dm (.load sz ag a) bs h v h:=by
  intro k hk
  refine b0g rfl ?_ ?_
  · simp only [mmT,hx,ho]
  · simp only [aqP,aqF,aqV,hx,ho,hv]
    exact ⟨⟨trivial,hp⟩,fun _ => hk⟩
/-! the same, looked at again -/
def Agn (m:Bool) (op:AOp) (bs:List (Nat × AV)) (h:List o9) (v:AV):Prop:=aqQ m op (AX.ev (ofL bs)) h ∧ v = aqV op (AX.ev (ofL bs)) h
theorem Agn.of {m:Bool} {op:AOp} (hq:op.quiet = true) {v:AV} (ho:∀ k:AV → List o9 → Prop,k v h → (aqP op (AX.ev (ofL bs)) h ∧ (aqF op (AX.ev (ofL bs)) → k (aqV op (AX.ev (ofL bs)) h) h))) (hf:aqF op (AX.ev (ofL bs))) (hm:mmT op (AX.ev (ofL bs)) h:=by trivial):Agn m op bs h v:=by
  obtain ⟨h1,h2⟩:=ho (fun r _ => v = r) rfl
  exact ⟨.of h1 hm,h2 hf⟩
theorem b9b {o m:Nat} {l:List AV} {n:Int} {hi:AX} (hx:x.ev (ofL bs) = .own o 0 m) (ho:h[o]? = some (.row z l)) (hh:hi.ev (ofL bs) = .int k n) (h0:0 ≤ n) (h1:n ≤ m):Agn false (.slice z x none (some hi)) bs h (.own o 0 n.toNat) :=
  Agn.of rfl (fun k hk => c8u (P:=default) (dm:=(false:Bool)) hx ho hh h0 h1 k hk) trivial
theorem b0h {o m:Nat} {l:List AV} {n:Int} {lo:AX} (hx:x.ev (ofL bs) = .own o 0 m) (ho:h[o]? = some (.row z l)) (hh:lo.ev (ofL bs) = .int k n) (h0:0 ≤ n) (h1:n ≤ m):Agn false (.slice z x (some lo) none) bs h (.own o n.toNat (m - n.toNat)) :=
  Agn.of rfl (fun k hk => c0s (P:=default) (dm:=(false:Bool)) hx ho hh h0 h1 k hk) trivial
/-! calls -/
variable {f:Nat} {args:List AX} {r:AV} {cs cs':List AV}
theorem b9c {h:List o9} {p:Nat → Nat → Nat → Option AV} {a a':AV} {as as':List AV} (h1:a3y h p a = some a') (h2:a4d h p as = some as'):a4d h p (a :: as) = some (a' :: as'):=by simp only [a4d,h1,h2]
theorem d7e {h:List o9} {p:Nat → Nat → Nat → Option AV} {kf:Nat} {cf:List AV} (hcf:∀ h p,a4d h p cf = some cf):a3y h p (.fn kf cf) = some (.fn kf cf):=by simp only [a3y,hcf]; rfl
theorem a1f {bs':List AV} {v:AV} (hc:y9 P f .flat bs' r) (hb:closes h (args.map (AX.ev (ofL bs))) = some cs) (hl:LeL cs bs') (hv:r = v):Opr P dm (.call f args) bs h v h:=fun k hk => a2n.flat hc hb hl (by rw [hv]; exact hk)
theorem a3j {bs':List AV} {v:AV} {h':List o9} (hc:y9 P f .fresh bs' r) (hb:closes h (args.map (AX.ev (ofL bs))) = some cs) (hl:LeL cs bs') (hv:a2b h.length r = (v,h')):Opr P dm (.call f args) bs h v (h ++ h'):=fun k hk => a2n.fresh hc hb hl (by rw [hv]; exact hk)
theorem b2l (hm:dm.m = false) {bs':List AV} {v:AV} (hc:y9 P f .fresh bs' r) (hb:closes h (args.map (AX.ev (ofL bs))) = some cs) (hl:LeL cs bs') (hv:r = v):Opr P dm (.call f args) bs h v h:=fun k hk => a2n.freshc hm hc hb hl (by rw [hv]; exact hk)
theorem c2x (hm:dm.m = false) {bs':List AV} {ks:List Nat} {h2:List o9} {v:AV} (hc:y9 P f .weak bs' r) (hb:a1l false h (args.map (AX.ev (ofL bs))) = some (cs,ks)) (hl:LeL cs bs') (hv:r = v) (hh:kill h ks = h2):Opr P dm (.call f args) bs h v h2:=fun k hk => a2n.weak hm hc hb hl (by rw [hh,hv]; exact hk)
def d7f (h:List o9) (fl:List Bool) (js:List Nat) (as:List AV):Option (List AV × List o9 × List Nat):=match b7u h fl as with
  | some (cs,ks) => match b7x 0 h.length js with
    | true => some (a6w (a8g js) cs,b1y (kill h ks) js,ks)
    | false => none
  | none => none
theorem c0t {h:List o9} {fl:List Bool} {js ks:List Nat} {as cs2:List AV} {hs:List o9} (hf:d7f h fl js as = some (cs2,hs,ks)):∃ cs,b7u h fl as = some (cs,ks) ∧ b7x 0 h.length js = true ∧ a6w (a8g js) cs = cs2 ∧ b1y (kill h ks) js = hs:=by
  unfold d7f at hf
  split at hf
  · rename_i cs ks' e
    split at hf
    · rename_i e2
      cases hf
      exact ⟨cs,e,e2,rfl,rfl⟩
    · cases hf
  · cases hf
theorem a3e {as' cs2:List AV} {ks:List Nat} {hi hout h2 hs:List o9} {v:AV} (fl:List Bool) (js:List Nat) (hm:dm.m = true → fl = []) (hc:a0j P dm.nz f as' hi r hout) (hf:d7f h fl js (args.map (AX.ev (ofL bs))) = some (cs2,hs,ks)) (hl:LeL cs2 as') (hh:LeH hs hi) (hv:ren (a7h h.length js) r = v) (h2e:b1p (kill h ks) js hout = h2):Opr P dm (.call f args) bs h v h2:=by
  obtain ⟨cs,hf2,hn,rfl,rfl⟩:=c0t hf
  obtain ⟨_,_,k1,k2⟩:=b2w hn
  exact fun k hk => a2n.heapf fl ks js hm hf2 hc k1 k2 hl hh (by rw [hv,h2e]; exact hk)
theorem b4b {as' cs2:List AV} {ks:List Nat} {hi hout h2 hs:List o9} {v:AV} (fl:List Bool) (js:List Nat) (hm:dm.m = true → fl = []) (hc:a0j P dm.nz f as' hi r hout) (hf:d7f h fl js (args.map (AX.ev (ofL bs))) = some (cs2,hs,ks)) (hl:LeL cs2 as') (hh:LeH hs hi) (hv:ren (a7h h.length js) r = v) (h2e:b1p (kill h ks) js hout = h2):d7a P dm (.call f args) bs h v h2 (b6q hi hout):=by
  obtain ⟨cs,hf2,hn,rfl,rfl⟩:=c0t hf
  obtain ⟨_,_,k1,k2⟩:=b2w hn
  exact fun k hk => a2n.heapfs fl ks js hm hf2 hc k1 k2 hl hh (fun hs => by rw [hv,h2e]; exact hk hs)
theorem d9t {g:Nat} {caps as as' cs2:List AV} {ks:List Nat} {hi hout h2 hs:List o9} {v:AV} (fl:List Bool) (js:List Nat) (hm:dm.m = true → fl = []) (hx:x.ev (ofL bs) = .fn g caps) (hok:c8n P g = true) (hc:a0j P dm.nz g as' hi r hout) (has:args.map (AX.ev (ofL bs)) ++ caps = as) (hf:d7f h fl js as = some (cs2,hs,ks)) (hl:LeL cs2 as') (hh:LeH hs hi) (hv:ren (a7h h.length js) r = v) (h2e:b1p (kill h ks) js hout = h2):Opr P dm (.calv x args) bs h v h2:=by
  obtain ⟨cs,hf2,hn,rfl,rfl⟩:=c0t hf
  obtain ⟨_,_,k1,k2⟩:=b2w hn
  intro k hk
  simp only [a4u,hx]
  rw [has]
  exact ⟨hok,a2n.heapf fl ks js hm hf2 hc k1 k2 hl hh (by rw [hv,h2e]; exact hk)⟩
theorem b6c {p:Nat → Nat → Nat → Option AV}:∀ {as bs as' bs':List AV},a4d h p as = some as' → a4d h p bs = some bs' → a4d h p (as ++ bs) = some (as' ++ bs')
  | [],bs,as',bs',h1,h2 => by simp only [a4d] at h1; cases h1; simpa using h2
  | a :: as,bs,as',bs',h1,h2 => by
    simp only [a4d,List.cons_append] at h1 ⊢
    split at h1
    · rename_i x xs e1 e2
      cases h1
      rw [e1,b6c e2 h2]
      rfl
    · cases h1
theorem LeL.append:∀ {as bs as' bs':List AV},LeL as as' → LeL bs bs' → LeL (as ++ bs) (as' ++ bs')
  | _,_,_,_,.nil,h => h
  | _,_,_,_,.cons a t,h => .cons a (LeL.append t h)
theorem d3m {g:Nat} {cf bs':List AV} {v:AV} (hx:x.ev (ofL bs) = .fn g cf) (hok:c8n P g = true) (hcf:∀ h p,a4d h p cf = some cf) (hc:y9 P g .flat (bs' ++ cf) r) (hb:closes h (args.map (AX.ev (ofL bs))) = some cs) (hl:LeL cs bs') (hv:r = v):Opr P dm (.calv x args) bs h v h:=by
  intro k hk
  simp only [a4u,hx]
  refine ⟨hok,a2n.flat hc (b6c hb (hcf _ _)) (LeL.append hl (.refl _)) ?_⟩
  rw [hv]; exact hk
theorem d9u {g:Nat} {caps as bs':List AV} {v:AV} (hx:x.ev (ofL bs) = .fn g caps) (hok:c8n P g = true) (hc:y9 P g .flat bs' r) (has:args.map (AX.ev (ofL bs)) ++ caps = as) (hb:closes h as = some cs) (hl:LeL cs bs') (hv:r = v):Opr P dm (.calv x args) bs h v h:=by
  intro k hk
  subst has
  simp only [a4u,hx]
  refine ⟨hok,a2n.flat hc hb hl ?_⟩
  rw [hv]; exact hk
end

/-! clear -/
section
variable {P:Program} {dm:Md} {bs:List (Nat × AV)} {h:List o9} {α:Type} {enc:α → AV} {l:List α} {z:Nat} {x:AX} {y:α} {zero:AV}
theorem LeL.repz {n:Nat} (hz:Le zero (enc y)):LeL (List.replicate n zero) ((List.replicate n y).map enc):=by
  rw [List.map_replicate]
  induction n with
  | zero => exact .nil
  | succ n ih => exact .cons hz ih
theorem e0p {o lo n:Nat} {L:List α} (hx:x.ev (ofL bs) = .own o lo n) (ho:h[o]? = some (.row z (l.map enc))) (hz:Le zero (enc y)) (hL:l.take lo ++ List.replicate n y ++ l.drop (lo + n) = L):Opr P dm (.clr z zero x) bs h (.tup []) (h.set o (.row z (L.map enc))):=by
  intro k hk
  subst hL
  simp only [a4u,hx,ho]
  refine ⟨trivial,_,LeL.repz hz,?_⟩
  rw [← List.map_take,← List.map_drop,← List.map_append,← List.map_append]
  exact hk
theorem LeO.tk (l:List α) (n:Nat):LeO (.row z ((l.map enc).take n)) (.row z ((l.take n).map enc)):=by rw [List.map_take]; exact .refl _
theorem b9d {f:Nat → Option Nat} {m:List (List UInt8 × α)} (h:∀ v,ren f (enc v) = enc v):LeO (a6a f (.map (m.map fun p => (p.1,enc p.2)))) (.map (m.map fun p => (p.1,enc p.2))):=by
  have:(m.map fun p => (p.1,enc p.2)).map (fun p => (p.1,ren f p.2)) = m.map fun p => (p.1,enc p.2):=by
    rw [List.map_map]
    exact List.map_congr_left fun p _ => by simp only [Function.comp,h]
  show LeO (.map ((m.map fun p => (p.1,enc p.2)).map fun p => (p.1,ren f p.2))) _
  rw [this]
  exact .refl _
theorem d9v {j:Nat} (hj:h.length = j):Opr P dm .mkmap bs h (.ptr j 0 0) (h ++ [.map []]):=by
  intro k hk
  subst hj
  exact hk
theorem d7g {mx kx:AX} {o i f:Nat} {s:List UInt8} {m:List (List UInt8 × α)} {v:α} (hm:mx.ev (ofL bs) = .ptr o i f) (hkx:kx.ev (ofL bs) = .str s) (ho:h[o]? = some (.map (m.map fun p => (p.1,enc p.2)))) (hv:x.ev (ofL bs) = enc v) :
    Opr P dm (.mapset mx kx x) bs h .skip (h.set o (.map ((b2a m s v).map fun p => (p.1,enc p.2)))):=by
  intro k hk
  simp only [a4u,hm,hkx,ho,hv,← d0f]
  exact hk
theorem d7h {mx kx:AX} {o i f:Nat} {s:List UInt8} {m:List (List UInt8 × α)} {v:α} {z:AV} (hm:mx.ev (ofL bs) = .ptr o i f) (hkx:kx.ev (ofL bs) = .str s) (ho:h[o]? = some (.map (m.map fun p => (p.1,enc p.2)))) (hl:a5m m s = some v) :
    Opr P dm (.mapget z mx kx) bs h (enc v) h:=by
  intro k hk
  simp only [a4u,hm,hkx,ho,c6p,hl,Option.map_some,Option.getD_some]
  exact hk
end

/-! writing in place -/
section
variable {P:Program} {dm:Md} {n0:Nat} {bs:List (Nat × AV)} {h:List o9} {α β:Type} {enc:α → AV} {enc':β → AV} {l:List α} {z:Nat} {x:α}
theorem e1w {a:a0p} {t:Nat → AV} {Q:AQ} {o i:Nat} {el el2:AV} {xs:List o9} (hm:dm.m = true) (hd:dm.d = true) (ho:h[o]? = some (.row z (l.map enc))) (hx:l[i]? = some x) (he:enc x = el) (hb:a2c h.length el.cells = (el2.cells,xs)) (hn:awp P dm n0 a t (h.set o (.rowx z (l.map enc) i el2) ++ xs) Q):awp P dm n0 (.rev a) t h Q:=by
  subst he
  exact .inr (.inl ⟨⟨hm,hd⟩,o,i,z,_,_,el2,xs,ho,by simp [hx],hb,hn⟩)
end

/-! lists -/
section
variable {α:Type} {enc:α → AV}
theorem b7c {o a b z:Nat} {l:List AV} (h:AV.own o a b = AV.lst z l):False:=by cases h
theorem e6e {z:Nat} {l:List AV} (h:AV.nil = AV.lst z l):False:=by cases h
theorem e1x:∀ a ∈ ([]:List AV),R.flat a = true:=by simp
theorem flw (hf:∀ x,R.flat (enc x) = true) (l:List α) (n m:Nat):∀ a ∈ ((l.map enc).drop n).take m,R.flat a = true:=by
  intro a ha
  obtain ⟨x,_,rfl⟩:=List.mem_map.1 (List.mem_of_mem_drop (List.mem_of_mem_take ha))
  exact hf x
theorem tkw (l:List α) (n m:Nat):((l.map enc).drop n).take m = ((l.drop n).take m).map enc:=by rw [List.map_take,List.map_drop]
theorem flo (hf:∀ x,R.flat (enc x) = true) (l:List α) (n:Nat):∀ a ∈ ((l.map enc).drop 0).take n,R.flat a = true:=by
  intro a ha
  obtain ⟨x,_,rfl⟩:=List.mem_map.1 (List.mem_of_mem_take ha)
  exact hf x
theorem c5s (a b:List α) (B:List AV) (h:B = b.map enc):((a.map enc).take a.length) ++ ((B.drop 0).take B.length) = (a ++ b).map enc:=by
  subst h
  rw [List.drop_zero,List.take_of_length_le (by simp),List.take_of_length_le (by simp),List.map_append]
theorem apg (a b:List α) {B:List AV} (h:B = b.map enc):((a.map enc).take a.length) ++ B = (a ++ b).map enc:=by
  rw [h,List.take_of_length_le (by simp),List.map_append]
theorem tko (a:List α):((a.map enc).drop 0).take a.length = a.map enc:=by
  rw [List.drop_zero,List.take_of_length_le (by simp)]
theorem tk (a:List α):(a.map enc).take a.length = a.map enc:=List.take_of_length_le (by simp)
theorem repm (n:Nat) (x:α):List.replicate n (enc x) = (List.replicate n x).map enc:=by simp
theorem flm (hf:∀ x,R.flat (enc x) = true) (l:List α):∀ a ∈ l.map enc,R.flat a = true:=by
  intro a ha
  obtain ⟨x,_,rfl⟩:=List.mem_map.1 ha
  exact hf x
end
end Go.R
