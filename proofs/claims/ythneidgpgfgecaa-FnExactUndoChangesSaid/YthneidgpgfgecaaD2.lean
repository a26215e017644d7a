/- What each operation yields, over typed data. -/
import Derived.Test.YthneidgpgfgecaaD1
set_option linter.all false
namespace Go.R
open Go Go.RowKit
set_option linter.unusedVariables false
set_option linter.unusedSimpArgs false

def Opr (P:Program) (dm:Md) (op:AOp) (bs:List (Nat × AV)) (h:List o9) (v:AV) (h':List o9):Prop:=∀ k:AV → List o9 → Prop,k v h' → a4y P dm op (AX.ev (ofL bs)) h k
def d6x (P:Program) (dm:Md) (op:AOp) (bs:List (Nat × AV)) (h:List o9) (v:AV) (h':List o9) (F:Prop):Prop:=∀ k:AV → List o9 → Prop,(F → k v h') → a4y P dm op (AX.ev (ofL bs)) h k

section
variable {P:Program} {dm:Md} {bs:List (Nat × AV)} {h h':List o9} {n other:a9f} {re:List a3z} {K:(Nat → AV) → List o9 → Prop} {d:Nat} {op:AOp} {v:AV} {F:Prop}

theorem a0a (hop:Opr P dm op bs h v h') (hn:a5b P dm n (ofL ((d,v) :: bs)) h' K):a5b P dm (.q ⟨some d,none,op⟩ n) (ofL bs) h K:=hop _ hn
theorem a0w (hop:d6x P dm op bs h v h' F) (hn:F → a5b P dm n (ofL ((d,v) :: bs)) h' K):a5b P dm (.q ⟨some d,none,op⟩ n) (ofL bs) h K:=hop _ hn
theorem a1p (hop:Opr P dm op bs h v h') (hn:a5b P dm n (ofL bs) h' K):a5b P dm (.q ⟨none,none,op⟩ n) (ofL bs) h K:=hop _ hn
theorem a5c (hop:Opr P dm op bs h v h') (ha:b8i dm.m re (ofL ((d,v) :: bs)) h h') (ho:a5b P dm other (ofL bs) h K) (hn:a5b P dm n (ofL ((d,v) :: bs)) h' K):a5b P dm (.l ⟨some d,none,op⟩ re n other) (ofL bs) h K:=⟨hop _ ⟨ha,hn⟩,ho⟩
theorem b5u (hop:Opr P dm op bs h v h') (ha:b8i dm.m re (ofL bs) h h') (ho:a5b P dm other (ofL bs) h K) (hn:a5b P dm n (ofL bs) h' K):a5b P dm (.l ⟨none,none,op⟩ re n other) (ofL bs) h K:=⟨hop _ ⟨ha,hn⟩,ho⟩
theorem e3u {ng:Bool} {x:AX} {z:Nat} {l:List AV} {d:Nat} (hx:x.ev (ofL bs) = .lst z l) (hn:∀ b,(b = true → l = []) → a5b P dm n (ofL ((d,.bool (b != ng)) :: bs)) h K):a5b P dm (.q ⟨some d,none,.isnil ng x⟩ n) (ofL bs) h K:=by
  show a4y P dm (.isnil ng x) (AX.ev (ofL bs)) h _
  simp only [a4y,hx]
  exact hn
theorem e2n {ng:Bool} {x:AX} {o lo m z:Nat} {l:List AV} {d:Nat} (hx:x.ev (ofL bs) = .own o lo m) (ho:h[o]? = some (.row z l)) (hn:∀ b,(b = true → m = 0) → a5b P dm n (ofL ((d,.bool (b != ng)) :: bs)) h K):a5b P dm (.q ⟨some d,none,.isnil ng x⟩ n) (ofL bs) h K:=by
  show a4y P dm (.isnil ng x) (AX.ev (ofL bs)) h _
  simp only [a4y,hx,ho]
  exact hn
theorem e2o {α:Type} {enc:α → AV} {l:List α} (h:l.map enc = []):l = []:=by simpa using h
theorem a6y {m:Bool} {re:List a3z} {t:Nat → AV}:b8i m re t h h:=by
  cases re with
  | nil => trivial
  | cons a b => exact .inl rfl

/-! guards -/
theorem a4i {T:a9f} {s:Nat} {b e:Bool} (ht:ofL bs s = .bool e) (he:e = b) (hn:a5b P dm T (ofL ((s,.bool b) :: bs)) h K):a5b P dm T (ofL bs) h K:=by
  subst he
  have:ofL ((s,.bool e) :: bs) = ofL bs:=b1t ht
  rw [this] at hn
  exact hn
theorem s_on {s:Nat} {b:Bool} {o:Option Nat} (ht:ofL bs s = .bool b) (hn:a5b P dm (.q ⟨o,none,op⟩ n) (ofL bs) h K):a5b P dm (.q ⟨o,some (s,b),op⟩ n) (ofL bs) h K:=by
  show b9f P dm _ _ h _
  unfold b9f
  simp only [ht]
  rw [if_pos trivial,b1t ht]
  exact hn
theorem e3v {s:Nat} {b:Bool} {o:Option Nat} (ht:ofL bs s = .bool b) (hn:a5b P dm (.l ⟨o,none,op⟩ re n other) (ofL bs) h K):a5b P dm (.l ⟨o,some (s,b),op⟩ re n other) (ofL bs) h K:=by
  refine ⟨?_,hn.2⟩
  unfold b9f
  simp only [ht]
  rw [if_pos trivial,b1t ht]
  exact hn.1
theorem a0t {s:Nat} {b b':Bool} (ht:ofL bs s = .bool b') (hb:(b' == b) = false) (hn:a5b P dm n (ofL ((d,.skip) :: bs)) h K):a5b P dm (.q ⟨some d,some (s,b),op⟩ n) (ofL bs) h K:=by
  show b9f P dm _ _ h _
  unfold b9f
  simp only [ht]
  have hne:¬ b' = b:=by simpa using hb
  have hx:(!b) = b':=by cases b <;> cases b' <;> simp_all
  rw [if_neg hne,hx,b1t ht]
  exact hn
theorem e2p {s:Nat} {b b':Bool} (ht:ofL bs s = .bool b') (hb:(b' == b) = false) (ho:a5b P dm other (ofL bs) h K) (hn:a5b P dm n (ofL ((d,.skip) :: bs)) h K):a5b P dm (.l ⟨some d,some (s,b),op⟩ re n other) (ofL bs) h K:=by
  refine ⟨?_,ho⟩
  unfold b9f
  simp only [ht]
  have hne:¬ b' = b:=by simpa using hb
  have hx:(!b) = b':=by cases b <;> cases b' <;> simp_all
  rw [if_neg hne,hx,b1t ht]
  exact ⟨a6y,hn⟩
/-! code -/
variable {m:Bool} {n0:Nat} {a b:a0r} {Q:AQ} {t:Nat → AV}
theorem a0y {T:a9f} (hn:a5b P dm T t h (kN Q)):awp P dm n0 (.reg T) t h Q:=hn
theorem a0n (hn:Q .norm t h):a5b P dm .done t h (kN Q):=hn
theorem a0e (hn:Q .norm t h):awp P dm n0 .skip t h Q:=hn
theorem a0h (hn:awp P dm n0 b t h Q):c8i (awp P dm n0 b) Q .norm t h:=hn
theorem a5g {X:Type} {S:X → List (Nat × AV) × List o9} (y:X) (hn:b4v m n0 t h (S y)):d6v m n0 S Q .norm t h:=⟨y,hn⟩
theorem a2r {id:Nat} (hn:Q .norm t h):b9i id Q .norm t h:=hn
theorem a2c {id:Nat} (hn:Q .norm t h):b9i id Q (.exit id) t h:=by simp only [b9i,if_pos]; exact hn
theorem a2d {F:(Nat → AV) → List o9 → AQ → Prop} {i:Nat} (hn:Q (.exit i) t h):c8i F Q (.exit i) t h:=hn
theorem a1l {X:Type} {S:X → List (Nat × AV) × List o9} {μ:X → Nat} {x:X} {i:Nat} (hn:Q (.exit i) t h):d3p m n0 S μ x Q (.exit i) t h:=hn
theorem a1j {X:Type} {S:X → List (Nat × AV) × List o9} {μ:X → Nat} {x:X} (y:X) (hy:μ y < μ x) (hn:b4v m n0 t h (S y)):d3p m n0 S μ x Q .norm t h:=⟨y,hy,hn⟩
theorem sr {T:a9f} (hn:a5b P dm T t h (kN (c8i (awp P dm n0 b) Q))):awp P dm n0 (.seq (.reg T) b) t h Q:=hn
theorem dk (hn:awp P dm n0 b t h Q):a5b P dm .done t h (kN (c8i (awp P dm n0 b) Q)):=hn
theorem a2e {i:Nat} (hn:Q (.exit i) t h):awp P dm n0 (.exit i) t h Q:=hn
theorem a0f (hn:Q .ret t h):awp P dm n0 .ret t h Q:=hn
theorem a2u {id:Nat} (hn:awp P dm n0 a t h (b9i id Q)):awp P dm n0 (.block id a) t h Q:=hn
theorem y8 {s:Nat} {e:Bool} (ht:ofL bs s = .bool e) (he:e = true) (hn:awp P dm n0 a (ofL ((s,.bool true) :: bs)) h Q):awp P dm n0 (.cond (.t s) a b) (ofL bs) h Q:=by
  subst he
  simp only [awp,AX.ev,ht,if_pos]
  exact hn
theorem y7 {s:Nat} {e:Bool} (ht:ofL bs s = .bool e) (he:e = false) (hn:awp P dm n0 b (ofL ((s,.bool false) :: bs)) h Q):awp P dm n0 (.cond (.t s) a b) (ofL bs) h Q:=by
  subst he
  simp only [awp,AX.ev,ht]
  exact hn
theorem a0k {os:List AOp} {r:AV} (hp:b7h m t h os) (hf:rflats (b5t t h os) = true) (hl:Le (pack (b5t t h os)) r):d6s m .flat os r .ret t h:=⟨hp,_,⟨hf,rfl⟩,hl⟩
theorem a5e {os:List AOp} {r:AV} {bs:List AV} {ks:List Nat} (hp:b7h m t h os) (ha:a1i true h (b5t t h os) = some (bs,ks)) (hn:ks.Nodup) (hl:Le (pack bs) r):d6s m .fresh os r .ret t h:=by
  refine ⟨hp,pack bs,?_,hl⟩
  simp only [Ret,ha]
  exact ⟨hn,trivial⟩
theorem a2s {os:List AOp} {r:AV} {hout:List o9} {n0:Nat} {t':Nat → AV} {h':List o9} (gs:List Gh) (js:List Nat) (hg:ghs m t h gs = some (t',h')) (hp:b7h m t' h' os) (hk:b8j n0 h'.length js = true) (hh:LeH (b2g h' js) hout) (hl:Le (ren (a8a js) (pack (b5t t' h' os))) r):e1y m n0 os r hout .ret t h :=
  ⟨gs,js,t',h',hg,hp,hk,hh,hl⟩
theorem b4k {os:List AOp} {r:AV} {bs:List AV} {ks:List Nat} (hp:b7h m t h os) (ha:a1i false h (b5t t h os) = some (bs,ks)) (hl:Le (pack bs) r):d6s m .weak os r .ret t h:=by
  refine ⟨hp,pack bs,?_,hl⟩
  simp only [Ret,ha]
end

section
variable {P:Program} {dm:Md} {bs:List (Nat × AV)} {h:List o9} {α:Type} {enc:α → AV} {l:List α} {z:Nat} {x i:AX} {e:α} {k:IntKind}

theorem b0t {op:AOp} {e:AX → AV} {h:List o9} {k:AV → List o9 → Prop} (hq:op.quiet = true) (hm:mmT op e h) (h1:aqP op e h ∧ (aqF op e → k (aqV op e h) h)):a4y P dm op e h k:=by
  cases op <;> first | exact ⟨aqQ.of h1.1 hm,h1.2⟩ | cases hq
theorem o_q {op:AOp} (v:AV) (hq:op.quiet = true) (hp:aqQ dm.m op (AX.ev (ofL bs)) h) (hv:aqV op (AX.ev (ofL bs)) h = v):Opr P dm op bs h v h:=by
  intro k hk
  subst hv
  cases op <;> first | (exact ⟨hp,fun _ => hk⟩) | (cases hq)
theorem b2z (v:AV) (hv:x.ev (ofL bs) = v):Opr P dm (.mov x) bs h v h:=o_q v rfl (.of trivial trivial) hv
theorem a1b (hx:x.ev (ofL bs) = .lst z (l.map enc)):d6x P dm (.len x) bs h (.int .i64 l.length) h (l.length ≤ maxLen):=by
  intro k hk
  refine b0t rfl trivial ?_
  simp only [aqP,aqF,aqV,hx,List.length_map]
  exact ⟨trivial,hk⟩
theorem a6c {o lo m z:Nat} {l:List AV} (hx:x.ev (ofL bs) = .own o lo m) (ho:h[o]? = some (.row z l)):d6x P dm (.len x) bs h (.int .i64 m) h (m ≤ maxLen):=by
  intro k hk
  refine b0t rfl trivial ?_
  simp only [aqP,aqF,aqV,hx,ho]
  exact ⟨trivial,hk⟩
theorem e2q {s:List UInt8} (hx:x.ev (ofL bs) = .str s):d6x P dm (.lenS x) bs h (.int .i64 s.length) h (s.length ≤ maxLen):=by
  intro k hk
  refine b0t rfl trivial ?_
  simp only [aqP,aqF,aqV,hx]
  exact ⟨trivial,hk⟩
theorem a5k {n:Int} (hx:x.ev (ofL bs) = .lst z (l.map enc)) (hi:i.ev (ofL bs) = .int k n) (h0:0 ≤ n) (hl:l[n.toNat]? = some e):Opr P dm (.iaddr z x i) bs h (.iptr (enc e) 0) h:=by
  intro k hk
  have hlt:n.toNat < l.length:=(List.getElem?_eq_some_iff.1 hl).1
  have hg:(l.map enc).getD n.toNat .undef = enc e:=by simp [hl]
  refine b0t rfl trivial ?_
  simp only [aqP,aqF,aqV,hx,hi,List.length_map,hg]
  exact ⟨⟨⟨h0,by omega⟩,trivial⟩,fun _ => hk⟩
theorem a1h {j:Nat} (hx:x.ev (ofL bs) = .lst z (l.map enc)) (hi:i.ev (ofL bs) = .int k (j:Int)) (hl:l[j]? = some e):Opr P dm (.iaddr z x i) bs h (.iptr (enc e) 0) h :=
  a5k hx hi (by omega) (by simpa using hl)
theorem a2g {o lo m z':Nat} {l:List AV} {n:Int} (hx:x.ev (ofL bs) = .own o lo m) (hi:i.ev (ofL bs) = .int k n) (h0:0 ≤ n) (h1:n < m) (ho:h[o]? = some (.row z' l)) (hz:z' = z):Opr P dm (.iaddr z x i) bs h (.ptr o (lo + n.toNat) 0) h:=by
  intro k hk
  subst hz
  refine b0t rfl trivial ?_
  simp only [aqP,aqF,aqV,hx,hi,ho]
  exact ⟨⟨⟨h0,h1⟩,trivial⟩,fun _ => hk⟩
theorem b0l {o m z':Nat} {l:List AV} {j:Nat} (hx:x.ev (ofL bs) = .own o 0 m) (hi:i.ev (ofL bs) = .int k (j:Int)) (h1:j < m) (ho:h[o]? = some (.row z' l)) (hz:z' = z):Opr P dm (.iaddr z x i) bs h (.ptr o j 0) h:=by
  have:=a2g (P:=P) (dm:=dm) (z:=z) hx hi (by omega) (by omega) ho hz
  simpa using this
theorem c0t {dm:Bool} {a:AX} {o j f sz z:Nat} {ag:Bool} {v:AV} (hx:a.ev (ofL bs) = .ptr o j f) (ho:h[o]? = some (.row z (l.map enc))) (hl:l[j]? = some e) (hp:ldP (enc e) f sz ag) (hv:ldV (enc e) f sz ag = v):Opr P (dm:Bool) (.load sz ag a) bs h v h:=by
  intro k hk
  have hg:(l.map enc).getD j .undef = enc e:=by simp [hl]
  have key:aqP (.load sz ag a) (AX.ev (ofL bs)) h:=by
    simp only [aqP,hx,ho,hg]
    exact hp
  refine ⟨key,fun _ => ?_⟩
  simp only [aqV,hx,ho,hg,hv]
  exact hk
theorem nle {a b:Nat} (h:Nat.ble a b = true:=by rfl):a ≤ b:=Nat.le_of_ble_eq_true h
theorem d6z {n:Int} {hi:AX} (hx:x.ev (ofL bs) = .lst z (l.map enc)) (hh:hi.ev (ofL bs) = .int k n) (h0:0 ≤ n) (h1:n ≤ l.length):Opr P dm (.slice z x none (some hi)) bs h (.lst z ((l.take n.toNat).map enc)) h:=by
  intro k hk
  refine b0t rfl trivial ?_
  simp only [aqP,aqF,aqV,hx,hh,c5u,b3e,d5y,c9i,Option.map_some,Option.map_none,Option.getD_some,Option.getD_none,List.length_map,← List.map_take]
  exact ⟨⟨⟨by omega,h0,h1⟩,trivial⟩,fun _ => hk⟩
theorem d3r {n:Int} {lo:AX} (hx:x.ev (ofL bs) = .lst z (l.map enc)) (hh:lo.ev (ofL bs) = .int k n) (h0:0 ≤ n) (h1:n ≤ l.length):Opr P dm (.slice z x (some lo) none) bs h (.lst z ((l.drop n.toNat).map enc)) h:=by
  intro k hk
  refine b0t rfl trivial ?_
  simp only [aqP,aqF,aqV,hx,hh,c5u,b3e,d5y,c9i,Option.map_some,Option.map_none,Option.getD_some,Option.getD_none,List.length_map,← List.map_drop]
  exact ⟨⟨⟨h0,h1,by omega⟩,trivial⟩,fun _ => hk⟩
theorem a1m {c:AV} {sz j:Nat} (hv:x.ev (ofL bs) = c) (hs:a6h h c) (hl:c.cells.length = sz) (hj:h.length = j):Opr P dm (.box sz x) bs h (.ptr j 0 0) (h ++ [.box sz c]):=by
  intro k hk
  subst hj hv
  exact ⟨⟨hs,hl⟩,hk⟩
theorem a0i {a:AX} {o j f z sz:Nat} {y v y':AV} (ha:a.ev (ofL bs) = .ptr o j f) (ho:h[o]? = some (.box z y)) (hx:x.ev (ofL bs) = v) (hs:a6h h v) (hp:a9m y f sz v) (hl:b8g h v.cells) (hy:a4w y f v = y'):Opr P dm (.store sz a x) bs h .skip (h.set o (.box z y')):=by
  intro k hk
  subst hx hy
  simp only [a4y,ha,ho]
  exact ⟨⟨hs,hp,hl⟩,hk⟩
theorem a4j {a:AX} {o j f z sz:Nat} {v v0 v':AV} {e':α} {ks:List Nat} {h2:List o9} (ha:a.ev (ofL bs) = .ptr o j f) (ho:h[o]? = some (.row z (l.map enc))) (hl:l[j]? = some e) (hx:x.ev (ofL bs) = v) (hab:a2b dm.d h v = some (v0,ks)) (hv0:v0 = v') (hk:o ∉ ks) (hnd:dm.d = true → ks.Nodup) (hp:a9m (enc e) f sz v') (hy:Le (a4w (enc e) f v') (enc e')) (hh:kill h ks = h2) :
    Opr P dm (.store sz a x) bs h .skip (h2.set o (.row z ((l.set j e').map enc))):=by
  intro k hk'
  subst hx hh hv0
  have hg:(l.map enc)[j]? = some (enc e):=by simp [hl]
  simp only [a4y,ha,ho,hg,hab]
  refine ⟨⟨hk,hnd,hp⟩,_,hy,?_⟩
  rw [← List.map_set]
  exact hk'
theorem b3u {sz bytes j m:Nat} {zero:AV} {nx cx:AX} {k':IntKind} {c:Int} (e:α) (hz:Le zero (enc e)) (hn:nx.ev (ofL bs) = .int k (m:Int)) (hc:cx.ev (ofL bs) = .int k' c) (h1:(m:Int) ≤ c) (h2:c ≤ 2 ^ 30) (hj:h.length = j) :
    Opr P dm (.mkslice sz bytes zero nx cx) bs h (.own j 0 m) (h ++ [.row sz ((List.replicate m e).map enc)]):=by
  intro k hk
  subst hj
  simp only [a4y,hn,hc]
  refine ⟨⟨by omega,h1,h2⟩,(List.replicate m e).map enc,?_,by simpa using hk⟩
  rw [Int.toNat_natCast,List.map_replicate]
  exact LeL.rep hz m
theorem a3k {sz j m:Nat} {xs:List AX} {as as':List AV} {ks:List Nat} {h2:List o9} (ha:a1i dm.d h (xs.map (AX.ev (ofL bs))) = some (as,ks)) (hnd:dm.d = true → ks.Nodup) (hl:d6f sz as) (he:LeL as as') (hm:as'.length = m) (hh:kill h ks = h2) (hj:h.length = j) :
    Opr P dm (.bslice sz xs) bs h (.own j 0 m) (h2 ++ [.row sz as']):=by
  intro k hk
  subst hj hm hh
  simp only [a4y,ha]
  exact ⟨⟨hnd,hl⟩,as',he,by rw [he.length]; exact hk⟩
theorem b3v {sz bytes j n m len:Nat} {s:AX} {l0 l1 L:List AV} {ks0 ks1:List Nat} {h2:List o9} (hd:b7e h sz (s.ev (ofL bs)) = some (l0,n,ks0)) (hs:b2j false h sz (x.ev (ofL bs)) = some (l1,m,ks1)) (hL:l0 ++ l1 = L) (hn:n + m = len) (hb:len ≤ 2 ^ 30) (hh:kill h (ks0 ++ ks1) = h2) (hj:h.length = j) :
    Opr P (false:Bool) (.append sz bytes s x) bs h (.own j 0 len) (h2 ++ [.row sz L]):=by
  intro k hk
  subst hL hn hh hj
  simp only [a4y,hd,hs]
  exact ⟨hb,hk⟩
theorem a7t (hdd:dm.d = true) {sz bytes j n m len:Nat} {s:AX} {l0 l1 L:List AV} {ks0 ks1:List Nat} {h2:List o9} (cons:Bool) (hd:b7e h sz (s.ev (ofL bs)) = some (l0,n,ks0)) (hs:b2j cons h sz (x.ev (ofL bs)) = some (l1,m,ks1)) (hf:cons = false → ∀ a ∈ l1,R.flat a = true) (hf2:∀ z l',x.ev (ofL bs) = .lst z l' → ∀ a ∈ l1,R.flat a = true) (hnd:(ks0 ++ ks1).Nodup) (hL:l0 ++ l1 = L) (hn:n + m = len) (hb:len ≤ 2 ^ 30) (hh:kill h (ks0 ++ ks1) = h2) (hj:h.length = j) :
    Opr P dm (.append sz bytes s x) bs h (.own j 0 len) (h2 ++ [.row sz L]):=by
  intro k hk
  subst hL hn hh hj
  simp only [a4y,hdd]
  refine .inl ⟨cons,?_⟩
  simp only [hd,hs]
  exact ⟨⟨hf,hf2,hnd,hb⟩,hk⟩
/-! open rows -/
theorem b1u {o lo m z' j:Nat} {l:List AV} {el:AV} {n:Int} {i:AX} {z:Nat} {kk:IntKind} (hx:x.ev (ofL bs) = .own o lo m) (hi:i.ev (ofL bs) = .int kk n) (h0:0 ≤ n) (h1:n < m) (ho:h[o]? = some (.rowx z' l j el)) (hz:z' = z):Opr P dm (.iaddr z x i) bs h (.ptr o (lo + n.toNat) 0) h:=by
  intro k hk
  subst hz
  refine b0t rfl trivial ?_
  simp only [aqP,aqF,aqV,hx,hi,ho]
  exact ⟨⟨⟨h0,h1⟩,trivial⟩,fun _ => hk⟩
theorem c7k {o m z' j':Nat} {l:List AV} {el:AV} {j:Nat} {i:AX} {z:Nat} {kk:IntKind} (hx:x.ev (ofL bs) = .own o 0 m) (hi:i.ev (ofL bs) = .int kk (j:Int)) (h1:j < m) (ho:h[o]? = some (.rowx z' l j' el)) (hz:z' = z):Opr P dm (.iaddr z x i) bs h (.ptr o j 0) h:=by
  have:=b1u (P:=P) (dm:=dm) (z:=z) hx hi (by omega) (by omega) ho hz
  simpa using this
theorem b6y {a:AX} {o j f sz z:Nat} {ag:Bool} {l:List AV} {el v:AV} (hx:a.ev (ofL bs) = .ptr o j f) (ho:h[o]? = some (.rowx z l j el)) (hp:ldP el f sz ag) (hv:ldV el f sz ag = v):Opr P dm (.load sz ag a) bs h v h:=by
  intro k hk
  refine b0t rfl ?_ ?_
  · simp only [mmT,hx,ho]
  · simp only [aqP,aqF,aqV,hx,ho,hv]
    exact ⟨⟨trivial,hp⟩,fun _ => hk⟩
theorem c4l {a:AX} {o j f z sz:Nat} {l:List AV} {y v y':AV} (ha:a.ev (ofL bs) = .ptr o j f) (ho:h[o]? = some (.rowx z l j y)) (hx:x.ev (ofL bs) = v) (hs:a6h h v) (hp:a9m y f sz v) (hl:b8g h v.cells) (hy:a4w y f v = y'):Opr P dm (.store sz a x) bs h .skip (h.set o (.rowx z l j y')):=by
  intro k hk
  subst hx hy
  simp only [a4y,ha,ho]
  exact ⟨⟨trivial,hs,hp,hl⟩,hk⟩
/-! the same, looked at again -/
def Agn (m:Bool) (op:AOp) (bs:List (Nat × AV)) (h:List o9) (v:AV):Prop:=aqQ m op (AX.ev (ofL bs)) h ∧ v = aqV op (AX.ev (ofL bs)) h
theorem Agn.of {m:Bool} {op:AOp} (hq:op.quiet = true) {v:AV} (ho:∀ k:AV → List o9 → Prop,k v h → (aqP op (AX.ev (ofL bs)) h ∧ (aqF op (AX.ev (ofL bs)) → k (aqV op (AX.ev (ofL bs)) h) h))) (hf:aqF op (AX.ev (ofL bs))) (hm:mmT op (AX.ev (ofL bs)) h:=by trivial):Agn m op bs h v:=by
  obtain ⟨h1,h2⟩:=ho (fun r _ => v = r) rfl
  exact ⟨.of h1 hm,h2 hf⟩
theorem d7a {n:Int} (hx:x.ev (ofL bs) = .lst z (l.map enc)) (hi:i.ev (ofL bs) = .int k n) (h0:0 ≤ n) (hl:l[n.toNat]? = some e):Agn false (.iaddr z x i) bs h (.iptr (enc e) 0) :=
  Agn.of rfl (fun k hk => a5k (P:=default) (dm:=(false:Bool)) hx hi h0 hl k hk) (by trivial)
theorem d4w {j:Nat} (hx:x.ev (ofL bs) = .lst z (l.map enc)) (hi:i.ev (ofL bs) = .int k (j:Int)) (hl:l[j]? = some e):Agn false (.iaddr z x i) bs h (.iptr (enc e) 0) :=
  d7a hx hi (by omega) (by simpa using hl)
theorem d7b {n:Int} {hi:AX} (hx:x.ev (ofL bs) = .lst z (l.map enc)) (hh:hi.ev (ofL bs) = .int k n) (h0:0 ≤ n) (h1:n ≤ l.length):Agn false (.slice z x none (some hi)) bs h (.lst z ((l.take n.toNat).map enc)) :=
  Agn.of rfl (fun k hk => d6z (P:=default) (dm:=(false:Bool)) hx hh h0 h1 k hk) trivial
theorem d7c {n:Int} {lo:AX} (hx:x.ev (ofL bs) = .lst z (l.map enc)) (hh:lo.ev (ofL bs) = .int k n) (h0:0 ≤ n) (h1:n ≤ l.length):Agn false (.slice z x (some lo) none) bs h (.lst z ((l.drop n.toNat).map enc)) :=
  Agn.of rfl (fun k hk => d3r (P:=default) (dm:=(false:Bool)) hx hh h0 h1 k hk) trivial
theorem b5v {o lo m z':Nat} {l:List AV} {n:Int} (hx:x.ev (ofL bs) = .own o lo m) (hi:i.ev (ofL bs) = .int k n) (h0:0 ≤ n) (h1:n < m) (ho:h[o]? = some (.row z' l)) (hz:z' = z):Agn false (.iaddr z x i) bs h (.ptr o (lo + n.toNat) 0) :=
  Agn.of rfl (fun k hk => a2g (P:=default) (dm:=(false:Bool)) hx hi h0 h1 ho hz k hk) trivial
theorem b8l {a:AX} {o j f sz z:Nat} {ag:Bool} {v:AV} (hx:a.ev (ofL bs) = .ptr o j f) (ho:h[o]? = some (.row z (l.map enc))) (hl:l[j]? = some e) (hp:ldP (enc e) f sz ag) (hv:ldV (enc e) f sz ag = v):Agn false (.load sz ag a) bs h v:=by
  have hg:(l.map enc).getD j .undef = enc e:=by simp [hl]
  refine ⟨?_,?_⟩
  · show aqP (.load sz ag a) (AX.ev (ofL bs)) h
    simp only [aqP,hx,ho,hg]
    exact hp
  · simp only [aqV,hx,ho,hg,hv]
/-! calls -/
variable {f:Nat} {args:List AX} {r:AV} {cs cs':List AV}
theorem d0s {h:List o9} {p:Nat → Nat → Nat → Option AV} {a a':AV} {as as':List AV} (h1:a3h h p a = some a') (h2:a3y h p as = some as'):a3y h p (a :: as) = some (a' :: as'):=by simp only [a3y,h1,h2]
theorem e2r {h:List o9} {p:Nat → Nat → Nat → Option AV} {kf:Nat} {cf:List AV} (hcf:∀ h p,a3y h p cf = some cf):a3h h p (.fn kf cf) = some (.fn kf cf):=by simp only [a3h,hcf]; rfl
theorem a1o {bs':List AV} {v:AV} (hc:a0b P f .flat bs' r) (hb:closes h (args.map (AX.ev (ofL bs))) = some cs) (hl:LeL cs bs') (hv:r = v):Opr P dm (.call f args) bs h v h:=fun k hk => a1u.flat hc hb hl (by rw [hv]; exact hk)
theorem a3j {bs':List AV} {v:AV} {h':List o9} (hc:a0b P f .fresh bs' r) (hb:closes h (args.map (AX.ev (ofL bs))) = some cs) (hl:LeL cs bs') (hv:a1r h.length r = (v,h')):Opr P dm (.call f args) bs h v (h ++ h'):=fun k hk => a1u.fresh hc hb hl (by rw [hv]; exact hk)
theorem d3s (hm:dm.m = false) {bs':List AV} {v:AV} (hc:a0b P f .fresh bs' r) (hb:closes h (args.map (AX.ev (ofL bs))) = some cs) (hl:LeL cs bs') (hv:r = v):Opr P dm (.call f args) bs h v h:=fun k hk => a1u.freshc hm hc hb hl (by rw [hv]; exact hk)
theorem c8l (hm:dm.m = false) {bs':List AV} {ks:List Nat} {h2:List o9} {v:AV} (hc:a0b P f .weak bs' r) (hb:a1i false h (args.map (AX.ev (ofL bs))) = some (cs,ks)) (hl:LeL cs bs') (hv:r = v) (hh:kill h ks = h2):Opr P dm (.call f args) bs h v h2:=fun k hk => a1u.weak hm hc hb hl (by rw [hh,hv]; exact hk)
theorem e0c (hz:dm.z = true) (hd:dm.d = true) {bs':List AV} {ks:List Nat} {h2:List o9} {v:AV} (hc:a0b P f .weak bs' r) (hb:a1i true h (args.map (AX.ev (ofL bs))) = some (cs,ks)) (hl:LeL cs bs') (hv:r = v) (hh:kill h ks = h2):Opr P dm (.call f args) bs h v h2:=fun k hk => a1u.weakz hz hd hc hb hl (by rw [hh,hv]; exact hk)
def d7d (h:List o9) (fl:List Bool) (js:List Nat) (as:List AV):Option (List AV × List o9 × List Nat):=match b8f h fl as with
  | some (cs,ks) => match b8j 0 h.length js with
    | true => some (a7j (a8a js) cs,b2g (kill h ks) js,ks)
    | false => none
  | none => none
theorem c0u {h:List o9} {fl:List Bool} {js ks:List Nat} {as cs2:List AV} {hs:List o9} (hf:d7d h fl js as = some (cs2,hs,ks)):∃ cs,b8f h fl as = some (cs,ks) ∧ b8j 0 h.length js = true ∧ a7j (a8a js) cs = cs2 ∧ b2g (kill h ks) js = hs:=by
  unfold d7d at hf
  split at hf
  · rename_i cs ks' e
    split at hf
    · rename_i e2
      cases hf
      exact ⟨cs,e,e2,rfl,rfl⟩
    · cases hf
  · cases hf
theorem a6g {as' cs2:List AV} {ks:List Nat} {hi hout h2 hs:List o9} {v:AV} (fl:List Bool) (js:List Nat) (hm:dm.m = true → fl = []) (hc:a0u P dm.nz f as' hi r hout) (hf:d7d h fl js (args.map (AX.ev (ofL bs))) = some (cs2,hs,ks)) (hl:LeL cs2 as') (hh:LeH hs hi) (hv:ren (a6w h.length js) r = v) (h2e:b1s (kill h ks) js hout = h2):Opr P dm (.call f args) bs h v h2:=by
  obtain ⟨cs,hf2,hn,rfl,rfl⟩:=c0u hf
  obtain ⟨_,_,k1,k2⟩:=b2y hn
  exact fun k hk => a1u.heapf fl ks js hm hf2 hc k1 k2 hl hh (by rw [hv,h2e]; exact hk)
theorem b9l {as' cs2:List AV} {ks:List Nat} {hi hout h2 hs:List o9} {v:AV} (fl:List Bool) (js:List Nat) (hm:dm.m = true → fl = []) (hc:a0u P dm.nz f as' hi r hout) (hf:d7d h fl js (args.map (AX.ev (ofL bs))) = some (cs2,hs,ks)) (hl:LeL cs2 as') (hh:LeH hs hi) (hv:ren (a6w h.length js) r = v) (h2e:b1s (kill h ks) js hout = h2):d6x P dm (.call f args) bs h v h2 (b6t hi hout):=by
  obtain ⟨cs,hf2,hn,rfl,rfl⟩:=c0u hf
  obtain ⟨_,_,k1,k2⟩:=b2y hn
  exact fun k hk => a1u.heapfs fl ks js hm hf2 hc k1 k2 hl hh (fun hs => by rw [hv,h2e]; exact hk hs)
theorem c8m {g:Nat} {caps as as' cs2:List AV} {ks:List Nat} {hi hout h2 hs:List o9} {v:AV} (fl:List Bool) (js:List Nat) (hm:dm.m = true → fl = []) (hx:x.ev (ofL bs) = .fn g caps) (hok:d2e P g = true) (hc:a0u P dm.nz g as' hi r hout) (has:args.map (AX.ev (ofL bs)) ++ caps = as) (hf:d7d h fl js as = some (cs2,hs,ks)) (hl:LeL cs2 as') (hh:LeH hs hi) (hv:ren (a6w h.length js) r = v) (h2e:b1s (kill h ks) js hout = h2):Opr P dm (.calv x args) bs h v h2:=by
  obtain ⟨cs,hf2,hn,rfl,rfl⟩:=c0u hf
  obtain ⟨_,_,k1,k2⟩:=b2y hn
  intro k hk
  simp only [a4y,hx]
  rw [has]
  exact ⟨hok,a1u.heapf fl ks js hm hf2 hc k1 k2 hl hh (by rw [hv,h2e]; exact hk)⟩
theorem b5w {p:Nat → Nat → Nat → Option AV}:∀ {as bs as' bs':List AV},a3y h p as = some as' → a3y h p bs = some bs' → a3y h p (as ++ bs) = some (as' ++ bs')
  | [],bs,as',bs',h1,h2 => by simp only [a3y] at h1; cases h1; simpa using h2
  | a :: as,bs,as',bs',h1,h2 => by
    simp only [a3y,List.cons_append] at h1 ⊢
    split at h1
    · rename_i x xs e1 e2
      cases h1
      rw [e1,b5w e2 h2]
      rfl
    · cases h1
theorem LeL.append:∀ {as bs as' bs':List AV},LeL as as' → LeL bs bs' → LeL (as ++ bs) (as' ++ bs')
  | _,_,_,_,.nil,h => h
  | _,_,_,_,.cons a t,h => .cons a (LeL.append t h)
theorem d3t {g:Nat} {cf bs':List AV} {v:AV} (hx:x.ev (ofL bs) = .fn g cf) (hok:d2e P g = true) (hcf:∀ h p,a3y h p cf = some cf) (hc:a0b P g .flat (bs' ++ cf) r) (hb:closes h (args.map (AX.ev (ofL bs))) = some cs) (hl:LeL cs bs') (hv:r = v):Opr P dm (.calv x args) bs h v h:=by
  intro k hk
  simp only [a4y,hx]
  refine ⟨hok,a1u.flat hc (b5w hb (hcf _ _)) (LeL.append hl (.refl _)) ?_⟩
  rw [hv]; exact hk
end

/-! clear -/
section
variable {P:Program} {dm:Md} {bs:List (Nat × AV)} {h:List o9} {α:Type} {enc:α → AV} {l:List α} {z:Nat} {x:AX} {y:α} {zero:AV}
theorem LeO.tk (l:List α) (n:Nat):LeO (.row z ((l.map enc).take n)) (.row z ((l.take n).map enc)):=by rw [List.map_take]; exact .refl _
end

/-! writing in place -/
section
variable {P:Program} {dm:Md} {n0:Nat} {bs:List (Nat × AV)} {h:List o9} {α β:Type} {enc:α → AV} {enc':β → AV} {l:List α} {z:Nat} {x:α}
theorem c0w {i:Nat} {y:AV} (hx:l[i]? = some x):((l.map enc).set i y)[i]? = some y:=by
  have hlt:=(List.getElem?_eq_some_iff.1 hx).1
  simp [hlt]
theorem a2v {i:Nat} {y:α} (hx:l[i]? = some x):(l.set i y)[i]? = some y:=by
  have hlt:=(List.getElem?_eq_some_iff.1 hx).1
  simp [hlt]
theorem d0t {a:a0r} {t:Nat → AV} {Q:AQ} {o i f z':Nat} {l':List β} {el:AV} (ho:h[o]? = some (.row z (l.map enc))) (hx:l[i]? = some x) (he:enc x = el) (hf:el.cells[f]? = some (.lst z' (l'.map enc'))) (hn:∀ v,awp P dm n0 a t (h.set o (.row z ((l.map enc).set i (b2k el f (.hdr v z' (l'.map enc')))))) Q):awp P dm n0 (.rev a) t h Q:=by
  subst he
  exact .inl ⟨o,i,f,z,_,_,z',_,ho,by simp [hx],hf,hn⟩
theorem c4m {a:a0r} {t:Nat → AV} {Q:AQ} {o i:Nat} {el el2:AV} {xs:List o9} (hm:dm.m = true) (hd:dm.d = true) (ho:h[o]? = some (.row z (l.map enc))) (hx:l[i]? = some x) (he:enc x = el) (hb:a1q h.length el.cells = (el2.cells,xs)) (hn:awp P dm n0 a t (h.set o (.rowx z (l.map enc) i el2) ++ xs) Q):awp P dm n0 (.rev a) t h Q:=by
  subst he
  exact .inr (.inl ⟨⟨hm,hd⟩,o,i,z,_,_,el2,xs,ho,by simp [hx],hb,hn⟩)
theorem e0d {m:Bool} {t:Nat → AV} {h:List o9} {o z i:Nat} {L:List AV} {el el':AV} {ks:List Nat} (ho:h[o]? = some (.rowx z L i el)) (hab:a2b true h el = some (el',ks)) (hc:(nin o ks && ndn ks && el'.isElem) = true):ghs m t h [.cls o] = some (t,(kill h ks).set o (.row z (L.set i el'))):=by
  have e:gh1 t h (.cls o) = some (t,(kill h ks).set o (.row z (L.set i el'))):=by simp only [gh1,ho,hab,hc]
  cases m <;> simp only [ghs,d9q,Gh.frzs,e]
theorem e1z {a:a0r} {t:Nat → AV} {Q:AQ} {o i:Nat} {el el':AV} {ks:List Nat} {h2:List o9} {y:α} (ho:h[o]? = some (.rowx z (l.map enc) i el)) (hab:a2b true h el = some (el',ks)) (hc:(nin o ks && ndn ks && el'.isElem) = true) (hy:Le el' (enc y)) (hh:kill h ks = h2) (hn:awp P dm n0 a t (h2.set o (.row z ((l.set i y).map enc))) Q):awp P dm n0 (.rev a) t h Q:=by
  subst hh
  refine .inr (.inr ⟨[.cls o],t,_,_,e0d ho hab hc,?_,hn⟩)
  rw [List.map_set]
  exact LeH.setr (LeL.set hy)
theorem d0u {i:Nat} (hx:l[i]? = some x):l.set i x = l:=by
  apply List.ext_getElem?
  intro n
  rw [List.getElem?_set]
  by_cases h:i = n
  · subst h
    have hlt:=(List.getElem?_eq_some_iff.1 hx).1
    rw [if_pos rfl,if_pos hlt,hx]
  · rw [if_neg h]
theorem c0x {a:a0r} {t:Nat → AV} {Q:AQ} {o i:Nat} {el el':AV} {ks:List Nat} {h2:List o9} (hx:l[i]? = some x) (ho:h[o]? = some (.rowx z (l.map enc) i el)) (hab:a2b true h el = some (el',ks)) (hc:(nin o ks && ndn ks && el'.isElem) = true) (hy:Le el' (enc x)) (hh:kill h ks = h2) (hn:awp P dm n0 a t (h2.set o (.row z (l.map enc))) Q):awp P dm n0 (.rev a) t h Q:=by
  refine e1z ho hab hc hy hh ?_
  rw [d0u hx]
  exact hn
theorem d2o {a:AX} {o j f sz:Nat} {ag:Bool} {v:AV} (ha:a.ev (ofL bs) = .ptr o j f) (ho:h[o]? = some (.row z (l.map enc))) (hl:l[j]? = some x) (hp:ldP (enc x) f sz ag) (hv:ldV (enc x) f sz ag = v) (hf:b8a ag v = true):Opr P dm (.load sz ag a) bs h v h:=by
  intro k hk
  have hg:(l.map enc).getD j .undef = enc x:=by simp [hl]
  refine b0t rfl ?_ ?_
  · simp only [mmT,ha,ho,hg,hv,hf]
  · simp only [aqP,aqF,aqV,ha,ho,hg,hv]
    exact ⟨hp,fun _ => hk⟩
theorem b3w {a:AX} {o i f z':Nat} {L l':List AV} {el:AV} {v:Value} (ha:a.ev (ofL bs) = .ptr o i f) (ho:h[o]? = some (.row z L)) (hl:L[i]? = some el) (hp:ldP el f 1 false) (hv:ldV el f 1 false = .hdr v z' l'):Opr P dm (.load 1 false a) bs h (.hdr v z' l') h:=by
  intro k hk
  have hg:L.getD i .undef = el:=by simp [hl]
  refine b0t rfl ?_ ?_
  · simp only [mmT,ha,ho,hg,hv,b8a,b7z]
  · simp only [aqP,aqF,aqV,ha,ho,hg,hv]
    exact ⟨hp,fun _ => hk⟩
theorem b9m {f:Nat} {args:List AX} {o i j z':Nat} {n n':Int} {v:Value} {l' l'':List β} {el:AV} {y:α} (hd:dm.d = true) (hm:dm.m = true) (hc:a0u P ⟨true,true,false⟩ f [.own 0 0 l'.length,.int .i64 n] [.row z' (l'.map enc')] (.int .i64 n') [.row z' (l''.map enc')])
    (ha:args.map (AX.ev (ofL bs)) = [.hdr v z' (l'.map enc'),.int .i64 n]) (ho:h[o]? = some (.row z ((l.map enc).set i el))) (hx:l[i]? = some x) (hf:el.cells[j]? = some (.hdr v z' (l'.map enc'))) (hz:0 < z') (hy:b2k el j (.lst z' (l''.map enc')) = enc y):Opr P dm (.call f args) bs h (.int .i64 n') (h.set o (.row z ((l.set i y).map enc))):=by
  intro k hk
  refine .inl (.inr (.inr (.inr (.inr (.inr ⟨hm,hd,o,i,j,z,z',_,_,l''.map enc',el,v,n,n',ha,ho,c0w hx,hf,hz,by simpa using hc,?_⟩)))))
  have e:((l.map enc).set i el).set i (b2k el j (.lst z' (l''.map enc'))) = (l.set i y).map enc:=by
    rw [List.set_set,hy,List.map_set]
  rw [e]
  exact hk
end

/-! lists -/
section
variable {α:Type} {enc:α → AV}
theorem d0v {o a b z:Nat} {l:List AV} (h:AV.own o a b = AV.lst z l):False:=by cases h
theorem flo (hf:∀ x,R.flat (enc x) = true) (l:List α) (n:Nat):∀ a ∈ ((l.map enc).drop 0).take n,R.flat a = true:=by
  intro a ha
  obtain ⟨x,_,rfl⟩:=List.mem_map.1 (List.mem_of_mem_take ha)
  exact hf x
theorem d0w (a b:List α) (B:List AV) (h:B = b.map enc):((a.map enc).take a.length) ++ ((B.drop 0).take B.length) = (a ++ b).map enc:=by
  subst h
  rw [List.drop_zero,List.take_of_length_le (by simp),List.take_of_length_le (by simp),List.map_append]
theorem apl (a b:List α):((a.map enc).take a.length) ++ b.map enc = (a ++ b).map enc:=by
  rw [List.take_of_length_le (by simp),List.map_append]
theorem tko (a:List α):((a.map enc).drop 0).take a.length = a.map enc:=by
  rw [List.drop_zero,List.take_of_length_le (by simp)]
theorem e3w {a:List α} {n:Nat} (h:n = a.length):((a.map enc).drop 0).take n = a.map enc:=by rw [h]; exact tko a
theorem e4x {β:Type} {enc2:β → AV} {a:List α} {b:List β} (h:(a.map enc).length = (b.map enc2).length):((a.map enc).drop 0).take b.length = a.map enc:=by
  rw [List.length_map,List.length_map] at h
  rw [← h]
  exact tko a
theorem tk (a:List α):(a.map enc).take a.length = a.map enc:=List.take_of_length_le (by simp)
theorem repm (n:Nat) (x:α):List.replicate n (enc x) = (List.replicate n x).map enc:=by simp
theorem flm (hf:∀ x,R.flat (enc x) = true) (l:List α):∀ a ∈ l.map enc,R.flat a = true:=by
  intro a ha
  obtain ⟨x,_,rfl⟩:=List.mem_map.1 ha
  exact hf x
end
end Go.R
