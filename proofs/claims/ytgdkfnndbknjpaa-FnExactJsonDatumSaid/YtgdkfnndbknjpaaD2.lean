/- What each operation yields, over typed data. -/
import Derived.Test.YtgdkfnndbknjpaaD1
set_option linter.all false
namespace Go.R
open Go Go.RowKit
set_option linter.unusedVariables false
set_option linter.unusedSimpArgs false

def Opr (P:Program) (dm:Md) (op:AOp) (bs:List (Nat × AV)) (h:List o7) (v:AV) (h':List o7):Prop:=∀ k:AV → List o7 → Prop,k v h' → a3t P dm op (AX.ev (ofL bs)) h k
def c9o (P:Program) (dm:Md) (op:AOp) (bs:List (Nat × AV)) (h:List o7) (v:AV) (h':List o7) (F:Prop):Prop:=∀ k:AV → List o7 → Prop,(F → k v h') → a3t P dm op (AX.ev (ofL bs)) h k

section
variable {P:Program} {dm:Md} {bs:List (Nat × AV)} {h h':List o7} {n other:a6w} {re:List a2l} {K:(Nat → AV) → List o7 → Prop} {d:Nat} {op:AOp} {v:AV} {F:Prop}

theorem a0b (hop:Opr P dm op bs h v h') (hn:a3e P dm n (ofL ((d,v) :: bs)) h' K):a3e P dm (.q ⟨some d,none,op⟩ n) (ofL bs) h K:=hop _ hn
theorem a1d (hop:c9o P dm op bs h v h' F) (hn:F → a3e P dm n (ofL ((d,v) :: bs)) h' K):a3e P dm (.q ⟨some d,none,op⟩ n) (ofL bs) h K:=hop _ hn
theorem a2a (hop:Opr P dm op bs h v h') (hn:a3e P dm n (ofL bs) h' K):a3e P dm (.q ⟨none,none,op⟩ n) (ofL bs) h K:=hop _ hn
theorem a5x (hop:Opr P dm op bs h v h') (ha:b3y dm.m re (ofL ((d,v) :: bs)) h h') (ho:a3e P dm other (ofL bs) h K) (hn:a3e P dm n (ofL ((d,v) :: bs)) h' K):a3e P dm (.l ⟨some d,none,op⟩ re n other) (ofL bs) h K:=⟨hop _ ⟨ha,hn⟩,ho⟩
theorem d2z (hop:Opr P dm op bs h v h') (ha:b3y dm.m re (ofL bs) h h') (ho:a3e P dm other (ofL bs) h K) (hn:a3e P dm n (ofL bs) h' K):a3e P dm (.l ⟨none,none,op⟩ re n other) (ofL bs) h K:=⟨hop _ ⟨ha,hn⟩,ho⟩
theorem d4e {ng:Bool} {x:AX} {z:Nat} {l:List AV} {d:Nat} (hx:x.ev (ofL bs) = .lst z l) (hn:∀ b,(b = true → l = []) → a3e P dm n (ofL ((d,.bool (b != ng)) :: bs)) h K):a3e P dm (.q ⟨some d,none,.isnil ng x⟩ n) (ofL bs) h K:=by
  show a3t P dm (.isnil ng x) (AX.ev (ofL bs)) h _
  simp only [a3t,hx]
  exact hn
theorem d3a {α:Type} {enc:α → AV} {l:List α} (h:l.map enc = []):l = []:=by simpa using h
theorem b0f {m:Bool} {re:List a2l} {t:Nat → AV}:b3y m re t h h:=by
  cases re with
  | nil => trivial
  | cons a b => exact .inl rfl

/-! guards -/
theorem a0v {T:a6w} {s:Nat} {b e:Bool} (ht:ofL bs s = .bool e) (he:e = b) (hn:a3e P dm T (ofL ((s,.bool b) :: bs)) h K):a3e P dm T (ofL bs) h K:=by
  subst he
  have:ofL ((s,.bool e) :: bs) = ofL bs:=a8l ht
  rw [this] at hn
  exact hn
theorem s_on {s:Nat} {b:Bool} {o:Option Nat} (ht:ofL bs s = .bool b) (hn:a3e P dm (.q ⟨o,none,op⟩ n) (ofL bs) h K):a3e P dm (.q ⟨o,some (s,b),op⟩ n) (ofL bs) h K:=by
  show b2y P dm _ _ h _
  unfold b2y
  simp only [ht]
  rw [if_pos trivial,a8l ht]
  exact hn
theorem c7d {s:Nat} {b:Bool} {o:Option Nat} (ht:ofL bs s = .bool b) (hn:a3e P dm (.l ⟨o,none,op⟩ re n other) (ofL bs) h K):a3e P dm (.l ⟨o,some (s,b),op⟩ re n other) (ofL bs) h K:=by
  refine ⟨?_,hn.2⟩
  unfold b2y
  simp only [ht]
  rw [if_pos trivial,a8l ht]
  exact hn.1
theorem a0a {s:Nat} {b b':Bool} (ht:ofL bs s = .bool b') (hb:(b' == b) = false) (hn:a3e P dm n (ofL ((d,.skip) :: bs)) h K):a3e P dm (.q ⟨some d,some (s,b),op⟩ n) (ofL bs) h K:=by
  show b2y P dm _ _ h _
  unfold b2y
  simp only [ht]
  have hne:¬ b' = b:=by simpa using hb
  have hx:(!b) = b':=by cases b <;> cases b' <;> simp_all
  rw [if_neg hne,hx,a8l ht]
  exact hn
theorem c2o {s:Nat} {b b':Bool} (ht:ofL bs s = .bool b') (hb:(b' == b) = false) (ho:a3e P dm other (ofL bs) h K) (hn:a3e P dm n (ofL ((d,.skip) :: bs)) h K):a3e P dm (.l ⟨some d,some (s,b),op⟩ re n other) (ofL bs) h K:=by
  refine ⟨?_,ho⟩
  unfold b2y
  simp only [ht]
  have hne:¬ b' = b:=by simpa using hb
  have hx:(!b) = b':=by cases b <;> cases b' <;> simp_all
  rw [if_neg hne,hx,a8l ht]
  exact ⟨b0f,hn⟩
theorem a1z {s:Nat} {b:Bool} (ht:ofL bs s = .skip) (hn:a3e P dm n (ofL ((d,.skip) :: bs)) h K):a3e P dm (.q ⟨some d,some (s,b),op⟩ n) (ofL bs) h K:=by
  show b2y P dm _ _ h _
  unfold b2y
  simp only [ht]
  exact hn
/-! code -/
variable {m:Bool} {n0:Nat} {a b:a0p} {Q:AQ} {t:Nat → AV}
theorem a0x {T:a6w} (hn:a3e P dm T t h (kN Q)):awp P dm n0 (.reg T) t h Q:=hn
theorem a0l (hn:Q .norm t h):a3e P dm .done t h (kN Q):=hn
theorem a0k (hn:Q .norm t h):awp P dm n0 .skip t h Q:=hn
theorem a0m (hn:awp P dm n0 b t h Q):c4n (awp P dm n0 b) Q .norm t h:=hn
theorem a3u {X:Type} {S:X → List (Nat × AV) × List o7} (y:X) (hn:b1e m n0 t h (S y)):d2m m n0 S Q .norm t h:=⟨y,hn⟩
theorem a2y {id:Nat} (hn:Q .norm t h):c2l id Q .norm t h:=hn
theorem a3v {id:Nat} (hn:Q .norm t h):c2l id Q (.exit id) t h:=by simp only [c2l,if_pos]; exact hn
theorem a3w {F:(Nat → AV) → List o7 → AQ → Prop} {i:Nat} (hn:Q (.exit i) t h):c4n F Q (.exit i) t h:=hn
theorem a2o {X:Type} {S:X → List (Nat × AV) × List o7} {μ:X → Nat} {x:X} {i:Nat} (hn:Q (.exit i) t h):c7b m n0 S μ x Q (.exit i) t h:=hn
theorem a2g {X:Type} {S:X → List (Nat × AV) × List o7} {μ:X → Nat} {x:X} (y:X) (hy:μ y < μ x) (hn:b1e m n0 t h (S y)):c7b m n0 S μ x Q .norm t h:=⟨y,hy,hn⟩
theorem sr {T:a6w} (hn:a3e P dm T t h (kN (c4n (awp P dm n0 b) Q))):awp P dm n0 (.seq (.reg T) b) t h Q:=hn
theorem dk (hn:awp P dm n0 b t h Q):a3e P dm .done t h (kN (c4n (awp P dm n0 b) Q)):=hn
theorem a3x {i:Nat} (hn:Q (.exit i) t h):awp P dm n0 (.exit i) t h Q:=hn
theorem a0c (hn:Q .ret t h):awp P dm n0 .ret t h Q:=hn
theorem a4a {id:Nat} (hn:awp P dm n0 a t h (c2l id Q)):awp P dm n0 (.block id a) t h Q:=hn
theorem y7 {s:Nat} {e:Bool} (ht:ofL bs s = .bool e) (he:e = true) (hn:awp P dm n0 a (ofL ((s,.bool true) :: bs)) h Q):awp P dm n0 (.cond (.t s) a b) (ofL bs) h Q:=by
  subst he
  simp only [awp,AX.ev,ht,if_pos]
  exact hn
theorem y8 {s:Nat} {e:Bool} (ht:ofL bs s = .bool e) (he:e = false) (hn:awp P dm n0 b (ofL ((s,.bool false) :: bs)) h Q):awp P dm n0 (.cond (.t s) a b) (ofL bs) h Q:=by
  subst he
  simp only [awp,AX.ev,ht]
  exact hn
theorem a0h {os:List AOp} {r:AV} (hp:b1p m t h os) (hf:rflats (b1f t h os) = true) (hl:Le (pack (b1f t h os)) r):c9k m .flat os r .ret t h:=⟨hp,_,⟨hf,rfl⟩,hl⟩
theorem a2p {os:List AOp} {r:AV} {bs:List AV} {ks:List Nat} (hp:b1p m t h os) (ha:a0z true h (b1f t h os) = some (bs,ks)) (hn:ks.Nodup) (hl:Le (pack bs) r):c9k m .fresh os r .ret t h:=by
  refine ⟨hp,pack bs,?_,hl⟩
  simp only [Ret,ha]
  exact ⟨hn,trivial⟩
theorem a6d {os:List AOp} {r:AV} {hout:List o7} {n0:Nat} {t':Nat → AV} {h':List o7} (gs:List Gh) (js:List Nat) (hg:ghs m t h gs = some (t',h')) (hp:b1p m t' h' os) (hk:b3z n0 h'.length js = true) (hh:LeH (a9p h' js) hout) (hl:Le (ren (a6r js) (pack (b1f t' h' os))) r):d2k m n0 os r hout .ret t h :=
  ⟨gs,js,t',h',hg,hp,hk,hh,hl⟩
theorem b5x {os:List AOp} {r:AV} {bs:List AV} {ks:List Nat} (hp:b1p m t h os) (ha:a0z false h (b1f t h os) = some (bs,ks)) (hl:Le (pack bs) r):c9k m .weak os r .ret t h:=by
  refine ⟨hp,pack bs,?_,hl⟩
  simp only [Ret,ha]
end

section
variable {P:Program} {dm:Md} {bs:List (Nat × AV)} {h:List o7} {α:Type} {enc:α → AV} {l:List α} {z:Nat} {x i:AX} {e:α} {k:IntKind}

theorem a8f {op:AOp} {e:AX → AV} {h:List o7} {k:AV → List o7 → Prop} (hq:op.quiet = true) (hm:mmT op e h) (h1:aqP op e h ∧ (aqF op e → k (aqV op e h) h)):a3t P dm op e h k:=by
  cases op <;> first | exact ⟨aqQ.of h1.1 hm,h1.2⟩ | cases hq
theorem o_q {op:AOp} (v:AV) (hq:op.quiet = true) (hp:aqQ dm.m op (AX.ev (ofL bs)) h) (hv:aqV op (AX.ev (ofL bs)) h = v):Opr P dm op bs h v h:=by
  intro k hk
  subst hv
  cases op <;> first | (exact ⟨hp,fun _ => hk⟩) | (cases hq)
theorem b3d (v:AV) (hv:x.ev (ofL bs) = v):Opr P dm (.mov x) bs h v h:=o_q v rfl (.of trivial trivial) hv
theorem a2q (hx:x.ev (ofL bs) = .lst z (l.map enc)):c9o P dm (.len x) bs h (.int .i64 l.length) h (l.length ≤ maxLen):=by
  intro k hk
  refine a8f rfl trivial ?_
  simp only [aqP,aqF,aqV,hx,List.length_map]
  exact ⟨trivial,hk⟩
theorem a6y {o lo m z:Nat} {l:List AV} (hx:x.ev (ofL bs) = .own o lo m) (ho:h[o]? = some (.row z l)):c9o P dm (.len x) bs h (.int .i64 m) h (m ≤ maxLen):=by
  intro k hk
  refine a8f rfl trivial ?_
  simp only [aqP,aqF,aqV,hx,ho]
  exact ⟨trivial,hk⟩
theorem b4d {s:List UInt8} (hx:x.ev (ofL bs) = .str s):c9o P dm (.lenS x) bs h (.int .i64 s.length) h (s.length ≤ maxLen):=by
  intro k hk
  refine a8f rfl trivial ?_
  simp only [aqP,aqF,aqV,hx]
  exact ⟨trivial,hk⟩
theorem a5c {n:Int} (hx:x.ev (ofL bs) = .lst z (l.map enc)) (hi:i.ev (ofL bs) = .int k n) (h0:0 ≤ n) (hl:l[n.toNat]? = some e):Opr P dm (.iaddr z x i) bs h (.iptr (enc e) 0) h:=by
  intro k hk
  have hlt:n.toNat < l.length:=(List.getElem?_eq_some_iff.1 hl).1
  have hg:(l.map enc).getD n.toNat .undef = enc e:=by simp [hl]
  refine a8f rfl trivial ?_
  simp only [aqP,aqF,aqV,hx,hi,List.length_map,hg]
  exact ⟨⟨⟨h0,by omega⟩,trivial⟩,fun _ => hk⟩
theorem a3a {j:Nat} (hx:x.ev (ofL bs) = .lst z (l.map enc)) (hi:i.ev (ofL bs) = .int k (j:Int)) (hl:l[j]? = some e):Opr P dm (.iaddr z x i) bs h (.iptr (enc e) 0) h :=
  a5c hx hi (by omega) (by simpa using hl)
theorem a2k {o lo m z':Nat} {l:List AV} {n:Int} (hx:x.ev (ofL bs) = .own o lo m) (hi:i.ev (ofL bs) = .int k n) (h0:0 ≤ n) (h1:n < m) (ho:h[o]? = some (.row z' l)) (hz:z' = z):Opr P dm (.iaddr z x i) bs h (.ptr o (lo + n.toNat) 0) h:=by
  intro k hk
  subst hz
  refine a8f rfl trivial ?_
  simp only [aqP,aqF,aqV,hx,hi,ho]
  exact ⟨⟨⟨h0,h1⟩,trivial⟩,fun _ => hk⟩
theorem b1r {o m z':Nat} {l:List AV} {j:Nat} (hx:x.ev (ofL bs) = .own o 0 m) (hi:i.ev (ofL bs) = .int k (j:Int)) (h1:j < m) (ho:h[o]? = some (.row z' l)) (hz:z' = z):Opr P dm (.iaddr z x i) bs h (.ptr o j 0) h:=by
  have:=a2k (P:=P) (dm:=dm) (z:=z) hx hi (by omega) (by omega) ho hz
  simpa using this
theorem d3b {s:List UInt8} {n:Int} {c:UInt8} (hx:x.ev (ofL bs) = .str s) (hi:i.ev (ofL bs) = .int k n) (h0:0 ≤ n) (hl:s[n.toNat]? = some c):Opr P dm (.idxs x i) bs h (.int .u8 c.toNat) h:=by
  intro k hk
  have hlt:n.toNat < s.length:=(List.getElem?_eq_some_iff.1 hl).1
  have hg:s.getD n.toNat 0 = c:=by simp [hl]
  refine a8f rfl trivial ?_
  simp only [aqP,aqF,aqV,hx,hi,hg]
  exact ⟨⟨h0,by omega⟩,fun _ => hk⟩
theorem b2q {s:List UInt8} {j:Nat} {c:UInt8} (hx:x.ev (ofL bs) = .str s) (hi:i.ev (ofL bs) = .int k (j:Int)) (hl:s[j]? = some c):Opr P dm (.idxs x i) bs h (.int .u8 c.toNat) h :=
  d3b hx hi (by omega) (by simpa using hl)
theorem a9j {dm:Bool} {a:AX} {o j f sz z:Nat} {ag:Bool} {v:AV} (hx:a.ev (ofL bs) = .ptr o j f) (ho:h[o]? = some (.row z (l.map enc))) (hl:l[j]? = some e) (hp:ldP (enc e) f sz ag) (hv:ldV (enc e) f sz ag = v):Opr P (dm:Bool) (.load sz ag a) bs h v h:=by
  intro k hk
  have hg:(l.map enc).getD j .undef = enc e:=by simp [hl]
  have key:aqP (.load sz ag a) (AX.ev (ofL bs)) h:=by
    simp only [aqP,hx,ho,hg]
    exact hp
  refine ⟨key,fun _ => ?_⟩
  simp only [aqV,hx,ho,hg,hv]
  exact hk
theorem a4w {a:AX} {f sz:Nat} {ag:Bool} {el c v:AV} (hx:a.ev (ofL bs) = .iptr el f) (he:el = c) (hp:ldP c f sz ag) (hv:ldV c f sz ag = v):Opr P dm (.load sz ag a) bs h v h:=by
  intro k hk
  subst he
  refine a8f rfl (by simp only [mmT,hx]) ?_
  simp only [aqP,aqF,aqV,hx,hv]
  exact ⟨hp,fun _ => hk⟩
theorem nle {a b:Nat} (h:Nat.ble a b = true:=by rfl):a ≤ b:=Nat.le_of_ble_eq_true h
theorem c6l {o m:Nat} {l:List AV} {n:Int} {hi:AX} (hx:x.ev (ofL bs) = .own o 0 m) (ho:h[o]? = some (.row z l)) (hh:hi.ev (ofL bs) = .int k n) (h0:0 ≤ n) (h1:n ≤ m):Opr P dm (.slice z x none (some hi)) bs h (.own o 0 n.toNat) h:=by
  intro k hk
  refine a8f rfl trivial ?_
  simp only [aqP,aqF,aqV,hx,ho,hh,b9p,a9x,c8p,c3a,Option.map_some,Option.map_none,Option.getD_some,Option.getD_none]
  exact ⟨⟨⟨by omega,h0,h1⟩,trivial⟩,fun _ => hk⟩
theorem c2p {o m:Nat} {l:List AV} {n:Int} {lo:AX} (hx:x.ev (ofL bs) = .own o 0 m) (ho:h[o]? = some (.row z l)) (hh:lo.ev (ofL bs) = .int k n) (h0:0 ≤ n) (h1:n ≤ m):Opr P dm (.slice z x (some lo) none) bs h (.own o n.toNat (m - n.toNat)) h:=by
  intro k hk
  refine a8f rfl trivial ?_
  simp only [aqP,aqF,aqV,hx,ho,hh,b9p,a9x,c8p,c3a,Option.map_some,Option.map_none,Option.getD_some,Option.getD_none,Nat.zero_add]
  exact ⟨⟨⟨h0,h1,by omega⟩,trivial⟩,fun _ => hk⟩
theorem a1p {c:AV} {sz j:Nat} (hv:x.ev (ofL bs) = c) (hs:a4u h c) (hl:c.cells.length = sz) (hj:h.length = j):Opr P dm (.box sz x) bs h (.ptr j 0 0) (h ++ [.box sz c]):=by
  intro k hk
  subst hj hv
  exact ⟨⟨hs,hl⟩,hk⟩
theorem a0o {a:AX} {o j f z sz:Nat} {y v y':AV} (ha:a.ev (ofL bs) = .ptr o j f) (ho:h[o]? = some (.box z y)) (hx:x.ev (ofL bs) = v) (hs:a4u h v) (hp:a6x y f sz v) (hl:b5v h v.cells) (hy:a3o y f v = y'):Opr P dm (.store sz a x) bs h .skip (h.set o (.box z y')):=by
  intro k hk
  subst hx hy
  simp only [a3t,ha,ho]
  exact ⟨⟨hs,hp,hl⟩,hk⟩
theorem a7h {a:AX} {o j f z sz:Nat} {v v0 v':AV} {e':α} {ks:List Nat} {h2:List o7} (ha:a.ev (ofL bs) = .ptr o j f) (ho:h[o]? = some (.row z (l.map enc))) (hl:l[j]? = some e) (hx:x.ev (ofL bs) = v) (hab:a1h dm.d h v = some (v0,ks)) (hv0:v0 = v') (hk:o ∉ ks) (hnd:dm.d = true → ks.Nodup) (hp:a6x (enc e) f sz v') (hy:Le (a3o (enc e) f v') (enc e')) (hh:kill h ks = h2) :
    Opr P dm (.store sz a x) bs h .skip (h2.set o (.row z ((l.set j e').map enc))):=by
  intro k hk'
  subst hx hh hv0
  have hg:(l.map enc)[j]? = some (enc e):=by simp [hl]
  simp only [a3t,ha,ho,hg,hab]
  refine ⟨⟨hk,hnd,hp⟩,_,hy,?_⟩
  rw [← List.map_set]
  exact hk'
theorem a9c {a:AX} {o j f z sz:Nat} {v v0 v' c:AV} {e':α} {ks:List Nat} {h2:List o7} (ha:a.ev (ofL bs) = .ptr o j f) (ho:h[o]? = some (.row z (l.map enc))) (hl:l[j]? = some e) (he:enc e = c) (hx:x.ev (ofL bs) = v) (hab:a1h dm.d h v = some (v0,ks)) (hv0:v0 = v') (hk:o ∉ ks) (hnd:dm.d = true → ks.Nodup) (hp:a6x c f sz v') (hy:Le (a3o c f v') (enc e')) (hh:kill h ks = h2) :
    Opr P dm (.store sz a x) bs h .skip (h2.set o (.row z ((l.set j e').map enc))):=by
  subst he
  exact a7h ha ho hl hx hab hv0 hk hnd hp hy hh
theorem c1h {sz bytes j m:Nat} {zero:AV} {nx cx:AX} {k':IntKind} {c:Int} (e:α) (hz:Le zero (enc e)) (hn:nx.ev (ofL bs) = .int k (m:Int)) (hc:cx.ev (ofL bs) = .int k' c) (h1:(m:Int) ≤ c) (h2:c ≤ 2 ^ 30) (hj:h.length = j) :
    Opr P dm (.mkslice sz bytes zero nx cx) bs h (.own j 0 m) (h ++ [.row sz ((List.replicate m e).map enc)]):=by
  intro k hk
  subst hj
  simp only [a3t,hn,hc]
  refine ⟨⟨by omega,h1,h2⟩,(List.replicate m e).map enc,?_,by simpa using hk⟩
  rw [Int.toNat_natCast,List.map_replicate]
  exact LeL.rep hz m
theorem a2i {sz j m:Nat} {xs:List AX} {as as':List AV} {ks:List Nat} {h2:List o7} (ha:a0z dm.d h (xs.map (AX.ev (ofL bs))) = some (as,ks)) (hnd:dm.d = true → ks.Nodup) (hl:c8w sz as) (he:LeL as as') (hm:as'.length = m) (hh:kill h ks = h2) (hj:h.length = j) :
    Opr P dm (.bslice sz xs) bs h (.own j 0 m) (h2 ++ [.row sz as']):=by
  intro k hk
  subst hj hm hh
  simp only [a3t,ha]
  exact ⟨⟨hnd,hl⟩,as',he,by rw [he.length]; exact hk⟩
theorem c8e {sz bytes j n m len:Nat} {s:AX} {l0 l1 L:List AV} {ks0 ks1:List Nat} {h2:List o7} (hd:b4j h sz (s.ev (ofL bs)) = some (l0,n,ks0)) (hs:a9n false h sz (x.ev (ofL bs)) = some (l1,m,ks1)) (hL:l0 ++ l1 = L) (hn:n + m = len) (hb:len ≤ 2 ^ 30) (hh:kill h (ks0 ++ ks1) = h2) (hj:h.length = j) :
    Opr P (false:Bool) (.append sz bytes s x) bs h (.own j 0 len) (h2 ++ [.row sz L]):=by
  intro k hk
  subst hL hn hh hj
  simp only [a3t,hd,hs]
  exact ⟨hb,hk⟩
theorem a4t (hdd:dm.d = true) {sz bytes j n m len:Nat} {s:AX} {l0 l1 L:List AV} {ks0 ks1:List Nat} {h2:List o7} (cons:Bool) (hd:b4j h sz (s.ev (ofL bs)) = some (l0,n,ks0)) (hs:a9n cons h sz (x.ev (ofL bs)) = some (l1,m,ks1)) (hf:cons = false → ∀ a ∈ l1,R.flat a = true) (hf2:∀ z l',x.ev (ofL bs) = .lst z l' → ∀ a ∈ l1,R.flat a = true) (hnd:(ks0 ++ ks1).Nodup) (hL:l0 ++ l1 = L) (hn:n + m = len) (hb:len ≤ 2 ^ 30) (hh:kill h (ks0 ++ ks1) = h2) (hj:h.length = j) :
    Opr P dm (.append sz bytes s x) bs h (.own j 0 len) (h2 ++ [.row sz L]):=by
  intro k hk
  subst hL hn hh hj
  simp only [a3t,hdd]
  refine .inl ⟨cons,?_⟩
  simp only [hd,hs]
  exact ⟨⟨hf,hf2,hnd,hb⟩,hk⟩
/-! open rows -/
/-! the same, looked at again -/
def Agn (m:Bool) (op:AOp) (bs:List (Nat × AV)) (h:List o7) (v:AV):Prop:=aqQ m op (AX.ev (ofL bs)) h ∧ v = aqV op (AX.ev (ofL bs)) h
theorem Agn.of {m:Bool} {op:AOp} (hq:op.quiet = true) {v:AV} (ho:∀ k:AV → List o7 → Prop,k v h → (aqP op (AX.ev (ofL bs)) h ∧ (aqF op (AX.ev (ofL bs)) → k (aqV op (AX.ev (ofL bs)) h) h))) (hf:aqF op (AX.ev (ofL bs))) (hm:mmT op (AX.ev (ofL bs)) h:=by trivial):Agn m op bs h v:=by
  obtain ⟨h1,h2⟩:=ho (fun r _ => v = r) rfl
  exact ⟨.of h1 hm,h2 hf⟩
theorem b4w {o m:Nat} {l:List AV} {n:Int} {hi:AX} (hx:x.ev (ofL bs) = .own o 0 m) (ho:h[o]? = some (.row z l)) (hh:hi.ev (ofL bs) = .int k n) (h0:0 ≤ n) (h1:n ≤ m):Agn false (.slice z x none (some hi)) bs h (.own o 0 n.toNat) :=
  Agn.of rfl (fun k hk => c6l (P:=default) (dm:=(false:Bool)) hx ho hh h0 h1 k hk) trivial
theorem a7u {o m:Nat} {l:List AV} {n:Int} {lo:AX} (hx:x.ev (ofL bs) = .own o 0 m) (ho:h[o]? = some (.row z l)) (hh:lo.ev (ofL bs) = .int k n) (h0:0 ≤ n) (h1:n ≤ m):Agn false (.slice z x (some lo) none) bs h (.own o n.toNat (m - n.toNat)) :=
  Agn.of rfl (fun k hk => c2p (P:=default) (dm:=(false:Bool)) hx ho hh h0 h1 k hk) trivial
/-! calls -/
variable {f:Nat} {args:List AX} {r:AV} {cs cs':List AV}
theorem a0s {bs':List AV} {v:AV} (hc:a0d P f .flat bs' r) (hb:closes h (args.map (AX.ev (ofL bs))) = some cs) (hl:LeL cs bs') (hv:r = v):Opr P dm (.call f args) bs h v h:=fun k hk => a1i.flat hc hb hl (by rw [hv]; exact hk)
theorem a4x {bs':List AV} {v:AV} {h':List o7} (hc:a0d P f .fresh bs' r) (hb:closes h (args.map (AX.ev (ofL bs))) = some cs) (hl:LeL cs bs') (hv:a1n h.length r = (v,h')):Opr P dm (.call f args) bs h v (h ++ h'):=fun k hk => a1i.fresh hc hb hl (by rw [hv]; exact hk)
theorem b4x (hm:dm.m = false) {bs':List AV} {ks:List Nat} {h2:List o7} {v:AV} (hc:a0d P f .weak bs' r) (hb:a0z false h (args.map (AX.ev (ofL bs))) = some (cs,ks)) (hl:LeL cs bs') (hv:r = v) (hh:kill h ks = h2):Opr P dm (.call f args) bs h v h2:=fun k hk => a1i.weak hm hc hb hl (by rw [hh,hv]; exact hk)
def c9p (h:List o7) (fl:List Bool) (js:List Nat) (as:List AV):Option (List AV × List o7 × List Nat):=match b5u h fl as with
  | some (cs,ks) => match b3z 0 h.length js with
    | true => some (a6q (a6r js) cs,a9p (kill h ks) js,ks)
    | false => none
  | none => none
theorem b5y {h:List o7} {fl:List Bool} {js ks:List Nat} {as cs2:List AV} {hs:List o7} (hf:c9p h fl js as = some (cs2,hs,ks)):∃ cs,b5u h fl as = some (cs,ks) ∧ b3z 0 h.length js = true ∧ a6q (a6r js) cs = cs2 ∧ a9p (kill h ks) js = hs:=by
  unfold c9p at hf
  split at hf
  · rename_i cs ks' e
    split at hf
    · rename_i e2
      cases hf
      exact ⟨cs,e,e2,rfl,rfl⟩
    · cases hf
  · cases hf
theorem b2r {as' cs2:List AV} {ks:List Nat} {hi hout h2 hs:List o7} {v:AV} (fl:List Bool) (js:List Nat) (hm:dm.m = true → fl = []) (hc:a0r P dm f as' hi r hout) (hf:c9p h fl js (args.map (AX.ev (ofL bs))) = some (cs2,hs,ks)) (hl:LeL cs2 as') (hh:LeH hs hi) (hv:ren (a5p h.length js) r = v) (h2e:a9a (kill h ks) js hout = h2):Opr P dm (.call f args) bs h v h2:=by
  obtain ⟨cs,hf2,hn,rfl,rfl⟩:=b5y hf
  obtain ⟨_,_,k1,k2⟩:=a9r hn
  exact fun k hk => a1i.heapf fl ks js hm hf2 hc k1 k2 hl hh (by rw [hv,h2e]; exact hk)
theorem b1s {as' cs2:List AV} {ks:List Nat} {hi hout h2 hs:List o7} {v:AV} (fl:List Bool) (js:List Nat) (hm:dm.m = true → fl = []) (hc:a0r P dm f as' hi r hout) (hf:c9p h fl js (args.map (AX.ev (ofL bs))) = some (cs2,hs,ks)) (hl:LeL cs2 as') (hh:LeH hs hi) (hv:ren (a5p h.length js) r = v) (h2e:a9a (kill h ks) js hout = h2):c9o P dm (.call f args) bs h v h2 (b4q hi hout):=by
  obtain ⟨cs,hf2,hn,rfl,rfl⟩:=b5y hf
  obtain ⟨_,_,k1,k2⟩:=a9r hn
  exact fun k hk => a1i.heapfs fl ks js hm hf2 hc k1 k2 hl hh (fun hs => by rw [hv,h2e]; exact hk hs)
theorem d1f {g:Nat} {caps as as' cs2:List AV} {ks:List Nat} {hi hout h2 hs:List o7} {v:AV} (fl:List Bool) (js:List Nat) (hm:dm.m = true → fl = []) (hx:x.ev (ofL bs) = .fn g caps) (hok:d2s P g = true) (hc:a0r P dm g as' hi r hout) (has:args.map (AX.ev (ofL bs)) ++ caps = as) (hf:c9p h fl js as = some (cs2,hs,ks)) (hl:LeL cs2 as') (hh:LeH hs hi) (hv:ren (a5p h.length js) r = v) (h2e:a9a (kill h ks) js hout = h2):Opr P dm (.calv x args) bs h v h2:=by
  obtain ⟨cs,hf2,hn,rfl,rfl⟩:=b5y hf
  obtain ⟨_,_,k1,k2⟩:=a9r hn
  intro k hk
  simp only [a3t,hx]
  rw [has]
  exact ⟨hok,a1i.heapf fl ks js hm hf2 hc k1 k2 hl hh (by rw [hv,h2e]; exact hk)⟩
theorem LeL.append:∀ {as bs as' bs':List AV},LeL as as' → LeL bs bs' → LeL (as ++ bs) (as' ++ bs')
  | _,_,_,_,.nil,h => h
  | _,_,_,_,.cons a t,h => .cons a (LeL.append t h)
end

/-! clear -/
section
variable {P:Program} {dm:Md} {bs:List (Nat × AV)} {h:List o7} {α:Type} {enc:α → AV} {l:List α} {z:Nat} {x:AX} {y:α} {zero:AV}
theorem LeL.repz {n:Nat} (hz:Le zero (enc y)):LeL (List.replicate n zero) ((List.replicate n y).map enc):=by
  rw [List.map_replicate]
  induction n with
  | zero => exact .nil
  | succ n ih => exact .cons hz ih
theorem d4f {o lo n:Nat} {L:List α} (hx:x.ev (ofL bs) = .own o lo n) (ho:h[o]? = some (.row z (l.map enc))) (hz:Le zero (enc y)) (hL:l.take lo ++ List.replicate n y ++ l.drop (lo + n) = L):Opr P dm (.clr z zero x) bs h (.tup []) (h.set o (.row z (L.map enc))):=by
  intro k hk
  subst hL
  simp only [a3t,hx,ho]
  refine ⟨trivial,_,LeL.repz hz,?_⟩
  rw [← List.map_take,← List.map_drop,← List.map_append,← List.map_append]
  exact hk
theorem LeO.tk (l:List α) (n:Nat):LeO (.row z ((l.map enc).take n)) (.row z ((l.take n).map enc)):=by rw [List.map_take]; exact .refl _
end

/-! writing in place -/
section
variable {P:Program} {dm:Md} {n0:Nat} {bs:List (Nat × AV)} {h:List o7} {α β:Type} {enc:α → AV} {enc':β → AV} {l:List α} {z:Nat} {x:α}
theorem c6m {i:Nat} {y:AV} (hx:l[i]? = some x):((l.map enc).set i y)[i]? = some y:=by
  have hlt:=(List.getElem?_eq_some_iff.1 hx).1
  simp [hlt]
theorem a3r {i:Nat} {y:α} (hx:l[i]? = some x):(l.set i y)[i]? = some y:=by
  have hlt:=(List.getElem?_eq_some_iff.1 hx).1
  simp [hlt]
theorem d2n {a:a0p} {t:Nat → AV} {Q:AQ} {o i f z':Nat} {l':List β} {el:AV} (ho:h[o]? = some (.row z (l.map enc))) (hx:l[i]? = some x) (he:enc x = el) (hf:el.cells[f]? = some (.lst z' (l'.map enc'))) (hn:∀ v,awp P dm n0 a t (h.set o (.row z ((l.map enc).set i (a8w el f (.hdr v z' (l'.map enc')))))) Q):awp P dm n0 (.rev a) t h Q:=by
  subst he
  exact .inl ⟨o,i,f,z,_,_,z',_,ho,by simp [hx],hf,hn⟩
theorem c1i {a:AX} {o i f z':Nat} {L l':List AV} {el:AV} {v:Value} (ha:a.ev (ofL bs) = .ptr o i f) (ho:h[o]? = some (.row z L)) (hl:L[i]? = some el) (hp:ldP el f 1 false) (hv:ldV el f 1 false = .hdr v z' l'):Opr P dm (.load 1 false a) bs h (.hdr v z' l') h:=by
  intro k hk
  have hg:L.getD i .undef = el:=by simp [hl]
  refine a8f rfl ?_ ?_
  · simp only [mmT,ha,ho,hg,hv,b5q,b3s]
  · simp only [aqP,aqF,aqV,ha,ho,hg,hv]
    exact ⟨hp,fun _ => hk⟩
theorem c7e {f:Nat} {args:List AX} {o i j z':Nat} {n n':Int} {v:Value} {l' l'':List β} {el:AV} {y:α} (hd:dm.d = true) (hm:dm.m = true) (hc:a0r P ⟨true,true⟩ f [.own 0 0 l'.length,.int .i64 n] [.row z' (l'.map enc')] (.int .i64 n') [.row z' (l''.map enc')])
    (ha:args.map (AX.ev (ofL bs)) = [.hdr v z' (l'.map enc'),.int .i64 n]) (ho:h[o]? = some (.row z ((l.map enc).set i el))) (hx:l[i]? = some x) (hf:el.cells[j]? = some (.hdr v z' (l'.map enc'))) (hz:0 < z') (hy:a8w el j (.lst z' (l''.map enc')) = enc y):Opr P dm (.call f args) bs h (.int .i64 n') (h.set o (.row z ((l.set i y).map enc))):=by
  intro k hk
  refine .inr (.inr (.inr (.inr (.inr ⟨hm,hd,o,i,j,z,z',_,_,l''.map enc',el,v,n,n',ha,ho,c6m hx,hf,hz,by simpa using hc,?_⟩))))
  have e:((l.map enc).set i el).set i (a8w el j (.lst z' (l''.map enc'))) = (l.set i y).map enc:=by
    rw [List.set_set,hy,List.map_set]
  rw [e]
  exact hk
end

/-! lists -/
section
variable {α:Type} {enc:α → AV}
theorem b9t {o a b z:Nat} {l:List AV} (h:AV.own o a b = AV.lst z l):False:=by cases h
theorem flw (hf:∀ x,R.flat (enc x) = true) (l:List α) (n m:Nat):∀ a ∈ ((l.map enc).drop n).take m,R.flat a = true:=by
  intro a ha
  obtain ⟨x,_,rfl⟩:=List.mem_map.1 (List.mem_of_mem_drop (List.mem_of_mem_take ha))
  exact hf x
theorem tkw (l:List α) (n m:Nat):((l.map enc).drop n).take m = ((l.drop n).take m).map enc:=by rw [List.map_take,List.map_drop]
theorem flo (hf:∀ x,R.flat (enc x) = true) (l:List α) (n:Nat):∀ a ∈ ((l.map enc).drop 0).take n,R.flat a = true:=by
  intro a ha
  obtain ⟨x,_,rfl⟩:=List.mem_map.1 (List.mem_of_mem_take ha)
  exact hf x
theorem c9q (a b:List α) (B:List AV) (h:B = b.map enc):((a.map enc).take a.length) ++ ((B.drop 0).take B.length) = (a ++ b).map enc:=by
  subst h
  rw [List.drop_zero,List.take_of_length_le (by simp),List.take_of_length_le (by simp),List.map_append]
theorem apg (a b:List α) {B:List AV} (h:B = b.map enc):((a.map enc).take a.length) ++ B = (a ++ b).map enc:=by
  rw [h,List.take_of_length_le (by simp),List.map_append]
theorem tko (a:List α):((a.map enc).drop 0).take a.length = a.map enc:=by
  rw [List.drop_zero,List.take_of_length_le (by simp)]
theorem d4u {β:Type} {enc2:β → AV} {a:List α} {b:List β} (h:(a.map enc).length = (b.map enc2).length):((a.map enc).drop 0).take b.length = a.map enc:=by
  rw [List.length_map,List.length_map] at h
  rw [← h]
  exact tko a
theorem tk (a:List α):(a.map enc).take a.length = a.map enc:=List.take_of_length_le (by simp)
theorem repm (n:Nat) (x:α):List.replicate n (enc x) = (List.replicate n x).map enc:=by simp
theorem flm (hf:∀ x,R.flat (enc x) = true) (l:List α):∀ a ∈ l.map enc,R.flat a = true:=by
  intro a ha
  obtain ⟨x,_,rfl⟩:=List.mem_map.1 ha
  exact hf x
end
end Go.R
