/- What each operation yields, over typed data. -/
import Derived.Test.YtgdkfnndbknjpaaGreatD1
set_option linter.all false
namespace Go.R
open Go Go.RowKit
set_option linter.unusedVariables false
set_option linter.unusedSimpArgs false

def Opr (P:Program) (dm:Md) (op:AOp) (bs:List (Nat × AV)) (h:List y9) (v:AV) (h':List y9):Prop:=∀ k:AV → List y9 → Prop,k v h' → a6c P dm op (AX.ev (ofL bs)) h k
def d6x (P:Program) (dm:Md) (op:AOp) (bs:List (Nat × AV)) (h:List y9) (v:AV) (h':List y9) (F:Prop):Prop:=∀ k:AV → List y9 → Prop,(F → k v h') → a6c P dm op (AX.ev (ofL bs)) h k

section
variable {P:Program} {dm:Md} {bs:List (Nat × AV)} {h h':List y9} {n other:a9q} {re:List a4q} {K:(Nat → AV) → List y9 → Prop} {d:Nat} {op:AOp} {v:AV} {F:Prop}

theorem x8 (hop:Opr P dm op bs h v h') (hn:a5m P dm n (ofL ((d,v) :: bs)) h' K):a5m P dm (.q ⟨some d,none,op⟩ n) (ofL bs) h K:=hop _ hn
theorem a1e (hop:d6x P dm op bs h v h' F) (hn:F → a5m P dm n (ofL ((d,v) :: bs)) h' K):a5m P dm (.q ⟨some d,none,op⟩ n) (ofL bs) h K:=hop _ hn
theorem a3w (hop:Opr P dm op bs h v h') (hn:a5m P dm n (ofL bs) h' K):a5m P dm (.q ⟨none,none,op⟩ n) (ofL bs) h K:=hop _ hn
theorem a2j (hop:Opr P dm op bs h v h') (ha:b8b dm.m re (ofL ((d,v) :: bs)) h h') (ho:a5m P dm other (ofL bs) h K) (hn:a5m P dm n (ofL ((d,v) :: bs)) h' K):a5m P dm (.l ⟨some d,none,op⟩ re n other) (ofL bs) h K:=⟨hop _ ⟨ha,hn⟩,ho⟩
theorem b4i (hop:Opr P dm op bs h v h') (ha:b8b dm.m re (ofL bs) h h') (ho:a5m P dm other (ofL bs) h K) (hn:a5m P dm n (ofL bs) h' K):a5m P dm (.l ⟨none,none,op⟩ re n other) (ofL bs) h K:=⟨hop _ ⟨ha,hn⟩,ho⟩
theorem e1w {ng:Bool} {x:AX} {z:Nat} {l:List AV} {d:Nat} (hx:x.ev (ofL bs) = .lst z l) (hn:∀ b,(b = true → l = []) → a5m P dm n (ofL ((d,.bool (b != ng)) :: bs)) h K):a5m P dm (.q ⟨some d,none,.isnil ng x⟩ n) (ofL bs) h K:=by
  show a6c P dm (.isnil ng x) (AX.ev (ofL bs)) h _
  simp only [a6c,hx]
  exact hn
theorem e0r {α:Type} {enc:α → AV} {l:List α} (h:l.map enc = []):l = []:=by simpa using h
theorem a6a {m:Bool} {re:List a4q} {t:Nat → AV}:b8b m re t h h:=by
  cases re with
  | nil => trivial
  | cons a b => exact .inl rfl

/-! guards -/
theorem a0u {T:a9q} {s:Nat} {b e:Bool} (ht:ofL bs s = .bool e) (he:e = b) (hn:a5m P dm T (ofL ((s,.bool b) :: bs)) h K):a5m P dm T (ofL bs) h K:=by
  subst he
  have:ofL ((s,.bool e) :: bs) = ofL bs:=b2k ht
  rw [this] at hn
  exact hn
theorem s_on {s:Nat} {b:Bool} {o:Option Nat} (ht:ofL bs s = .bool b) (hn:a5m P dm (.q ⟨o,none,op⟩ n) (ofL bs) h K):a5m P dm (.q ⟨o,some (s,b),op⟩ n) (ofL bs) h K:=by
  show b6a P dm _ _ h _
  unfold b6a
  simp only [ht]
  rw [if_pos trivial,b2k ht]
  exact hn
theorem b8x {s:Nat} {b:Bool} {o:Option Nat} (ht:ofL bs s = .bool b) (hn:a5m P dm (.l ⟨o,none,op⟩ re n other) (ofL bs) h K):a5m P dm (.l ⟨o,some (s,b),op⟩ re n other) (ofL bs) h K:=by
  refine ⟨?_,hn.2⟩
  unfold b6a
  simp only [ht]
  rw [if_pos trivial,b2k ht]
  exact hn.1
theorem o9 {s:Nat} {b b':Bool} (ht:ofL bs s = .bool b') (hb:(b' == b) = false) (hn:a5m P dm n (ofL ((d,.skip) :: bs)) h K):a5m P dm (.q ⟨some d,some (s,b),op⟩ n) (ofL bs) h K:=by
  show b6a P dm _ _ h _
  unfold b6a
  simp only [ht]
  have hne:¬ b' = b:=by simpa using hb
  have hx:(!b) = b':=by cases b <;> cases b' <;> simp_all
  rw [if_neg hne,hx,b2k ht]
  exact hn
theorem b5e {s:Nat} {b b':Bool} (ht:ofL bs s = .bool b') (hb:(b' == b) = false) (ho:a5m P dm other (ofL bs) h K) (hn:a5m P dm n (ofL ((d,.skip) :: bs)) h K):a5m P dm (.l ⟨some d,some (s,b),op⟩ re n other) (ofL bs) h K:=by
  refine ⟨?_,ho⟩
  unfold b6a
  simp only [ht]
  have hne:¬ b' = b:=by simpa using hb
  have hx:(!b) = b':=by cases b <;> cases b' <;> simp_all
  rw [if_neg hne,hx,b2k ht]
  exact ⟨a6a,hn⟩
theorem a1y {s:Nat} {b:Bool} (ht:ofL bs s = .skip) (hn:a5m P dm n (ofL ((d,.skip) :: bs)) h K):a5m P dm (.q ⟨some d,some (s,b),op⟩ n) (ofL bs) h K:=by
  show b6a P dm _ _ h _
  unfold b6a
  simp only [ht]
  exact hn
theorem c2j {s:Nat} {b:Bool} (ht:ofL bs s = .skip) (ho:a5m P dm other (ofL bs) h K) (hn:a5m P dm n (ofL ((d,.skip) :: bs)) h K):a5m P dm (.l ⟨some d,some (s,b),op⟩ re n other) (ofL bs) h K:=by
  refine ⟨?_,ho⟩
  unfold b6a
  simp only [ht]
  exact ⟨a6a,hn⟩

/-! code -/
variable {m:Bool} {n0:Nat} {a b:a0n} {Q:AQ} {t:Nat → AV}
theorem a0k {T:a9q} (hn:a5m P dm T t h (kN Q)):awp P dm n0 (.reg T) t h Q:=hn
theorem y7 (hn:Q .norm t h):a5m P dm .done t h (kN Q):=hn
theorem a0e (hn:Q .norm t h):awp P dm n0 .skip t h Q:=hn
theorem a0f (hn:awp P dm n0 b t h Q):c5l (awp P dm n0 b) Q .norm t h:=hn
theorem a3h {X:Type} {S:X → List (Nat × AV) × List y9} (y:X) (hn:b5q m n0 t h (S y)):d6u m n0 S Q .norm t h:=⟨y,hn⟩
theorem a2c {id:Nat} (hn:Q .norm t h):b7e id Q .norm t h:=hn
theorem a2s {id:Nat} (hn:Q .norm t h):b7e id Q (.exit id) t h:=by simp only [b7e,if_pos]; exact hn
theorem a2t {F:(Nat → AV) → List y9 → AQ → Prop} {i:Nat} (hn:Q (.exit i) t h):c5l F Q (.exit i) t h:=hn
theorem a1x {X:Type} {S:X → List (Nat × AV) × List y9} {μ:X → Nat} {x:X} {i:Nat} (hn:Q (.exit i) t h):d2s m n0 S μ x Q (.exit i) t h:=hn
theorem a1t {X:Type} {S:X → List (Nat × AV) × List y9} {μ:X → Nat} {x:X} (y:X) (hy:μ y < μ x) (hn:b5q m n0 t h (S y)):d2s m n0 S μ x Q .norm t h:=⟨y,hy,hn⟩
theorem sr {T:a9q} (hn:a5m P dm T t h (kN (c5l (awp P dm n0 b) Q))):awp P dm n0 (.seq (.reg T) b) t h Q:=hn
theorem dk (hn:awp P dm n0 b t h Q):a5m P dm .done t h (kN (c5l (awp P dm n0 b) Q)):=hn
theorem a2u {i:Nat} (hn:Q (.exit i) t h):awp P dm n0 (.exit i) t h Q:=hn
theorem a0a (hn:Q .ret t h):awp P dm n0 .ret t h Q:=hn
theorem a3c {id:Nat} (hn:awp P dm n0 a t h (b7e id Q)):awp P dm n0 (.block id a) t h Q:=hn
theorem x9 {s:Nat} {e:Bool} (ht:ofL bs s = .bool e) (he:e = true) (hn:awp P dm n0 a (ofL ((s,.bool true) :: bs)) h Q):awp P dm n0 (.cond (.t s) a b) (ofL bs) h Q:=by
  subst he
  simp only [awp,AX.ev,ht,if_pos]
  exact hn
theorem y5 {s:Nat} {e:Bool} (ht:ofL bs s = .bool e) (he:e = false) (hn:awp P dm n0 b (ofL ((s,.bool false) :: bs)) h Q):awp P dm n0 (.cond (.t s) a b) (ofL bs) h Q:=by
  subst he
  simp only [awp,AX.ev,ht]
  exact hn
theorem d6y (hn:awp P dm n0 b t h Q):awp P dm n0 (.cond (.c (.bool false)) a b) t h Q:=hn
theorem a0d {os:List AOp} {r:AV} (hp:b8w m t h os) (hf:rflats (b7j t h os) = true) (hl:Le (pack (b7j t h os)) r):d6p m .flat os r .ret t h:=⟨hp,_,⟨hf,rfl⟩,hl⟩
theorem a4r {os:List AOp} {r:AV} {bs:List AV} {ks:List Nat} (hp:b8w m t h os) (ha:a2l true h (b7j t h os) = some (bs,ks)) (hn:ks.Nodup) (hl:Le (pack bs) r):d6p m .fresh os r .ret t h:=by
  refine ⟨hp,pack bs,?_,hl⟩
  simp only [Ret,ha]
  exact ⟨hn,trivial⟩
theorem a5j {os:List AOp} {r:AV} {hout:List y9} {n0:Nat} {t':Nat → AV} {h':List y9} (gs:List Gh) (js:List Nat) (hg:ghs m t h gs = some (t',h')) (hp:b8w m t' h' os) (hk:b8c n0 h'.length js = true) (hh:LeH (b3l h' js) hout) (hl:Le (ren (a9g js) (pack (b7j t' h' os))) r):d9z m n0 os r hout .ret t h :=
  ⟨gs,js,t',h',hg,hp,hk,hh,hl⟩
theorem b1u {os:List AOp} {r:AV} {bs:List AV} {ks:List Nat} (hp:b8w m t h os) (ha:a2l false h (b7j t h os) = some (bs,ks)) (hl:Le (pack bs) r):d6p m .weak os r .ret t h:=by
  refine ⟨hp,pack bs,?_,hl⟩
  simp only [Ret,ha]
end

section
variable {P:Program} {dm:Md} {bs:List (Nat × AV)} {h:List y9} {α:Type} {enc:α → AV} {l:List α} {z:Nat} {x i:AX} {e:α} {k:IntKind}

theorem b1c {op:AOp} {e:AX → AV} {h:List y9} {k:AV → List y9 → Prop} (hq:op.quiet = true) (hm:mmT op e h) (h1:aqP op e h ∧ (aqF op e → k (aqV op e h) h)):a6c P dm op e h k:=by
  cases op <;> first | exact ⟨aqQ.of h1.1 hm,h1.2⟩ | cases hq
theorem o_q {op:AOp} (v:AV) (hq:op.quiet = true) (hp:aqQ dm.m op (AX.ev (ofL bs)) h) (hv:aqV op (AX.ev (ofL bs)) h = v):Opr P dm op bs h v h:=by
  intro k hk
  subst hv
  cases op <;> first | (exact ⟨hp,fun _ => hk⟩) | (cases hq)
theorem a2r (v:AV) (hv:x.ev (ofL bs) = v):Opr P dm (.mov x) bs h v h:=o_q v rfl (.of trivial trivial) hv
theorem a1p (hx:x.ev (ofL bs) = .lst z (l.map enc)):d6x P dm (.len x) bs h (.int .i64 l.length) h (l.length ≤ maxLen):=by
  intro k hk
  refine b1c rfl trivial ?_
  simp only [aqP,aqF,aqV,hx,List.length_map]
  exact ⟨trivial,hk⟩
theorem b2l {o lo m z:Nat} {l:List AV} (hx:x.ev (ofL bs) = .own o lo m) (ho:h[o]? = some (.row z l)):d6x P dm (.len x) bs h (.int .i64 m) h (m ≤ maxLen):=by
  intro k hk
  refine b1c rfl trivial ?_
  simp only [aqP,aqF,aqV,hx,ho]
  exact ⟨trivial,hk⟩
theorem d0d (hx:x.ev (ofL bs) = .nil):Opr P dm (.len x) bs h (.int .i64 0) h:=by
  intro k hk
  refine b1c rfl trivial ?_
  simp only [aqP,aqF,aqV,hx]
  exact ⟨trivial,fun _ => hk⟩
theorem b3o {s:List UInt8} (hx:x.ev (ofL bs) = .str s):d6x P dm (.lenS x) bs h (.int .i64 s.length) h (s.length ≤ maxLen):=by
  intro k hk
  refine b1c rfl trivial ?_
  simp only [aqP,aqF,aqV,hx]
  exact ⟨trivial,hk⟩
theorem a3l {n:Int} (hx:x.ev (ofL bs) = .lst z (l.map enc)) (hi:i.ev (ofL bs) = .int k n) (h0:0 ≤ n) (hl:l[n.toNat]? = some e):Opr P dm (.iaddr z x i) bs h (.iptr (enc e) 0) h:=by
  intro k hk
  have hlt:n.toNat < l.length:=(List.getElem?_eq_some_iff.1 hl).1
  have hg:(l.map enc).getD n.toNat .undef = enc e:=by simp [hl]
  refine b1c rfl trivial ?_
  simp only [aqP,aqF,aqV,hx,hi,List.length_map,hg]
  exact ⟨⟨⟨h0,by omega⟩,trivial⟩,fun _ => hk⟩
theorem a1r {j:Nat} (hx:x.ev (ofL bs) = .lst z (l.map enc)) (hi:i.ev (ofL bs) = .int k (j:Int)) (hl:l[j]? = some e):Opr P dm (.iaddr z x i) bs h (.iptr (enc e) 0) h :=
  a3l hx hi (by omega) (by simpa using hl)
theorem a3o {o lo m z':Nat} {l:List AV} {n:Int} (hx:x.ev (ofL bs) = .own o lo m) (hi:i.ev (ofL bs) = .int k n) (h0:0 ≤ n) (h1:n < m) (ho:h[o]? = some (.row z' l)) (hz:z' = z):Opr P dm (.iaddr z x i) bs h (.ptr o (lo + n.toNat) 0) h:=by
  intro k hk
  subst hz
  refine b1c rfl trivial ?_
  simp only [aqP,aqF,aqV,hx,hi,ho]
  exact ⟨⟨⟨h0,h1⟩,trivial⟩,fun _ => hk⟩
theorem c1i {o m z':Nat} {l:List AV} {j:Nat} (hx:x.ev (ofL bs) = .own o 0 m) (hi:i.ev (ofL bs) = .int k (j:Int)) (h1:j < m) (ho:h[o]? = some (.row z' l)) (hz:z' = z):Opr P dm (.iaddr z x i) bs h (.ptr o j 0) h:=by
  have:=a3o (P:=P) (dm:=dm) (z:=z) hx hi (by omega) (by omega) ho hz
  simpa using this
theorem c8g {s:List UInt8} {n:Int} {c:UInt8} (hx:x.ev (ofL bs) = .str s) (hi:i.ev (ofL bs) = .int k n) (h0:0 ≤ n) (hl:s[n.toNat]? = some c):Opr P dm (.idxs x i) bs h (.int .u8 c.toNat) h:=by
  intro k hk
  have hlt:n.toNat < s.length:=(List.getElem?_eq_some_iff.1 hl).1
  have hg:s.getD n.toNat 0 = c:=by simp [hl]
  refine b1c rfl trivial ?_
  simp only [aqP,aqF,aqV,hx,hi,hg]
  exact ⟨⟨h0,by omega⟩,fun _ => hk⟩
theorem b2d {s:List UInt8} {j:Nat} {c:UInt8} (hx:x.ev (ofL bs) = .str s) (hi:i.ev (ofL bs) = .int k (j:Int)) (hl:s[j]? = some c):Opr P dm (.idxs x i) bs h (.int .u8 c.toNat) h :=
  c8g hx hi (by omega) (by simpa using hl)
theorem a6j {dm:Bool} {a:AX} {o j f sz z:Nat} {ag:Bool} {v:AV} (hx:a.ev (ofL bs) = .ptr o j f) (ho:h[o]? = some (.row z (l.map enc))) (hl:l[j]? = some e) (hp:ldP (enc e) f sz ag) (hv:ldV (enc e) f sz ag = v):Opr P (dm:Bool) (.load sz ag a) bs h v h:=by
  intro k hk
  have hg:(l.map enc).getD j .undef = enc e:=by simp [hl]
  have key:aqP (.load sz ag a) (AX.ev (ofL bs)) h:=by
    simp only [aqP,hx,ho,hg]
    exact hp
  refine ⟨key,fun _ => ?_⟩
  simp only [aqV,hx,ho,hg,hv]
  exact hk
theorem nle {a b:Nat} (h:Nat.ble a b = true:=by rfl):a ≤ b:=Nat.le_of_ble_eq_true h
theorem e0b {n:Int} {hi:AX} (hx:x.ev (ofL bs) = .lst z (l.map enc)) (hh:hi.ev (ofL bs) = .int k n) (h0:0 ≤ n) (h1:n ≤ l.length):Opr P dm (.slice z x none (some hi)) bs h (.lst z ((l.take n.toNat).map enc)) h:=by
  intro k hk
  refine b1c rfl trivial ?_
  simp only [aqP,aqF,aqV,hx,hh,c1p,b3a,d1b,c5i,Option.map_some,Option.map_none,Option.getD_some,Option.getD_none,List.length_map,← List.map_take]
  exact ⟨⟨⟨by omega,h0,h1⟩,trivial⟩,fun _ => hk⟩
theorem e0c {n:Int} {lo:AX} (hx:x.ev (ofL bs) = .lst z (l.map enc)) (hh:lo.ev (ofL bs) = .int k n) (h0:0 ≤ n) (h1:n ≤ l.length):Opr P dm (.slice z x (some lo) none) bs h (.lst z ((l.drop n.toNat).map enc)) h:=by
  intro k hk
  refine b1c rfl trivial ?_
  simp only [aqP,aqF,aqV,hx,hh,c1p,b3a,d1b,c5i,Option.map_some,Option.map_none,Option.getD_some,Option.getD_none,List.length_map,← List.map_drop]
  exact ⟨⟨⟨h0,h1,by omega⟩,trivial⟩,fun _ => hk⟩
theorem c3x {o m:Nat} {l:List AV} {n:Int} {hi:AX} (hx:x.ev (ofL bs) = .own o 0 m) (ho:h[o]? = some (.row z l)) (hh:hi.ev (ofL bs) = .int k n) (h0:0 ≤ n) (h1:n ≤ m):Opr P dm (.slice z x none (some hi)) bs h (.own o 0 n.toNat) h:=by
  intro k hk
  refine b1c rfl trivial ?_
  simp only [aqP,aqF,aqV,hx,ho,hh,c1p,b3a,d1b,c5i,Option.map_some,Option.map_none,Option.getD_some,Option.getD_none]
  exact ⟨⟨⟨by omega,h0,h1⟩,trivial⟩,fun _ => hk⟩
theorem c3y {o m:Nat} {l:List AV} {n:Int} {lo:AX} (hx:x.ev (ofL bs) = .own o 0 m) (ho:h[o]? = some (.row z l)) (hh:lo.ev (ofL bs) = .int k n) (h0:0 ≤ n) (h1:n ≤ m):Opr P dm (.slice z x (some lo) none) bs h (.own o n.toNat (m - n.toNat)) h:=by
  intro k hk
  refine b1c rfl trivial ?_
  simp only [aqP,aqF,aqV,hx,ho,hh,c1p,b3a,d1b,c5i,Option.map_some,Option.map_none,Option.getD_some,Option.getD_none,Nat.zero_add]
  exact ⟨⟨⟨h0,h1,by omega⟩,trivial⟩,fun _ => hk⟩
theorem a1o {c:AV} {sz j:Nat} (hv:x.ev (ofL bs) = c) (hs:a7b h c) (hl:c.cells.length = sz) (hj:h.length = j):Opr P dm (.box sz x) bs h (.ptr j 0 0) (h ++ [.box sz c]):=by
  intro k hk
  subst hj hv
  exact ⟨⟨hs,hl⟩,hk⟩
theorem a0v {a:AX} {o j f z sz:Nat} {y v y':AV} (ha:a.ev (ofL bs) = .ptr o j f) (ho:h[o]? = some (.box z y)) (hx:x.ev (ofL bs) = v) (hs:a7b h v) (hp:b0z y f sz v) (hl:c0f h v.cells) (hy:a6e y f v = y'):Opr P dm (.store sz a x) bs h .skip (h.set o (.box z y')):=by
  intro k hk
  subst hx hy
  simp only [a6c,ha,ho]
  exact ⟨⟨hs,hp,hl⟩,hk⟩
theorem b0k {a:AX} {o j f z sz:Nat} {v v0 v':AV} {e':α} {ks:List Nat} {h2:List y9} (ha:a.ev (ofL bs) = .ptr o j f) (ho:h[o]? = some (.row z (l.map enc))) (hl:l[j]? = some e) (hx:x.ev (ofL bs) = v) (hab:a3j dm.d h v = some (v0,ks)) (hv0:v0 = v') (hk:o ∉ ks) (hnd:dm.d = true → ks.Nodup) (hp:b0z (enc e) f sz v') (hy:Le (a6e (enc e) f v') (enc e')) (hh:kill h ks = h2) :
    Opr P dm (.store sz a x) bs h .skip (h2.set o (.row z ((l.set j e').map enc))):=by
  intro k hk'
  subst hx hh hv0
  have hg:(l.map enc)[j]? = some (enc e):=by simp [hl]
  simp only [a6c,ha,ho,hg,hab]
  refine ⟨⟨hk,hnd,hp⟩,_,hy,?_⟩
  rw [← List.map_set]
  exact hk'
theorem d4n {sz bytes j m:Nat} {zero:AV} {nx cx:AX} {k':IntKind} {c:Int} (e:α) (hz:Le zero (enc e)) (hn:nx.ev (ofL bs) = .int k (m:Int)) (hc:cx.ev (ofL bs) = .int k' c) (h1:(m:Int) ≤ c) (h2:c ≤ 2 ^ 30) (hj:h.length = j) :
    Opr P dm (.mkslice sz bytes zero nx cx) bs h (.own j 0 m) (h ++ [.row sz ((List.replicate m e).map enc)]):=by
  intro k hk
  subst hj
  simp only [a6c,hn,hc]
  refine ⟨⟨by omega,h1,h2⟩,(List.replicate m e).map enc,?_,by simpa using hk⟩
  rw [Int.toNat_natCast,List.map_replicate]
  exact LeL.rep hz m
theorem a1z {sz j m:Nat} {xs:List AX} {as as':List AV} {ks:List Nat} {h2:List y9} (ha:a2l dm.d h (xs.map (AX.ev (ofL bs))) = some (as,ks)) (hnd:dm.d = true → ks.Nodup) (hl:d6d sz as) (he:LeL as as') (hm:as'.length = m) (hh:kill h ks = h2) (hj:h.length = j) :
    Opr P dm (.bslice sz xs) bs h (.own j 0 m) (h2 ++ [.row sz as']):=by
  intro k hk
  subst hj hm hh
  simp only [a6c,ha]
  exact ⟨⟨hnd,hl⟩,as',he,by rw [he.length]; exact hk⟩
theorem a8d {sz bytes j n m len:Nat} {s:AX} {l0 l1 L:List AV} {ks0 ks1:List Nat} {h2:List y9} (hd:b8k h sz (s.ev (ofL bs)) = some (l0,n,ks0)) (hs:b3y false h sz (x.ev (ofL bs)) = some (l1,m,ks1)) (hL:l0 ++ l1 = L) (hn:n + m = len) (hb:len ≤ 2 ^ 30) (hh:kill h (ks0 ++ ks1) = h2) (hj:h.length = j) :
    Opr P (false:Bool) (.append sz bytes s x) bs h (.own j 0 len) (h2 ++ [.row sz L]):=by
  intro k hk
  subst hL hn hh hj
  simp only [a6c,hd,hs]
  exact ⟨hb,hk⟩
theorem a5n (hdd:dm.d = true) {sz bytes j n m len:Nat} {s:AX} {l0 l1 L:List AV} {ks0 ks1:List Nat} {h2:List y9} (cons:Bool) (hd:b8k h sz (s.ev (ofL bs)) = some (l0,n,ks0)) (hs:b3y cons h sz (x.ev (ofL bs)) = some (l1,m,ks1)) (hf:cons = false → ∀ a ∈ l1,R.flat a = true) (hf2:∀ z l',x.ev (ofL bs) = .lst z l' → ∀ a ∈ l1,R.flat a = true) (hnd:(ks0 ++ ks1).Nodup) (hL:l0 ++ l1 = L) (hn:n + m = len) (hb:len ≤ 2 ^ 30) (hh:kill h (ks0 ++ ks1) = h2) (hj:h.length = j) :
    Opr P dm (.append sz bytes s x) bs h (.own j 0 len) (h2 ++ [.row sz L]):=by
  intro k hk
  subst hL hn hh hj
  simp only [a6c,hdd]
  refine .inl ⟨cons,?_⟩
  simp only [hd,hs]
  exact ⟨⟨hf,hf2,hnd,hb⟩,hk⟩
/-! open rows -/
/-! the same, looked at again -/
def Agn (m:Bool) (op:AOp) (bs:List (Nat × AV)) (h:List y9) (v:AV):Prop:=aqQ m op (AX.ev (ofL bs)) h ∧ v = aqV op (AX.ev (ofL bs)) h
theorem Agn.of {m:Bool} {op:AOp} (hq:op.quiet = true) {v:AV} (ho:∀ k:AV → List y9 → Prop,k v h → (aqP op (AX.ev (ofL bs)) h ∧ (aqF op (AX.ev (ofL bs)) → k (aqV op (AX.ev (ofL bs)) h) h))) (hf:aqF op (AX.ev (ofL bs))) (hm:mmT op (AX.ev (ofL bs)) h:=by trivial):Agn m op bs h v:=by
  obtain ⟨h1,h2⟩:=ho (fun r _ => v = r) rfl
  exact ⟨.of h1 hm,h2 hf⟩
theorem d1x (hx:x.ev (ofL bs) = .lst z (l.map enc)):Agn false (.len x) bs h (.int .i64 l.length):=by
  simp only [Agn,aqQ,aqP,aqV,hx,List.length_map,and_self]
theorem d0e {n:Int} (hx:x.ev (ofL bs) = .lst z (l.map enc)) (hi:i.ev (ofL bs) = .int k n) (h0:0 ≤ n) (hl:l[n.toNat]? = some e):Agn false (.iaddr z x i) bs h (.iptr (enc e) 0) :=
  Agn.of rfl (fun k hk => a3l (P:=default) (dm:=(false:Bool)) hx hi h0 hl k hk) (by trivial)
theorem d4o {j:Nat} (hx:x.ev (ofL bs) = .lst z (l.map enc)) (hi:i.ev (ofL bs) = .int k (j:Int)) (hl:l[j]? = some e):Agn false (.iaddr z x i) bs h (.iptr (enc e) 0) :=
  d0e hx hi (by omega) (by simpa using hl)
theorem c3z {n:Int} {hi:AX} (hx:x.ev (ofL bs) = .lst z (l.map enc)) (hh:hi.ev (ofL bs) = .int k n) (h0:0 ≤ n) (h1:n ≤ l.length):Agn false (.slice z x none (some hi)) bs h (.lst z ((l.take n.toNat).map enc)) :=
  Agn.of rfl (fun k hk => e0b (P:=default) (dm:=(false:Bool)) hx hh h0 h1 k hk) trivial
theorem b3p {n:Int} {lo:AX} (hx:x.ev (ofL bs) = .lst z (l.map enc)) (hh:lo.ev (ofL bs) = .int k n) (h0:0 ≤ n) (h1:n ≤ l.length):Agn false (.slice z x (some lo) none) bs h (.lst z ((l.drop n.toNat).map enc)) :=
  Agn.of rfl (fun k hk => e0c (P:=default) (dm:=(false:Bool)) hx hh h0 h1 k hk) trivial
theorem b8y {o m:Nat} {l:List AV} {n:Int} {hi:AX} (hx:x.ev (ofL bs) = .own o 0 m) (ho:h[o]? = some (.row z l)) (hh:hi.ev (ofL bs) = .int k n) (h0:0 ≤ n) (h1:n ≤ m):Agn false (.slice z x none (some hi)) bs h (.own o 0 n.toNat) :=
  Agn.of rfl (fun k hk => c3x (P:=default) (dm:=(false:Bool)) hx ho hh h0 h1 k hk) trivial
theorem b1d {o m:Nat} {l:List AV} {n:Int} {lo:AX} (hx:x.ev (ofL bs) = .own o 0 m) (ho:h[o]? = some (.row z l)) (hh:lo.ev (ofL bs) = .int k n) (h0:0 ≤ n) (h1:n ≤ m):Agn false (.slice z x (some lo) none) bs h (.own o n.toNat (m - n.toNat)) :=
  Agn.of rfl (fun k hk => c3y (P:=default) (dm:=(false:Bool)) hx ho hh h0 h1 k hk) trivial
/-! calls -/
variable {f:Nat} {args:List AX} {r:AV} {cs cs':List AV}
theorem b4o {h:List y9} {p:Nat → Nat → Nat → Option AV} {a a':AV} {as as':List AV} (h1:a4g h p a = some a') (h2:a3x h p as = some as'):a3x h p (a :: as) = some (a' :: as'):=by simp only [a3x,h1,h2]
theorem d1y {h:List y9} {p:Nat → Nat → Nat → Option AV} {kf:Nat} {cf:List AV} (hcf:∀ h p,a3x h p cf = some cf):a4g h p (.fn kf cf) = some (.fn kf cf):=by simp only [a4g,hcf]; rfl
theorem a0g {bs':List AV} {v:AV} (hc:y8 P f .flat bs' r) (hb:closes h (args.map (AX.ev (ofL bs))) = some cs) (hl:LeL cs bs') (hv:r = v):Opr P dm (.call f args) bs h v h:=fun k hk => a2q.flat hc hb hl (by rw [hv]; exact hk)
theorem b1e {bs':List AV} {v:AV} {h':List y9} (hc:y8 P f .fresh bs' r) (hb:closes h (args.map (AX.ev (ofL bs))) = some cs) (hl:LeL cs bs') (hv:a4h h.length r = (v,h')):Opr P dm (.call f args) bs h v (h ++ h'):=fun k hk => a2q.fresh hc hb hl (by rw [hv]; exact hk)
theorem b2e (hm:dm.m = false) {bs':List AV} {v:AV} (hc:y8 P f .fresh bs' r) (hb:closes h (args.map (AX.ev (ofL bs))) = some cs) (hl:LeL cs bs') (hv:r = v):Opr P dm (.call f args) bs h v h:=fun k hk => a2q.freshc hm hc hb hl (by rw [hv]; exact hk)
theorem c8h (hm:dm.m = false) {bs':List AV} {ks:List Nat} {h2:List y9} {v:AV} (hc:y8 P f .weak bs' r) (hb:a2l false h (args.map (AX.ev (ofL bs))) = some (cs,ks)) (hl:LeL cs bs') (hv:r = v) (hh:kill h ks = h2):Opr P dm (.call f args) bs h v h2:=fun k hk => a2q.weak hm hc hb hl (by rw [hh,hv]; exact hk)
def d9h (h:List y9) (fl:List Bool) (js:List Nat) (as:List AV):Option (List AV × List y9 × List Nat):=match c0e h fl as with
  | some (cs,ks) => match b8c 0 h.length js with
    | true => some (a7n (a9g js) cs,b3l (kill h ks) js,ks)
    | false => none
  | none => none
theorem c6x {h:List y9} {fl:List Bool} {js ks:List Nat} {as cs2:List AV} {hs:List y9} (hf:d9h h fl js as = some (cs2,hs,ks)):∃ cs,c0e h fl as = some (cs,ks) ∧ b8c 0 h.length js = true ∧ a7n (a9g js) cs = cs2 ∧ b3l (kill h ks) js = hs:=by
  unfold d9h at hf
  split at hf
  · rename_i cs ks' e
    split at hf
    · rename_i e2
      cases hf
      exact ⟨cs,e,e2,rfl,rfl⟩
    · cases hf
  · cases hf
theorem a3m {as' cs2:List AV} {ks:List Nat} {hi hout h2 hs:List y9} {v:AV} (fl:List Bool) (js:List Nat) (hm:dm.m = true → fl = []) (hc:a1q P dm f as' hi r hout) (hf:d9h h fl js (args.map (AX.ev (ofL bs))) = some (cs2,hs,ks)) (hl:LeL cs2 as') (hh:LeH hs hi) (hv:ren (a8k h.length js) r = v) (h2e:b3m (kill h ks) js hout = h2):Opr P dm (.call f args) bs h v h2:=by
  obtain ⟨cs,hf2,hn,rfl,rfl⟩:=c6x hf
  obtain ⟨_,_,k1,k2⟩:=b5d hn
  exact fun k hk => a2q.heapf fl ks js hm hf2 hc k1 k2 hl hh (by rw [hv,h2e]; exact hk)
theorem c4a {as' cs2:List AV} {ks:List Nat} {hi hout h2 hs:List y9} {v:AV} (fl:List Bool) (js:List Nat) (hm:dm.m = true → fl = []) (hc:a1q P dm f as' hi r hout) (hf:d9h h fl js (args.map (AX.ev (ofL bs))) = some (cs2,hs,ks)) (hl:LeL cs2 as') (hh:LeH hs hi) (hv:ren (a8k h.length js) r = v) (h2e:b3m (kill h ks) js hout = h2):d6x P dm (.call f args) bs h v h2 (b8r hi hout):=by
  obtain ⟨cs,hf2,hn,rfl,rfl⟩:=c6x hf
  obtain ⟨_,_,k1,k2⟩:=b5d hn
  exact fun k hk => a2q.heapfs fl ks js hm hf2 hc k1 k2 hl hh (fun hs => by rw [hv,h2e]; exact hk hs)
theorem b6d {p:Nat → Nat → Nat → Option AV}:∀ {as bs as' bs':List AV},a3x h p as = some as' → a3x h p bs = some bs' → a3x h p (as ++ bs) = some (as' ++ bs')
  | [],bs,as',bs',h1,h2 => by simp only [a3x] at h1; cases h1; simpa using h2
  | a :: as,bs,as',bs',h1,h2 => by
    simp only [a3x,List.cons_append] at h1 ⊢
    split at h1
    · rename_i x xs e1 e2
      cases h1
      rw [e1,b6d e2 h2]
      rfl
    · cases h1
theorem LeL.append:∀ {as bs as' bs':List AV},LeL as as' → LeL bs bs' → LeL (as ++ bs) (as' ++ bs')
  | _,_,_,_,.nil,h => h
  | _,_,_,_,.cons a t,h => .cons a (LeL.append t h)
theorem c2k {g:Nat} {cf bs':List AV} {v:AV} (hx:x.ev (ofL bs) = .fn g cf) (hok:c3o P g = true) (hcf:∀ h p,a3x h p cf = some cf) (hc:y8 P g .flat (bs' ++ cf) r) (hb:closes h (args.map (AX.ev (ofL bs))) = some cs) (hl:LeL cs bs') (hv:r = v):Opr P dm (.calv x args) bs h v h:=by
  intro k hk
  simp only [a6c,hx]
  refine ⟨hok,a2q.flat hc (b6d hb (hcf _ _)) (LeL.append hl (.refl _)) ?_⟩
  rw [hv]; exact hk
theorem d2u {g:Nat} {caps as bs':List AV} {v:AV} (hx:x.ev (ofL bs) = .fn g caps) (hok:c3o P g = true) (hc:y8 P g .flat bs' r) (has:args.map (AX.ev (ofL bs)) ++ caps = as) (hb:closes h as = some cs) (hl:LeL cs bs') (hv:r = v):Opr P dm (.calv x args) bs h v h:=by
  intro k hk
  subst has
  simp only [a6c,hx]
  refine ⟨hok,a2q.flat hc hb hl ?_⟩
  rw [hv]; exact hk
end

/-! clear -/
section
variable {P:Program} {dm:Md} {bs:List (Nat × AV)} {h:List y9} {α:Type} {enc:α → AV} {l:List α} {z:Nat} {x:AX} {y:α} {zero:AV}
theorem LeL.repz {n:Nat} (hz:Le zero (enc y)):LeL (List.replicate n zero) ((List.replicate n y).map enc):=by
  rw [List.map_replicate]
  induction n with
  | zero => exact .nil
  | succ n ih => exact .cons hz ih
theorem e0d {o lo n:Nat} {L:List α} (hx:x.ev (ofL bs) = .own o lo n) (ho:h[o]? = some (.row z (l.map enc))) (hz:Le zero (enc y)) (hL:l.take lo ++ List.replicate n y ++ l.drop (lo + n) = L):Opr P dm (.clr z zero x) bs h (.tup []) (h.set o (.row z (L.map enc))):=by
  intro k hk
  subst hL
  simp only [a6c,hx,ho]
  refine ⟨trivial,_,LeL.repz hz,?_⟩
  rw [← List.map_take,← List.map_drop,← List.map_append,← List.map_append]
  exact hk
theorem LeO.tk (l:List α) (n:Nat):LeO (.row z ((l.map enc).take n)) (.row z ((l.take n).map enc)):=by rw [List.map_take]; exact .refl _
theorem e0e (hx:x.ev (ofL bs) = .nil):Opr P dm (.cap x) bs h (.int .i64 0) h:=by
  intro k hk
  simp only [a6c,hx]
  exact hk
theorem e0s {sz bytes j:Nat} {nx:AX} {k':IntKind} {n:Int} (hx:x.ev (ofL bs) = .nil) (hn:nx.ev (ofL bs) = .int k' n) (hz:Le zero (enc y)) (h1:0 < n ∧ n ≤ 2 ^ 30) (hj:h.length = j):Opr P dm (.appz sz bytes zero x nx) bs h (.own j 0 n.toNat) (h ++ [.row sz ((List.replicate n.toNat y).map enc)]):=by
  intro k hk
  subst hj
  simp only [a6c,hx,hn]
  exact ⟨h1,_,LeL.repz hz,hk⟩
end

/-! writing in place -/
section
variable {P:Program} {dm:Md} {n0:Nat} {bs:List (Nat × AV)} {h:List y9} {α β:Type} {enc:α → AV} {enc':β → AV} {l:List α} {z:Nat} {x:α}
end

/-! lists -/
section
variable {α:Type} {enc:α → AV}
theorem c0j {o a b z:Nat} {l:List AV} (h:AV.own o a b = AV.lst z l):False:=by cases h
theorem flw (hf:∀ x,R.flat (enc x) = true) (l:List α) (n m:Nat):∀ a ∈ ((l.map enc).drop n).take m,R.flat a = true:=by
  intro a ha
  obtain ⟨x,_,rfl⟩:=List.mem_map.1 (List.mem_of_mem_drop (List.mem_of_mem_take ha))
  exact hf x
theorem tkw (l:List α) (n m:Nat):((l.map enc).drop n).take m = ((l.drop n).take m).map enc:=by rw [List.map_take,List.map_drop]
theorem flo (hf:∀ x,R.flat (enc x) = true) (l:List α) (n:Nat):∀ a ∈ ((l.map enc).drop 0).take n,R.flat a = true:=by
  intro a ha
  obtain ⟨x,_,rfl⟩:=List.mem_map.1 (List.mem_of_mem_take ha)
  exact hf x
theorem c4b (a b:List α) (B:List AV) (h:B = b.map enc):((a.map enc).take a.length) ++ ((B.drop 0).take B.length) = (a ++ b).map enc:=by
  subst h
  rw [List.drop_zero,List.take_of_length_le (by simp),List.take_of_length_le (by simp),List.map_append]
theorem apg (a b:List α) {B:List AV} (h:B = b.map enc):((a.map enc).take a.length) ++ B = (a ++ b).map enc:=by
  rw [h,List.take_of_length_le (by simp),List.map_append]
theorem apl (a b:List α):((a.map enc).take a.length) ++ b.map enc = (a ++ b).map enc:=by
  rw [List.take_of_length_le (by simp),List.map_append]
theorem tko (a:List α):((a.map enc).drop 0).take a.length = a.map enc:=by
  rw [List.drop_zero,List.take_of_length_le (by simp)]
theorem tk (a:List α):(a.map enc).take a.length = a.map enc:=List.take_of_length_le (by simp)
theorem repm (n:Nat) (x:α):List.replicate n (enc x) = (List.replicate n x).map enc:=by simp
theorem flm (hf:∀ x,R.flat (enc x) = true) (l:List α):∀ a ∈ l.map enc,R.flat a = true:=by
  intro a ha
  obtain ⟨x,_,rfl⟩:=List.mem_map.1 ha
  exact hf x
end
end Go.R
