/- What each operation yields, over typed data. -/
import Derived.Test.YtgdkfnndbknjpaaGreatD1
set_option linter.all false
namespace Go.R
open Go Go.RowKit
set_option linter.unusedVariables false
set_option linter.unusedSimpArgs false

def Opr (P:Program) (dm:Md) (op:AOp) (bs:List (Nat × AV)) (h:List a0g) (v:AV) (h':List a0g):Prop:=∀ k:AV → List a0g → Prop,k v h' → a8k P dm op (AX.ev (ofL bs)) h k
def e1g (P:Program) (dm:Md) (op:AOp) (bs:List (Nat × AV)) (h:List a0g) (v:AV) (h':List a0g) (F:Prop):Prop:=∀ k:AV → List a0g → Prop,(F → k v h') → a8k P dm op (AX.ev (ofL bs)) h k

section
variable {P:Program} {dm:Md} {bs:List (Nat × AV)} {h h':List a0g} {n other:b0w} {re:List a5j} {K:(Nat → AV) → List a0g → Prop} {d:Nat} {op:AOp} {v:AV} {F:Prop}

theorem x8 (hop:Opr P dm op bs h v h') (hn:a6h P dm n (ofL ((d,v) :: bs)) h' K):a6h P dm (.q ⟨some d,none,op⟩ n) (ofL bs) h K:=hop _ hn
theorem a1i (hop:e1g P dm op bs h v h' F) (hn:F → a6h P dm n (ofL ((d,v) :: bs)) h' K):a6h P dm (.q ⟨some d,none,op⟩ n) (ofL bs) h K:=hop _ hn
theorem a3o (hop:Opr P dm op bs h v h') (hn:a6h P dm n (ofL bs) h' K):a6h P dm (.q ⟨none,none,op⟩ n) (ofL bs) h K:=hop _ hn
theorem a1a (hop:Opr P dm op bs h v h') (ha:b9q dm.m re (ofL ((d,v) :: bs)) h h') (ho:a6h P dm other (ofL bs) h K) (hn:a6h P dm n (ofL ((d,v) :: bs)) h' K):a6h P dm (.l ⟨some d,none,op⟩ re n other) (ofL bs) h K:=⟨hop _ ⟨ha,hn⟩,ho⟩
theorem a4h (hop:Opr P dm op bs h v h') (ha:b9q dm.m re (ofL bs) h h') (ho:a6h P dm other (ofL bs) h K) (hn:a6h P dm n (ofL bs) h' K):a6h P dm (.l ⟨none,none,op⟩ re n other) (ofL bs) h K:=⟨hop _ ⟨ha,hn⟩,ho⟩
theorem a7h {m:Bool} {re:List a5j} {t:Nat → AV}:b9q m re t h h:=by
 cases re with
 | nil => trivial
 | cons a b => exact .inl rfl

/-! guards -/
theorem a0i {T:b0w} {s:Nat} {b e:Bool} (ht:ofL bs s = .bool e) (he:e = b) (hn:a6h P dm T (ofL ((s,.bool b) :: bs)) h K):a6h P dm T (ofL bs) h K:=by
 subst he
 have:ofL ((s,.bool e) :: bs) = ofL bs:=b3t ht
 rw [this] at hn
 exact hn
theorem s_on {s:Nat} {b:Bool} {o:Option Nat} (ht:ofL bs s = .bool b) (hn:a6h P dm (.q ⟨o,none,op⟩ n) (ofL bs) h K):a6h P dm (.q ⟨o,some (s,b),op⟩ n) (ofL bs) h K:=by
 show b7l P dm _ _ h _
 unfold b7l
 simp only [ht]
 rw [if_pos trivial,b3t ht]
 exact hn
theorem d3d {s:Nat} {b:Bool} {o:Option Nat} (ht:ofL bs s = .bool b) (hn:a6h P dm (.l ⟨o,none,op⟩ re n other) (ofL bs) h K):a6h P dm (.l ⟨o,some (s,b),op⟩ re n other) (ofL bs) h K:=by
 refine ⟨?_,hn.2⟩
 unfold b7l
 simp only [ht]
 rw [if_pos trivial,b3t ht]
 exact hn.1
theorem o6 {s:Nat} {b b':Bool} (ht:ofL bs s = .bool b') (hb:(b' == b) = false) (hn:a6h P dm n (ofL ((d,.skip) :: bs)) h K):a6h P dm (.q ⟨some d,some (s,b),op⟩ n) (ofL bs) h K:=by
 show b7l P dm _ _ h _
 unfold b7l
 simp only [ht]
 have hne:¬ b' = b:=by simpa using hb
 have hx:(!b) = b':=by cases b <;> cases b' <;> simp_all
 rw [if_neg hne,hx,b3t ht]
 exact hn
theorem c9c {s:Nat} {b b':Bool} (ht:ofL bs s = .bool b') (hb:(b' == b) = false) (ho:a6h P dm other (ofL bs) h K) (hn:a6h P dm n (ofL ((d,.skip) :: bs)) h K):a6h P dm (.l ⟨some d,some (s,b),op⟩ re n other) (ofL bs) h K:=by
 refine ⟨?_,ho⟩
 unfold b7l
 simp only [ht]
 have hne:¬ b' = b:=by simpa using hb
 have hx:(!b) = b':=by cases b <;> cases b' <;> simp_all
 rw [if_neg hne,hx,b3t ht]
 exact ⟨a7h,hn⟩
theorem a0x {s:Nat} {b:Bool} (ht:ofL bs s = .skip) (hn:a6h P dm n (ofL ((d,.skip) :: bs)) h K):a6h P dm (.q ⟨some d,some (s,b),op⟩ n) (ofL bs) h K:=by
 show b7l P dm _ _ h _
 unfold b7l
 simp only [ht]
 exact hn
theorem c3o {s:Nat} {b:Bool} (ht:ofL bs s = .skip) (ho:a6h P dm other (ofL bs) h K) (hn:a6h P dm n (ofL ((d,.skip) :: bs)) h K):a6h P dm (.l ⟨some d,some (s,b),op⟩ re n other) (ofL bs) h K:=by
 refine ⟨?_,ho⟩
 unfold b7l
 simp only [ht]
 exact ⟨a7h,hn⟩

/-! code -/
variable {m:Bool} {n0:Nat} {a b:a0s} {Q:AQ} {t:Nat → AV}
theorem a0r {T:b0w} (hn:a6h P dm T t h (kN Q)):awp P dm n0 (.reg T) t h Q:=hn
theorem y5 (hn:Q .norm t h):a6h P dm .done t h (kN Q):=hn
theorem a0k (hn:Q .norm t h):awp P dm n0 .skip t h Q:=hn
theorem a0m (hn:awp P dm n0 b t h Q):c6e (awp P dm n0 b) Q .norm t h:=hn
theorem a4b {X:Type} {S:X → List (Nat × AV) × List a0g} (y:X) (hn:b6i m n0 t h (S y)):d7n m n0 S Q .norm t h:=⟨y,hn⟩
theorem a2y {id:Nat} (hn:Q .norm t h):b8m id Q .norm t h:=hn
theorem a3g {id:Nat} (hn:Q .norm t h):b8m id Q (.exit id) t h:=by simp only [b8m,if_pos]; exact hn
theorem a3h {F:(Nat → AV) → List a0g → AQ → Prop} {i:Nat} (hn:Q (.exit i) t h):c6e F Q (.exit i) t h:=hn
theorem a2e {X:Type} {S:X → List (Nat × AV) × List a0g} {μ:X → Nat} {x:X} {i:Nat} (hn:Q (.exit i) t h):d3b m n0 S μ x Q (.exit i) t h:=hn
theorem a1z {X:Type} {S:X → List (Nat × AV) × List a0g} {μ:X → Nat} {x:X} (y:X) (hy:μ y < μ x) (hn:b6i m n0 t h (S y)):d3b m n0 S μ x Q .norm t h:=⟨y,hy,hn⟩
theorem sr {T:b0w} (hn:a6h P dm T t h (kN (c6e (awp P dm n0 b) Q))):awp P dm n0 (.seq (.reg T) b) t h Q:=hn
theorem dk (hn:awp P dm n0 b t h Q):a6h P dm .done t h (kN (c6e (awp P dm n0 b) Q)):=hn
theorem c4u (s:List (Nat × AV) × List a0g) (hc:b6i dm.m n0 t h s) (hn:awp P dm n0 a (ofL s.1) s.2 Q):awp P dm n0 (.cut a) t h Q:=⟨s,hc,hn⟩
theorem a3i {i:Nat} (hn:Q (.exit i) t h):awp P dm n0 (.exit i) t h Q:=hn
theorem a0b (hn:Q .ret t h):awp P dm n0 .ret t h Q:=hn
theorem a3y {id:Nat} (hn:awp P dm n0 a t h (b8m id Q)):awp P dm n0 (.block id a) t h Q:=hn
theorem y8 {s:Nat} {e:Bool} (ht:ofL bs s = .bool e) (he:e = true) (hn:awp P dm n0 a (ofL ((s,.bool true) :: bs)) h Q):awp P dm n0 (.cond (.t s) a b) (ofL bs) h Q:=by
 subst he
 simp only [awp,AX.ev,ht,if_pos]
 exact hn
theorem y9 {s:Nat} {e:Bool} (ht:ofL bs s = .bool e) (he:e = false) (hn:awp P dm n0 b (ofL ((s,.bool false) :: bs)) h Q):awp P dm n0 (.cond (.t s) a b) (ofL bs) h Q:=by
 subst he
 simp only [awp,AX.ev,ht]
 exact hn
theorem y7 {os:List AOp} {r:AV} (hp:c0p m t h os) (hf:rflats (b8w t h os) = true) (hl:Le (pack (b8w t h os)) r):d7i m .flat os r .ret t h:=⟨hp,_,⟨hf,rfl⟩,hl⟩
theorem e0a {os:List AOp} {r:AV} {bs:List AV} {ks:List Nat} (hp:c0p m t h os) (ha:a2s true h (b8w t h os) = some (bs,ks)) (hn:ks.Nodup) (hl:Le (pack bs) r):d7i m .fresh os r .ret t h:=by
 refine ⟨hp,pack bs,?_,hl⟩
 simp only [Ret,ha]
 exact ⟨hn,trivial⟩
theorem a3u {os:List AOp} {r:AV} {hout:List a0g} {n0:Nat} {t':Nat → AV} {h':List a0g} (gs:List Gh) (js:List Nat) (hg:ghs m t h gs = some (t',h')) (hp:c0p m t' h' os) (hk:b9r n0 h'.length js = true) (hh:LeH (b5k h' js) hout) (hl:Le (ren (b0y js) (pack (b8w t' h' os))) r):e0u m n0 os r hout .ret t h :=
 ⟨gs,js,t',h',hg,hp,hk,hh,hl⟩
theorem c4v {os:List AOp} {r:AV} {bs:List AV} {ks:List Nat} (hp:c0p m t h os) (ha:a2s false h (b8w t h os) = some (bs,ks)) (hl:Le (pack bs) r):d7i m .weak os r .ret t h:=by
 refine ⟨hp,pack bs,?_,hl⟩
 simp only [Ret,ha]
end

section
variable {P:Program} {dm:Md} {bs:List (Nat × AV)} {h:List a0g} {α:Type} {enc:α → AV} {l:List α} {z:Nat} {x i:AX} {e:α} {k:IntKind}

theorem b5n {op:AOp} {e:AX → AV} {h:List a0g} {k:AV → List a0g → Prop} (hq:op.quiet = true) (hm:mmT op e h) (h1:aqP op e h ∧ (aqF op e → k (aqV op e h) h)):a8k P dm op e h k:=by
 cases op <;> first | exact ⟨aqQ.of h1.1 hm,h1.2⟩ | cases hq
theorem o_q {op:AOp} (v:AV) (hq:op.quiet = true) (hp:aqQ dm.m op (AX.ev (ofL bs)) h) (hv:aqV op (AX.ev (ofL bs)) h = v):Opr P dm op bs h v h:=by
 intro k hk
 subst hv
 cases op <;> first | (exact ⟨hp,fun _ => hk⟩) | (cases hq)
theorem a2w (v:AV) (hv:x.ev (ofL bs) = v):Opr P dm (.mov x) bs h v h:=o_q v rfl (.of trivial trivial) hv
theorem a1p (hx:x.ev (ofL bs) = .lst z (l.map enc)):e1g P dm (.len x) bs h (.int .i64 l.length) h (l.length ≤ maxLen):=by
 intro k hk
 refine b5n rfl trivial ?_
 simp only [aqP,aqF,aqV,hx,List.length_map]
 exact ⟨trivial,hk⟩
theorem b3i {s:List UInt8} (hx:x.ev (ofL bs) = .str s):e1g P dm (.lenS x) bs h (.int .i64 s.length) h (s.length ≤ maxLen):=by
 intro k hk
 refine b5n rfl trivial ?_
 simp only [aqP,aqF,aqV,hx]
 exact ⟨trivial,hk⟩
theorem a2t {n:Int} (hx:x.ev (ofL bs) = .lst z (l.map enc)) (hi:i.ev (ofL bs) = .int k n) (h0:0 ≤ n) (hl:l[n.toNat]? = some e):Opr P dm (.iaddr z x i) bs h (.iptr (enc e) 0) h:=by
 intro k hk
 have hlt:n.toNat < l.length:=(List.getElem?_eq_some_iff.1 hl).1
 have hg:(l.map enc).getD n.toNat .undef = enc e:=by simp [hl]
 refine b5n rfl trivial ?_
 simp only [aqP,aqF,aqV,hx,hi,List.length_map,hg]
 exact ⟨⟨⟨h0,by omega⟩,trivial⟩,fun _ => hk⟩
theorem a1o {j:Nat} (hx:x.ev (ofL bs) = .lst z (l.map enc)) (hi:i.ev (ofL bs) = .int k (j:Int)) (hl:l[j]? = some e):Opr P dm (.iaddr z x i) bs h (.iptr (enc e) 0) h :=
 a2t hx hi (by omega) (by simpa using hl)
theorem a4i {o lo m z':Nat} {l:List AV} {n:Int} (hx:x.ev (ofL bs) = .own o lo m) (hi:i.ev (ofL bs) = .int k n) (h0:0 ≤ n) (h1:n < m) (ho:h[o]? = some (.row z' l)) (hz:z' = z):Opr P dm (.iaddr z x i) bs h (.ptr o (lo + n.toNat) 0) h:=by
 intro k hk
 subst hz
 refine b5n rfl trivial ?_
 simp only [aqP,aqF,aqV,hx,hi,ho]
 exact ⟨⟨⟨h0,h1⟩,trivial⟩,fun _ => hk⟩
theorem d7q {s:List UInt8} {n:Int} {c:UInt8} (hx:x.ev (ofL bs) = .str s) (hi:i.ev (ofL bs) = .int k n) (h0:0 ≤ n) (hl:s[n.toNat]? = some c):Opr P dm (.idxs x i) bs h (.int .u8 c.toNat) h:=by
 intro k hk
 have hlt:n.toNat < s.length:=(List.getElem?_eq_some_iff.1 hl).1
 have hg:s.getD n.toNat 0 = c:=by simp [hl]
 refine b5n rfl trivial ?_
 simp only [aqP,aqF,aqV,hx,hi,hg]
 exact ⟨⟨h0,by omega⟩,fun _ => hk⟩
theorem b3m {s:List UInt8} {j:Nat} {c:UInt8} (hx:x.ev (ofL bs) = .str s) (hi:i.ev (ofL bs) = .int k (j:Int)) (hl:s[j]? = some c):Opr P dm (.idxs x i) bs h (.int .u8 c.toNat) h :=
 d7q hx hi (by omega) (by simpa using hl)
theorem a5l {dm:Bool} {a:AX} {o j f sz z:Nat} {ag:Bool} {v:AV} (hx:a.ev (ofL bs) = .ptr o j f) (ho:h[o]? = some (.row z (l.map enc))) (hl:l[j]? = some e) (hp:ldP (enc e) f sz ag) (hv:ldV (enc e) f sz ag = v):Opr P (dm:Bool) (.load sz ag a) bs h v h:=by
 intro k hk
 have hg:(l.map enc).getD j .undef = enc e:=by simp [hl]
 have key:aqP (.load sz ag a) (AX.ev (ofL bs)) h:=by
  simp only [aqP,hx,ho,hg]
  exact hp
 refine ⟨key,fun _ => ?_⟩
 simp only [aqV,hx,ho,hg,hv]
 exact hk
theorem nle {a b:Nat} (h:Nat.ble a b = true:=by rfl):a ≤ b:=Nat.le_of_ble_eq_true h
theorem d7r {n:Int} {hi:AX} (hx:x.ev (ofL bs) = .lst z (l.map enc)) (hh:hi.ev (ofL bs) = .int k n) (h0:0 ≤ n) (h1:n ≤ l.length):Opr P dm (.slice z x none (some hi)) bs h (.lst z ((l.take n.toNat).map enc)) h:=by
 intro k hk
 refine b5n rfl trivial ?_
 simp only [aqP,aqF,aqV,hx,hh,c3s,b4q,d4f,c8j,Option.map_some,Option.map_none,Option.getD_some,Option.getD_none,List.length_map,← List.map_take]
 exact ⟨⟨⟨by omega,h0,h1⟩,trivial⟩,fun _ => hk⟩
theorem e0v {n:Int} {lo:AX} (hx:x.ev (ofL bs) = .lst z (l.map enc)) (hh:lo.ev (ofL bs) = .int k n) (h0:0 ≤ n) (h1:n ≤ l.length):Opr P dm (.slice z x (some lo) none) bs h (.lst z ((l.drop n.toNat).map enc)) h:=by
 intro k hk
 refine b5n rfl trivial ?_
 simp only [aqP,aqF,aqV,hx,hh,c3s,b4q,d4f,c8j,Option.map_some,Option.map_none,Option.getD_some,Option.getD_none,List.length_map,← List.map_drop]
 exact ⟨⟨⟨h0,h1,by omega⟩,trivial⟩,fun _ => hk⟩
theorem e1h {o m:Nat} {l:List AV} {n:Int} {hi:AX} (hx:x.ev (ofL bs) = .own o 0 m) (ho:h[o]? = some (.row z l)) (hh:hi.ev (ofL bs) = .int k n) (h0:0 ≤ n) (h1:n ≤ m):Opr P dm (.slice z x none (some hi)) bs h (.own o 0 n.toNat) h:=by
 intro k hk
 refine b5n rfl trivial ?_
 simp only [aqP,aqF,aqV,hx,ho,hh,c3s,b4q,d4f,c8j,Option.map_some,Option.map_none,Option.getD_some,Option.getD_none]
 exact ⟨⟨⟨by omega,h0,h1⟩,trivial⟩,fun _ => hk⟩
theorem a1j {c:AV} {sz j:Nat} (hv:x.ev (ofL bs) = c) (hs:a9i h c) (hl:c.cells.length = sz) (hj:h.length = j):Opr P dm (.box sz x) bs h (.ptr j 0 0) (h ++ [.box sz c]):=by
 intro k hk
 subst hj hv
 exact ⟨⟨hs,hl⟩,hk⟩
theorem a0e {a:AX} {o j f z sz:Nat} {y v y':AV} (ha:a.ev (ofL bs) = .ptr o j f) (ho:h[o]? = some (.box z y)) (hx:x.ev (ofL bs) = v) (hs:a9i h v) (hp:b6f y f sz v) (hl:c4k h v.cells) (hy:a9l y f v = y'):Opr P dm (.store sz a x) bs h .skip (h.set o (.box z y')):=by
 intro k hk
 subst hx hy
 simp only [a8k,ha,ho]
 exact ⟨⟨hs,hp,hl⟩,hk⟩
theorem a0t {sz j m:Nat} {xs:List AX} {as as':List AV} {ks:List Nat} {h2:List a0g} (ha:a2s dm.d h (xs.map (AX.ev (ofL bs))) = some (as,ks)) (hnd:dm.d = true → ks.Nodup) (hl:d6w sz as) (he:LeL as as') (hm:as'.length = m) (hh:kill h ks = h2) (hj:h.length = j) :
  Opr P dm (.bslice sz xs) bs h (.own j 0 m) (h2 ++ [.row sz as']):=by
 intro k hk
 subst hj hm hh
 simp only [a8k,ha]
 exact ⟨⟨hnd,hl⟩,as',he,by rw [he.length]; exact hk⟩
theorem a5m {sz bytes j n m len:Nat} {s:AX} {l0 l1 L:List AV} {ks0 ks1:List Nat} {h2:List a0g} (hd:c2c h sz (s.ev (ofL bs)) = some (l0,n,ks0)) (hs:b6e false h sz (x.ev (ofL bs)) = some (l1,m,ks1)) (hL:l0 ++ l1 = L) (hn:n + m = len) (hb:len ≤ 2 ^ 30) (hh:kill h (ks0 ++ ks1) = h2) (hj:h.length = j) :
  Opr P (false:Bool) (.append sz bytes s x) bs h (.own j 0 len) (h2 ++ [.row sz L]):=by
 intro k hk
 subst hL hn hh hj
 simp only [a8k,hd,hs]
 exact ⟨hb,hk⟩
/-! the same, looked at again -/
def Agn (m:Bool) (op:AOp) (bs:List (Nat × AV)) (h:List a0g) (v:AV):Prop:=aqQ m op (AX.ev (ofL bs)) h ∧ v = aqV op (AX.ev (ofL bs)) h
theorem Agn.of {m:Bool} {op:AOp} (hq:op.quiet = true) {v:AV} (ho:∀ k:AV → List a0g → Prop,k v h → (aqP op (AX.ev (ofL bs)) h ∧ (aqF op (AX.ev (ofL bs)) → k (aqV op (AX.ev (ofL bs)) h) h))) (hf:aqF op (AX.ev (ofL bs))) (hm:mmT op (AX.ev (ofL bs)) h:=by trivial):Agn m op bs h v:=by
 obtain ⟨h1,h2⟩:=ho (fun r _ => v = r) rfl
 exact ⟨.of h1 hm,h2 hf⟩
theorem c4w (hx:x.ev (ofL bs) = .lst z (l.map enc)):Agn false (.len x) bs h (.int .i64 l.length):=by
 simp only [Agn,aqQ,aqP,aqV,hx,List.length_map,and_self]
theorem d1a {n:Int} (hx:x.ev (ofL bs) = .lst z (l.map enc)) (hi:i.ev (ofL bs) = .int k n) (h0:0 ≤ n) (hl:l[n.toNat]? = some e):Agn false (.iaddr z x i) bs h (.iptr (enc e) 0) :=
 Agn.of rfl (fun k hk => a2t (P:=default) (dm:=(false:Bool)) hx hi h0 hl k hk) (by trivial)
theorem c4x {n:Int} {hi:AX} (hx:x.ev (ofL bs) = .lst z (l.map enc)) (hh:hi.ev (ofL bs) = .int k n) (h0:0 ≤ n) (h1:n ≤ l.length):Agn false (.slice z x none (some hi)) bs h (.lst z ((l.take n.toNat).map enc)) :=
 Agn.of rfl (fun k hk => d7r (P:=default) (dm:=(false:Bool)) hx hh h0 h1 k hk) trivial
theorem b4u {n:Int} {lo:AX} (hx:x.ev (ofL bs) = .lst z (l.map enc)) (hh:lo.ev (ofL bs) = .int k n) (h0:0 ≤ n) (h1:n ≤ l.length):Agn false (.slice z x (some lo) none) bs h (.lst z ((l.drop n.toNat).map enc)) :=
 Agn.of rfl (fun k hk => e0v (P:=default) (dm:=(false:Bool)) hx hh h0 h1 k hk) trivial
theorem a4d {o lo m z':Nat} {l:List AV} {n:Int} (hx:x.ev (ofL bs) = .own o lo m) (hi:i.ev (ofL bs) = .int k n) (h0:0 ≤ n) (h1:n < m) (ho:h[o]? = some (.row z' l)) (hz:z' = z):Agn false (.iaddr z x i) bs h (.ptr o (lo + n.toNat) 0) :=
 Agn.of rfl (fun k hk => a4i (P:=default) (dm:=(false:Bool)) hx hi h0 h1 ho hz k hk) trivial
theorem a4p {a:AX} {o j f sz z:Nat} {ag:Bool} {v:AV} (hx:a.ev (ofL bs) = .ptr o j f) (ho:h[o]? = some (.row z (l.map enc))) (hl:l[j]? = some e) (hp:ldP (enc e) f sz ag) (hv:ldV (enc e) f sz ag = v):Agn false (.load sz ag a) bs h v:=by
 have hg:(l.map enc).getD j .undef = enc e:=by simp [hl]
 refine ⟨?_,?_⟩
 ·show aqP (.load sz ag a) (AX.ev (ofL bs)) h
  simp only [aqP,hx,ho,hg]
  exact hp
 ·simp only [aqV,hx,ho,hg,hv]
/-! calls -/
variable {f:Nat} {args:List AX} {r:AV} {cs cs':List AV}
theorem a7r {h:List a0g} {p:Nat → Nat → Nat → Option AV} {a a':AV} {as as':List AV} (h1:a4t h p a = some a') (h2:a3k h p as = some as'):a3k h p (a :: as) = some (a' :: as'):=by simp only [a3k,h1,h2]
theorem b7n {h:List a0g} {p:Nat → Nat → Nat → Option AV} {kf:Nat} {cf:List AV} (hcf:∀ h p,a3k h p cf = some cf):a4t h p (.fn kf cf) = some (.fn kf cf):=by simp only [a4t,hcf]; rfl
theorem a0j {bs':List AV} {v:AV} (hc:a0a P f .flat bs' r) (hb:closes h (args.map (AX.ev (ofL bs))) = some cs) (hl:LeL cs bs') (hv:r = v):Opr P dm (.call f args) bs h v h:=fun k hk => a4a.flat hc hb hl (by rw [hv]; exact hk)
theorem d3e {bs':List AV} {v:AV} {h':List a0g} (hc:a0a P f .fresh bs' r) (hb:closes h (args.map (AX.ev (ofL bs))) = some cs) (hl:LeL cs bs') (hv:a6s h.length r = (v,h')):Opr P dm (.call f args) bs h v (h ++ h'):=fun k hk => a4a.fresh hc hb hl (by rw [hv]; exact hk)
theorem c9d (hm:dm.m = false) {bs':List AV} {v:AV} (hc:a0a P f .fresh bs' r) (hb:closes h (args.map (AX.ev (ofL bs))) = some cs) (hl:LeL cs bs') (hv:r = v):Opr P dm (.call f args) bs h v h:=fun k hk => a4a.freshc hm hc hb hl (by rw [hv]; exact hk)
theorem d3f (hm:dm.m = false) {bs':List AV} {ks:List Nat} {h2:List a0g} {v:AV} (hc:a0a P f .weak bs' r) (hb:a2s false h (args.map (AX.ev (ofL bs))) = some (cs,ks)) (hl:LeL cs bs') (hv:r = v) (hh:kill h ks = h2):Opr P dm (.call f args) bs h v h2:=fun k hk => a4a.weak hm hc hb hl (by rw [hh,hv]; exact hk)
def e1i (h:List a0g) (fl:List Bool) (js:List Nat) (as:List AV):Option (List AV × List a0g × List Nat):=match c2u h fl as with
 | some (cs,ks) => match b9r 0 h.length js with
  | true => some (a8a (b0y js) cs,b5k (kill h ks) js,ks)
  | false => none
 | none => none
theorem d4w {h:List a0g} {fl:List Bool} {js ks:List Nat} {as cs2:List AV} {hs:List a0g} (hf:e1i h fl js as = some (cs2,hs,ks)):∃ cs,c2u h fl as = some (cs,ks) ∧ b9r 0 h.length js = true ∧ a8a (b0y js) cs = cs2 ∧ b5k (kill h ks) js = hs:=by
 unfold e1i at hf
 split at hf
 ·rename_i cs ks' e
  split at hf
  ·rename_i e2
   cases hf
   exact ⟨cs,e,e2,rfl,rfl⟩
  ·cases hf
 ·cases hf
theorem a0u {as' cs2:List AV} {ks:List Nat} {hi hout h2 hs:List a0g} {v:AV} (fl:List Bool) (js:List Nat) (hm:dm.m = true → fl = []) (hc:a1u P dm f as' hi r hout) (hf:e1i h fl js (args.map (AX.ev (ofL bs))) = some (cs2,hs,ks)) (hl:LeL cs2 as') (hh:LeH hs hi) (hv:ren (b0v h.length js) r = v) (h2e:b6g (kill h ks) js hout = h2):Opr P dm (.call f args) bs h v h2:=by
 obtain ⟨cs,hf2,hn,rfl,rfl⟩:=d4w hf
 obtain ⟨_,_,k1,k2⟩:=b9s hn
 exact fun k hk => a4a.heapf fl ks js hm hf2 hc k1 k2 hl hh (by rw [hv,h2e]; exact hk)
theorem b7o {p:Nat → Nat → Nat → Option AV}:∀ {as bs as' bs':List AV},a3k h p as = some as' → a3k h p bs = some bs' → a3k h p (as ++ bs) = some (as' ++ bs')
 | [],bs,as',bs',h1,h2 => by simp only [a3k] at h1; cases h1; simpa using h2
 | a :: as,bs,as',bs',h1,h2 => by
  simp only [a3k,List.cons_append] at h1 ⊢
  split at h1
  ·rename_i x xs e1 e2
   cases h1
   rw [e1,b7o e2 h2]
   rfl
  ·cases h1
theorem LeL.append:∀ {as bs as' bs':List AV},LeL as as' → LeL bs bs' → LeL (as ++ bs) (as' ++ bs')
 | _,_,_,_,.nil,h => h
 | _,_,_,_,.cons a t,h => .cons a (LeL.append t h)
theorem b5p {g:Nat} {cf bs':List AV} {v:AV} (hx:x.ev (ofL bs) = .fn g cf) (hok:b6u P g = true) (hcf:∀ h p,a3k h p cf = some cf) (hc:a0a P g .flat (bs' ++ cf) r) (hb:closes h (args.map (AX.ev (ofL bs))) = some cs) (hl:LeL cs bs') (hv:r = v):Opr P dm (.calv x args) bs h v h:=by
 intro k hk
 simp only [a8k,hx]
 refine ⟨hok,a4a.flat hc (b7o hb (hcf _ _)) (LeL.append hl (.refl _)) ?_⟩
 rw [hv]; exact hk
end

/-! clear -/
section
variable {P:Program} {dm:Md} {bs:List (Nat × AV)} {h:List a0g} {α:Type} {enc:α → AV} {l:List α} {z:Nat} {x:AX} {y:α} {zero:AV}
theorem LeO.tk (l:List α) (n:Nat):LeO (.row z ((l.map enc).take n)) (.row z ((l.take n).map enc)):=by rw [List.map_take]; exact .refl _
end

/-! writing in place -/
section
variable {P:Program} {dm:Md} {n0:Nat} {bs:List (Nat × AV)} {h:List a0g} {α β:Type} {enc:α → AV} {enc':β → AV} {l:List α} {z:Nat} {x:α}
end

/-! lists -/
section
variable {α:Type} {enc:α → AV}
theorem c6g (a b:List α) (B:List AV) (h:B = b.map enc):((a.map enc).take a.length) ++ ((B.drop 0).take B.length) = (a ++ b).map enc:=by
 subst h
 rw [List.drop_zero,List.take_of_length_le (by simp),List.take_of_length_le (by simp),List.map_append]
theorem apl (a b:List α):((a.map enc).take a.length) ++ b.map enc = (a ++ b).map enc:=by
 rw [List.take_of_length_le (by simp),List.map_append]
theorem tko (a:List α):((a.map enc).drop 0).take a.length = a.map enc:=by
 rw [List.drop_zero,List.take_of_length_le (by simp)]
theorem tk (a:List α):(a.map enc).take a.length = a.map enc:=List.take_of_length_le (by simp)
theorem repm (n:Nat) (x:α):List.replicate n (enc x) = (List.replicate n x).map enc:=by simp
end
end Go.R
