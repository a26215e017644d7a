/- Part of the proof. -/
import Derived.Test.YtldahjcikmpifaaGreatG2
import Derived.KernelRfl
section
set_option linter.all false
namespace Go.R
open Go Go.RowKit
def Opr (P:Program) (dm:Md) (op:AOp) (bs:List (Nat × AV)) (h:List l7) (v:AV) (h':List l7):Prop:=∀ k:AV → List l7 → Prop,k v h' → a5o P dm op (AX.ev (y8 bs)) h k
def e3t (P:Program) (dm:Md) (op:AOp) (bs:List (Nat × AV)) (h:List l7) (v:AV) (h':List l7) (F:Prop):Prop:=∀ k:AV → List l7 → Prop,(F → k v h') → a5o P dm op (AX.ev (y8 bs)) h k
section
variable {P:Program} {dm:Md} {bs:List (Nat × AV)} {h h':List l7} {n other:a1h} {re:List a2q} {K:(Nat → AV) → List l7 → Prop} {d:Nat} {op:AOp} {v:AV} {F:Prop}
theorem a2z (hop:Opr P dm op bs h v h') (hn:a0i P dm n (y8 ((d,v) :: bs)) h' K):a0i P dm (.q ⟨some d,none,op⟩ n) (y8 bs) h K:=hop _ hn
theorem d4u (hop:e3t P dm op bs h v h' F) (hn:F → a0i P dm n (y8 ((d,v) :: bs)) h' K):a0i P dm (.q ⟨some d,none,op⟩ n) (y8 bs) h K:=hop _ hn
theorem c7r (hop:Opr P dm op bs h v h') (hn:a0i P dm n (y8 bs) h' K):a0i P dm (.q ⟨none,none,op⟩ n) (y8 bs) h K:=hop _ hn
theorem a4t (hop:Opr P dm op bs h v h') (ha:b5a dm.m re (y8 ((d,v) :: bs)) h h') (ho:a0i P dm other (y8 bs) h K) (hn:a0i P dm n (y8 ((d,v) :: bs)) h' K):a0i P dm (.l ⟨some d,none,op⟩ re n other) (y8 bs) h K:=⟨hop _ ⟨ha,hn⟩,ho⟩
theorem c7s (hop:Opr P dm op bs h v h') (ha:b5a dm.m re (y8 bs) h h') (ho:a0i P dm other (y8 bs) h K) (hn:a0i P dm n (y8 bs) h' K):a0i P dm (.l ⟨none,none,op⟩ re n other) (y8 bs) h K:=⟨hop _ ⟨ha,hn⟩,ho⟩
theorem f2r {ng:Bool} {x:AX} {z:Nat} {l:List AV} {d:Nat} (hx:x.ev (y8 bs) = .lst z l) (hn:∀ b,(b = true → l = []) → a0i P dm n (y8 ((d,.bool (b != ng)) :: bs)) h K):a0i P dm (.q ⟨some d,none,.isnil ng x⟩ n) (y8 bs) h K:=by
 show a5o P dm (.isnil ng x) (AX.ev (y8 bs)) h _
 simp only [a5o,hx]
 exact hn
theorem f0f {α:Type} {enc:α → AV} {l:List α} (h:l.map enc = []):l = []:=by simpa using h
theorem b7z {m:Bool} {re:List a2q} {t:Nat → AV}:b5a m re t h h:=by
 cases re with
 | nil => trivial
 | cons a b => exact .inl rfl
theorem d0u {T:a1h} {s:Nat} {b e:Bool} (ht:y8 bs s = .bool e) (he:e = b) (hn:a0i P dm T (y8 ((s,.bool b) :: bs)) h K):a0i P dm T (y8 bs) h K:=by
 subst he
 have:y8 ((s,.bool e) :: bs) = y8 bs:=b3u ht
 rw [this] at hn
 exact hn
theorem s_on {s:Nat} {b:Bool} {o:Option Nat} (ht:y8 bs s = .bool b) (hn:a0i P dm (.q ⟨o,none,op⟩ n) (y8 bs) h K):a0i P dm (.q ⟨o,some (s,b),op⟩ n) (y8 bs) h K:=by
 show b7v P dm _ _ h _
 unfold b7v
 simp only [ht]
 rw [if_pos trivial,b3u ht]
 exact hn
theorem c4y {s:Nat} {b:Bool} {o:Option Nat} (ht:y8 bs s = .bool b) (hn:a0i P dm (.l ⟨o,none,op⟩ re n other) (y8 bs) h K):a0i P dm (.l ⟨o,some (s,b),op⟩ re n other) (y8 bs) h K:=by
 refine ⟨?_,hn.2⟩
 unfold b7v
 simp only [ht]
 rw [if_pos trivial,b3u ht]
 exact hn.1
theorem d9i {s:Nat} {b b':Bool} (ht:y8 bs s = .bool b') (hb:(b' == b) = false) (hn:a0i P dm n (y8 ((d,.skip) :: bs)) h K):a0i P dm (.q ⟨some d,some (s,b),op⟩ n) (y8 bs) h K:=by
 show b7v P dm _ _ h _
 unfold b7v
 simp only [ht]
 have hne:¬ b' = b:=by simpa using hb
 have hx:(!b) = b':=by cases b <;> cases b' <;> simp_all
 rw [if_neg hne,hx,b3u ht]
 exact hn
theorem b8a {s:Nat} {b b':Bool} (ht:y8 bs s = .bool b') (hb:(b' == b) = false) (ho:a0i P dm other (y8 bs) h K) (hn:a0i P dm n (y8 ((d,.skip) :: bs)) h K):a0i P dm (.l ⟨some d,some (s,b),op⟩ re n other) (y8 bs) h K:=by
 refine ⟨?_,ho⟩
 unfold b7v
 simp only [ht]
 have hne:¬ b' = b:=by simpa using hb
 have hx:(!b) = b':=by cases b <;> cases b' <;> simp_all
 rw [if_neg hne,hx,b3u ht]
 exact ⟨b7z,hn⟩
theorem d7q {s:Nat} {b:Bool} (ht:y8 bs s = .skip) (hn:a0i P dm n (y8 ((d,.skip) :: bs)) h K):a0i P dm (.q ⟨some d,some (s,b),op⟩ n) (y8 bs) h K:=by
 show b7v P dm _ _ h _
 unfold b7v
 simp only [ht]
 exact hn
theorem d2h {s:Nat} {b:Bool} (ht:y8 bs s = .skip) (ho:a0i P dm other (y8 bs) h K) (hn:a0i P dm n (y8 ((d,.skip) :: bs)) h K):a0i P dm (.l ⟨some d,some (s,b),op⟩ re n other) (y8 bs) h K:=by
 refine ⟨?_,ho⟩
 unfold b7v
 simp only [ht]
 exact ⟨b7z,hn⟩
variable {m:Bool} {n0:Nat} {a b:a0l} {Q:AQ} {t:Nat → AV}
theorem a5h {T:a1h} (hn:a0i P dm T t h (kN Q)):awp P dm n0 (.reg T) t h Q:=hn
theorem a9v (hn:Q .norm t h):a0i P dm .done t h (kN Q):=hn
theorem a4s (hn:Q .norm t h):awp P dm n0 .skip t h Q:=hn
theorem a4g (hn:awp P dm n0 b t h Q):b1v (awp P dm n0 b) Q .norm t h:=hn
theorem e3u {s} (hn:a3e m n0 t h s):d4s m n0 s Q .norm t h:=hn
theorem b4i {id:Nat} (hn:Q .norm t h):a2l id Q .norm t h:=hn
theorem c7t {id:Nat} (hn:Q .norm t h):a2l id Q (.exit id) t h:=by simp only [a2l,if_pos]; exact hn
theorem c7u {F:(Nat → AV) → List l7 → AQ → Prop} {i:Nat} (hn:Q (.exit i) t h):b1v F Q (.exit i) t h:=hn
theorem c5x {X:Type} {S:X → List (Nat × AV) × List l7} {μ:X → Nat} {x:X} {i:Nat} (hn:Q (.exit i) t h):b7x m n0 S μ x Q (.exit i) t h:=hn
theorem d9j {X:Type} {S:X → List (Nat × AV) × List l7} {μ:X → Nat} {x:X} (y:X) (hy:μ y < μ x) (hn:a3e m n0 t h (S y)):b7x m n0 S μ x Q .norm t h:=⟨y,hy,hn⟩
theorem sr {T:a1h} (hn:a0i P dm T t h (kN (b1v (awp P dm n0 b) Q))):awp P dm n0 (.seq (.reg T) b) t h Q:=hn
theorem dk (hn:awp P dm n0 b t h Q):a0i P dm .done t h (kN (b1v (awp P dm n0 b) Q)):=hn
theorem c7v {i:Nat} (hn:Q (.exit i) t h):awp P dm n0 (.exit i) t h Q:=hn
theorem a7u (hn:Q .ret t h):awp P dm n0 .ret t h Q:=hn
theorem b6d {id:Nat} (hn:awp P dm n0 a t h (a2l id Q)):awp P dm n0 (.block id a) t h Q:=hn
theorem d2i {s:Nat} {e:Bool} (ht:y8 bs s = .bool e) (he:e = true) (hn:awp P dm n0 a (y8 ((s,.bool true) :: bs)) h Q):awp P dm n0 (.cond (.t s) a b) (y8 bs) h Q:=by
 subst he
 simp only [awp,AX.ev,ht,if_pos]
 exact hn
theorem c5y {s:Nat} {e:Bool} (ht:y8 bs s = .bool e) (he:e = false) (hn:awp P dm n0 b (y8 ((s,.bool false) :: bs)) h Q):awp P dm n0 (.cond (.t s) a b) (y8 bs) h Q:=by
 subst he
 simp only [awp,AX.ev,ht]
 exact hn
theorem b8b {os:List AOp} {r:AV} (hp:b3v m t h os) (hf:rflats (b2f t h os) = true) (hl:Le (pack (b2f t h os)) r):c7p m .flat os r .ret t h:=⟨hp,_,⟨hf,rfl⟩,hl⟩
theorem b3n {os:List AOp} {r:AV} {bs:List AV} {ks:List Nat} (hp:b3v m t h os) (ha:a0x true h (b2f t h os) = some (bs,ks)) (hn:ks.Nodup) (hl:Le (pack bs) r):c7p m .fresh os r .ret t h:=by
 refine ⟨hp,pack bs,?_,hl⟩
 simp only [Ret,ha]
 exact ⟨hn,trivial⟩
theorem b1w {os:List AOp} {r:AV} {hout:List l7} {n0:Nat} {t':Nat → AV} {h':List l7} (gs:List Gh) (js:List Nat) (hg:ghs m t h gs = some (t',h')) (hp:b3v m t' h' os) (hk:a9u n0 h'.length js = true) (hh:LeH (b0a h' js) hout) (hl:Le (ren (a6i js) (pack (b2f t' h' os))) r):c4x m n0 os r hout .ret t h :=
 ⟨gs,js,t',h',hg,hp,hk,hh,hl⟩
theorem c7w {os:List AOp} {r:AV} {bs:List AV} {ks:List Nat} (hp:b3v m t h os) (ha:a0x false h (b2f t h os) = some (bs,ks)) (hl:Le (pack bs) r):c7p m .weak os r .ret t h:=by
 refine ⟨hp,pack bs,?_,hl⟩
 simp only [Ret,ha]
end
section
variable {P:Program} {dm:Md} {bs:List (Nat × AV)} {h:List l7} {α:Type} {enc:α → AV} {l:List α} {z:Nat} {x i:AX} {e:α} {k:IntKind}
theorem a3l {op:AOp} {e:AX → AV} {h:List l7} {k:AV → List l7 → Prop} (hq:op.quiet = true) (hm:mmT op e h) (h1:aqP op e h ∧ (aqF op e → k (aqV op e h) h)):a5o P dm op e h k:=by
 cases op <;> first | exact ⟨aqQ.of h1.1 hm,h1.2⟩ | cases hq
theorem o_q {op:AOp} (v:AV) (hq:op.quiet = true) (hp:aqQ dm.m op (AX.ev (y8 bs)) h) (hv:aqV op (AX.ev (y8 bs)) h = v):Opr P dm op bs h v h:=by
 intro k hk
 subst hv
 cases op <;> first | (exact ⟨hp,fun _ => hk⟩) | (cases hq)
theorem d9k (v:AV) (hv:x.ev (y8 bs) = v):Opr P dm (.mov x) bs h v h:=o_q v rfl (.of trivial trivial) hv
theorem f2s (hx:x.ev (y8 bs) = .lst z (l.map enc)):e3t P dm (.len x) bs h (.int .i64 l.length) h (l.length ≤ maxLen):=by
 intro k hk
 refine a3l rfl trivial ?_
 simp only [aqP,aqF,aqV,hx,List.length_map]
 exact ⟨trivial,hk⟩
theorem c7x {o lo m z:Nat} {l:List AV} (hx:x.ev (y8 bs) = .own o lo m) (ho:h[o]? = some (.row z l)):e3t P dm (.len x) bs h (.int .i64 m) h (m ≤ maxLen):=by
 intro k hk
 refine a3l rfl trivial ?_
 simp only [aqP,aqF,aqV,hx,ho]
 exact ⟨trivial,hk⟩
theorem f0g {s:List UInt8} (hx:x.ev (y8 bs) = .str s):e3t P dm (.lenS x) bs h (.int .i64 s.length) h (s.length ≤ maxLen):=by
 intro k hk
 refine a3l rfl trivial ?_
 simp only [aqP,aqF,aqV,hx]
 exact ⟨trivial,hk⟩
theorem c5z {n:Int} (hx:x.ev (y8 bs) = .lst z (l.map enc)) (hi:i.ev (y8 bs) = .int k n) (h0:0 ≤ n) (hl:l[n.toNat]? = some e):Opr P dm (.iaddr z x i) bs h (.iptr (enc e) 0) h:=by
 intro k hk
 have hlt:n.toNat < l.length:=(List.getElem?_eq_some_iff.1 hl).1
 have hg:(l.map enc).getD n.toNat .undef = enc e:=by simp [hl]
 refine a3l rfl trivial ?_
 simp only [aqP,aqF,aqV,hx,hi,List.length_map,hg]
 exact ⟨⟨⟨h0,by omega⟩,trivial⟩,fun _ => hk⟩
theorem d4v {j:Nat} (hx:x.ev (y8 bs) = .lst z (l.map enc)) (hi:i.ev (y8 bs) = .int k (j:Int)) (hl:l[j]? = some e):Opr P dm (.iaddr z x i) bs h (.iptr (enc e) 0) h :=
 c5z hx hi (by omega) (by simpa using hl)
theorem b3g {o lo m z':Nat} {l:List AV} {n:Int} (hx:x.ev (y8 bs) = .own o lo m) (hi:i.ev (y8 bs) = .int k n) (h0:0 ≤ n) (h1:n < m) (ho:h[o]? = some (.row z' l)) (hz:z' = z):Opr P dm (.iaddr z x i) bs h (.ptr o (lo + n.toNat) 0) h:=by
 intro k hk
 subst hz
 refine a3l rfl trivial ?_
 simp only [aqP,aqF,aqV,hx,hi,ho]
 exact ⟨⟨⟨h0,h1⟩,trivial⟩,fun _ => hk⟩
theorem d4w {o m z':Nat} {l:List AV} {j:Nat} (hx:x.ev (y8 bs) = .own o 0 m) (hi:i.ev (y8 bs) = .int k (j:Int)) (h1:j < m) (ho:h[o]? = some (.row z' l)) (hz:z' = z):Opr P dm (.iaddr z x i) bs h (.ptr o j 0) h:=by
 have:=b3g (P:=P) (dm:=dm) (z:=z) hx hi (by omega) (by omega) ho hz
 simpa using this
theorem d2j {s:List UInt8} {n:Int} {c:UInt8} (hx:x.ev (y8 bs) = .str s) (hi:i.ev (y8 bs) = .int k n) (h0:0 ≤ n) (hl:s[n.toNat]? = some c):Opr P dm (.idxs x i) bs h (.int .u8 c.toNat) h:=by
 intro k hk
 have hlt:n.toNat < s.length:=(List.getElem?_eq_some_iff.1 hl).1
 have hg:s.getD n.toNat 0 = c:=by simp [hl]
 refine a3l rfl trivial ?_
 simp only [aqP,aqF,aqV,hx,hi,hg]
 exact ⟨⟨h0,by omega⟩,fun _ => hk⟩
theorem d2k {s:List UInt8} {j:Nat} {c:UInt8} (hx:x.ev (y8 bs) = .str s) (hi:i.ev (y8 bs) = .int k (j:Int)) (hl:s[j]? = some c):Opr P dm (.idxs x i) bs h (.int .u8 c.toNat) h :=
 d2j hx hi (by omega) (by simpa using hl)
theorem d0v {dm:Bool} {a:AX} {o j f sz z:Nat} {ag:Bool} {v:AV} (hx:a.ev (y8 bs) = .ptr o j f) (ho:h[o]? = some (.row z (l.map enc))) (hl:l[j]? = some e) (hp:ldP (enc e) f sz ag) (hv:ldV (enc e) f sz ag = v):Opr P (dm:Bool) (.load sz ag a) bs h v h:=by
 intro k hk
 have hg:(l.map enc).getD j .undef = enc e:=by simp [hl]
 have key:aqP (.load sz ag a) (AX.ev (y8 bs)) h:=by
  simp only [aqP,hx,ho,hg]
  exact hp
 refine ⟨key,fun _ => ?_⟩
 simp only [aqV,hx,ho,hg,hv]
 exact hk
theorem nle {a b:Nat} (h:Nat.ble a b = true:=by rfl):a ≤ b:=Nat.le_of_ble_eq_true h
theorem d4x {n:Int} {hi:AX} (hx:x.ev (y8 bs) = .lst z (l.map enc)) (hh:hi.ev (y8 bs) = .int k n) (h0:0 ≤ n) (h1:n ≤ l.length):Opr P dm (.slice z x none (some hi)) bs h (.lst z ((l.take n.toNat).map enc)) h:=by
 intro k hk
 refine a3l rfl trivial ?_
 simp only [aqP,aqF,aqV,hx,hh,c5m,b4l,d6v,c9n,Option.map_some,Option.map_none,Option.getD_some,Option.getD_none,List.length_map,← List.map_take]
 exact ⟨⟨⟨by omega,h0,h1⟩,trivial⟩,fun _ => hk⟩
theorem d9l {n:Int} {lo:AX} (hx:x.ev (y8 bs) = .lst z (l.map enc)) (hh:lo.ev (y8 bs) = .int k n) (h0:0 ≤ n) (h1:n ≤ l.length):Opr P dm (.slice z x (some lo) none) bs h (.lst z ((l.drop n.toNat).map enc)) h:=by
 intro k hk
 refine a3l rfl trivial ?_
 simp only [aqP,aqF,aqV,hx,hh,c5m,b4l,d6v,c9n,Option.map_some,Option.map_none,Option.getD_some,Option.getD_none,List.length_map,← List.map_drop]
 exact ⟨⟨⟨h0,h1,by omega⟩,trivial⟩,fun _ => hk⟩
theorem c7y {o m:Nat} {l:List AV} {n:Int} {hi:AX} (hx:x.ev (y8 bs) = .own o 0 m) (ho:h[o]? = some (.row z l)) (hh:hi.ev (y8 bs) = .int k n) (h0:0 ≤ n) (h1:n ≤ m):Opr P dm (.slice z x none (some hi)) bs h (.own o 0 n.toNat) h:=by
 intro k hk
 refine a3l rfl trivial ?_
 simp only [aqP,aqF,aqV,hx,ho,hh,c5m,b4l,d6v,c9n,Option.map_some,Option.map_none,Option.getD_some,Option.getD_none]
 exact ⟨⟨⟨by omega,h0,h1⟩,trivial⟩,fun _ => hk⟩
theorem e3v {o m:Nat} {l:List AV} {n:Int} {lo:AX} (hx:x.ev (y8 bs) = .own o 0 m) (ho:h[o]? = some (.row z l)) (hh:lo.ev (y8 bs) = .int k n) (h0:0 ≤ n) (h1:n ≤ m):Opr P dm (.slice z x (some lo) none) bs h (.own o n.toNat (m - n.toNat)) h:=by
 intro k hk
 refine a3l rfl trivial ?_
 simp only [aqP,aqF,aqV,hx,ho,hh,c5m,b4l,d6v,c9n,Option.map_some,Option.map_none,Option.getD_some,Option.getD_none,Nat.zero_add]
 exact ⟨⟨⟨h0,h1,by omega⟩,trivial⟩,fun _ => hk⟩
theorem d4y {c:AV} {sz j:Nat} (hv:x.ev (y8 bs) = c) (hs:a4y h c) (hl:c.cells.length = sz) (hj:h.length = j):Opr P dm (.box sz x) bs h (.ptr j 0 0) (h ++ [.box sz c]):=by
 intro k hk
 subst hj hv
 exact ⟨⟨hs,hl⟩,hk⟩
theorem b0h {a:AX} {o j f z sz:Nat} {y v y':AV} (ha:a.ev (y8 bs) = .ptr o j f) (ho:h[o]? = some (.box z y)) (hx:x.ev (y8 bs) = v) (hs:a4y h v) (hp:a5s y f sz v) (hl:b4z h v.cells) (hy:a3q y f v = y'):Opr P dm (.store sz a x) bs h .skip (h.set o (.box z y')):=by
 intro k hk
 subst hx hy
 simp only [a5o,ha,ho]
 exact ⟨⟨hs,hp,hl⟩,hk⟩
theorem d7r {a:AX} {o j f z sz:Nat} {v v0 v':AV} {e':α} {ks:List Nat} {h2:List l7} (ha:a.ev (y8 bs) = .ptr o j f) (ho:h[o]? = some (.row z (l.map enc))) (hl:l[j]? = some e) (hx:x.ev (y8 bs) = v) (hab:a1t dm.d h v = some (v0,ks)) (hv0:v0 = v') (hk:o ∉ ks) (hnd:dm.d = true → ks.Nodup) (hp:a5s (enc e) f sz v') (hy:Le (a3q (enc e) f v') (enc e')) (hh:kill h ks = h2) :
  Opr P dm (.store sz a x) bs h .skip (h2.set o (.row z ((l.set j e').map enc))):=by
 intro k hk'
 subst hx hh hv0
 have hg:(l.map enc)[j]? = some (enc e):=by simp [hl]
 simp only [a5o,ha,ho,hg,hab]
 refine ⟨⟨hk,hnd,hp⟩,_,hy,?_⟩
 rw [← List.map_set]
 exact hk'
theorem a2m {sz j m:Nat} {xs:List AX} {as as':List AV} {ks:List Nat} {h2:List l7} (ha:a0x dm.d h (xs.map (AX.ev (y8 bs))) = some (as,ks)) (hnd:dm.d = true → ks.Nodup) (hl:d4f sz as) (he:LeL as as') (hm:as'.length = m) (hh:kill h ks = h2) (hj:h.length = j) :
  Opr P dm (.bslice sz xs) bs h (.own j 0 m) (h2 ++ [.row sz as']):=by
 intro k hk
 subst hj hm hh
 simp only [a5o,ha]
 exact .inl ⟨⟨hnd,hl⟩,as',he,by rw [he.length]; exact hk⟩
theorem a5i {sz bytes j n m len:Nat} {s:AX} {l0 l1 L:List AV} {ks0 ks1:List Nat} {h2:List l7} (hd:b7g h sz (s.ev (y8 bs)) = some (l0,n,ks0)) (hs:b3t false h sz (x.ev (y8 bs)) = some (l1,m,ks1)) (hL:l0 ++ l1 = L) (hn:n + m = len) (hb:len ≤ 2 ^ 30) (hh:kill h (ks0 ++ ks1) = h2) (hj:h.length = j) :
  Opr P (false:Bool) (.append sz bytes s x) bs h (.own j 0 len) (h2 ++ [.row sz L]):=by
 intro k hk
 subst hL hn hh hj
 simp only [a5o,hd,hs]
 exact ⟨hb,hk⟩
theorem a7w (hdd:dm.d = true) {sz bytes j n m len:Nat} {s:AX} {l0 l1 L:List AV} {ks0 ks1:List Nat} {h2:List l7} (cons:Bool) (hd:b7g h sz (s.ev (y8 bs)) = some (l0,n,ks0)) (hs:b3t cons h sz (x.ev (y8 bs)) = some (l1,m,ks1)) (hf:cons = false → ∀ a ∈ l1,R.flat a = true) (hf2:∀ z l',x.ev (y8 bs) = .lst z l' → ∀ a ∈ l1,R.flat a = true) (hnd:(ks0 ++ ks1).Nodup) (hL:l0 ++ l1 = L) (hn:n + m = len) (hb:len ≤ 2 ^ 30) (hh:kill h (ks0 ++ ks1) = h2) (hj:h.length = j) :
  Opr P dm (.append sz bytes s x) bs h (.own j 0 len) (h2 ++ [.row sz L]):=by
 intro k hk
 subst hL hn hh hj
 simp only [a5o,hdd]
 refine .inl ⟨cons,?_⟩
 simp only [hd,hs]
 exact ⟨⟨hf,hf2,hnd,hb⟩,hk⟩
theorem b3x {o lo m z' j:Nat} {l:List AV} {el:AV} {n:Int} {i:AX} {z:Nat} {kk:IntKind} (hx:x.ev (y8 bs) = .own o lo m) (hi:i.ev (y8 bs) = .int kk n) (h0:0 ≤ n) (h1:n < m) (ho:h[o]? = some (.rowx z' l j el)) (hz:z' = z):Opr P dm (.iaddr z x i) bs h (.ptr o (lo + n.toNat) 0) h:=by
 intro k hk
 subst hz
 refine a3l rfl trivial ?_
 simp only [aqP,aqF,aqV,hx,hi,ho]
 exact ⟨⟨⟨h0,h1⟩,trivial⟩,fun _ => hk⟩
theorem c2f {a:AX} {o j f sz z:Nat} {ag:Bool} {l:List AV} {el v:AV} (hx:a.ev (y8 bs) = .ptr o j f) (ho:h[o]? = some (.rowx z l j el)) (hp:ldP el f sz ag) (hv:ldV el f sz ag = v):Opr P dm (.load sz ag a) bs h v h:=by
 intro k hk
 refine a3l rfl ?_ ?_
 ·simp only [mmT,hx,ho]
 ·simp only [aqP,aqF,aqV,hx,ho,hv]
  exact ⟨⟨trivial,hp⟩,fun _ => hk⟩
theorem c7z {a:AX} {o j f z sz:Nat} {l:List AV} {y v y':AV} (ha:a.ev (y8 bs) = .ptr o j f) (ho:h[o]? = some (.rowx z l j y)) (hx:x.ev (y8 bs) = v) (hs:a4y h v) (hp:a5s y f sz v) (hl:b4z h v.cells) (hy:a3q y f v = y'):Opr P dm (.store sz a x) bs h .skip (h.set o (.rowx z l j y')):=by
 intro k hk
 subst hx hy
 simp only [a5o,ha,ho]
 exact ⟨⟨trivial,hs,hp,hl⟩,hk⟩
def Agn (m:Bool) (op:AOp) (bs:List (Nat × AV)) (h:List l7) (v:AV):Prop:=aqQ m op (AX.ev (y8 bs)) h ∧ v = aqV op (AX.ev (y8 bs)) h
theorem Agn.of {m:Bool} {op:AOp} (hq:op.quiet = true) {v:AV} (ho:∀ k:AV → List l7 → Prop,k v h → (aqP op (AX.ev (y8 bs)) h ∧ (aqF op (AX.ev (y8 bs)) → k (aqV op (AX.ev (y8 bs)) h) h))) (hf:aqF op (AX.ev (y8 bs))) (hm:mmT op (AX.ev (y8 bs)) h:=by trivial):Agn m op bs h v:=by
 obtain ⟨h1,h2⟩:=ho (fun r _ => v = r) rfl
 exact ⟨.of h1 hm,h2 hf⟩
theorem f0h (hx:x.ev (y8 bs) = .lst z (l.map enc)):Agn false (.len x) bs h (.int .i64 l.length):=by
 simp only [Agn,aqQ,aqP,aqV,hx,List.length_map,and_self]
theorem e1g {o lo m z:Nat} {l:List AV} (hx:x.ev (y8 bs) = .own o lo m) (ho:h[o]? = some (.row z l)):Agn false (.len x) bs h (.int .i64 m):=by
 simp only [Agn,aqQ,aqP,aqV,hx,ho,and_self]
theorem d4z {n:Int} (hx:x.ev (y8 bs) = .lst z (l.map enc)) (hi:i.ev (y8 bs) = .int k n) (h0:0 ≤ n) (hl:l[n.toNat]? = some e):Agn false (.iaddr z x i) bs h (.iptr (enc e) 0) :=
 Agn.of rfl (fun k hk => c5z (P:=default) (dm:=(false:Bool)) hx hi h0 hl k hk) (by trivial)
theorem e1h {j:Nat} (hx:x.ev (y8 bs) = .lst z (l.map enc)) (hi:i.ev (y8 bs) = .int k (j:Int)) (hl:l[j]? = some e):Agn false (.iaddr z x i) bs h (.iptr (enc e) 0) :=
 d4z hx hi (by omega) (by simpa using hl)
theorem c3x {n:Int} {hi:AX} (hx:x.ev (y8 bs) = .lst z (l.map enc)) (hh:hi.ev (y8 bs) = .int k n) (h0:0 ≤ n) (h1:n ≤ l.length):Agn false (.slice z x none (some hi)) bs h (.lst z ((l.take n.toNat).map enc)) :=
 Agn.of rfl (fun k hk => d4x (P:=default) (dm:=(false:Bool)) hx hh h0 h1 k hk) trivial
theorem b4e {n:Int} {lo:AX} (hx:x.ev (y8 bs) = .lst z (l.map enc)) (hh:lo.ev (y8 bs) = .int k n) (h0:0 ≤ n) (h1:n ≤ l.length):Agn false (.slice z x (some lo) none) bs h (.lst z ((l.drop n.toNat).map enc)) :=
 Agn.of rfl (fun k hk => d9l (P:=default) (dm:=(false:Bool)) hx hh h0 h1 k hk) trivial
theorem b9g {o m:Nat} {l:List AV} {n:Int} {hi:AX} (hx:x.ev (y8 bs) = .own o 0 m) (ho:h[o]? = some (.row z l)) (hh:hi.ev (y8 bs) = .int k n) (h0:0 ≤ n) (h1:n ≤ m):Agn false (.slice z x none (some hi)) bs h (.own o 0 n.toNat) :=
 Agn.of rfl (fun k hk => c7y (P:=default) (dm:=(false:Bool)) hx ho hh h0 h1 k hk) trivial
theorem b1r {o m:Nat} {l:List AV} {n:Int} {lo:AX} (hx:x.ev (y8 bs) = .own o 0 m) (ho:h[o]? = some (.row z l)) (hh:lo.ev (y8 bs) = .int k n) (h0:0 ≤ n) (h1:n ≤ m):Agn false (.slice z x (some lo) none) bs h (.own o n.toNat (m - n.toNat)) :=
 Agn.of rfl (fun k hk => e3v (P:=default) (dm:=(false:Bool)) hx ho hh h0 h1 k hk) trivial
theorem c4z {o lo m z':Nat} {l:List AV} {n:Int} (hx:x.ev (y8 bs) = .own o lo m) (hi:i.ev (y8 bs) = .int k n) (h0:0 ≤ n) (h1:n < m) (ho:h[o]? = some (.row z' l)) (hz:z' = z):Agn false (.iaddr z x i) bs h (.ptr o (lo + n.toNat) 0) :=
 Agn.of rfl (fun k hk => b3g (P:=default) (dm:=(false:Bool)) hx hi h0 h1 ho hz k hk) trivial
theorem d7s {a:AX} {o j f sz z:Nat} {ag:Bool} {v:AV} (hx:a.ev (y8 bs) = .ptr o j f) (ho:h[o]? = some (.row z (l.map enc))) (hl:l[j]? = some e) (hp:ldP (enc e) f sz ag) (hv:ldV (enc e) f sz ag = v):Agn false (.load sz ag a) bs h v:=by
 have hg:(l.map enc).getD j .undef = enc e:=by simp [hl]
 refine ⟨?_,?_⟩
 ·show aqP (.load sz ag a) (AX.ev (y8 bs)) h
  simp only [aqP,hx,ho,hg]
  exact hp
 ·simp only [aqV,hx,ho,hg,hv]
theorem e3w {m:Bool} {a:AX} {o j f sz z:Nat} {ag:Bool} {l:List AV} {el v:AV} (hx:a.ev (y8 bs) = .ptr o j f) (ho:h[o]? = some (.rowx z l j el)) (hp:ldP el f sz ag) (hv:ldV el f sz ag = v):Agn m (.load sz ag a) bs h v :=
 Agn.of rfl (fun k hk => c2f (P:=default) (dm:=(false:Bool)) hx ho hp hv k hk) trivial (by simp only [mmT,hx,ho])
theorem e1i {m:Bool} {o lo n' z' j:Nat} {l:List AV} {el:AV} {n:Int} {z:Nat} {kk:IntKind} (hx:x.ev (y8 bs) = .own o lo n') (hi:i.ev (y8 bs) = .int kk n) (h0:0 ≤ n) (h1:n < n') (ho:h[o]? = some (.rowx z' l j el)) (hz:z' = z):Agn m (.iaddr z x i) bs h (.ptr o (lo + n.toNat) 0) :=
 Agn.of rfl (fun k hk => b3x (P:=default) (dm:=(false:Bool)) hx hi h0 h1 ho hz k hk) trivial
variable {f:Nat} {args:List AX} {r:AV} {cs cs':List AV}
theorem d5a {h:List l7} {p:Nat → Nat → Nat → Option AV} {a a':AV} {as as':List AV} (h1:a3d h p a = some a') (h2:a3p h p as = some as'):a3p h p (a :: as) = some (a' :: as'):=by simp only [a3p,h1,h2]
theorem f0i {h:List l7} {p:Nat → Nat → Nat → Option AV} {kf:Nat} {cf:List AV} (hcf:∀ h p,a3p h p cf = some cf):a3d h p (.fn kf cf) = some (.fn kf cf):=by simp only [a3d,hcf]; rfl
theorem d2l {bs':List AV} {v:AV} (hc:a0z P f .flat bs' r) (hb:closes h (args.map (AX.ev (y8 bs))) = some cs) (hl:LeL cs bs') (hv:r = v):Opr P dm (.call f args) bs h v h:=fun k hk => a2b.flat hc hb hl (by rw [hv]; exact hk)
theorem c2g {bs':List AV} {v:AV} {h':List l7} (hc:a0z P f .fresh bs' r) (hb:closes h (args.map (AX.ev (y8 bs))) = some cs) (hl:LeL cs bs') (hv:a2w h.length r = (v,h')):Opr P dm (.call f args) bs h v (h ++ h'):=fun k hk => a2b.fresh hc hb hl (by rw [hv]; exact hk)
theorem e7i (hm:dm.m = false) {bs':List AV} {v:AV} (hc:a0z P f .fresh bs' r) (hb:closes h (args.map (AX.ev (y8 bs))) = some cs) (hl:LeL cs bs') (hv:r = v):Opr P dm (.call f args) bs h v h:=fun k hk => a2b.freshc hm hc hb hl (by rw [hv]; exact hk)
theorem e7j (hm:dm.m = false) {bs':List AV} {ks:List Nat} {h2:List l7} {v:AV} (hc:a0z P f .weak bs' r) (hb:a0x false h (args.map (AX.ev (y8 bs))) = some (cs,ks)) (hl:LeL cs bs') (hv:r = v) (hh:kill h ks = h2):Opr P dm (.call f args) bs h v h2:=fun k hk => a2b.weak hm hc hb hl (by rw [hh,hv]; exact hk)
def d7t (h:List l7) (fl:List Bool) (js:List Nat) (as:List AV):Option (List AV × List l7 × List Nat):=match c0w h fl as with
 | some (cs,ks) => match a9u 0 h.length js with
  | true => some (a5a (a6i js) cs,b0a (kill h ks) js,ks)
  | false => none
 | none => none
theorem d0w {h:List l7} {fl:List Bool} {js ks:List Nat} {as cs2:List AV} {hs:List l7} (hf:d7t h fl js as = some (cs2,hs,ks)):∃ cs,c0w h fl as = some (cs,ks) ∧ a9u 0 h.length js = true ∧ a5a (a6i js) cs = cs2 ∧ b0a (kill h ks) js = hs:=by
 unfold d7t at hf
 split at hf
 ·rename_i cs ks' e
  split at hf
  ·rename_i e2
   cases hf
   exact ⟨cs,e,e2,rfl,rfl⟩
  ·cases hf
 ·cases hf
theorem b1s {as' cs2:List AV} {ks:List Nat} {hi hout h2 hs:List l7} {v:AV} (fl:List Bool) (js:List Nat) (hm:dm.m = true → fl = []) (hc:a2a P dm.nz f as' hi r hout) (hf:d7t h fl js (args.map (AX.ev (y8 bs))) = some (cs2,hs,ks)) (hl:LeL cs2 as') (hh:LeH hs hi) (hv:ren (a3v h.length js) r = v) (h2e:b1e (kill h ks) js hout = h2):Opr P dm (.call f args) bs h v h2:=by
 obtain ⟨cs,hf2,hn,rfl,rfl⟩:=d0w hf
 obtain ⟨_,_,k1,k2⟩:=b6r hn
 exact fun k hk => a2b.heapf fl ks js hm hf2 hc k1 k2 hl hh (by rw [hv,h2e]; exact hk)
theorem d9m {g:Nat} {caps as as' cs2:List AV} {ks:List Nat} {hi hout h2 hs:List l7} {v:AV} (fl:List Bool) (js:List Nat) (hm:dm.m = true → fl = []) (hx:x.ev (y8 bs) = .fn g caps) (hok:d7g P g = true) (hc:a2a P dm.nz g as' hi r hout) (has:args.map (AX.ev (y8 bs)) ++ caps = as) (hf:d7t h fl js as = some (cs2,hs,ks)) (hl:LeL cs2 as') (hh:LeH hs hi) (hv:ren (a3v h.length js) r = v) (h2e:b1e (kill h ks) js hout = h2):Opr P dm (.calv x args) bs h v h2:=by
 obtain ⟨cs,hf2,hn,rfl,rfl⟩:=d0w hf
 obtain ⟨_,_,k1,k2⟩:=b6r hn
 intro k hk
 simp only [a5o,hx]
 rw [has]
 exact ⟨hok,a2b.heapf fl ks js hm hf2 hc k1 k2 hl hh (by rw [hv,h2e]; exact hk)⟩
theorem b8c {p:Nat → Nat → Nat → Option AV}:∀ {as bs as' bs':List AV},a3p h p as = some as' → a3p h p bs = some bs' → a3p h p (as ++ bs) = some (as' ++ bs')
 | [],bs,as',bs',h1,h2 => by simp only [a3p] at h1; cases h1; simpa using h2
 | a :: as,bs,as',bs',h1,h2 => by
  simp only [a3p,List.cons_append] at h1 ⊢
  split at h1
  ·rename_i x xs e1 e2
   cases h1
   rw [e1,b8c e2 h2]
   rfl
  ·cases h1
theorem LeL.append:∀ {as bs as' bs':List AV},LeL as as' → LeL bs bs' → LeL (as ++ bs) (as' ++ bs')
 | _,_,_,_,.nil,h => h
 | _,_,_,_,.cons a t,h => .cons a (LeL.append t h)
theorem e7k {g:Nat} {cf bs':List AV} {v:AV} (hx:x.ev (y8 bs) = .fn g cf) (hok:d7g P g = true) (hcf:∀ h p,a3p h p cf = some cf) (hc:a0z P g .flat (bs' ++ cf) r) (hb:closes h (args.map (AX.ev (y8 bs))) = some cs) (hl:LeL cs bs') (hv:r = v):Opr P dm (.calv x args) bs h v h:=by
 intro k hk
 simp only [a5o,hx]
 refine ⟨hok,a2b.flat hc (b8c hb (hcf _ _)) (LeL.append hl (.refl _)) ?_⟩
 rw [hv]; exact hk
end
section
variable {P:Program} {dm:Md} {bs:List (Nat × AV)} {h:List l7} {α:Type} {enc:α → AV} {l:List α} {z:Nat} {x:AX} {y:α} {zero:AV}
theorem LeO.tk (l:List α) (n:Nat):LeO (.row z ((l.map enc).take n)) (.row z ((l.take n).map enc)):=by rw [List.map_take]; exact .refl _
end
section
variable {P:Program} {dm:Md} {n0:Nat} {bs:List (Nat × AV)} {h:List l7} {α β:Type} {enc:α → AV} {enc':β → AV} {l:List α} {z:Nat} {x:α}
theorem d5b {a:a0l} {t:Nat → AV} {Q:AQ} {o i:Nat} {el el2:AV} {xs:List l7} (hm:dm.m = true) (hd:dm.d = true) (ho:h[o]? = some (.row z (l.map enc))) (hx:l[i]? = some x) (he:enc x = el) (hb:a4f h.length el.cells = (el2.cells,xs)) (hn:awp P dm n0 a t (h.set o (.rowx z (l.map enc) i el2) ++ xs) Q):awp P dm n0 (.rev a) t h Q:=by
 subst he
 exact .inr (.inl ⟨⟨hm,hd⟩,o,i,z,_,_,el2,xs,ho,by simp [hx],hb,hn⟩)
theorem e7l {m:Bool} {t:Nat → AV} {h:List l7} {o z i:Nat} {L:List AV} {el el':AV} {ks:List Nat} (ho:h[o]? = some (.rowx z L i el)) (hab:a1t true h el = some (el',ks)) (hc:(nin o ks && ndn ks && el'.isElem) = true):ghs m t h [.cls o] = some (t,(kill h ks).set o (.row z (L.set i el'))):=by
 have e:gh1 t h (.cls o) = some (t,(kill h ks).set o (.row z (L.set i el'))):=by simp only [gh1,ho,hab,hc]
 cases m <;> simp only [ghs,e6x,Gh.frzs,e]
theorem d9n {a:a0l} {t:Nat → AV} {Q:AQ} {o i:Nat} {el el':AV} {ks:List Nat} {h2:List l7} {y:α} (ho:h[o]? = some (.rowx z (l.map enc) i el)) (hab:a1t true h el = some (el',ks)) (hc:(nin o ks && ndn ks && el'.isElem) = true) (hy:Le el' (enc y)) (hh:kill h ks = h2) (hn:awp P dm n0 a t (h2.set o (.row z ((l.set i y).map enc))) Q):awp P dm n0 (.rev a) t h Q:=by
 subst hh
 refine .inr (.inr ⟨[.cls o],t,_,_,e7l ho hab hc,?_,hn⟩)
 rw [List.map_set]
 exact LeH.setr (LeL.set hy)
theorem d5c {i:Nat} (hx:l[i]? = some x):l.set i x = l:=by
 apply List.ext_getElem?
 intro n
 rw [List.getElem?_set]
 by_cases h:i = n
 ·subst h
  have hlt:=(List.getElem?_eq_some_iff.1 hx).1
  rw [if_pos rfl,if_pos hlt,hx]
 ·rw [if_neg h]
theorem e3x {a:a0l} {t:Nat → AV} {Q:AQ} {o i:Nat} {el el':AV} {ks:List Nat} {h2:List l7} (hx:l[i]? = some x) (ho:h[o]? = some (.rowx z (l.map enc) i el)) (hab:a1t true h el = some (el',ks)) (hc:(nin o ks && ndn ks && el'.isElem) = true) (hy:Le el' (enc x)) (hh:kill h ks = h2) (hn:awp P dm n0 a t (h2.set o (.row z (l.map enc))) Q):awp P dm n0 (.rev a) t h Q:=by
 refine d9n ho hab hc hy hh ?_
 rw [d5c hx]
 exact hn
end
section
variable {α:Type} {enc:α → AV}
theorem c9t {o a b z:Nat} {l:List AV} (h:AV.own o a b = AV.lst z l):False:=by cases h
theorem flw (hf:∀ x,R.flat (enc x) = true) (l:List α) (n m:Nat):∀ a ∈ ((l.map enc).drop n).take m,R.flat a = true:=by
 intro a ha
 obtain ⟨x,_,rfl⟩:=List.mem_map.1 (List.mem_of_mem_drop (List.mem_of_mem_take ha))
 exact hf x
theorem tkw (l:List α) (n m:Nat):((l.map enc).drop n).take m = ((l.drop n).take m).map enc:=by rw [List.map_take,List.map_drop]
theorem flo (hf:∀ x,R.flat (enc x) = true) (l:List α) (n:Nat):∀ a ∈ ((l.map enc).drop 0).take n,R.flat a = true:=by
 intro a ha
 obtain ⟨x,_,rfl⟩:=List.mem_map.1 (List.mem_of_mem_take ha)
 exact hf x
theorem c9u (a b:List α) (B:List AV) (h:B = b.map enc):((a.map enc).take a.length) ++ ((B.drop 0).take B.length) = (a ++ b).map enc:=by
 subst h
 rw [List.drop_zero,List.take_of_length_le (by simp),List.take_of_length_le (by simp),List.map_append]
theorem apg (a b:List α) {B:List AV} (h:B = b.map enc):((a.map enc).take a.length) ++ B = (a ++ b).map enc:=by
 rw [h,List.take_of_length_le (by simp),List.map_append]
theorem apl (a b:List α):((a.map enc).take a.length) ++ b.map enc = (a ++ b).map enc:=by
 rw [List.take_of_length_le (by simp),List.map_append]
theorem tko (a:List α):((a.map enc).drop 0).take a.length = a.map enc:=by
 rw [List.drop_zero,List.take_of_length_le (by simp)]
theorem tk (a:List α):(a.map enc).take a.length = a.map enc:=List.take_of_length_le (by simp)
theorem repm (n:Nat) (x:α):List.replicate n (enc x) = (List.replicate n x).map enc:=by simp
theorem flm (hf:∀ x,R.flat (enc x) = true) (l:List α):∀ a ∈ l.map enc,R.flat a = true:=by
 intro a ha
 obtain ⟨x,_,rfl⟩:=List.mem_map.1 ha
 exact hf x
end
end Go.R
end
section
set_option linter.all false
namespace Go.R
open Go
abbrev Str:=List UInt8
def encI (n:Int):AV:=.int .i64 n
def a0h (n:Int):AV:=.int .u8 n
def a1f {α:Type} (z:Nat) (f:α → AV) (l:List α):AV:=.lst z (l.map f)
def b5c:Nat → List AV → List (Nat × AV)
 | _,[] => []
 | k,a :: as => (k,a) :: b5c (k + 1) as
theorem d0x:∀ (as:List AV) (k n:Nat),y8 (b5c k as) n = if k ≤ n then as.getD (n - k) .undef else .undef
 | [],k,n => by simp [b5c,y8]
 | a :: as,k,n => by
  simp only [b5c,y8,d0x as (k + 1) n]
  by_cases h:n = k
  ·subst h; simp
  ·rw [if_neg h]
   by_cases h2:k ≤ n
   ·have h3:n - k = (n - (k + 1)) + 1:=by omega
    rw [if_pos h2,if_pos (by omega),h3,List.getD_cons_succ]
   ·rw [if_neg h2,if_neg (by omega)]
theorem b6s (as:List AV):d2f as = y8 (b5c 0 as):=by
 funext n
 rw [d0x]
 simp [d2f]
def gs (v b:Bool) (V:AV):AV:=if v = b then V else .skip
theorem a5b {v b:Bool} (h:v = b) {V:AV}:gs v b V = V:=if_pos h
theorem lenV {α:Type} (f:α → AV) (l:List α):AV.int .i64 ((l.map f).length:Int) = AV.int .i64 l.length:=by rw [List.length_map]
section
variable {P:Program} {dm:Md} {bs:List (Nat × AV)} {h:List l7} {n:a1h} {d:Nat} {K:(Nat → AV) → List l7 → Prop}
theorem s_g {op:AOp} {s:Nat} {b v:Bool} (V:AV) (ht:y8 bs s = .bool v) (hon:v = b → op.quiet = true ∧ aqQ dm.m op (AX.ev (y8 bs)) h ∧ aqV op (AX.ev (y8 bs)) h = V) (hn:a0i P dm n (y8 ((d,gs v b V) :: bs)) h K):a0i P dm (.q ⟨some d,some (s,b),op⟩ n) (y8 bs) h K:=by
 by_cases hv:v = b
 ·obtain ⟨h1,h2,h3⟩:=hon hv
  rw [a5b hv] at hn
  subst hv
  exact s_on ht (s_q V h1 h2 h3 hn)
 ·have e:gs v b V = .skip:=if_neg hv
  rw [e] at hn
  exact d9i ht (by cases v <;> cases b <;> simp_all) hn
theorem e7m {op:AOp} {s:Nat} {b1 b2 v1 v2:Bool} (V:AV) (ht:y8 bs s = gs v1 b1 (.bool v2)) (hon:v1 = b1 → v2 = b2 → op.quiet = true ∧ aqQ dm.m op (AX.ev (y8 bs)) h ∧ aqV op (AX.ev (y8 bs)) h = V) (hn:a0i P dm n (y8 ((d,gs v1 b1 (gs v2 b2 V)) :: bs)) h K):a0i P dm (.q ⟨some d,some (s,b2),op⟩ n) (y8 bs) h K:=by
 by_cases hv:v1 = b1
 ·rw [a5b hv] at hn ht
  exact s_g V ht (hon hv) hn
 ·have e:∀ W,gs v1 b1 W = .skip:=fun W => if_neg hv
  rw [e] at hn ht
  exact d7q ht hn
theorem f2u {c a b:AX} {s:Nat} {v1 b1 v2 x y:Bool} (ht:y8 bs s = .bool v1) (hc:v1 = b1 → c.ev (y8 bs) = .bool v2) (h1:v1 = b1 → v2 = true → a.ev (y8 bs) = .bool x) (h2:v1 = b1 → v2 = false → b.ev (y8 bs) = .bool y) (hn:a0i P dm n (y8 ((d,gs v1 b1 (.bool (bif v2 then x else y))) :: bs)) h K):a0i P dm (.q ⟨some d,some (s,b1),.pick c a b⟩ n) (y8 bs) h K:=by
 refine s_g _ ht (fun hv => ⟨rfl,.of ?_ trivial,?_⟩) hn
 ·simp only [aqP,hc hv]; cases v2 <;> trivial
 ·simp only [aqV,hc hv]
  cases v2 with
  | true => simpa using h1 hv rfl
  | false => simpa using h2 hv rfl
theorem d7u {c a b:AX} {v x y:Bool} (hc:c.ev (y8 bs) = .bool v) (h1:v = true → a.ev (y8 bs) = .bool x) (h2:v = false → b.ev (y8 bs) = .bool y) (hn:a0i P dm n (y8 ((d,.bool (bif v then x else y)) :: bs)) h K):a0i P dm (.q ⟨some d,none,.pick c a b⟩ n) (y8 bs) h K:=by
 refine s_q (.bool (bif v then x else y)) rfl (.of ?_ trivial) ?_ hn
 ·simp only [aqP,hc]; cases v <;> trivial
 ·simp only [aqV,hc]
  cases v with
  | true => simpa using h1 rfl
  | false => simpa using h2 rfl
end
abbrev tq (d:Nat) (o:AOp) (n:a1h):a1h:=.q ⟨some d,none,o⟩ n
abbrev tm (d:Nat) (x:AX) (n:a1h):a1h:=.q ⟨some d,none,.mov x⟩ n
abbrev tg (d s:Nat) (b:Bool) (o:AOp) (n:a1h):a1h:=.q ⟨some d,some (s,b),o⟩ n
def bstr (l:List Int):Str:=l.map fun n => UInt8.ofNat n.toNat
section
variable {P:Program} {dm:Md} {bs:List (Nat × AV)} {h:List l7} {x:AX}
end
@[irreducible] def FUEL:Nat:=2 ^ 100
theorem LeL.repm {α:Type} {enc:α → AV} {z:AV} {x:α} (h:Le z (enc x)) (n:Nat):LeL (List.replicate n z) ((List.replicate n x).map enc):=by
 rw [← R.repm]
 exact LeL.rep h n
section
variable {P:Program} {dm:Md} {n0:Nat} {bs:List (Nat × AV)} {h h2:List l7} {z:Nat} {α:Type} {l l':List α} {enc:α → AV}
theorem e3y {a:a0l} {t:Nat → AV} {Q:AQ} (hn:awp P dm n0 a t h Q):awp P dm n0 (.rev a) t h Q :=
 .inr (.inr ⟨[],t,h,h,rfl,.refl _,hn⟩)
end
section
variable {P:Program} {dm:Md} {n0:Nat} {bs:List (Nat × AV)} {h h2:List l7} {z:Nat} {α:Type} {l l':List α} {enc:α → AV}
end
section
variable {α:Type} {l:List α} {enc:α → AV} {z i:Nat} {el':AV}
theorem e7n {y:α} (hy:Le el' (enc y)):LeO (.row z ((l.map enc).set i el')) (.row z ((l.set i y).map enc)):=by
 rw [List.map_set]
 exact .row (LeL.set hy)
theorem d5d {x:α} (hx:l[i]? = some x) (hy:Le el' (enc x)):LeO (.row z ((l.map enc).set i el')) (.row z (l.map enc)):=by
 have:=e7n (z:=z) (l:=l) (i:=i) hy
 rw [d5c hx] at this
 exact this
end
section
variable {α:Type} {enc:α → AV}
theorem tkl {a:List α} {n:Nat} (h:a.length = n):(a.map enc).take n = a.map enc:=List.take_of_length_le (by simp [h])
end
def d9o {α β:Type} (o:Option α) (f:α → Option β) (g:Option β):Option β:=match o with
 | some x => f x
 | none => g
theorem oo {α β:Type} {o:Option α} {f:α → Option β} {g:Option β} {r:β} (h:d9o o f g = some r):(∃ x,o = some x ∧ f x = some r) ∨ (o = none ∧ g = some r):=by
 cases o with
 | some x => exact .inl ⟨x,rfl,h⟩
 | none => exact .inr ⟨rfl,h⟩
abbrev AV.I (n : Int) : AV := .int .i64 n
theorem tr : True := trivial
theorem Le.r {a : AV} : Le a a := .refl a
theorem LeL.r {a : List AV} : LeL a a := .refl a
theorem LeO.r {a : l7} : LeO a a := .refl a
theorem LeH.r {a : List l7} : LeH a a := .refl a
end Go.R
end
section
set_option linter.all false
namespace Go.R
open Go
theorem a1d {n:Int} (h:-9223372036854775808 ≤ n ∧ n < 9223372036854775808):w64 n = n:=e3s h.1 h.2
theorem getElem?_replicate_some {α:Type} {n i:Nat} {x:α} (h:i < n):(List.replicate n x)[i]? = some x:=by simp [h]
theorem a0m {α:Type} (l:List α) (i:Nat):idx l (i:Int) = l[i]?:=by simp [idx]
theorem a6u {α:Type} {l:List α} {i:Nat} {x:α} {xs:List α} (h:l.drop i = x :: xs):l.drop (i + 1) = xs:=by
 have:=congrArg List.tail h
 rw [List.tail_drop] at this
 simpa using this
theorem b4q {α:Type} {l:List α} {i:Nat} {x:α} {xs:List α} (h:l.drop i = x :: xs):i < l.length:=by
 rcases Nat.lt_or_ge i l.length with h1 | h1
 ·exact h1
 ·rw [List.drop_of_length_le h1] at h; cases h
end Go.R
end
section
set_option linter.all false
namespace Go.R
open Go
@[simp] def getB:List (Nat × AV) → Nat → AV
  | [],_ => .undef
  | (k,v) :: r,n => bif n == k then v else getB r n
theorem d2n (n:Nat):∀ bs:List (Nat × AV),getB bs n = y8 bs n
  | [] => rfl
  | (k,v) :: r => by
    simp only [getB,y8,d2n n r]
    by_cases h:n = k
    · simp [h]
    · have h':(n == k) = false:=by simpa using h
      simp [h,h']
@[simp] def evB (bs:List (Nat × AV)):AX → AV
  | .t n => getB bs n
  | .c v => v
theorem b1x (bs:List (Nat × AV)) (x:AX):evB bs x = x.ev (y8 bs):=by
  cases x with
  | t n => exact d2n n bs
  | c v => rfl
@[simp] def hgB:List l7 → Nat → Option l7
  | [],_ => none
  | x :: r,n => bif n == 0 then some x else hgB r (n - 1)
theorem b8e:∀ (h:List l7) (n:Nat),hgB h n = h[n]?
  | [],n => by simp [hgB]
  | x :: r,0 => rfl
  | x :: r,n + 1 => by simp [hgB,b8e r n]
@[simp] def lgB:List AV → Nat → Option AV
  | [],_ => none
  | x :: r,n => bif n == 0 then some x else lgB r (n - 1)
theorem d7x:∀ (h:List AV) (n:Nat),lgB h n = h[n]?
  | [],n => by simp [lgB]
  | x :: r,0 => rfl
  | x :: r,n + 1 => by simp [lgB,d7x r n]
@[simp] def dpB:List AV → Nat → Option (List AV)
  | l,0 => some l
  | [],_ + 1 => none
  | _ :: l,n + 1 => dpB l n
theorem e4a:∀ (l:List AV) (n:Nat) {r:List AV},dpB l n = some r → n ≤ l.length ∧ l.drop n = r
  | [],0,r,h => by cases h; exact ⟨Nat.zero_le _,rfl⟩
  | x :: l,0,r,h => by cases h; exact ⟨Nat.zero_le _,rfl⟩
  | [],n + 1,r,h => by cases h
  | x :: l,n + 1,r,h => by
    obtain ⟨h1,h2⟩:=e4a l n (show dpB l n = some r from h)
    exact ⟨by simpa using h1,by simpa using h2⟩
@[simp] def tkB:List AV → Nat → Option (List AV)
  | _,0 => some []
  | [],_ + 1 => none
  | x :: l,n + 1 => match tkB l n with | some r => some (x :: r) | none => none
theorem e4c:∀ (l:List AV) (n:Nat) {r:List AV},tkB l n = some r → n ≤ l.length ∧ l.take n = r
  | [],0,r,h => by cases h; exact ⟨Nat.zero_le _,rfl⟩
  | x :: l,0,r,h => by cases h; exact ⟨Nat.zero_le _,rfl⟩
  | [],n + 1,r,h => by cases h
  | x :: l,n + 1,r,h => by
    simp only [tkB] at h
    cases ht:tkB l n with
    | none => rw [ht] at h; cases h
    | some q =>
      rw [ht] at h
      cases h
      obtain ⟨h1,h2⟩:=e4c l n ht
      exact ⟨by simpa using h1,by simpa using h2⟩
@[simp] def fl0 (f:Nat) (ag:Bool) (v:AV):Option AV:=match ag with
  | true => none
  | false => bif f == 0 then some v else none
theorem f0j {f:Nat} {ag:Bool} {v w:AV} (h:fl0 f ag v = some w):(ag = false ∧ f = 0) ∧ v = w:=by
  unfold fl0 at h
  cases ag with
  | true => cases h
  | false =>
    cases hf:(f == 0) with
    | false => simp only [hf] at h; cases h
    | true => simp only [hf] at h; cases h; exact ⟨⟨rfl,by simpa using hf⟩,rfl⟩
@[simp] def ldO (el:AV) (f sz:Nat) (ag:Bool):Option AV :=
  match el with
  | .agg cs => match ag with
    | true => match dpB cs f with
      | some r => match tkB r sz with | some q => some (.agg q) | none => none
      | none => none
    | false => lgB cs f
  | .int k n => fl0 f ag (.int k n)
  | .bool b => fl0 f ag (.bool b)
  | .str s => fl0 f ag (.str s)
  | .lst z l => fl0 f ag (.lst z l)
  | .nil => fl0 f ag .nil
  | .own o l n => fl0 f ag (.own o l n)
  | .ptr o l n => fl0 f ag (.ptr o l n)
  | .iptr o l => fl0 f ag (.iptr o l)
  | .fn o l => fl0 f ag (.fn o l)
  | _ => none
theorem c8f {el v:AV} {f sz:Nat} {ag:Bool} (h:ldO el f sz ag = some v):ldP el f sz ag ∧ ldV el f sz ag = v:=by
  unfold ldO at h
  split at h
  · rename_i cs
    split at h
    · split at h
      · rename_i r hr
        split at h
        · rename_i q hq
          cases h
          obtain ⟨h1,rfl⟩:=e4a _ _ hr
          obtain ⟨h3,rfl⟩:=e4c _ _ hq
          rw [List.length_drop] at h3
          exact ⟨by simp only [ldP]; omega,rfl⟩
        · cases h
      · cases h
    · rw [d7x] at h
      obtain ⟨h1,h2⟩:=List.getElem?_eq_some_iff.1 h
      exact ⟨h1,by simp only [ldV]; rw [List.getD_eq_getElem?_getD,h]; rfl⟩
  all_goals first
    | (obtain ⟨h1,rfl⟩:=f0j h; exact ⟨h1,rfl⟩)
    | cases h
@[simp] def binO (op:BinOp) (x y:AV):Option AV :=
  match op,x,y with
  | .add,.int .i64 a,.int .i64 b => some (.int .i64 (IntKind.i64.wrap (a + b)))
  | .sub,.int .i64 a,.int .i64 b => some (.int .i64 (IntKind.i64.wrap (a - b)))
  | .mul,.int .i64 a,.int .i64 b => some (.int .i64 (IntKind.i64.wrap (a * b)))
  | .eql,.int .i64 a,.int .i64 b => some (.bool (a == b))
  | .neq,.int .i64 a,.int .i64 b => some (.bool (a != b))
  | .lss,.int .i64 a,.int .i64 b => some (.bool (decide (a < b)))
  | .leq,.int .i64 a,.int .i64 b => some (.bool (decide (a ≤ b)))
  | .gtr,.int .i64 a,.int .i64 b => some (.bool (decide (a > b)))
  | .geq,.int .i64 a,.int .i64 b => some (.bool (decide (a ≥ b)))
  | .add,.int .u64 a,.int .u64 b => some (.int .u64 (IntKind.u64.wrap (a + b)))
  | .mul,.int .u64 a,.int .u64 b => some (.int .u64 (IntKind.u64.wrap (a * b)))
  | .eql,.int .u8 a,.int .u8 b => some (.bool (a == b))
  | .neq,.int .u8 a,.int .u8 b => some (.bool (a != b))
  | .lss,.int .u8 a,.int .u8 b => some (.bool (decide (a < b)))
  | .leq,.int .u8 a,.int .u8 b => some (.bool (decide (a ≤ b)))
  | .gtr,.int .u8 a,.int .u8 b => some (.bool (decide (a > b)))
  | .geq,.int .u8 a,.int .u8 b => some (.bool (decide (a ≥ b)))
  | .eql,.str a,.str b => some (.bool (a == b))
  | .neq,.str a,.str b => some (.bool !(a == b))
  | .lss,.str a,.str b => some (.bool (Op.bytesLess a b))
  | _,_,_ => none
theorem e7r {op:BinOp} {x y v:AV} (h:binO op x y = some v):c9m op x y ∧ c6j op x y = v:=by
  unfold binO at h
  split at h <;> first | (cases h; exact ⟨rfl,rfl⟩) | (cases h; exact ⟨trivial,rfl⟩) | cases h
@[simp] def qv (h:List l7) (bs:List (Nat × AV)):AOp → Option AV
  | .mov x => some (evB bs x)
  | .faddr off a => match evB bs a with
    | .iptr el f => some (.iptr el (f + off))
    | .ptr o i f => match hgB h o with
      | some (.box _ _) => some (.ptr o i (f + off))
      | some (.row _ _) => some (.ptr o i (f + off))
      | _ => none
    | _ => none
  | .load sz ag a => match evB bs a with
    | .iptr el f => ldO el f sz ag
    | .ptr o i f => match hgB h o with
      | some (.box _ v) => ldO v f sz ag
      | _ => none
    | _ => none
  | .field off sz ag x => match evB bs x with
    | .agg cs => ldO (.agg cs) off sz ag
    | _ => none
  | .bin op x y => binO op (evB bs x) (evB bs y)
  | .not x => match evB bs x with
    | .bool b => some (.bool !b)
    | _ => none
  | .eqB ng x y => match evB bs x,evB bs y with
    | .bool a,.bool b => match ng with
      | true => some (.bool !(a == b))
      | false => some (.bool (a == b))
    | _,_ => none
  | .extract i x => match evB bs x with
    | .tup vs => lgB vs i
    | _ => none
  | .mkfn f caps => some (.fn f (caps.map (evB bs)))
  | .convI k x => match evB bs x with
    | .int _ n => some (.int k (k.wrap n))
    | _ => none
  | .pick c a b => match evB bs c with
    | .bool true => some (evB bs a)
    | .bool false => some (evB bs b)
    | _ => none
  | _ => none
theorem d5e {P:Program} {dm:Md} {h:List l7} {bs:List (Nat × AV)} {op:AOp} {v:AV} (hq:qv h bs op = some v) {k:AV → List l7 → Prop} (hk:k v h):a5o P dm op (AX.ev (y8 bs)) h k:=by
  cases op <;> simp only [qv,b1x,b8e] at hq
  case mov x => cases hq; exact a3l rfl trivial ⟨trivial,fun _ => hk⟩
  case mkfn f caps =>
    cases hq
    refine a3l rfl trivial ⟨trivial,fun _ => ?_⟩
    have:caps.map (evB bs) = caps.map (AX.ev (y8 bs)):=List.map_congr_left (fun x _ => b1x bs x)
    simp only [aqV,← this]; exact hk
  case bin op x y =>
    obtain ⟨h1,rfl⟩:=e7r hq
    exact a3l rfl trivial ⟨h1,fun _ => hk⟩
  case faddr off a =>
    split at hq
    · rename_i e; cases hq
      exact a3l rfl (by simp only [mmT]) ⟨by simp only [aqP,e],fun _ => by simp only [aqV,e]; exact hk⟩
    · rename_i e
      split at hq
      · rename_i e2; cases hq
        exact a3l rfl (by simp only [mmT]) ⟨by simp only [aqP,e,e2],fun _ => by simp only [aqV,e]; exact hk⟩
      · rename_i e2; cases hq
        exact a3l rfl (by simp only [mmT]) ⟨by simp only [aqP,e,e2],fun _ => by simp only [aqV,e]; exact hk⟩
      · cases hq
    · cases hq
  case load sz ag a =>
    split at hq
    · rename_i e
      obtain ⟨h1,rfl⟩:=c8f hq
      exact a3l rfl (by simp only [mmT,e]) ⟨by simp only [aqP,e]; exact h1,fun _ => by simp only [aqV,e]; exact hk⟩
    · rename_i e
      split at hq
      · rename_i e2
        obtain ⟨h1,rfl⟩:=c8f hq
        exact a3l rfl (by simp only [mmT,e,e2]) ⟨by simp only [aqP,e,e2]; exact h1,fun _ => by simp only [aqV,e,e2]; exact hk⟩
      · cases hq
    · cases hq
  case field off sz ag x =>
    split at hq
    · rename_i e
      obtain ⟨h1,rfl⟩:=c8f hq
      exact a3l rfl trivial ⟨by simp only [aqP,e]; exact h1,fun _ => by simp only [aqV,e]; exact hk⟩
    · cases hq
  case not x =>
    split at hq
    · rename_i e; cases hq
      exact a3l rfl trivial ⟨by simp only [aqP,e],fun _ => by simp only [aqV,e]; exact hk⟩
    · cases hq
  case eqB ng x y =>
    split at hq
    · rename_i e1 e2
      cases ng <;> (cases hq; exact a3l rfl trivial ⟨by simp only [aqP,e1,e2],fun _ => by simp only [aqV,e1,e2]; exact hk⟩)
    · cases hq
  case extract i x =>
    split at hq
    · rename_i e
      rw [d7x] at hq
      obtain ⟨h1,h2⟩:=List.getElem?_eq_some_iff.1 hq
      exact a3l rfl trivial ⟨by simp only [aqP,e]; exact h1,fun _ => by simp only [aqV,e]; rw [List.getD_eq_getElem?_getD,hq]; exact hk⟩
    · cases hq
  case convI k x =>
    split at hq
    · rename_i e; cases hq
      exact a3l rfl trivial ⟨by simp only [aqP,e],fun _ => by simp only [aqV,e]; exact hk⟩
    · cases hq
  case pick c a b =>
    split at hq
    · rename_i e; cases hq
      exact a3l rfl trivial ⟨by simp only [aqP,e],fun _ => by simp only [aqV,e]; exact hk⟩
    · rename_i e; cases hq
      exact a3l rfl trivial ⟨by simp only [aqP,e],fun _ => by simp only [aqV,e]; exact hk⟩
    · cases hq
  all_goals cases hq
@[simp] def gval (h:List l7) (bs:List (Nat × AV)) (op:AOp):Option (Nat × Bool) → Option AV
  | none => qv h bs op
  | some (s,b) => match getB bs s with
    | .bool true => match b with
      | true => qv h bs op
      | false => some .skip
    | .bool false => match b with
      | false => qv h bs op
      | true => some .skip
    | .skip => some .skip
    | _ => none
@[simp] def stp (h:List l7):Option (a1h × List (Nat × AV)) → Option (a1h × List (Nat × AV))
  | some (.q ⟨some d,g,op⟩ n,bs) => match gval h bs op g with
    | some v => some (n,(d,v) :: bs)
    | none => none
  | _ => none
@[simp] def itr (h:List l7):Nat → Option (a1h × List (Nat × AV)) → Option (a1h × List (Nat × AV))
  | 0,x => x
  | k + 1,x => itr h k (stp h x)
theorem c8g (h:List l7):∀ k,itr h k none = none
  | 0 => rfl
  | k + 1 => c8g h k
section
variable {P:Program} {dm:Md} {h:List l7} {K:(Nat → AV) → List l7 → Prop} {n0:Nat} {b:a0l} {Q:AQ}
theorem c6b:∀ (k:Nat) (T:a1h) (bs:List (Nat × AV)) {T':a1h} {bs':List (Nat × AV)},itr h k (some (T,bs)) = some (T',bs') → a0i P dm T' (y8 bs') h K → a0i P dm T (y8 bs) h K
  | 0,T,bs,T',bs',hr,hx => by cases hr; exact hx
  | k + 1,T,bs,T',bs',hr,hx => by
    have hr:itr h k (stp h (some (T,bs))) = some (T',bs'):=hr
    unfold stp at hr
    split at hr
    · rename_i d g op n bs0 e
      cases e
      split at hr
      · rename_i v hv
        have ih:=fun (hq:a0i P dm n (y8 ((d,v) :: bs)) h K) => hq
        have hn:=c6b k n _ hr hx
        cases g with
        | none => exact a2z (h':=h) (v:=v) (fun k' hk => d5e hv hk) hn
        | some sb =>
          obtain ⟨s,b⟩:=sb
          simp only [gval,d2n] at hv
          split at hv
          · rename_i e
            cases b with
            | true => exact s_on e (a2z (h':=h) (v:=v) (fun k' hk => d5e hv hk) hn)
            | false => cases hv; exact d9i e rfl hn
          · rename_i e
            cases b with
            | false => exact s_on e (a2z (h':=h) (v:=v) (fun k' hk => d5e hv hk) hn)
            | true => cases hv; exact d9i e rfl hn
          · rename_i e; cases hv; exact d7q e hn
          · cases hv
      · rw [c8g] at hr; cases hr
    · rw [c8g] at hr; cases hr
theorem go {T T':a1h} {bs bs':List (Nat × AV)} (k:Nat) (hx:a0i P dm T' (y8 bs') h K) (hr:itr h k (some (T,bs)) = some (T',bs'):=by dsimp):a0i P dm T (y8 bs) h K:=c6b k T bs hr hx
theorem gd {T:a1h} {bs bs':List (Nat × AV)} (k:Nat) (hx:K (y8 bs') h) (hr:itr h k (some (T,bs)) = some (.done,bs'):=by dsimp):a0i P dm T (y8 bs) h K:=c6b k T bs hr hx
theorem gq {T:a1h} {bs bs':List (Nat × AV)} (k:Nat) (hx:awp P dm n0 b (y8 bs') h Q) (hr:itr h k (some (T,bs)) = some (.done,bs'):=by dsimp):a0i P dm T (y8 bs) h (kN (b1v (awp P dm n0 b) Q)):=c6b k T bs hr hx
end
end Go.R
end
section
set_option linter.all false
namespace Go.R
open Go
abbrev fa (d o a:Nat) (n:a1h):a1h:=tq d (.faddr o (.t a)) n
abbrev ld (d s a:Nat) (n:a1h):a1h:=tq d (.load s false (.t a)) n
abbrev la (d s a:Nat) (n:a1h):a1h:=tq d (.load s true (.t a)) n
abbrev fl (d e o a s:Nat) (n:a1h):a1h:=fa d o a (ld e s d n)
abbrev mv (d a:Nat) (n:a1h):a1h:=tm d (.t a) n
abbrev iad (d z a i:Nat) (n:a1h):a1h:=tq d (.iaddr z (.t a) (.t i)) n
abbrev bt (d:Nat) (o:BinOp) (a b:Nat) (n:a1h):a1h:=tq d (.bin o (.t a) (.t b)) n
abbrev bi (d:Nat) (o:BinOp) (a:Nat) (k:Int) (n:a1h):a1h:=tq d (.bin o (.t a) (.c (.int .i64 k))) n
abbrev im (d:Nat) (k:Int) (n:a1h):a1h:=tm d (.c (.int .i64 k)) n
abbrev lg (d a:Nat) (n:a1h):a1h:=tq d (.len (.t a)) n
@[simp] def ovB:List AV → List AV → List AV
  | cs,[] => cs
  | [],x :: new => x :: new
  | _ :: cs,x :: new => x :: ovB cs new
theorem e4d:∀ cs new:List AV,ovB cs new = new ++ cs.drop new.length
  | cs,[] => by cases cs <;> rfl
  | [],x :: new => by simp [ovB]
  | c :: cs,x :: new => by simp [ovB,e4d cs new]
@[simp] def ptB:List AV → Nat → List AV → List AV
  | cs,0,new => ovB cs new
  | [],_ + 1,new => new
  | x :: cs,n + 1,new => x :: ptB cs n new
theorem d7y:∀ (cs:List AV) (n:Nat) (new:List AV),putCells cs n new = ptB cs n new
  | cs,0,new => by simp [putCells,ptB,e4d]
  | [],n + 1,new => by simp [putCells,ptB]
  | x :: cs,n + 1,new => by
    have:=d7y cs n new
    simp only [putCells] at this
    simp only [putCells,ptB,← this]
    have e:n + 1 + new.length = n + new.length + 1:=by omega
    rw [e]; rfl
@[simp] def celB (y:AV) (f:Nat) (v:AV):AV:=match y with
  | .agg cs => .agg (ptB cs f v.cells)
  | _ => v
theorem c6c (y:AV) (f:Nat) (v:AV):a3q y f v = celB y f v:=by
  cases y <;> simp only [a3q,celB,d7y]
def pkT (rs:List a2q) (d:Nat):Option a2q:=bif Nat.blt d 1000 then rs.find? (fun r => r.dst == some d) else (rs.filter (fun r => r.dst == none))[d - 1000]?
def f0k (rs:List a2q):Nat → Nat → a1h → a1h
  | _,0,T => T
  | d,n + 1,T => match pkT rs d with
    | some r => .q r (f0k rs (d + 1) n T)
    | none => .fail
def e4e (rs:List a2q):List (List Nat) → a1h
  | [] => .done
  | [] :: l => e4e rs l
  | [d] :: l => f0k rs d 1 (e4e rs l)
  | (d :: 0 :: re) :: l => match pkT rs d with
    | some r => .l r (re.filterMap (pkT rs)) (e4e rs l) .non
    | none => .fail
  | (d :: e :: _) :: l => f0k rs d (e + 1 - d) (e4e rs l)
def b8f (sp:List (Nat × List (List Nat))) (P:Program) (N:Nat):Code → Nat → Option a0l × Nat
  | .region i ops draw,k => match ocs P ops N ops.toList with
    | none => (none,k + 1)
    | some rs => match draw with
      | false => (some (.reg (lin rs)),k + 1)
      | true => match sp.lookup k with
        | some o => (some (.reg (e4e rs o)),k + 1)
        | none => (a6r P N (.region i ops true),k + 1)
  | .seq a b,k => match b8f sp P N a k with
    | (some a,k) => match b8f sp P N b k with
      | (some b,k) => (some (.seq a b),k)
      | (none,k) => (none,k)
    | (none,k) => (none,k)
  | .cond c a b,k => match cx c with
    | some c => match b8f sp P N a k with
      | (some a,k) => match b8f sp P N b k with
        | (some b,k) => (some (.cond c a b),k)
        | (none,k) => (none,k)
      | (none,k) => (none,k)
    | none => (none,k)
  | .block id c,k => match b8f sp P N c k with
    | (some c,k) => (some (.block id c),k)
    | (none,k) => (none,k)
  | .loop c,k => match b8f sp P N c k with
    | (some c,k) => (some (.loop c),k)
    | (none,k) => (none,k)
  | .scope c,k => b8f sp P N c k
  | c,k => (a6r P N c,k)
def b6t (sp:List (Nat × List (List Nat))) (P:Program) (fn:Func):Option (a0l × List AOp × Nat):=match fn.body,c9q P fn.results.toList with
  | some c,some s => match (b8f sp P fn.ntmps c 0).1 with
    | some a => some (a,s,fn.ntmps)
    | none => none
  | _,_ => none
def wrC:List Nat → Nat → a0l → a0l
  | [],_,c => c
  | m :: ms,n,c => bif m / 2 == n then (bif m % 2 == 0 then .cut (wrC ms n c) else .rev (wrC ms n c)) else wrC ms n c
def d2o (ms:List Nat):a0l → Nat → a0l × Nat
  | .seq a b,n => match d2o ms a (n + 1) with
    | (a',n1) => match d2o ms b n1 with
      | (b',n2) => (wrC ms n (.seq a' b'),n2)
  | .cond x a b,n => match d2o ms a (n + 1) with
    | (a',n1) => match d2o ms b n1 with
      | (b',n2) => (wrC ms n (.cond x a' b'),n2)
  | .block i a,n => match d2o ms a (n + 1) with
    | (a',n1) => (wrC ms n (.block i a'),n1)
  | .loop a,n => match d2o ms a (n + 1) with
    | (a',n1) => (wrC ms n (.loop a'),n1)
  | c,n => (wrC ms n c,n + 1)
def cfr:a0l → Bool
  | .seq a b => cfr a && cfr b
  | .cond _ a b => cfr a && cfr b
  | .block _ a => cfr a
  | .loop a => cfr a
  | .cut _ => false
  | .rev _ => false
  | _ => true
theorem e9h (n:Nat) (c:a0l):∀ ms,(wrC ms n c).erase = c.erase
  | [] => rfl
  | m :: ms => by
    have ih:=e9h n c ms
    simp only [wrC]
    cases m / 2 == n <;> cases m % 2 == 0 <;> simpa [a0l.erase] using ih
theorem f0l (ms:List Nat):∀ (c:a0l) (n:Nat),cfr c = true → ((d2o ms c n).1).erase = c:=by
  intro c
  induction c <;> intro n h <;> simp only [cfr,Bool.and_eq_true,reduceCtorEq] at h <;> simp_all [d2o,e9h,a0l.erase]
def d2p (sp:List (Nat × List (List Nat))) (ms:List Nat) (P:Program) (fn:Func):Option (a0l × List AOp × Nat):=match b6t sp P fn with
  | some (c,s,N) => match cfr c with
    | true => some ((d2o ms c 0).1,s,N)
    | false => none
  | none => none
theorem b9h {sp:List (Nat × List (List Nat))} {ms:List Nat} {P:Program} {fn:Func} {ac:a0l} {s:List AOp} {N:Nat} (h0:b5n P fn = b6t sp P fn) (h:d2p sp ms P fn = some (ac,s,N)):b5n P fn = some (ac.erase,s,N):=by
  rw [h0]
  unfold d2p at h
  split at h
  · rename_i c s' N' e
    split at h
    · rename_i hc
      cases h
      rw [f0l ms c 0 hc]; exact e
    · cases h
  · cases h
section
variable {P:Program} {dm:Md} {n0:Nat} {m:Bool} {t:Nat → AV} {h:List l7} {Q:AQ} {X:Type} {S:X → List (Nat × AV) × List l7} {μ:X → Nat} {x:X}
theorem co {f:Nat} {cm:CM} {args:List AV} {r:AV} {fn:Func} {ac:a0l} {slots:List AOp} {N:Nat} {bs:List (Nat × AV)} {d:Bool} (ms:List Nat) (hf:P.funcs[f]? = some fn) (hk:awp P (d:Bool) 0 ac (y8 bs) [] (c7p false cm slots r)) (sp:List (Nat × List (List Nat)):=[]) (h0:b5n P fn = b6t sp P fn:=by kernel_rfl) (hc:d2p sp ms P fn = some (ac,slots,N):=by conv => lhs; cbv) (hm:P.follows .mixedOrders = true:=by exact mixed) (hl:args.length ≤ N:=by exact nle) (hb:b5c 0 args = bs:=by dsimp only [b5c]) (hd:cmD cm = d:=by dsimp only [cmD]):a0z P f cm args r:=by
  subst hb hd
  exact a0z.of_awp hm hf (b9h h0 hc) hl (by rw [b6s]; exact hk)
theorem coh {f:Nat} {args:List AV} {hin hout:List l7} {r:AV} {fn:Func} {ac:a0l} {slots:List AOp} {N:Nat} {bs:List (Nat × AV)} {k:Nat} (ms:List Nat) (hf:P.funcs[f]? = some fn) (hk:awp P dm k ac (y8 bs) hin (c4x dm.m k slots r hout)) (sp:List (Nat × List (List Nat)):=[]) (h0:b5n P fn = b6t sp P fn:=by kernel_rfl) (hc:d2p sp ms P fn = some (ac,slots,N):=by conv => lhs; cbv) (hm:P.follows .mixedOrders = true:=by exact mixed) (hl:args.length ≤ N:=by exact nle) (hb:b5c 0 args = bs:=by dsimp only [b5c]) (hz:dm.z = false:=by rfl) (hk0:hin.length = k:=by rfl):a2a P dm f args hin r hout:=by
  subst hb hk0
  exact a2a.of_awp hm hf (b9h h0 hc) hl (by rw [b6s]; exact hk) hz
theorem rf {os:List AOp} {r:AV} (hp:b3v m t h os:=by exact ⟨trivial,trivial⟩) (hf:rflats (b2f t h os) = true:=by rfl) (hl:Le (pack (b2f t h os)) r:=by exact .refl _):c7p m .flat os r .ret t h:=b8b hp hf hl
theorem ck {s:List (Nat × AV) × List l7} (js:List Nat) (hk:a9u n0 h.length js = true:=by rfl) (hf:c5p (a6i js) t s.1:=by repeat first | exact trivial | refine ⟨.refl _,?_⟩ | refine ⟨.of_eq (congrArg (AV.int _) (b3w (by assumption) (by assumption))),?_⟩) (hh:LeH (b0a h js) s.2:=by exact .refl _):a3e m n0 t h s:=⟨[],js,_,_,rfl,hk,hf,hh⟩
theorem kl (y:X) (js:List Nat) (hy:μ y < μ x:=by first | exact mul (by assumption) | exact Nat.lt_succ_self _) (hk:a9u n0 h.length js = true:=by rfl) (hf:c5p (a6i js) t (S y).1:=by repeat first | exact trivial | refine ⟨.refl _,?_⟩ | refine ⟨.of_eq (congrArg (AV.int _) (b3w (by assumption) (by assumption))),?_⟩) (hh:LeH (b0a h js) (S y).2:=by exact .refl _):b7x m n0 S μ x Q .norm t h:=⟨y,hy,ck js hk hf hh⟩
theorem kk (y:X) (js:List Nat) (hk:a9u n0 h.length js = true:=by rfl) (hf:c5p (a6i js) t (S y).1:=by repeat first | exact trivial | refine ⟨.refl _,?_⟩ | refine ⟨.of_eq (congrArg (AV.int _) (b3w (by assumption) (by assumption))),?_⟩) (hh:LeH (b0a h js) (S y).2:=by exact .refl _):c2d m n0 S Q .norm t h:=⟨y,ck js hk hf hh⟩
theorem al {body:a0l} {id:Nat} (S:X → List (Nat × AV) × List l7) (μ:X → Nat) (x0:X) (js:List Nat) (h1:∀ x,awp P dm n0 body (y8 (S x).1) (S x).2 (b7x dm.m n0 S μ x (a2l id Q))) (hk:a9u n0 h.length js = true:=by rfl) (hf:c5p (a6i js) t (S x0).1:=by repeat first | exact trivial | refine ⟨.refl _,?_⟩ | refine ⟨.of_eq (congrArg (AV.int _) (b3w (by assumption) (by assumption))),?_⟩) (hh:LeH (b0a h js) (S x0).2:=by exact .refl _):awp P dm n0 (.block id (.loop body)) t h Q:=b7y S μ x0 (ck js hk hf hh) h1
theorem wc {a:a0l} (s:List (Nat × AV) × List l7) (js:List Nat) (hn:awp P dm n0 a (y8 s.1) s.2 Q) (hk:a9u n0 h.length js = true:=by rfl) (hf:c5p (a6i js) t s.1:=by repeat first | exact trivial | refine ⟨.refl _,?_⟩ | refine ⟨.of_eq (congrArg (AV.int _) (b3w (by assumption) (by assumption))),?_⟩) (hh:LeH (b0a h js) s.2:=by exact .refl _):awp P dm n0 (.cut a) t h Q:=⟨s,ck js hk hf hh,hn⟩
end
section
variable {P:Program} {dm:Md} {n0:Nat} {bs:List (Nat × AV)} {h h2:List l7} {n other:a1h} {re:List a2q} {d:Nat} {K:(Nat → AV) → List l7 → Prop} {Q:AQ} {α:Type} {enc:α → AV} {l:List α} {e:α}
theorem sg {op:AOp} {s:Nat} {b v:Bool} (V:AV) (hn:a0i P dm n (y8 ((d,gs v b V) :: bs)) h K) (ht:y8 bs s = .bool v:=by rfl) (hon:v = b → op.quiet = true ∧ aqQ dm.m op (AX.ev (y8 bs)) h ∧ aqV op (AX.ev (y8 bs)) h = V:=by intro hv; (try simp only [a5b hv]); first | exact ⟨rfl,trivial,rfl⟩ | exact ⟨rfl,nle,rfl⟩ | exact ⟨rfl,rfl,rfl⟩):a0i P dm (.q ⟨some d,some (s,b),op⟩ n) (y8 bs) h K:=s_g V ht hon hn
theorem bx {x:AX} {c:AV} {sz j:Nat} (hn:a0i P dm n (y8 ((d,.ptr j 0 0) :: bs)) h2 K) (hv:evB bs x = c:=by dsimp) (hs:a4y h c:=by exact trivial) (hl:c.cells.length = sz:=by rfl) (hj:h.length = j:=by dsimp) (hh:h ++ [.box sz c] = h2:=by dsimp):a0i P dm (.q ⟨some d,none,.box sz x⟩ n) (y8 bs) h K:=by
  subst hh
  exact a2z (d4y ((b1x bs x).symm.trans hv) hs hl hj) hn
theorem sb {a x:AX} {o j f z sz:Nat} {y v:AV} (hn:a0i P dm n (y8 bs) h2 K) (ha:evB bs a = .ptr o j f:=by dsimp) (ho:hgB h o = some (.box z y):=by dsimp) (hx:evB bs x = v:=by dsimp) (hs:a4y h v:=by exact trivial) (hp:a5s y f sz v:=by first | exact ⟨rfl,nle⟩ | exact ⟨rfl,rfl,rfl⟩) (hl:b4z h v.cells:=by repeat first | exact trivial | refine ⟨⟨rfl,trivial⟩,?_⟩) (hh:h.set o (.box z (celB y f v)) = h2:=by dsimp [AV.cells]):a0i P dm (.q ⟨none,none,.store sz a x⟩ n) (y8 bs) h K:=by
  subst hh
  exact c7r (b0h ((b1x bs a).symm.trans ha) ((b8e h o).symm.trans ho) ((b1x bs x).symm.trans hx) hs hp hl (c6c y f v)) hn
theorem ln {z:Nat} {x:AX} (hn:l.length ≤ maxLen → a0i P dm n (y8 ((d,.int .i64 l.length) :: bs)) h K) (hx:x.ev (y8 bs) = .lst z (l.map enc):=by rfl):a0i P dm (.q ⟨some d,none,.len x⟩ n) (y8 bs) h K:=d4u (f2s hx) hn
theorem lnS {x:AX} {s:Str} (hn:s.length ≤ maxLen → a0i P dm n (y8 ((d,.int .i64 s.length) :: bs)) h K) (hx:x.ev (y8 bs) = .str s:=by rfl):a0i P dm (.q ⟨some d,none,.lenS x⟩ n) (y8 bs) h K:=d4u (f0g hx) hn
theorem ia {z j:Nat} {k:IntKind} {x i:AX} (hl:l[j]? = some e) (hn:a0i P dm n (y8 ((d,.iptr (enc e) 0) :: bs)) h K) (hx:x.ev (y8 bs) = .lst z (l.map enc):=by rfl) (hi:i.ev (y8 bs) = .int k (j:Int):=by rfl):a0i P dm (.q ⟨some d,none,.iaddr z x i⟩ n) (y8 bs) h K:=a2z (d4v hx hi hl) hn
theorem ix {z:Nat} {j:Int} {k:IntKind} {x i:AX} (hl:idx l j = some e) (hn:a0i P dm n (y8 ((d,.iptr (enc e) 0) :: bs)) h K) (hx:x.ev (y8 bs) = .lst z (l.map enc):=by rfl) (hi:i.ev (y8 bs) = .int k j:=by rfl):a0i P dm (.q ⟨some d,none,.iaddr z x i⟩ n) (y8 bs) h K:=a2z (c5z hx hi (c9s hl) (d2g hl)) hn
theorem cl {f:Nat} {args:List AX} {cs bs':List AV} {r:AV} (hc:a0z P f .flat bs' r) (hn:a0i P dm n (y8 ((d,r) :: bs)) h K) (hb:closes h (args.map (AX.ev (y8 bs))) = some cs:=by rfl) (hl:LeL cs bs':=by exact .refl _):a0i P dm (.q ⟨some d,none,.call f args⟩ n) (y8 bs) h K:=a2z (d2l hc hb hl rfl) hn
theorem cll {f:Nat} {args:List AX} {cs bs':List AV} {r:AV} (hc:a0z P f .flat bs' r) (hn:a0i P dm n (y8 ((d,r) :: bs)) h K) (ho:a0i P dm other (y8 bs) h K:=by exact trivial) (hb:closes h (args.map (AX.ev (y8 bs))) = some cs:=by rfl) (hl:LeL cs bs':=by exact .refl _):a0i P dm (.l ⟨some d,none,.call f args⟩ re n other) (y8 bs) h K:=a4t (d2l hc hb hl rfl) b7z ho hn
theorem cf {f:Nat} {args:List AX} {cs bs':List AV} {r:AV} (v:AV) (h':List l7) (hc:a0z P f .fresh bs' r) (hn:a0i P dm n (y8 ((d,v) :: bs)) (h ++ h') K) (hb:closes h (args.map (AX.ev (y8 bs))) = some cs:=by rfl) (hl:LeL cs bs':=by exact .refl _) (hv:a2w h.length r = (v,h'):=by simp only [a2w,a4f,a1f,List.length_map,List.nil_append,List.append_nil,List.cons_append]; rfl):a0i P dm (.q ⟨some d,none,.call f args⟩ n) (y8 bs) h K:=a2z (c2g hc hb hl hv) hn
theorem sl {T:a1h} (s:Nat) {e:Bool} (he:e = true) (hn:a0i P dm T (y8 ((s,.bool true) :: bs)) h K) (ht:y8 bs s = .bool e:=by rfl):a0i P dm T (y8 bs) h K:=d0u ht he hn
theorem sf {T:a1h} (s:Nat) {e:Bool} (he:¬ e = true) (hn:a0i P dm T (y8 ((s,.bool false) :: bs)) h K) (ht:y8 bs s = .bool e:=by rfl):a0i P dm T (y8 bs) h K:=d0u ht (bf he) hn
theorem wt {a b:a0l} {s:Nat} {e:Bool} (he:e = true) (hn:awp P dm n0 a (y8 ((s,.bool true) :: bs)) h Q) (ht:y8 bs s = .bool e:=by rfl):awp P dm n0 (.cond (.t s) a b) (y8 bs) h Q:=d2i ht he hn
theorem wf {a b:a0l} {s:Nat} {e:Bool} (he:¬ e = true) (hn:awp P dm n0 b (y8 ((s,.bool false) :: bs)) h Q) (ht:y8 bs s = .bool e:=by rfl):awp P dm n0 (.cond (.t s) a b) (y8 bs) h Q:=c5y ht (bf he) hn
theorem wg {a b:a0l} {s:Nat} {e:Bool} (he:e = false) (hn:awp P dm n0 b (y8 ((s,.bool false) :: bs)) h Q) (ht:y8 bs s = .bool e:=by rfl):awp P dm n0 (.cond (.t s) a b) (y8 bs) h Q:=c5y ht he hn
theorem le {m:Bool} {t:Nat → AV} {X:Type} {S:X → List (Nat × AV) × List l7} {μ:X → Nat} {x:X} {F:(Nat → AV) → List l7 → AQ → Prop} {id:Nat} (hn:Q .norm t h):awp P dm n0 (.exit id) t h (b1v F (b7x m n0 S μ x (a2l id Q))):=c7v<|c7u<|c5x<|c7t hn
end
@[simp] def kpB (bs:List (Nat × AV)):List Nat → List (Nat × AV)
  | [] => []
  | k :: ks => (k,getB bs k) :: kpB bs ks
section
variable {P:Program} {dm:Md} {n0:Nat} {bs L0:List (Nat × AV)} {h:List l7} {Q:AQ} {X:Type} {a b:a0l} {id:Nat}
theorem ah {body:a0l} (ks:List Nat) (V:X → List (Nat × AV)) (μ:X → Nat) (x0:X) (h1:∀ x,awp P dm n0 body (y8 (V x ++ L0)) h (b7x dm.m n0 (fun q => (V q ++ L0,h)) μ x (a2l id Q))) (hL:kpB bs ks = L0:=by dsimp) (hk:a9u n0 h.length (List.range h.length) = true:=by rfl) (hf:c5p (a6i (List.range h.length)) (y8 bs) (V x0 ++ L0):=by repeat first | exact trivial | refine ⟨.refl _,?_⟩ | refine ⟨.of_eq (congrArg (AV.int _) (b3w (by assumption) (by assumption))),?_⟩) (hh:LeH (b0a h (List.range h.length)) h:=by exact .refl _):awp P dm n0 (.block id (.loop body)) (y8 bs) h Q:=b7y (fun q => (V q ++ L0,h)) μ x0 (ck _ hk hf hh) h1
theorem ac (ks:List Nat) (V:List (Nat × AV)) (h1:awp P dm n0 a (y8 bs) h (d4s dm.m n0 (V ++ L0,h) Q)) (h2:awp P dm n0 b (y8 (V ++ L0)) h Q) (hL:kpB bs ks = L0:=by dsimp):awp P dm n0 a (y8 bs) h (b1v (awp P dm n0 (.cut b)) Q):=a8y (V ++ L0,h) h1 h2
theorem ax (ks:List Nat) (V:X → List (Nat × AV)) (h1:awp P dm n0 a (y8 bs) h (c2d dm.m n0 (fun q => (V q ++ L0,h)) Q)) (h2:∀ x,awp P dm n0 b (y8 (V x ++ L0)) h Q) (hL:kpB bs ks = L0:=by dsimp):awp P dm n0 a (y8 bs) h (b1v (awp P dm n0 (.cut b)) Q):=c2e (fun q => (V q ++ L0,h)) h1 h2
theorem axb (ks:List Nat) (V:X → List (Nat × AV)) (h1:awp P dm n0 a (y8 bs) h (a2l id (c2d dm.m n0 (fun q => (V q ++ L0,h)) Q))) (h2:∀ x,awp P dm n0 b (y8 (V x ++ L0)) h Q) (hL:kpB bs ks = L0:=by dsimp):awp P dm n0 a (y8 bs) h (a2l id (b1v (awp P dm n0 (.cut b)) Q)):=c3w (fun q => (V q ++ L0,h)) h1 h2
end
end Go.R
end
section
set_option linter.all false
namespace Go.R
open Go
structure An:Type 1 where
  δ:Type
  k:Nat
  ks:List Nat
  V:δ
  f:a0l → a0l
  e:∀ c,(f c).erase = c.erase
def aC (δ:Type) (k:Nat) (ks:List Nat) (V:δ):An:=⟨δ,k,ks,V,.cut,fun _ => rfl⟩
def aL (δ:Type) (k:Nat) (ks:List Nat) (V:δ):An:=⟨δ,k,ks,V,fun c => c,fun _ => rfl⟩
def cA {α:Type} (ks:List Nat) (V:α → List (Nat × AV)):An:=aC _ 0 ks V
def fA {α:Type} (ks:List Nat) (V:α → List (Nat × AV)):An:=aC _ 1 ks V
def lI (ks:List Nat) (V:Nat → List (Nat × AV)):An:=aL _ 2 ks V
def lN (ks:List Nat) (V:Nat → List (Nat × AV)):An:=aL _ 3 ks V
def lA {α:Type} (ks:List Nat) (V:Nat → α → List (Nat × AV)):An:=aL _ 4 ks V
def lIA {α:Type} (ks:List Nat) (V:Nat → α → List (Nat × AV)):An:=aL _ 5 ks V
def lAI {α:Type} (ks:List Nat) (V:Nat → α → List (Nat × AV)):An:=aL _ 6 ks V
def lk:List Nat → List An → Nat → An
  | n :: ns,a :: as,k => bif k == n then a else lk ns as k
  | _,_,_ => aL Unit 9 [] ()
def wrA (A:Nat → a0l → a0l) (ms:List Nat) (n:Nat) (c:a0l):a0l:=bif ms.elem n then A n c else c
def d2q (A:Nat → a0l → a0l) (ms:List Nat):a0l → Nat → a0l × Nat
  | .seq a b,n => match d2q A ms a (n + 1) with
    | (a',n1) => match d2q A ms b n1 with
      | (b',n2) => (wrA A ms n (.seq a' b'),n2)
  | .cond x a b,n => match d2q A ms a (n + 1) with
    | (a',n1) => match d2q A ms b n1 with
      | (b',n2) => (wrA A ms n (.cond x a' b'),n2)
  | .block i a,n => match d2q A ms a (n + 1) with
    | (a',n1) => (wrA A ms n (.block i a'),n1)
  | .loop a,n => match d2q A ms a (n + 1) with
    | (a',n1) => (wrA A ms n (.loop a'),n1)
  | c,n => (wrA A ms n c,n + 1)
theorem f0n {A:Nat → a0l → a0l} (hA:∀ n c,(A n c).erase = c.erase) (ms:List Nat):∀ (c:a0l) (n:Nat),cfr c = true → ((d2q A ms c n).1).erase = c:=by
  have hw:∀ n c,(wrA A ms n c).erase = c.erase:=by
    intro n c; unfold wrA; cases ms.elem n
    · rfl
    · exact hA n c
  intro c
  induction c <;> intro n h <;> simp only [cfr,Bool.and_eq_true,reduceCtorEq] at h <;> simp_all [d2q,a0l.erase]
def c8h (sp:List (Nat × List (List Nat))) (A:Nat → a0l → a0l) (ms:List Nat) (P:Program) (fn:Func):Option (a0l × List AOp × Nat):=match b6t sp P fn with
  | some (c,s,N) => match cfr c with
    | true => some ((d2q A ms c 0).1,s,N)
    | false => none
  | none => none
theorem c3z {sp:List (Nat × List (List Nat))} {A:Nat → a0l → a0l} (hA:∀ n c,(A n c).erase = c.erase) {ms:List Nat} {P:Program} {fn:Func} {ac:a0l} {s:List AOp} {N:Nat} (h0:b5n P fn = b6t sp P fn) (h:c8h sp A ms P fn = some (ac,s,N)):b5n P fn = some (ac.erase,s,N):=by
  rw [h0]
  unfold c8h at h
  split at h
  · rename_i c s' N' e
    split at h
    · rename_i hc
      cases h
      rw [f0n hA ms c 0 hc]; exact e
    · cases h
  · cases h
section
variable {P:Program} {dm:Md} {n0:Nat} {bs L0:List (Nat × AV)} {h:List l7} {Q:AQ} {a b:a0l} {id:Nat} {ks:List Nat} {α β ρ τ:Type} {r:β}
theorem coA {f:Nat} {cm:CM} {args:List AV} {r:AV} {fn:Func} {ac:(Nat → a0l → a0l) → a0l} {ac2:a0l} {slots:List AOp} {N:Nat} {d:Bool} (ms:List Nat) (as:List An) (hf:P.funcs[f]? = some fn) (hk:awp P (d:Bool) 0 ac2 (y8 bs) [] (c7p false cm slots r)) (sp:List (Nat × List (List Nat)):=[]) (h0:b5n P fn = b6t sp P fn:=by kernel_rfl) (hc:∀ A,c8h sp A ms P fn = some (ac A,slots,N):=by intro A; conv => lhs; cbv) (h2:ac (fun n c => (lk ms as n).f c) = ac2:=by dsimp [lk]) (hm:P.follows .mixedOrders = true:=by exact mixed) (hl:args.length ≤ N:=by exact nle) (hb:b5c 0 args = bs:=by dsimp only [b5c]) (hd:cmD cm = d:=by dsimp only [cmD]):a0z P f cm args r:=by
  subst hb hd h2
  exact a0z.of_awp hm hf (c3z (fun n c => (lk ms as n).e c) h0 (hc _)) hl (by rw [b6s]; exact hk)
@[simp] def itm (h:List l7):Nat → a1h → List (Nat × AV) → Option (a1h × List (Nat × AV)) → a1h × List (Nat × AV)
  | 0,T,bs,_ => (T,bs)
  | _ + 1,T,bs,none => (T,bs)
  | k + 1,_,_,some (T,bs) => itm h k T bs (stp h (some (T,bs)))
theorem wCu {r:ρ} {x:Option α} {f:α → Option ρ} {V:α → List (Nat × AV)} (hf:Option.bind x f = some r) (h1:∀ v,x = some v → awp P dm n0 a (y8 bs) h (d4s dm.m n0 (V v ++ L0,h) Q)) (h2:∀ v,f v = some r → awp P dm n0 b (y8 (V v ++ L0)) h Q) (hL:kpB bs ks = L0:=by dsimp):awp P dm n0 a (y8 bs) h (b1v (awp P dm n0 ((cA ks V).f b)) Q):=by
  obtain ⟨v,e,hf⟩:=ob hf
  exact a8y (V v ++ L0,h) (h1 v e) (h2 v hf)
theorem f2w {r:ρ} {x:Option α} {f:α → Option ρ} {V:α → List (Nat × AV)} (hf:Option.bind x f = some r) (h1:∀ v,x = some v → awp P dm n0 a (y8 bs) h (a2l id (d4s dm.m n0 (V v ++ L0,h) Q))) (h2:∀ v,f v = some r → awp P dm n0 b (y8 (V v ++ L0)) h Q) (hL:kpB bs ks = L0:=by dsimp):awp P dm n0 a (y8 bs) h (a2l id (b1v (awp P dm n0 ((cA ks V).f b)) Q)):=by
  obtain ⟨v,e,hf⟩:=ob hf
  exact c7q (V v ++ L0,h) (h1 v e) (h2 v hf)
theorem wFu {R:Type} {r:ρ} {x:Option (Fl R α)} {f:Fl R α → Option ρ} {V:α → List (Nat × AV)} (hf:Option.bind x f = some r) (h1:∀ p,x = some p → f p = some r → awp P dm n0 a (y8 bs) h (c2d dm.m n0 (fun q:{s:α // p = .go s} => (V q.1 ++ L0,h)) Q)) (h2:∀ s,f (.go s) = some r → awp P dm n0 b (y8 (V s ++ L0)) h Q) (hL:kpB bs ks = L0:=by dsimp):awp P dm n0 a (y8 bs) h (b1v (awp P dm n0 ((fA ks V).f b)) Q):=by
  obtain ⟨p,e,hf⟩:=ob hf
  exact c2e (fun q:{s:α // p = .go s} => (V q.1 ++ L0,h)) (h1 p e hf) (fun q => h2 q.1 (by rw [← q.2]; exact hf))
theorem f2x {R:Type} {r:ρ} {x:Option (Fl R α)} {f:Fl R α → Option ρ} {V:α → List (Nat × AV)} (hf:Option.bind x f = some r) (h1:∀ p,x = some p → f p = some r → awp P dm n0 a (y8 bs) h (a2l id (c2d dm.m n0 (fun q:{s:α // p = .go s} => (V q.1 ++ L0,h)) Q))) (h2:∀ s,f (.go s) = some r → awp P dm n0 b (y8 (V s ++ L0)) h Q) (hL:kpB bs ks = L0:=by dsimp):awp P dm n0 a (y8 bs) h (a2l id (b1v (awp P dm n0 ((fA ks V).f b)) Q)):=by
  obtain ⟨p,e,hf⟩:=ob hf
  exact c3w (fun q:{s:α // p = .go s} => (V q.1 ++ L0,h)) (h1 p e hf) (fun q => h2 q.1 (by rw [← q.2]; exact hf))
abbrev LI (J:List τ → Nat → α → Option ρ) (l:List τ) (p:ρ):={q:Nat × α // J (l.drop q.1) q.1 q.2 = some p}
abbrev KL (m:Bool) (n0:Nat) (J:List τ → Nat → α → Option ρ) (l:List τ) (p:ρ) (V:Nat → α → List (Nat × AV)) (L0:List (Nat × AV)) (h:List l7) (i:Nat) (v:α) (hq:J (l.drop i) i v = some p) (Q:AQ):AQ:=b7x m n0 (fun q:LI J l p => (V q.1.1 q.1.2 ++ L0,h)) (fun q => l.length - q.1.1) ⟨(i,v),hq⟩ Q
theorem ckr {m:Bool} {t:Nat → AV} {s:List (Nat × AV) × List l7} (hk:a9u n0 h.length (List.range s.2.length) = true:=by rfl) (hf:c5p (a6i (List.range s.2.length)) t s.1:=by repeat first | exact trivial | refine ⟨.refl _,?_⟩ | refine ⟨.of_eq (congrArg (AV.int _) (b3w (by assumption) (by assumption))),?_⟩) (hh:LeH (b0a h (List.range s.2.length)) s.2:=by exact .refl _):a3e m n0 t h s:=⟨[],List.range s.2.length,_,_,rfl,hk,hf,hh⟩
theorem kln {m:Bool} {t:Nat → AV} {h':List l7} {J:List τ → Nat → α → Option ρ} {l:List τ} {p:ρ} {V:Nat → α → List (Nat × AV)} {i j:Nat} {v w:α} {hq:J (l.drop i) i v = some p} (hf:J (l.drop j) j w = some p) (hj:j = i + 1) (hl:i < l.length) (hc:a3e m n0 t h' (V j w ++ L0,h)):KL m n0 J l p V L0 h i v hq Q .norm t h' :=
  ⟨⟨(j,w),hf⟩,by subst hj; exact mul hl,hc⟩
theorem wL0 {l:List τ} {J:List τ → Nat → α → Option ρ} {i0:Nat} {a0:α} {p:ρ} {V:Nat → α → List (Nat × AV)} (hf:J (l.drop i0) i0 a0 = some p)
    (h0:∀ i v (hq:J (l.drop i) i v = some p),l.length ≤ i → J [] i v = some p → awp P dm n0 a (y8 (V i v ++ L0)) h (KL dm.m n0 J l p V L0 h i v hq (a2l id Q)))
    (h1:∀ i v (hq:J (l.drop i) i v = some p) x,i < l.length → l[i]? = some x → J (x :: l.drop (i + 1)) i v = some p → awp P dm n0 a (y8 (V i v ++ L0)) h (KL dm.m n0 J l p V L0 h i v hq (a2l id Q)))
    (hc:a3e dm.m n0 (y8 bs) h (V i0 a0 ++ L0,h)):awp P dm n0 (.block id (.loop a)) (y8 bs) h Q:=by
  refine b7y (fun q:LI J l p => (V q.1.1 q.1.2 ++ L0,h)) (fun q => l.length - q.1.1) ⟨(i0,a0),hf⟩ hc ?_
  rintro ⟨⟨i,v⟩,hq⟩
  rcases d4t l i with ⟨hl,hd⟩ | ⟨hl,x,hx,hd⟩
  · exact h0 i v hq hl (by have:=hq; simp only [hd] at this; exact this)
  · exact h1 i v hq x hl hx (by have:=hq; simp only [hd] at this; exact this)
theorem wlI {l:List τ} {G:List τ → Nat → Option ρ} {p:ρ} {V:Nat → List (Nat × AV)} (hf:G l 0 = some p)
    (h0:∀ i hq,l.length ≤ i → G [] i = some p → awp P dm n0 a (y8 (V i ++ L0)) h (KL dm.m n0 (fun xs i (v:Unit) => G xs i) l p (fun i _ => V i) L0 h i () hq (a2l id Q)))
    (h1:∀ i hq x,i < l.length → l[i]? = some x → G (x :: l.drop (i + 1)) i = some p → awp P dm n0 a (y8 (V i ++ L0)) h (KL dm.m n0 (fun xs i (v:Unit) => G xs i) l p (fun i _ => V i) L0 h i () hq (a2l id Q)))
    (hL:kpB bs ks = L0:=by dsimp) (hc:a3e dm.m n0 (y8 bs) h (V 0 ++ L0,h):=by exact ckr):awp P dm n0 ((lI ks V).f (.block id (.loop a))) (y8 bs) h Q :=
  wL0 (J:=(fun xs i (v:Unit) => G xs i)) (V:=(fun i _ => V i)) (i0:=0) (a0:=()) hf (fun i v => h0 i) (fun i v => h1 i) hc
theorem wlN {l:List τ} {G:List τ → Option ρ} {p:ρ} {V:Nat → List (Nat × AV)} (hf:G l = some p)
    (h0:∀ i hq,l.length ≤ i → G [] = some p → awp P dm n0 a (y8 (V i ++ L0)) h (KL dm.m n0 (fun xs i (v:Unit) => G xs) l p (fun i _ => V i) L0 h i () hq (a2l id Q)))
    (h1:∀ i hq x,i < l.length → l[i]? = some x → G (x :: l.drop (i + 1)) = some p → awp P dm n0 a (y8 (V i ++ L0)) h (KL dm.m n0 (fun xs i (v:Unit) => G xs) l p (fun i _ => V i) L0 h i () hq (a2l id Q)))
    (hL:kpB bs ks = L0:=by dsimp) (hc:a3e dm.m n0 (y8 bs) h (V 0 ++ L0,h):=by exact ckr):awp P dm n0 ((lN ks V).f (.block id (.loop a))) (y8 bs) h Q :=
  wL0 (J:=(fun xs i (v:Unit) => G xs)) (V:=(fun i _ => V i)) (i0:=0) (a0:=()) hf (fun i v => h0 i) (fun i v => h1 i) hc
theorem wlA {l:List τ} {G:List τ → α → Option ρ} {p:ρ} {a0:α} {V:Nat → α → List (Nat × AV)} (hf:G l a0 = some p)
    (h0:∀ i v hq,l.length ≤ i → G [] v = some p → awp P dm n0 a (y8 (V i v ++ L0)) h (KL dm.m n0 (fun xs i (v:α) => G xs v) l p V L0 h i v hq (a2l id Q)))
    (h1:∀ i v hq x,i < l.length → l[i]? = some x → G (x :: l.drop (i + 1)) v = some p → awp P dm n0 a (y8 (V i v ++ L0)) h (KL dm.m n0 (fun xs i (v:α) => G xs v) l p V L0 h i v hq (a2l id Q)))
    (hL:kpB bs ks = L0:=by dsimp) (hc:a3e dm.m n0 (y8 bs) h (V 0 a0 ++ L0,h):=by exact ckr):awp P dm n0 ((lA ks V).f (.block id (.loop a))) (y8 bs) h Q :=
  wL0 (J:=(fun xs i (v:α) => G xs v)) (V:=V) (i0:=0) (a0:=a0) hf (fun i v => h0 i v) (fun i v => h1 i v) hc
theorem f2z {l:List τ} {G:List τ → Nat → α → Option ρ} {p:ρ} {a0:α} {V:Nat → α → List (Nat × AV)} (hf:G l 0 a0 = some p)
    (h0:∀ i v hq,l.length ≤ i → G [] i v = some p → awp P dm n0 a (y8 (V i v ++ L0)) h (KL dm.m n0 (fun xs i (v:α) => G xs i v) l p V L0 h i v hq (a2l id Q)))
    (h1:∀ i v hq x,i < l.length → l[i]? = some x → G (x :: l.drop (i + 1)) i v = some p → awp P dm n0 a (y8 (V i v ++ L0)) h (KL dm.m n0 (fun xs i (v:α) => G xs i v) l p V L0 h i v hq (a2l id Q)))
    (hL:kpB bs ks = L0:=by dsimp) (hc:a3e dm.m n0 (y8 bs) h (V 0 a0 ++ L0,h):=by exact ckr):awp P dm n0 ((lIA ks V).f (.block id (.loop a))) (y8 bs) h Q :=
  wL0 (J:=(fun xs i (v:α) => G xs i v)) (V:=V) (i0:=0) (a0:=a0) hf (fun i v => h0 i v) (fun i v => h1 i v) hc
theorem f3a {l:List τ} {G:List τ → α → Nat → Option ρ} {p:ρ} {a0:α} {V:Nat → α → List (Nat × AV)} (hf:G l a0 0 = some p)
    (h0:∀ i v hq,l.length ≤ i → G [] v i = some p → awp P dm n0 a (y8 (V i v ++ L0)) h (KL dm.m n0 (fun xs i (v:α) => G xs v i) l p V L0 h i v hq (a2l id Q)))
    (h1:∀ i v hq x,i < l.length → l[i]? = some x → G (x :: l.drop (i + 1)) v i = some p → awp P dm n0 a (y8 (V i v ++ L0)) h (KL dm.m n0 (fun xs i (v:α) => G xs v i) l p V L0 h i v hq (a2l id Q)))
    (hL:kpB bs ks = L0:=by dsimp) (hc:a3e dm.m n0 (y8 bs) h (V 0 a0 ++ L0,h):=by exact ckr):awp P dm n0 ((lAI ks V).f (.block id (.loop a))) (y8 bs) h Q :=
  wL0 (J:=(fun xs i (v:α) => G xs v i)) (V:=V) (i0:=0) (a0:=a0) hf (fun i v => h0 i v) (fun i v => h1 i v) hc
end
class Wk (P:Program) (H:Prop) (f:outParam Nat) (args:outParam (List AV)) (r:outParam AV):Prop where
  out:H → a0z P f .flat args r
instance {P:Program} {H:Prop} {f:Nat} {args:List AV} {r:AV}:CoeFun (Wk P H f args r) (fun _ => H → a0z P f .flat args r):=⟨fun w => w.out⟩
end Go.R
end
section
set_option linter.all false
namespace Go.R
open Go
section
variable {P:Program} {dm:Md} {n0:Nat} {bs:List (Nat × AV)} {h:List l7} {K:(Nat → AV) → List l7 → Prop} {Q:AQ}
theorem slq {o:Option Nat} {s:Nat} {b e:Bool} {op:AOp} {n:a1h} (he:e = true) (hn:a0i P dm (.q ⟨o,some (s,b),op⟩ n) (y8 ((s,.bool true) :: bs)) h K) (ht:y8 bs s = .bool e:=by rfl):a0i P dm (.q ⟨o,some (s,b),op⟩ n) (y8 bs) h K:=d0u ht he hn
theorem sfq {o:Option Nat} {s:Nat} {b e:Bool} {op:AOp} {n:a1h} (he:¬ e = true) (hn:a0i P dm (.q ⟨o,some (s,b),op⟩ n) (y8 ((s,.bool false) :: bs)) h K) (ht:y8 bs s = .bool e:=by rfl):a0i P dm (.q ⟨o,some (s,b),op⟩ n) (y8 bs) h K:=d0u ht (bf he) hn
theorem sgE {op:AOp} {n:a1h} {d s:Nat} {b v:Bool} {V:AV} (hn:a0i P dm n (y8 ((d,gs v b V) :: bs)) h K) (ht:y8 bs s = .bool v:=by rfl) (hon:v = b → qv h bs op = some V:=by intro hv; (try simp only [a5b hv]); dsimp):a0i P dm (.q ⟨some d,some (s,b),op⟩ n) (y8 bs) h K:=by
  cases hvb:(v == b) with
  | true =>
    have e:v = b:=by simpa using hvb
    rw [a5b e] at hn
    subst e
    exact s_on ht (a2z (h':=h) (v:=V) (fun k' hk => d5e (hon rfl) hk) hn)
  | false =>
    have e:¬ v = b:=by simpa using hvb
    rw [show gs v b V = .skip from if_neg e] at hn
    exact d9i ht hvb hn
theorem pkE {c a b:AX} {n:a1h} {d:Nat} {v x y:Bool} (hn:a0i P dm n (y8 ((d,.bool (bif v then x else y)) :: bs)) h K) (hc:c.ev (y8 bs) = .bool v:=by rfl) (h1:v = true → a.ev (y8 bs) = .bool x:=by intro hv; (try simp only [a5b hv]); rfl) (h2:v = false → b.ev (y8 bs) = .bool y:=by intro hv; (try simp only [a5b hv]); rfl):a0i P dm (.q ⟨some d,none,.pick c a b⟩ n) (y8 bs) h K:=d7u hc h1 h2 hn
theorem pgE {c a b:AX} {n:a1h} {d s:Nat} {v1 b1 v2 x y:Bool} (hn:a0i P dm n (y8 ((d,gs v1 b1 (.bool (bif v2 then x else y))) :: bs)) h K) (ht:y8 bs s = .bool v1:=by rfl) (hc:v1 = b1 → c.ev (y8 bs) = .bool v2:=by intro hv; (try simp only [a5b hv]); rfl) (h1:v1 = b1 → v2 = true → a.ev (y8 bs) = .bool x:=by intro hw hv; (try simp only [a5b hw,a5b hv]); rfl) (h2:v1 = b1 → v2 = false → b.ev (y8 bs) = .bool y:=by intro hw hv; (try simp only [a5b hw,a5b hv]); rfl):a0i P dm (.q ⟨some d,some (s,b1),.pick c a b⟩ n) (y8 bs) h K:=f2u ht hc h1 h2 hn
theorem ggE {op:AOp} {n:a1h} {d s:Nat} {b1 b2 v1 v2:Bool} {V:AV} (hn:a0i P dm n (y8 ((d,gs v1 b1 (gs v2 b2 V)) :: bs)) h K) (ht:y8 bs s = gs v1 b1 (.bool v2):=by rfl) (hon:v1 = b1 → v2 = b2 → qv h bs op = some V:=by intro hw hv; simp only [a5b hw,a5b hv]; dsimp):a0i P dm (.q ⟨some d,some (s,b2),op⟩ n) (y8 bs) h K:=by
  by_cases hw:v1 = b1
  · rw [a5b hw] at hn ht
    exact sgE hn ht (hon hw)
  · have e:∀ W,gs v1 b1 W = .skip:=fun W => if_neg hw
    rw [e] at hn ht
    exact d7q ht hn
theorem iaA {α:Type} {enc:α → AV} {l:List α} {e:α} {n:a1h} {d z j:Nat} {k:IntKind} {x i:AX} (hn:a0i P dm n (y8 ((d,.iptr (enc e) 0) :: bs)) h K) (hx:x.ev (y8 bs) = .lst z (l.map enc):=by rfl) (hi:i.ev (y8 bs) = .int k (j:Int):=by rfl) (hl:l[j]? = some e:=by assumption):a0i P dm (.q ⟨some d,none,.iaddr z x i⟩ n) (y8 bs) h K:=a2z (d4v hx hi hl) hn
theorem ixA {α:Type} {enc:α → AV} {l:List α} {e:α} {n:a1h} {d z:Nat} {j:Int} {k:IntKind} {x i:AX} (hn:a0i P dm n (y8 ((d,.iptr (enc e) 0) :: bs)) h K) (hx:x.ev (y8 bs) = .lst z (l.map enc):=by rfl) (hi:i.ev (y8 bs) = .int k j:=by rfl) (hl:idx l j = some e:=by assumption):a0i P dm (.q ⟨some d,none,.iaddr z x i⟩ n) (y8 bs) h K:=a2z (c5z hx hi (c9s hl) (d2g hl)) hn
theorem lgE {α:Type} {enc:α → AV} {l:List α} {n:a1h} {d s z:Nat} {b v:Bool} {x:AX} (hn:a0i P dm n (y8 ((d,gs v b (.int .i64 l.length)) :: bs)) h K) (ht:y8 bs s = .bool v:=by rfl) (hx:v = b → x.ev (y8 bs) = .lst z (l.map enc):=by intro hv; (try simp only [a5b hv]); rfl):a0i P dm (.q ⟨some d,some (s,b),.len x⟩ n) (y8 bs) h K:=s_g _ ht (fun hv => ⟨rfl,.of (by simp only [aqP,hx hv]) trivial,by simp only [aqV,hx hv]; exact lenV _ _⟩) hn
theorem eqE {op:AOp} {n:a1h} {d:Nat} {v:Bool} (hn:a0i P dm n (y8 ((d,.bool v) :: bs)) h K) (hv:aqV op (AX.ev (y8 bs)) h = .bool v:=by rfl) (hq:op.quiet = true:=by rfl) (hp:aqQ dm.m op (AX.ev (y8 bs)) h:=by repeat first | exact trivial | exact rfl | exact nle | refine ⟨?_,?_⟩):a0i P dm (.q ⟨some d,none,op⟩ n) (y8 bs) h K:=s_q _ hq hp hv hn
theorem isT {T:a1h} {t:Nat → AV} (hn:a0i P dm T t h K):a0i P dm T t h K:=hn
theorem isA {n0:Nat} {a:a0l} {t:Nat → AV} (hn:awp P dm n0 a t h Q):awp P dm n0 a t h Q:=hn
end
set_option maxRecDepth 10000
theorem W {p:Prop} (h:p:=by
  repeat' first
    | ((with_reducible refine isT ?_); first
        | refine go 3 ?_
        | refine go 1 ?_
        | with_reducible refine a9v ?_
        | (rcases oi hf with ⟨c,hf⟩ | ⟨c,hf⟩ <;> first | refine slq c ?_ | refine sfq c ?_)
        | refine bx ?_
        | refine sb ?_
        | refine sgE ?_
        | refine ggE ?_
        | refine pkE ?_
        | refine pgE ?_
        | refine s_on rfl ?_
        | refine c4y rfl ?_
        | refine b8a rfl rfl trivial ?_
        | refine d2h rfl trivial ?_
        | refine ln fun hl => ?_
        | refine lnS fun hl => ?_
        | refine ia hx ?_
        | refine iaA ?_
        | refine ixA ?_
        | refine a2z (d2k rfl rfl hx) ?_
        | refine lgE ?_
        | refine eqE ?_
        | (obtain ⟨x,ex,hf⟩:=ob hf; first | refine ix ex ?_ | refine cl (Wk.out ex) ?_ | refine cll (Wk.out ex) ?_ | refine a2z (d2j rfl rfl (c9s ex) (d2g ex)) ?_)
        | (obtain ⟨hg,hf⟩:=og hf))
    | ((with_reducible refine isA ?_); first
        | (refine wCu hf (fun v hf => ?_) (fun v hf => ?_) <;> (try dsimp only [List.cons_append,List.nil_append]))
        | (refine wFu hf (fun p hf hr => ?_) (fun v hf => ?_) <;> (try dsimp only [List.cons_append,List.nil_append]))
        | (refine wlI hf (fun i hq hle hf => ?_) (fun i hq x hlt hx hf => ?_) <;> (try dsimp only [List.cons_append,List.nil_append]))
        | (refine wlN hf (fun i hq hle hf => ?_) (fun i hq x hlt hx hf => ?_) <;> (try dsimp only [List.cons_append,List.nil_append]))
        | (refine wlA hf (fun i v hq hle hf => ?_) (fun i v hq x hlt hx hf => ?_) <;> (try dsimp only [List.cons_append,List.nil_append]))
        | (refine f2z hf (fun i v hq hle hf => ?_) (fun i v hq x hlt hx hf => ?_) <;> (try dsimp only [List.cons_append,List.nil_append]))
        | (refine f3a hf (fun i v hq hle hf => ?_) (fun i v hq x hlt hx hf => ?_) <;> (try dsimp only [List.cons_append,List.nil_append]))
        | (refine f2w hf (fun v hf => ?_) (fun v hf => ?_) <;> (try dsimp only [List.cons_append,List.nil_append]))
        | (refine f2x hf (fun p hf hr => ?_) (fun v hf => ?_) <;> (try dsimp only [List.cons_append,List.nil_append]))
        | with_reducible refine a5h ?_
        | with_reducible refine a0n ?_
        | with_reducible refine a4s ?_
        | with_reducible refine b6d ?_
        | with_reducible refine c7v ?_
        | refine wt (dlt hlt) ?_
        | refine wg (dlf hle) ?_
        | refine wt rfl ?_
        | refine wg rfl ?_
        | (rcases oi hf with ⟨c,hf⟩ | ⟨c,hf⟩ <;> first | refine wt c ?_ | refine wf c ?_)
        | (refine a7u ?_; cases hf; (repeat cases hr); first | exact rf | exact b8b ⟨nle,trivial⟩ rfl (.refl _) | exact b8b ⟨.of trivial trivial,trivial⟩ rfl (.refl _) | exact b8b ⟨trivial,⟨trivial,trivial⟩⟩ rfl (.refl _))
        | (obtain ⟨hg,hf⟩:=og hf))
    | with_reducible refine a4g ?_
    | with_reducible refine c7u ?_
    | with_reducible refine c7t ?_
    | with_reducible refine b4i ?_
    | with_reducible refine c5x ?_
    | (refine e3u ?_; cases hf; exact ckr)
    | (cases hf; exact ⟨⟨_,rfl⟩,ckr⟩)
    | exact kln hf rfl hlt ckr
    | exact kln (w:=()) hf rfl hlt ckr
 ):p:=h
end Go.R
end
section
set_option linter.all false
namespace Go.R
open Go
section
variable {f:Nat → Option Nat}
@[simp] theorem rn_int {k:IntKind} {n:Int}:ren f (.int k n) = .int k n:=rfl
@[simp] theorem rn_bool {b:Bool}:ren f (.bool b) = .bool b:=rfl
@[simp] theorem rn_str {s:List UInt8}:ren f (.str s) = .str s:=rfl
@[simp] theorem rn_lst {z:Nat} {l:List AV}:ren f (.lst z l) = .lst z l:=rfl
@[simp] theorem rn_nil:ren f .nil = .nil:=rfl
@[simp] theorem rn_skip:ren f .skip = .skip:=rfl
@[simp] theorem rn_agg {l:List AV}:ren f (.agg l) = .agg (a5a f l):=rfl
@[simp] theorem rn_tup {l:List AV}:ren f (.tup l) = .tup (a5a f l):=rfl
@[simp] theorem rn_fn {g:Nat} {l:List AV}:ren f (.fn g l) = .fn g (a5a f l):=rfl
@[simp] theorem rns_nil:a5a f [] = []:=rfl
@[simp] theorem rns_cons {a:AV} {l:List AV}:a5a f (a :: l) = ren f a :: a5a f l:=rfl
end
section
variable {f:Nat → Option Nat}
@[simp] theorem rn_own {o lo n:Nat}:ren f (.own o lo n) = match f o with | some o' => .own o' lo n | none => .undef:=rfl
@[simp] theorem rn_ptr {o i k:Nat}:ren f (.ptr o i k) = match f o with | some o' => .ptr o' i k | none => .undef:=rfl
@[simp] theorem rO_box {z:Nat} {v:AV}:a4i f (.box z v) = .box z (ren f v):=rfl
@[simp] theorem rO_row {z:Nat} {l:List AV}:a4i f (.row z l) = .row z l:=rfl
end
@[simp] def bkN (n:Nat):List Nat → Nat → Option Nat
  | [],k => some (n + k)
  | j :: _,0 => some j
  | _ :: js,k + 1 => bkN n js k
theorem d6t (n:Nat):∀ (js:List Nat) (k:Nat),a3v n js k = bkN n js k
  | [],k => by simp [a3v,bkN]
  | j :: js,0 => by simp [a3v,bkN]
  | j :: js,k + 1 => by
    have:=d6t n js k
    simp only [a3v] at this
    simp only [a3v,bkN,List.length_cons,Nat.add_lt_add_iff_right,List.getElem?_cons_succ,Nat.add_sub_add_right]
    exact this
@[simp] def seB:List l7 → Nat → l7 → List l7
  | [],_,_ => []
  | _ :: l,0,x => x :: l
  | y :: l,n + 1,x => y :: seB l n x
theorem d0y:∀ (l:List l7) (n:Nat) (x:l7),l.set n x = seB l n x
  | [],_,_ => rfl
  | _ :: _,0,_ => rfl
  | y :: l,n + 1,x => by simp [seB,d0y l n x]
@[simp] def stB:List l7 → List Nat → List l7 → List l7
  | h,[],xs => h ++ xs
  | h,_ :: _,[] => h
  | h,j :: js,x :: xs => stB (seB h j x) js xs
theorem e1d:∀ (js:List Nat) (h xs:List l7),b0f h js xs ++ xs.drop js.length = stB h js xs
  | [],h,xs => by simp [b0f,stB]
  | j :: js,h,[] => by simp [b0f,stB]
  | j :: js,h,x :: xs => by
    have:=e1d js (h.set j x) xs
    simp only [b0f,stB,List.length_cons,List.drop_succ_cons,← d0y]
    exact this
theorem e9b (h:List l7) (js:List Nat) (hout:List l7):b1e h js hout = stB h js (hout.map (a4i (bkN h.length js))):=by
  have e:a3v h.length js = bkN h.length js:=funext fun k => d6t _ js k
  unfold b1e
  rw [e,List.map_drop,e1d]
@[simp] def jsA:List AV → List Nat
  | [] => []
  | .ptr o _ _ :: l => o :: jsA l
  | .own o _ _ :: l => o :: jsA l
  | _ :: l => jsA l
@[simp] def B1 {α:Type} (x:α):Option α:=some x
@[simp] def mpB (bs:List (Nat × AV)):List AX → List AV
  | [] => []
  | x :: l => evB bs x :: mpB bs l
theorem f1y (bs:List (Nat × AV)):∀ l:List AX,l.map (evB bs) = mpB bs l
  | [] => rfl
  | x :: l => by simp only [List.map_cons,mpB,f1y bs l]
@[simp] def mrB (f:Nat → Option Nat):List l7 → List l7
  | [] => []
  | x :: l => a4i f x :: mrB f l
theorem e1j (f:Nat → Option Nat):∀ l:List l7,l.map (a4i f) = mrB f l
  | [] => rfl
  | x :: l => by simp only [List.map_cons,mrB,e1j f l]
class Wh (P:Program) (H:Prop) (dm:outParam Md) (f:outParam Nat) (args:outParam (List AV)) (hin:outParam (List l7)) (r:outParam AV) (hout:outParam (List l7)):Prop where
  out:H → a2a P dm f args hin r hout
instance {P:Program} {H:Prop} {dm:Md} {f:Nat} {args:List AV} {hin:List l7} {r:AV} {hout:List l7}:CoeFun (Wh P H dm f args hin r hout) (fun _ => H → a2a P dm f args hin r hout):=⟨fun w => w.out⟩
section
variable {P:Program} {dm:Md} {n0:Nat} {bs:List (Nat × AV)} {h h2:List l7} {K:(Nat → AV) → List l7 → Prop} {Q:AQ} {n:a1h} {d:Nat}
theorem clh {f:Nat} {args:List AX} {as' cs2:List AV} {js:List Nat} {r v:AV} {hi hout hs:List l7} (hc:a2a P dm.nz f as' hi r hout) (hn:a0i P dm n (y8 ((d,v) :: bs)) h2 K) (hj:B1 (jsA (mpB bs args)) = some js:=by dsimp) (hf:d7t h [] js (args.map (AX.ev (y8 bs))) = some (cs2,hs,[]):=by rfl) (hl:LeL cs2 as':=by exact .refl _) (hh:LeH hs hi:=by exact .refl _) (hv:B1 (ren (bkN h.length js) r) = some v:=by dsimp) (h2e:B1 (stB h js (mrB (bkN h.length js) hout)) = some h2:=by dsimp):a0i P dm (.q ⟨some d,none,.call f args⟩ n) (y8 bs) h K:=by
  cases hj; cases hv; cases h2e
  have e:a3v h.length (jsA (mpB bs args)) = bkN h.length (jsA (mpB bs args)):=funext fun k => d6t _ _ k
  exact a2z (b1s [] (jsA (mpB bs args)) (fun _ => rfl) hc hf hl hh (by rw [e]) (by show b1e h _ hout = _; rw [e9b,e1j])) hn
theorem rmE {x y:AX} {a b:Int} (hn:a0i P dm n (y8 ((d,.int .i64 (a.tmod b)) :: bs)) h K) (hx:x.ev (y8 bs) = .int .i64 a:=by rfl) (hy:y.ev (y8 bs) = .int .i64 b:=by rfl) (hb:b ≠ 0:=by first | assumption | decide):a0i P dm (.q ⟨some d,none,.bin .rem x y⟩ n) (y8 bs) h K:=s_q _ rfl (.of (by simp only [aqP,hx,hy]; exact ⟨rfl,hb⟩) trivial) (by simp only [aqV,hx,hy]; rfl) hn
theorem quE {x y:AX} {a b:Int} (hn:a0i P dm n (y8 ((d,.int .i64 (w64 (a.tdiv b))) :: bs)) h K) (hx:x.ev (y8 bs) = .int .i64 a:=by rfl) (hy:y.ev (y8 bs) = .int .i64 b:=by rfl) (hb:b ≠ 0:=by first | assumption | decide):a0i P dm (.q ⟨some d,none,.bin .quo x y⟩ n) (y8 bs) h K:=s_q _ rfl (.of (by simp only [aqP,hx,hy]; exact ⟨rfl,hb⟩) trivial) (by simp only [aqV,hx,hy]; rfl) hn
theorem sbl {a x:AX} {o j f z sz:Nat} {y v:AV} {re:List a2q} {other:a1h} (hn:a0i P dm n (y8 bs) h2 K) (ha:evB bs a = .ptr o j f:=by dsimp) (ho:hgB h o = some (.box z y):=by dsimp) (hx:B1 (evB bs x) = some v:=by dsimp) (hs:a4y h v:=by exact trivial) (hp:a5s y f sz v:=by first | exact ⟨rfl,nle⟩ | exact ⟨rfl,rfl,rfl⟩) (hl:b4z h v.cells:=by repeat first | exact trivial | refine ⟨⟨rfl,trivial⟩,?_⟩) (hh:B1 (h.set o (.box z (celB y f v))) = some h2:=by dsimp [AV.cells]) (hr:b5a dm.m re (y8 bs) h h2:=by exact trivial) (ho2:a0i P dm other (y8 bs) h K:=by exact trivial):a0i P dm (.l ⟨none,none,.store sz a x⟩ re n other) (y8 bs) h K:=by
  cases hh; cases hx
  exact c7s (b0h ((b1x bs a).symm.trans ha) ((b8e h o).symm.trans ho) (b1x bs x).symm hs hp hl (c6c y f _)) hr ho2 hn
theorem nkE {x:AX} {o i f z:Nat} {y:AV} (hn:a0i P dm n (y8 ((d,.ptr o i f) :: bs)) h K) (hx:x.ev (y8 bs) = .ptr o i f:=by rfl) (ho:hgB h o = some (.box z y):=by dsimp):a0i P dm (.q ⟨some d,none,.nilck x⟩ n) (y8 bs) h K:=by
  rw [b8e] at ho
  exact s_q _ rfl (.of (by simp only [aqP,hx,ho]) trivial) (by simp only [aqV,hx]) hn
theorem rH {m:Bool} {os:List AOp} {r:AV} {hout:List l7} {t:Nat → AV} (hp:b3v m t h os:=by repeat first | exact trivial | exact nle | exact .of trivial trivial | exact rfl | refine ⟨?_,?_⟩) (hk:a9u n0 h.length (List.range hout.length) = true:=by rfl) (hh:LeH (b0a h (List.range hout.length)) hout:=by exact .refl _) (hl:Le (ren (a6i (List.range hout.length)) (pack (b2f t h os))) r:=by exact .refl _):c4x m n0 os r hout .ret t h:=b1w [] (List.range hout.length) rfl hp hk hh hl
end
section
variable {P:Program} {dm:Md} {bs:List (Nat × AV)}
theorem b3b {f:Nat} {args:List AV} {hin hout:List l7} {r:AV} {fn:Func} {ac:(Nat → a0l → a0l) → a0l} {ac2:a0l} {slots:List AOp} {N k:Nat} (ms:List Nat) (as:List An) (hf:P.funcs[f]? = some fn) (hk:awp P dm k ac2 (y8 bs) hin (c4x dm.m k slots r hout)) (sp:List (Nat × List (List Nat)):=[]) (h0:b5n P fn = b6t sp P fn:=by kernel_rfl) (hc:∀ A,c8h sp A ms P fn = some (ac A,slots,N):=by intro A; conv => lhs; cbv) (h2:ac (fun n c => (lk ms as n).f c) = ac2:=by dsimp [lk]) (hm:P.follows .mixedOrders = true:=by exact mixed) (hl:args.length ≤ N:=by exact nle) (hb:b5c 0 args = bs:=by dsimp only [b5c]) (hz:dm.z = false:=by rfl) (hk0:hin.length = k:=by rfl):a2a P dm f args hin r hout:=by
  subst hb hk0 h2
  exact a2a.of_awp hm hf (c3z (fun n c => (lk ms as n).e c) h0 (hc _)) hl (by rw [b6s]; exact hk) hz
end
abbrev SA:=List (Nat × AV) × List l7
abbrev VS:=(Nat → AV) → (Nat → AV) → (Nat → Nat → AV) → (Nat → l7) → (Nat → Nat) → List (Nat × AV) × Option (List l7)
@[simp] def dfl:Option AV → AV
  | some v => v
  | none => .undef
@[simp] def boxV:Option l7 → AV
  | some (.box _ v) => v
  | some .dead => .undef
  | some (.row _ _) => .undef
  | some (.rowx _ _ _ _) => .undef
  | some (.map _) => .undef
  | none => .undef
@[simp] def aggL:AV → List AV
  | .agg l => l
  | .undef => []
  | .skip => []
  | .int _ _ => []
  | .bool _ => []
  | .str _ => []
  | .nil => []
  | .lst _ _ => []
  | .own _ _ _ => []
  | .tup _ => []
  | .ptr _ _ _ => []
  | .iptr _ _ => []
  | .fn _ _ => []
  | .hdr _ _ _ => []
@[simp] def rowL:Option l7 → List AV
  | some (.row _ l) => l
  | some .dead => []
  | some (.box _ _) => []
  | some (.rowx _ _ _ _) => []
  | some (.map _) => []
  | none => []
@[simp] def rowS:Option l7 → Nat
  | some (.row z _) => z
  | some .dead => 0
  | some (.box _ _) => 0
  | some (.rowx _ _ _ _) => 0
  | some (.map _) => 0
  | none => 0
@[simp] def obD:Option l7 → l7
  | some x => x
  | none => .dead
@[simp] def wX (h:List l7) (k:Nat):AV:=boxV (hgB h k)
@[simp] def cX (h:List l7) (k i:Nat):AV:=dfl (lgB (aggL (boxV (hgB h k))) i)
@[simp] def oX (h:List l7) (k:Nat):l7:=obD (hgB h k)
@[simp] def mX (h:List l7) (k:Nat):Nat:=(rowL (hgB h k)).length
@[simp] def prS (L:List (Nat × AV)) (h:List l7):List (Nat × AV) × Option (List l7) → SA
  | (a,none) => (a ++ L,h)
  | (a,some H) => (a ++ L,H)
@[simp] def vS (bs:List (Nat × AV)) (h:List l7) (ks:List Nat) (V:VS):Option SA:=some (prS (kpB bs ks) h (V (getB bs) (wX h) (cX h) (oX h) (mX h)))
inductive Pl where
  | no
  | sl (s:Nat)
  | sc (s i:Nat)
  | bx (o i:Nat)
structure Ft where
  m:List (Nat × Nat)
  q:List Nat
  gs:List Gh
  nh:Nat
@[simp] def inM:List (Nat × Nat) → Nat → Bool
  | [],_ => false
  | (k,_) :: r,n => bif k == n then true else inM r n
@[simp] def lkM:List (Nat × Nat) → Nat → Nat
  | [],n => n
  | (k,j) :: r,n => bif k == n then j else lkM r n
@[simp] def adM:Ft → Nat → Nat → Ft
  | ⟨m,q,gs,nh⟩,k,j => bif inM m k then ⟨m,q,gs,nh⟩ else ⟨(k,j) :: m,q ++ [k],gs,nh⟩
@[simp] def rowZ (H:List l7) (k:Nat):Nat:=rowS (hgB H k)
@[simp] def gNil:Pl → Nat → Gh
  | .sl s,z => .nilT s z
  | .sc s i,z => .nilS s i z
  | .bx o i,z => .nilC o i z
  | .no,z => .kill z
@[simp] def gFrz:Pl → Gh
  | .sl s => .frz s
  | .sc s i => .frzS s i
  | .bx o i => .frzC o i
  | .no => .kill 0
@[simp] def plI:Pl → Nat → Pl
  | .sl s,i => .sc s i
  | .bx o _,i => .bx o i
  | .sc _ _,_ => .no
  | .no,_ => .no
@[simp] def adN (H:List l7):Ft → Pl → Nat → Ft
  | ⟨m,q,gs,nh⟩,p,k => bif inM m k then ⟨m,q,gs,nh⟩ else ⟨(k,nh) :: m,q,gs ++ [gNil p (rowZ H k)],nh + 1⟩
@[simp] def adF:Ft → Pl → Ft
  | ⟨m,q,gs,nh⟩,p => ⟨m,q,gs ++ [gFrz p],nh⟩
inductive Tg where
  | no
  | own (o:Nat)
  | ptr (o:Nat)
  | nil
  | lst
  | agg (l:List AV)
@[simp] def tgv:AV → Tg
  | .agg l => .agg l
  | .undef => .no
  | .skip => .no
  | .int _ _ => .no
  | .bool _ => .no
  | .str _ => .no
  | .nil => .nil
  | .lst _ _ => .lst
  | .own o _ _ => .own o
  | .tup _ => .no
  | .ptr o _ _ => .ptr o
  | .iptr _ _ => .no
  | .fn _ _ => .no
  | .hdr _ _ _ => .no
@[simp] def tgOwn:Nat → Pl → Tg → Ft → Ft
  | j,_,.own k,f => adM f k j
  | _,p,.lst,f => adF f p
  | _,_,.no,f => f
  | _,_,.ptr _,f => f
  | _,_,.nil,f => f
  | _,_,.agg _,f => f
@[simp] def tgPtr:Nat → Tg → Ft → Ft
  | j,.ptr k,f => adM f k j
  | _,.lst,f => f
  | _,.no,f => f
  | _,.own _,f => f
  | _,.nil,f => f
  | _,.agg _,f => f
@[simp] def tgNil (H:List l7):Pl → Tg → Ft → Ft
  | p,.own k,f => adN H f p k
  | _,.lst,f => f
  | _,.no,f => f
  | _,.ptr _,f => f
  | _,.nil,f => f
  | _,.agg _,f => f
mutual
@[simp] def ftT (H:List l7):Nat → Pl → Tg → Tg → Ft → Ft
  | 0,_,_,_,f => f
  | _ + 1,p,.own j,b,f => tgOwn j p b f
  | _ + 1,_,.ptr j,b,f => tgPtr j b f
  | _ + 1,p,.nil,b,f => tgNil H p b f
  | n + 1,p,.agg l,b,f => ftA H n p l b f
  | _ + 1,_,.lst,_,f => f
  | _ + 1,_,.no,_,f => f
@[simp] def ftA (H:List l7):Nat → Pl → List AV → Tg → Ft → Ft
  | 0,_,_,_,f => f
  | n + 1,p,l,.agg l',f => ftL H n p 0 l l' f
  | _ + 1,_,_,.own _,f => f
  | _ + 1,_,_,.ptr _,f => f
  | _ + 1,_,_,.nil,f => f
  | _ + 1,_,_,.lst,f => f
  | _ + 1,_,_,.no,f => f
@[simp] def ftL (H:List l7):Nat → Pl → Nat → List AV → List AV → Ft → Ft
  | 0,_,_,_,_,f => f
  | n + 1,p,i,a :: l,b :: l',f => ftL H n p (i + 1) l l' (ftT H n (plI p i) (tgv a) (tgv b) f)
  | _ + 1,_,_,[],_,f => f
  | _ + 1,_,_,_ :: _,[],f => f
end
@[simp] def isAg:AV → Bool
  | .agg _ => true
  | .undef => false
  | .skip => false
  | .int _ _ => false
  | .bool _ => false
  | .str _ => false
  | .nil => false
  | .lst _ _ => false
  | .own _ _ _ => false
  | .tup _ => false
  | .ptr _ _ _ => false
  | .iptr _ _ => false
  | .fn _ _ => false
  | .hdr _ _ _ => false
@[simp] def ftB (H:List l7) (j:Nat) (v v':AV) (f:Ft):Ft:=bif isAg v then ftL H 60 (.bx j 0) 0 (aggL v) (aggL v') f else ftT H 60 (.bx j 0) (tgv v) (tgv v') f
@[simp] def ftO (h H:List l7):Nat → Ft → Ft
  | 0,f => f
  | _ + 1,⟨m,[],gs,nh⟩ => ⟨m,[],gs,nh⟩
  | n + 1,⟨m,k :: q,gs,nh⟩ => ftO h H n (ftB H (lkM m k) (boxV (hgB h (lkM m k))) (boxV (hgB H k)) ⟨m,q,gs,nh⟩)
@[simp] def ftS (H:List l7) (bs:List (Nat × AV)):List (Nat × AV) → Ft → Ft
  | [],f => f
  | (s,v) :: r,f => ftS H bs r (ftT H 60 (.sl s) (tgv (getB bs s)) (tgv v) f)
@[simp] def ptrN:AV → Nat
  | .ptr o _ _ => o
  | .undef => 0
  | .skip => 0
  | .int _ _ => 0
  | .bool _ => 0
  | .str _ => 0
  | .nil => 0
  | .lst _ _ => 0
  | .own _ _ _ => 0
  | .agg _ => 0
  | .tup _ => 0
  | .iptr _ _ => 0
  | .fn _ _ => 0
  | .hdr _ _ _ => 0
@[simp] def ptrF:AV → Nat
  | .ptr _ _ f => f
  | .undef => 0
  | .skip => 0
  | .int _ _ => 0
  | .bool _ => 0
  | .str _ => 0
  | .nil => 0
  | .lst _ _ => 0
  | .own _ _ _ => 0
  | .agg _ => 0
  | .tup _ => 0
  | .iptr _ _ => 0
  | .fn _ _ => 0
  | .hdr _ _ _ => 0
@[simp] def rsV (bs:List (Nat × AV)) (h:List l7):AOp → Pl × AV
  | .mov (.t s) => (.sl s,getB bs s)
  | .mov (.c v) => (.no,v)
  | .load _ ag (.t s) => (.bx (ptrN (getB bs s)) (ptrF (getB bs s)),bif ag then boxV (hgB h (ptrN (getB bs s))) else dfl (lgB (aggL (boxV (hgB h (ptrN (getB bs s))))) (ptrF (getB bs s))))
  | _ => (.no,.undef)
@[simp] def ftR (H:List l7):List (Pl × AV) → List AV → Ft → Ft
  | (p,a) :: os,v :: l,f => ftR H os l (ftT H 60 p (tgv a) (tgv v) f)
  | [],_,f => f
  | _ :: _,[],f => f
@[simp] def mvs (bs:List (Nat × AV)) (h:List l7):List AOp → List (Pl × AV)
  | [] => []
  | o :: l => rsV bs h o :: mvs bs h l
@[simp] def tupL:AV → List AV
  | .tup l => l
  | .undef => []
  | .skip => []
  | .int _ _ => []
  | .bool _ => []
  | .str _ => []
  | .nil => []
  | .lst _ _ => []
  | .own _ _ _ => []
  | .agg _ => []
  | .ptr _ _ _ => []
  | .iptr _ _ => []
  | .fn _ _ => []
  | .hdr _ _ _ => []
@[simp] def iniM:Nat → Nat → List (Nat × Nat)
  | 0,_ => []
  | n + 1,k => (k,k) :: iniM n (k + 1)
@[simp] def iniQ:Nat → Nat → List Nat
  | 0,_ => []
  | n + 1,k => k :: iniQ n (k + 1)
@[simp] def jsM (m:List (Nat × Nat)):List l7 → Nat → List Nat
  | [],_ => []
  | _ :: l,k => lkM m k :: jsM m l (k + 1)
@[simp] def outF (H:List l7):Ft → List Gh × List Nat
  | ⟨m,_,gs,_⟩ => (gs,jsM m H 0)
@[simp] def lnO:List l7 → Nat
  | [] => 0
  | _ :: l => lnO l + 1
@[simp] def unT:List AOp → AV → List AV
  | [_],v => [v]
  | [],_ => []
  | _ :: _ :: _,v => tupL v
@[simp] def fitT (n0:Nat) (bs:List (Nat × AV)) (h:List l7) (vs:List (Nat × AV)) (H:List l7):List Gh × List Nat:=outF H (ftO h H 60 (ftS H bs vs ⟨iniM n0 0,iniQ n0 0,[],lnO h⟩))
@[simp] def fitR (n0:Nat) (bs:List (Nat × AV)) (h:List l7) (os:List AOp) (r:AV) (H:List l7):List Gh × List Nat:=outF H (ftO h H 60 (ftR H (mvs bs h os) (unT os r) ⟨iniM n0 0,iniQ n0 0,[],lnO h⟩))
section
theorem tkL (L:List AV):(L.drop 0).take L.length = L:=by simp
theorem tkM (L:List AV):L.take L.length = L:=by simp
theorem leA {a b:AV} (h:Le a b:=by first | exact .refl _ | (repeat' first | exact .refl _ | exact .nil _ | exact LeL.nil | refine .agg ?_ | refine .tup ?_ | refine LeL.cons ?_ ?_ | exact .of_eq (congrArg (AV.own _ 0) (by simp)) | exact .of_eq (congrArg (AV.fn _) (kf.hr _)) | exact .of_eq (congrArg (AV.int _) (b3w (by assumption) (by assumption))) | exact .of_eq (congrArg (AV.int _) (congrArg Int.ofNat (by simp))) | exact .of_eq (congrArg (AV.lst _) (tkL _)) | exact .of_eq (congrArg (AV.lst _) (tkM _)) | exact .of_eq (congrArg (AV.lst _) (tk _)) | exact .of_eq (congrArg (AV.lst _) (tko _)) | exact .of_eq (congrArg (AV.lst _) (by first | (simp; done) | (simp [List.take_of_length_le]; done) | fail)) | fail)):Le a b:=h
theorem f0o {a b:List l7} (h:LeH a b:=by first | exact .refl _ | (repeat' first | exact LeH.nil | refine LeH.cons ?_ ?_ | exact LeO.refl _ | exact LeO.box leA | refine LeO.row ?_ | exact LeL.nil | refine LeL.cons ?_ ?_ | exact leA | fail)):LeH a b:=h
theorem f5i {p:Prop} (h:p:=by repeat' first | exact trivial | refine ⟨.refl _,?_⟩ | refine ⟨leA,?_⟩ | fail):p:=h
theorem rpA {p:Prop} (h:p:=by repeat first | exact trivial | exact nle | exact .of trivial trivial | exact rfl | refine ⟨?_,?_⟩):p:=h
theorem f5j {α:Type} {enc:α → AV} {l:List α} {e:α} {bs:List (Nat × AV)} {h:List l7} {z j:Nat} {k:IntKind} {x i:AX} {v:AV} (hl:l[j]? = some e) (hx:x.ev (y8 bs) = .lst z (l.map enc)) (hi:i.ev (y8 bs) = .int k (j:Int)) (hv:v = .iptr (enc e) 0):Agn false (.iaddr z x i) bs h v:=by rw [hv]; exact e1h hx hi hl
theorem f0q {α:Type} {enc:α → AV} {l:List α} {e:α} {bs:List (Nat × AV)} {h:List l7} {a:AX} {o j f sz z:Nat} {ag:Bool} {v:AV} (hl:l[j]? = some e) (hx:a.ev (y8 bs) = .ptr o j f) (ho:h[o]? = some (.row z (l.map enc))) (hp:ldP (enc e) f sz ag) (hv:ldV (enc e) f sz ag = v):Agn false (.load sz ag a) bs h v:=d7s hx ho hl hp hv
theorem f5k {α:Type} {enc:α → AV} {l:List α} {e:α} {bs:List (Nat × AV)} {h:List l7} {z:Nat} {j:Int} {k:IntKind} {x i:AX} {v:AV} (hl:idx l j = some e) (hx:x.ev (y8 bs) = .lst z (l.map enc)) (hi:i.ev (y8 bs) = .int k j) (hv:v = .iptr (enc e) 0):Agn false (.iaddr z x i) bs h v:=by rw [hv]; exact d4z hx hi (c9s hl) (d2g hl)
theorem f3b {α:Type} {l:List α} {e:α} {j:Int} (hl:idx l j = some e):l[0 + j.toNat]? = some e:=by rw [Nat.zero_add]; exact d2g hl
theorem f5l {bs:List (Nat × AV)} {h:List l7} {α:Type} {enc:α → AV} {l:List α} {e:α} {z z' o m:Nat} {j:Int} {k:IntKind} {x i:AX} {v:AV} (hl:idx l j = some e) (hx:x.ev (y8 bs) = .own o 0 m) (hi:i.ev (y8 bs) = .int k j) (ho:h[o]? = some (.row z' (l.map enc))) (hm:l.length = m) (hz:z' = z) (hv:v = .ptr o (0 + j.toNat) 0):Agn false (.iaddr z x i) bs h v:=by
  rw [hv]
  exact c4z hx hi (c9s hl) (by have h1:=c9s hl; have h2:=(List.getElem?_eq_some_iff.1 (d2g hl)).1; omega) ho hz
theorem agA {p:Prop} (h:p:=by first | exact b7z | exact trivial | (refine .inr ?_; repeat' first | exact trivial | exact f5j (by assumption) rfl rfl rfl | exact f5k (by assumption) rfl rfl rfl | exact c3x rfl rfl (by omega) (by omega) | exact b4e rfl rfl (by omega) (by omega) | exact b9g rfl rfl rfl (by omega) (by omega) | exact b1r rfl rfl rfl (by omega) (by omega) | exact f0h rfl | exact e1g rfl rfl | exact f0q (by assumption) rfl rfl nle rfl | exact f0q (f3b (by assumption)) rfl rfl nle rfl | exact f0q (enc:=encI) (by assumption) rfl rfl ⟨rfl,rfl⟩ rfl | exact c4z rfl rfl (by omega) (by omega) rfl rfl | exact f5l (by assumption) rfl rfl rfl rfl rfl rfl | exact nle | exact rfl | exact .of trivial trivial | refine ⟨?_,?_⟩)):p:=h
theorem ckz {m:Bool} {n0:Nat} {bs vs:List (Nat × AV)} {h H h':List l7} {gs:List Gh} {js:List Nat} {t':Nat → AV} (hfit:B1 (fitT n0 bs h vs H) = some (gs,js):=by dsimp) (hg:ghs m (y8 bs) h gs = some (t',h'):=by rfl) (hk:a9u n0 h'.length js = true:=by rfl) (hf:c5p (a6i js) t' vs:=by exact f5i) (hh:LeH (b0a h' js) H:=by exact f0o):a3e m n0 (y8 bs) h (vs,H):=⟨gs,js,t',h',hg,hk,hf,hh⟩
theorem rHz {m:Bool} {n0:Nat} {bs:List (Nat × AV)} {h h' hout:List l7} {os:List AOp} {r:AV} {gs:List Gh} {js:List Nat} {t':Nat → AV} (hfit:B1 (fitR n0 bs h os r hout) = some (gs,js):=by dsimp) (hg:ghs m (y8 bs) h gs = some (t',h'):=by rfl) (hp:b3v m t' h' os:=by exact rpA) (hk:a9u n0 h'.length js = true:=by rfl) (hh:LeH (b0a h' js) hout:=by exact f0o) (hl:Le (ren (a6i js) (pack (b2f t' h' os))) r:=by exact leA):c4x m n0 os r hout .ret (y8 bs) h:=b1w gs js hg hp hk hh hl
theorem e1m {a b:List AV} (h:LeL a b:=by first | exact .refl _ | (repeat' first | exact LeL.nil | refine LeL.cons ?_ ?_ | exact leA | fail)):LeL a b:=h
theorem rFz {m:Bool} {t:Nat → AV} {h:List l7} {os:List AOp} {r:AV} {bs:List AV} {ks:List Nat} (hp:b3v m t h os:=by exact rpA) (ha:a0x true h (b2f t h os) = some (bs,ks):=by rfl) (hn:ks.Nodup:=by decide) (hl:Le (pack bs) r:=by exact leA):c7p m .fresh os r .ret t h:=b3n hp ha hn hl
theorem rWz {m:Bool} {t:Nat → AV} {h:List l7} {os:List AOp} {r:AV} {bs:List AV} {ks:List Nat} (hp:b3v m t h os:=by exact rpA) (ha:a0x false h (b2f t h os) = some (bs,ks):=by rfl) (hl:Le (pack bs) r:=by exact leA):c7p m .weak os r .ret t h:=c7w hp ha hl
theorem rLz {m:Bool} {t:Nat → AV} {h:List l7} {os:List AOp} {r:AV} (hp:b3v m t h os:=by exact rpA) (hf:rflats (b2f t h os) = true:=by rfl) (hl:Le (pack (b2f t h os)) r:=by exact leA):c7p m .flat os r .ret t h:=b8b hp hf hl
end
def cZ {α:Type} (ks:List Nat) (V:α → VS):An:=aC _ 10 ks V
def fZ {α:Type} (ks:List Nat) (V:α → VS):An:=aC _ 11 ks V
section
variable {P:Program} {dm:Md} {n0:Nat} {bs:List (Nat × AV)} {h:List l7} {Q:AQ} {a b:a0l} {id:Nat} {ks:List Nat} {α ρ τ:Type} {r:ρ}
theorem wCz {x:Option α} {f:α → Option ρ} {V:α → VS} {S:α → SA} (hf:Option.bind x f = some r) (h1:∀ v,x = some v → awp P dm n0 a (y8 bs) h (d4s dm.m n0 (S v) Q)) (h2:∀ v,f v = some r → awp P dm n0 b (y8 (S v).1) (S v).2 Q) (hS:∀ v,vS bs h ks (V v) = some (S v):=by intro v; dsimp):awp P dm n0 a (y8 bs) h (b1v (awp P dm n0 ((cZ ks V).f b)) Q):=by
  obtain ⟨v,e,hf⟩:=ob hf
  exact a8y (S v) (h1 v e) (h2 v hf)
theorem f5m {x:Option α} {f:α → Option ρ} {V:α → VS} {S:α → SA} (hf:Option.bind x f = some r) (h1:∀ v,x = some v → awp P dm n0 a (y8 bs) h (a2l id (d4s dm.m n0 (S v) Q))) (h2:∀ v,f v = some r → awp P dm n0 b (y8 (S v).1) (S v).2 Q) (hS:∀ v,vS bs h ks (V v) = some (S v):=by intro v; dsimp):awp P dm n0 a (y8 bs) h (a2l id (b1v (awp P dm n0 ((cZ ks V).f b)) Q)):=by
  obtain ⟨v,e,hf⟩:=ob hf
  exact c7q (S v) (h1 v e) (h2 v hf)
theorem wFz {R:Type} {x:Option (Fl R α)} {f:Fl R α → Option ρ} {V:α → VS} {S:α → SA} (hf:Option.bind x f = some r) (h1:∀ p,x = some p → f p = some r → awp P dm n0 a (y8 bs) h (c2d dm.m n0 (fun q:{s:α // p = .go s} => S q.1) Q)) (h2:∀ s,f (.go s) = some r → awp P dm n0 b (y8 (S s).1) (S s).2 Q) (hS:∀ v,vS bs h ks (V v) = some (S v):=by intro v; dsimp):awp P dm n0 a (y8 bs) h (b1v (awp P dm n0 ((fZ ks V).f b)) Q):=by
  obtain ⟨p,e,hf⟩:=ob hf
  exact c2e (fun q:{s:α // p = .go s} => S q.1) (h1 p e hf) (fun q => h2 q.1 (by rw [← q.2]; exact hf))
theorem f5n {R:Type} {x:Option (Fl R α)} {f:Fl R α → Option ρ} {V:α → VS} {S:α → SA} (hf:Option.bind x f = some r) (h1:∀ p,x = some p → f p = some r → awp P dm n0 a (y8 bs) h (a2l id (c2d dm.m n0 (fun q:{s:α // p = .go s} => S q.1) Q))) (h2:∀ s,f (.go s) = some r → awp P dm n0 b (y8 (S s).1) (S s).2 Q) (hS:∀ v,vS bs h ks (V v) = some (S v):=by intro v; dsimp):awp P dm n0 a (y8 bs) h (a2l id (b1v (awp P dm n0 ((fZ ks V).f b)) Q)):=by
  obtain ⟨p,e,hf⟩:=ob hf
  exact c3w (fun q:{s:α // p = .go s} => S q.1) (h1 p e hf) (fun q => h2 q.1 (by rw [← q.2]; exact hf))
abbrev LZ (J:List τ → Nat → α → Option ρ) (l:List τ) (p:ρ):={q:Nat × α // J (l.drop q.1) q.1 q.2 = some p}
abbrev KZ (m:Bool) (n0:Nat) (J:List τ → Nat → α → Option ρ) (l:List τ) (p:ρ) (S:Nat → α → SA) (i:Nat) (v:α) (hq:J (l.drop i) i v = some p) (Q:AQ):AQ:=b7x m n0 (fun q:LZ J l p => S q.1.1 q.1.2) (fun q => l.length - q.1.1) ⟨(i,v),hq⟩ Q
theorem klz {m:Bool} {t:Nat → AV} {h':List l7} {J:List τ → Nat → α → Option ρ} {l:List τ} {p:ρ} {S:Nat → α → SA} {i j:Nat} {v w:α} {hq:J (l.drop i) i v = some p} (hf:J (l.drop j) j w = some p) (hj:j = i + 1) (hl:i < l.length) (hc:a3e m n0 t h' (S j w)):KZ m n0 J l p S i v hq Q .norm t h' :=
  ⟨⟨(j,w),hf⟩,by subst hj; exact mul hl,hc⟩
theorem wZ0 {l:List τ} {J:List τ → Nat → α → Option ρ} {i0:Nat} {a0:α} {p:ρ} {S:Nat → α → SA} (hf:J (l.drop i0) i0 a0 = some p)
    (h0:∀ i v (hq:J (l.drop i) i v = some p),l.length ≤ i → J [] i v = some p → awp P dm n0 a (y8 (S i v).1) (S i v).2 (KZ dm.m n0 J l p S i v hq (a2l id Q)))
    (h1:∀ i v (hq:J (l.drop i) i v = some p) x,i < l.length → l[i]? = some x → J (x :: l.drop (i + 1)) i v = some p → awp P dm n0 a (y8 (S i v).1) (S i v).2 (KZ dm.m n0 J l p S i v hq (a2l id Q)))
    (hc:a3e dm.m n0 (y8 bs) h (S i0 a0)):awp P dm n0 (.block id (.loop a)) (y8 bs) h Q:=by
  refine b7y (fun q:LZ J l p => S q.1.1 q.1.2) (fun q => l.length - q.1.1) ⟨(i0,a0),hf⟩ hc ?_
  rintro ⟨⟨i,v⟩,hq⟩
  rcases d4t l i with ⟨hl,hd⟩ | ⟨hl,x,hx,hd⟩
  · exact h0 i v hq hl (by have:=hq; simp only [hd] at this; exact this)
  · exact h1 i v hq x hl hx (by have:=hq; simp only [hd] at this; exact this)
abbrev KY (m:Bool) (n0:Nat) (J:Nat → α → Option ρ) (p:ρ) (S:α → SA) (k:Nat) (v:α) (hq:J k v = some p) (Q:AQ):AQ:=b7x m n0 (fun q:{q:Nat × α // J q.1 q.2 = some p} => S q.1.2) (fun q => q.1.1) ⟨(k,v),hq⟩ Q
theorem kyz {m:Bool} {t:Nat → AV} {h':List l7} {J:Nat → α → Option ρ} {p:ρ} {S:α → SA} {k:Nat} {v w:α} {hq:J (k + 1) v = some p} (hf:J k w = some p) (hc:a3e m n0 t h' (S w)):KY m n0 J p S (k + 1) v hq Q .norm t h':=⟨⟨(k,w),hf⟩,Nat.lt_succ_self _,hc⟩
theorem wY0 {J:Nat → α → Option ρ} {N:Nat} {a0:α} {p:ρ} {S:α → SA} (hf:J N a0 = some p) (hz:∀ v,¬ J 0 v = some p) (h1:∀ k v (hq:J (k + 1) v = some p),J (k + 1) v = some p → awp P dm n0 a (y8 (S v).1) (S v).2 (KY dm.m n0 J p S (k + 1) v hq (a2l id Q))) (hc:a3e dm.m n0 (y8 bs) h (S a0)):awp P dm n0 (.block id (.loop a)) (y8 bs) h Q:=by
  refine b7y (fun q:{q:Nat × α // J q.1 q.2 = some p} => S q.1.2) (fun q => q.1.1) ⟨(N,a0),hf⟩ hc ?_
  rintro ⟨⟨k,v⟩,hq⟩
  cases k with
  | zero => exact absurd hq (hz v)
  | succ k => exact h1 k v hq hq
end
section
variable {P:Program} {dm:Md} {n0:Nat} {bs:List (Nat × AV)} {h:List l7} {Q:AQ} {a:a0l} {id:Nat} {ks:List Nat} {ρ τ:Type}
def zN0 (ks:List Nat) (V:Nat → VS):An:=aL _ 20 ks V
theorem f5o {l:List τ} {G:List τ → Option ρ}  {p:ρ} {V:Nat → VS} {S:Nat → Unit → SA} (hf:G l = some p)
    (h0:∀ i v hq,l.length ≤ i → G [] = some p → awp P dm n0 a (y8 (S i v).1) (S i v).2 (KZ dm.m n0 (fun xs i (v:Unit) => G xs) l p S i v hq (a2l id Q)))
    (h1:∀ i v hq x,i < l.length → l[i]? = some x → G (x :: l.drop (i + 1)) = some p → awp P dm n0 a (y8 (S i v).1) (S i v).2 (KZ dm.m n0 (fun xs i (v:Unit) => G xs) l p S i v hq (a2l id Q)))
    (hS:∀ i (v:Unit),vS bs h ks (V i) = some (S i v):=by intro i v; dsimp) (hc:a3e dm.m n0 (y8 bs) h (S 0 ()):=by exact ckz):awp P dm n0 ((zN0 ks V).f (.block id (.loop a))) (y8 bs) h Q :=
  wZ0 (J:=(fun xs i (v:Unit) => G xs)) (S:=S) (i0:=0) (a0:=()) hf (fun i v => h0 i v) (fun i v => h1 i v) hc
def zN1 {α:Type} (ks:List Nat) (V:Nat → α → VS):An:=aL _ 20 ks V
theorem f5p {α:Type} {l:List τ} {G:List τ → α → Option ρ} {a0:α} {p:ρ} {V:Nat → α → VS} {S:Nat → α → SA} (hf:G l a0 = some p)
    (h0:∀ i v hq,l.length ≤ i → G [] v = some p → awp P dm n0 a (y8 (S i v).1) (S i v).2 (KZ dm.m n0 (fun xs i (v:α) => G xs v) l p S i v hq (a2l id Q)))
    (h1:∀ i v hq x,i < l.length → l[i]? = some x → G (x :: l.drop (i + 1)) v = some p → awp P dm n0 a (y8 (S i v).1) (S i v).2 (KZ dm.m n0 (fun xs i (v:α) => G xs v) l p S i v hq (a2l id Q)))
    (hS:∀ i (v:α),vS bs h ks (V i v) = some (S i v):=by intro i v; dsimp) (hc:a3e dm.m n0 (y8 bs) h (S 0 a0):=by exact ckz):awp P dm n0 ((zN1 ks V).f (.block id (.loop a))) (y8 bs) h Q :=
  wZ0 (J:=(fun xs i (v:α) => G xs v)) (S:=S) (i0:=0) (a0:=a0) hf (fun i v => h0 i v) (fun i v => h1 i v) hc
def zN2 {α:Type} {β:Type} (ks:List Nat) (V:Nat → α × β → VS):An:=aL _ 20 ks V
theorem f5q {α:Type} {β:Type} {l:List τ} {G:List τ → α → β → Option ρ} {a0:α} {a1:β} {p:ρ} {V:Nat → α × β → VS} {S:Nat → α × β → SA} (hf:G l a0 a1 = some p)
    (h0:∀ i v hq,l.length ≤ i → G [] v.1 v.2 = some p → awp P dm n0 a (y8 (S i v).1) (S i v).2 (KZ dm.m n0 (fun xs i (v:α × β) => G xs v.1 v.2) l p S i v hq (a2l id Q)))
    (h1:∀ i v hq x,i < l.length → l[i]? = some x → G (x :: l.drop (i + 1)) v.1 v.2 = some p → awp P dm n0 a (y8 (S i v).1) (S i v).2 (KZ dm.m n0 (fun xs i (v:α × β) => G xs v.1 v.2) l p S i v hq (a2l id Q)))
    (hS:∀ i (v:α × β),vS bs h ks (V i v) = some (S i v):=by intro i v; dsimp) (hc:a3e dm.m n0 (y8 bs) h (S 0 (a0,a1)):=by exact ckz):awp P dm n0 ((zN2 ks V).f (.block id (.loop a))) (y8 bs) h Q :=
  wZ0 (J:=(fun xs i (v:α × β) => G xs v.1 v.2)) (S:=S) (i0:=0) (a0:=(a0,a1)) hf (fun i v => h0 i v) (fun i v => h1 i v) hc
def zN3 {α:Type} {β:Type} {γ:Type} (ks:List Nat) (V:Nat → α × β × γ → VS):An:=aL _ 20 ks V
theorem f5s {α:Type} {β:Type} {γ:Type} {l:List τ} {G:List τ → α → β → γ → Option ρ} {a0:α} {a1:β} {a2:γ} {p:ρ} {V:Nat → α × β × γ → VS} {S:Nat → α × β × γ → SA} (hf:G l a0 a1 a2 = some p)
    (h0:∀ i v hq,l.length ≤ i → G [] v.1 v.2.1 v.2.2 = some p → awp P dm n0 a (y8 (S i v).1) (S i v).2 (KZ dm.m n0 (fun xs i (v:α × β × γ) => G xs v.1 v.2.1 v.2.2) l p S i v hq (a2l id Q)))
    (h1:∀ i v hq x,i < l.length → l[i]? = some x → G (x :: l.drop (i + 1)) v.1 v.2.1 v.2.2 = some p → awp P dm n0 a (y8 (S i v).1) (S i v).2 (KZ dm.m n0 (fun xs i (v:α × β × γ) => G xs v.1 v.2.1 v.2.2) l p S i v hq (a2l id Q)))
    (hS:∀ i (v:α × β × γ),vS bs h ks (V i v) = some (S i v):=by intro i v; dsimp) (hc:a3e dm.m n0 (y8 bs) h (S 0 (a0,a1,a2)):=by exact ckz):awp P dm n0 ((zN3 ks V).f (.block id (.loop a))) (y8 bs) h Q :=
  wZ0 (J:=(fun xs i (v:α × β × γ) => G xs v.1 v.2.1 v.2.2)) (S:=S) (i0:=0) (a0:=(a0,a1,a2)) hf (fun i v => h0 i v) (fun i v => h1 i v) hc
def zN4 {α:Type} {β:Type} {γ:Type} {δ:Type} (ks:List Nat) (V:Nat → α × β × γ × δ → VS):An:=aL _ 20 ks V
theorem f5t {α:Type} {β:Type} {γ:Type} {δ:Type} {l:List τ} {G:List τ → α → β → γ → δ → Option ρ} {a0:α} {a1:β} {a2:γ} {a3:δ} {p:ρ} {V:Nat → α × β × γ × δ → VS} {S:Nat → α × β × γ × δ → SA} (hf:G l a0 a1 a2 a3 = some p)
    (h0:∀ i v hq,l.length ≤ i → G [] v.1 v.2.1 v.2.2.1 v.2.2.2 = some p → awp P dm n0 a (y8 (S i v).1) (S i v).2 (KZ dm.m n0 (fun xs i (v:α × β × γ × δ) => G xs v.1 v.2.1 v.2.2.1 v.2.2.2) l p S i v hq (a2l id Q)))
    (h1:∀ i v hq x,i < l.length → l[i]? = some x → G (x :: l.drop (i + 1)) v.1 v.2.1 v.2.2.1 v.2.2.2 = some p → awp P dm n0 a (y8 (S i v).1) (S i v).2 (KZ dm.m n0 (fun xs i (v:α × β × γ × δ) => G xs v.1 v.2.1 v.2.2.1 v.2.2.2) l p S i v hq (a2l id Q)))
    (hS:∀ i (v:α × β × γ × δ),vS bs h ks (V i v) = some (S i v):=by intro i v; dsimp) (hc:a3e dm.m n0 (y8 bs) h (S 0 (a0,a1,a2,a3)):=by exact ckz):awp P dm n0 ((zN4 ks V).f (.block id (.loop a))) (y8 bs) h Q :=
  wZ0 (J:=(fun xs i (v:α × β × γ × δ) => G xs v.1 v.2.1 v.2.2.1 v.2.2.2)) (S:=S) (i0:=0) (a0:=(a0,a1,a2,a3)) hf (fun i v => h0 i v) (fun i v => h1 i v) hc
def zN7 {α:Type} {β:Type} {γ:Type} {δ:Type} {ε:Type} {ζ:Type} {η:Type} (ks:List Nat) (V:Nat → α × β × γ × δ × ε × ζ × η → VS):An:=aL _ 20 ks V
theorem f5u {α:Type} {β:Type} {γ:Type} {δ:Type} {ε:Type} {ζ:Type} {η:Type} {l:List τ} {G:List τ → α → β → γ → δ → ε → ζ → η → Option ρ} {a0:α} {a1:β} {a2:γ} {a3:δ} {a4:ε} {a5:ζ} {a6:η} {p:ρ} {V:Nat → α × β × γ × δ × ε × ζ × η → VS} {S:Nat → α × β × γ × δ × ε × ζ × η → SA} (hf:G l a0 a1 a2 a3 a4 a5 a6 = some p)
    (h0:∀ i v hq,l.length ≤ i → G [] v.1 v.2.1 v.2.2.1 v.2.2.2.1 v.2.2.2.2.1 v.2.2.2.2.2.1 v.2.2.2.2.2.2 = some p → awp P dm n0 a (y8 (S i v).1) (S i v).2 (KZ dm.m n0 (fun xs i (v:α × β × γ × δ × ε × ζ × η) => G xs v.1 v.2.1 v.2.2.1 v.2.2.2.1 v.2.2.2.2.1 v.2.2.2.2.2.1 v.2.2.2.2.2.2) l p S i v hq (a2l id Q)))
    (h1:∀ i v hq x,i < l.length → l[i]? = some x → G (x :: l.drop (i + 1)) v.1 v.2.1 v.2.2.1 v.2.2.2.1 v.2.2.2.2.1 v.2.2.2.2.2.1 v.2.2.2.2.2.2 = some p → awp P dm n0 a (y8 (S i v).1) (S i v).2 (KZ dm.m n0 (fun xs i (v:α × β × γ × δ × ε × ζ × η) => G xs v.1 v.2.1 v.2.2.1 v.2.2.2.1 v.2.2.2.2.1 v.2.2.2.2.2.1 v.2.2.2.2.2.2) l p S i v hq (a2l id Q)))
    (hS:∀ i (v:α × β × γ × δ × ε × ζ × η),vS bs h ks (V i v) = some (S i v):=by intro i v; dsimp) (hc:a3e dm.m n0 (y8 bs) h (S 0 (a0,a1,a2,a3,a4,a5,a6)):=by exact ckz):awp P dm n0 ((zN7 ks V).f (.block id (.loop a))) (y8 bs) h Q :=
  wZ0 (J:=(fun xs i (v:α × β × γ × δ × ε × ζ × η) => G xs v.1 v.2.1 v.2.2.1 v.2.2.2.1 v.2.2.2.2.1 v.2.2.2.2.2.1 v.2.2.2.2.2.2)) (S:=S) (i0:=0) (a0:=(a0,a1,a2,a3,a4,a5,a6)) hf (fun i v => h0 i v) (fun i v => h1 i v) hc
def zI0 (ks:List Nat) (V:Nat → VS):An:=aL _ 20 ks V
theorem f5v {l:List τ} {G:List τ → Nat → Option ρ}  {p:ρ} {V:Nat → VS} {S:Nat → Unit → SA} (hf:G l 0 = some p)
    (h0:∀ i v hq,l.length ≤ i → G [] i = some p → awp P dm n0 a (y8 (S i v).1) (S i v).2 (KZ dm.m n0 (fun xs i (v:Unit) => G xs i) l p S i v hq (a2l id Q)))
    (h1:∀ i v hq x,i < l.length → l[i]? = some x → G (x :: l.drop (i + 1)) i = some p → awp P dm n0 a (y8 (S i v).1) (S i v).2 (KZ dm.m n0 (fun xs i (v:Unit) => G xs i) l p S i v hq (a2l id Q)))
    (hS:∀ i (v:Unit),vS bs h ks (V i) = some (S i v):=by intro i v; dsimp) (hc:a3e dm.m n0 (y8 bs) h (S 0 ()):=by exact ckz):awp P dm n0 ((zI0 ks V).f (.block id (.loop a))) (y8 bs) h Q :=
  wZ0 (J:=(fun xs i (v:Unit) => G xs i)) (S:=S) (i0:=0) (a0:=()) hf (fun i v => h0 i v) (fun i v => h1 i v) hc
def zI1 {α:Type} (ks:List Nat) (V:Nat → α → VS):An:=aL _ 20 ks V
theorem f5x {α:Type} {l:List τ} {G:List τ → Nat → α → Option ρ} {a0:α} {p:ρ} {V:Nat → α → VS} {S:Nat → α → SA} (hf:G l 0 a0 = some p)
    (h0:∀ i v hq,l.length ≤ i → G [] i v = some p → awp P dm n0 a (y8 (S i v).1) (S i v).2 (KZ dm.m n0 (fun xs i (v:α) => G xs i v) l p S i v hq (a2l id Q)))
    (h1:∀ i v hq x,i < l.length → l[i]? = some x → G (x :: l.drop (i + 1)) i v = some p → awp P dm n0 a (y8 (S i v).1) (S i v).2 (KZ dm.m n0 (fun xs i (v:α) => G xs i v) l p S i v hq (a2l id Q)))
    (hS:∀ i (v:α),vS bs h ks (V i v) = some (S i v):=by intro i v; dsimp) (hc:a3e dm.m n0 (y8 bs) h (S 0 a0):=by exact ckz):awp P dm n0 ((zI1 ks V).f (.block id (.loop a))) (y8 bs) h Q :=
  wZ0 (J:=(fun xs i (v:α) => G xs i v)) (S:=S) (i0:=0) (a0:=a0) hf (fun i v => h0 i v) (fun i v => h1 i v) hc
def zI2 {α:Type} {β:Type} (ks:List Nat) (V:Nat → α × β → VS):An:=aL _ 20 ks V
theorem f5y {α:Type} {β:Type} {l:List τ} {G:List τ → Nat → α → β → Option ρ} {a0:α} {a1:β} {p:ρ} {V:Nat → α × β → VS} {S:Nat → α × β → SA} (hf:G l 0 a0 a1 = some p)
    (h0:∀ i v hq,l.length ≤ i → G [] i v.1 v.2 = some p → awp P dm n0 a (y8 (S i v).1) (S i v).2 (KZ dm.m n0 (fun xs i (v:α × β) => G xs i v.1 v.2) l p S i v hq (a2l id Q)))
    (h1:∀ i v hq x,i < l.length → l[i]? = some x → G (x :: l.drop (i + 1)) i v.1 v.2 = some p → awp P dm n0 a (y8 (S i v).1) (S i v).2 (KZ dm.m n0 (fun xs i (v:α × β) => G xs i v.1 v.2) l p S i v hq (a2l id Q)))
    (hS:∀ i (v:α × β),vS bs h ks (V i v) = some (S i v):=by intro i v; dsimp) (hc:a3e dm.m n0 (y8 bs) h (S 0 (a0,a1)):=by exact ckz):awp P dm n0 ((zI2 ks V).f (.block id (.loop a))) (y8 bs) h Q :=
  wZ0 (J:=(fun xs i (v:α × β) => G xs i v.1 v.2)) (S:=S) (i0:=0) (a0:=(a0,a1)) hf (fun i v => h0 i v) (fun i v => h1 i v) hc
def zI3 {α:Type} {β:Type} {γ:Type} (ks:List Nat) (V:Nat → α × β × γ → VS):An:=aL _ 20 ks V
theorem f6a {α:Type} {β:Type} {γ:Type} {l:List τ} {G:List τ → Nat → α → β → γ → Option ρ} {a0:α} {a1:β} {a2:γ} {p:ρ} {V:Nat → α × β × γ → VS} {S:Nat → α × β × γ → SA} (hf:G l 0 a0 a1 a2 = some p)
    (h0:∀ i v hq,l.length ≤ i → G [] i v.1 v.2.1 v.2.2 = some p → awp P dm n0 a (y8 (S i v).1) (S i v).2 (KZ dm.m n0 (fun xs i (v:α × β × γ) => G xs i v.1 v.2.1 v.2.2) l p S i v hq (a2l id Q)))
    (h1:∀ i v hq x,i < l.length → l[i]? = some x → G (x :: l.drop (i + 1)) i v.1 v.2.1 v.2.2 = some p → awp P dm n0 a (y8 (S i v).1) (S i v).2 (KZ dm.m n0 (fun xs i (v:α × β × γ) => G xs i v.1 v.2.1 v.2.2) l p S i v hq (a2l id Q)))
    (hS:∀ i (v:α × β × γ),vS bs h ks (V i v) = some (S i v):=by intro i v; dsimp) (hc:a3e dm.m n0 (y8 bs) h (S 0 (a0,a1,a2)):=by exact ckz):awp P dm n0 ((zI3 ks V).f (.block id (.loop a))) (y8 bs) h Q :=
  wZ0 (J:=(fun xs i (v:α × β × γ) => G xs i v.1 v.2.1 v.2.2)) (S:=S) (i0:=0) (a0:=(a0,a1,a2)) hf (fun i v => h0 i v) (fun i v => h1 i v) hc
def zI4 {α:Type} {β:Type} {γ:Type} {δ:Type} (ks:List Nat) (V:Nat → α × β × γ × δ → VS):An:=aL _ 20 ks V
theorem f6b {α:Type} {β:Type} {γ:Type} {δ:Type} {l:List τ} {G:List τ → Nat → α → β → γ → δ → Option ρ} {a0:α} {a1:β} {a2:γ} {a3:δ} {p:ρ} {V:Nat → α × β × γ × δ → VS} {S:Nat → α × β × γ × δ → SA} (hf:G l 0 a0 a1 a2 a3 = some p)
    (h0:∀ i v hq,l.length ≤ i → G [] i v.1 v.2.1 v.2.2.1 v.2.2.2 = some p → awp P dm n0 a (y8 (S i v).1) (S i v).2 (KZ dm.m n0 (fun xs i (v:α × β × γ × δ) => G xs i v.1 v.2.1 v.2.2.1 v.2.2.2) l p S i v hq (a2l id Q)))
    (h1:∀ i v hq x,i < l.length → l[i]? = some x → G (x :: l.drop (i + 1)) i v.1 v.2.1 v.2.2.1 v.2.2.2 = some p → awp P dm n0 a (y8 (S i v).1) (S i v).2 (KZ dm.m n0 (fun xs i (v:α × β × γ × δ) => G xs i v.1 v.2.1 v.2.2.1 v.2.2.2) l p S i v hq (a2l id Q)))
    (hS:∀ i (v:α × β × γ × δ),vS bs h ks (V i v) = some (S i v):=by intro i v; dsimp) (hc:a3e dm.m n0 (y8 bs) h (S 0 (a0,a1,a2,a3)):=by exact ckz):awp P dm n0 ((zI4 ks V).f (.block id (.loop a))) (y8 bs) h Q :=
  wZ0 (J:=(fun xs i (v:α × β × γ × δ) => G xs i v.1 v.2.1 v.2.2.1 v.2.2.2)) (S:=S) (i0:=0) (a0:=(a0,a1,a2,a3)) hf (fun i v => h0 i v) (fun i v => h1 i v) hc
def zI7 {α:Type} {β:Type} {γ:Type} {δ:Type} {ε:Type} {ζ:Type} {η:Type} (ks:List Nat) (V:Nat → α × β × γ × δ × ε × ζ × η → VS):An:=aL _ 20 ks V
theorem f6c {α:Type} {β:Type} {γ:Type} {δ:Type} {ε:Type} {ζ:Type} {η:Type} {l:List τ} {G:List τ → Nat → α → β → γ → δ → ε → ζ → η → Option ρ} {a0:α} {a1:β} {a2:γ} {a3:δ} {a4:ε} {a5:ζ} {a6:η} {p:ρ} {V:Nat → α × β × γ × δ × ε × ζ × η → VS} {S:Nat → α × β × γ × δ × ε × ζ × η → SA} (hf:G l 0 a0 a1 a2 a3 a4 a5 a6 = some p)
    (h0:∀ i v hq,l.length ≤ i → G [] i v.1 v.2.1 v.2.2.1 v.2.2.2.1 v.2.2.2.2.1 v.2.2.2.2.2.1 v.2.2.2.2.2.2 = some p → awp P dm n0 a (y8 (S i v).1) (S i v).2 (KZ dm.m n0 (fun xs i (v:α × β × γ × δ × ε × ζ × η) => G xs i v.1 v.2.1 v.2.2.1 v.2.2.2.1 v.2.2.2.2.1 v.2.2.2.2.2.1 v.2.2.2.2.2.2) l p S i v hq (a2l id Q)))
    (h1:∀ i v hq x,i < l.length → l[i]? = some x → G (x :: l.drop (i + 1)) i v.1 v.2.1 v.2.2.1 v.2.2.2.1 v.2.2.2.2.1 v.2.2.2.2.2.1 v.2.2.2.2.2.2 = some p → awp P dm n0 a (y8 (S i v).1) (S i v).2 (KZ dm.m n0 (fun xs i (v:α × β × γ × δ × ε × ζ × η) => G xs i v.1 v.2.1 v.2.2.1 v.2.2.2.1 v.2.2.2.2.1 v.2.2.2.2.2.1 v.2.2.2.2.2.2) l p S i v hq (a2l id Q)))
    (hS:∀ i (v:α × β × γ × δ × ε × ζ × η),vS bs h ks (V i v) = some (S i v):=by intro i v; dsimp) (hc:a3e dm.m n0 (y8 bs) h (S 0 (a0,a1,a2,a3,a4,a5,a6)):=by exact ckz):awp P dm n0 ((zI7 ks V).f (.block id (.loop a))) (y8 bs) h Q :=
  wZ0 (J:=(fun xs i (v:α × β × γ × δ × ε × ζ × η) => G xs i v.1 v.2.1 v.2.2.1 v.2.2.2.1 v.2.2.2.2.1 v.2.2.2.2.2.1 v.2.2.2.2.2.2)) (S:=S) (i0:=0) (a0:=(a0,a1,a2,a3,a4,a5,a6)) hf (fun i v => h0 i v) (fun i v => h1 i v) hc
def d9r {α:Type} (ks:List Nat) (V:Nat → α → VS):An:=aL _ 20 ks V
theorem f0r {α:Type} {l:List τ} {G:List τ → α → Nat → Option ρ} {a0:α} {p:ρ} {V:Nat → α → VS} {S:Nat → α → SA} (hf:G l a0 0 = some p)
    (h0:∀ i v hq,l.length ≤ i → G [] v i = some p → awp P dm n0 a (y8 (S i v).1) (S i v).2 (KZ dm.m n0 (fun xs i (v:α) => G xs v i) l p S i v hq (a2l id Q)))
    (h1:∀ i v hq x,i < l.length → l[i]? = some x → G (x :: l.drop (i + 1)) v i = some p → awp P dm n0 a (y8 (S i v).1) (S i v).2 (KZ dm.m n0 (fun xs i (v:α) => G xs v i) l p S i v hq (a2l id Q)))
    (hS:∀ i (v:α),vS bs h ks (V i v) = some (S i v):=by intro i v; dsimp) (hc:a3e dm.m n0 (y8 bs) h (S 0 a0):=by exact ckz):awp P dm n0 ((d9r ks V).f (.block id (.loop a))) (y8 bs) h Q :=
  wZ0 (J:=(fun xs i (v:α) => G xs v i)) (S:=S) (i0:=0) (a0:=a0) hf (fun i v => h0 i v) (fun i v => h1 i v) hc
def e7s (ks:List Nat) (V:Nat → VS):An:=aL _ 20 ks V
theorem f3h {l:List τ} {G:List τ → Option ρ}  {p:ρ} {V:Nat → VS} {S:Nat → Unit → SA} (hf:G (List.drop 1 l) = some p)
    (h0:∀ i v hq,l.length ≤ i → G [] = some p → awp P dm n0 a (y8 (S i v).1) (S i v).2 (KZ dm.m n0 (fun xs i (v:Unit) => G xs) l p S i v hq (a2l id Q)))
    (h1:∀ i v hq x,i < l.length → l[i]? = some x → G (x :: l.drop (i + 1)) = some p → awp P dm n0 a (y8 (S i v).1) (S i v).2 (KZ dm.m n0 (fun xs i (v:Unit) => G xs) l p S i v hq (a2l id Q)))
    (hS:∀ i (v:Unit),vS bs h ks (V i) = some (S i v):=by intro i v; dsimp) (hc:a3e dm.m n0 (y8 bs) h (S 1 ()):=by exact ckz):awp P dm n0 ((e7s ks V).f (.block id (.loop a))) (y8 bs) h Q :=
  wZ0 (J:=(fun xs i (v:Unit) => G xs)) (S:=S) (i0:=1) (a0:=()) hf (fun i v => h0 i v) (fun i v => h1 i v) hc
def e7t (ks:List Nat) (V:Nat → VS):An:=aL _ 20 ks V
theorem f3i {l:List τ} {G:List τ → Nat → Option ρ}  {p:ρ} {V:Nat → VS} {S:Nat → Unit → SA} (hf:G (List.drop 1 l) 1 = some p)
    (h0:∀ i v hq,l.length ≤ i → G [] i = some p → awp P dm n0 a (y8 (S i v).1) (S i v).2 (KZ dm.m n0 (fun xs i (v:Unit) => G xs i) l p S i v hq (a2l id Q)))
    (h1:∀ i v hq x,i < l.length → l[i]? = some x → G (x :: l.drop (i + 1)) i = some p → awp P dm n0 a (y8 (S i v).1) (S i v).2 (KZ dm.m n0 (fun xs i (v:Unit) => G xs i) l p S i v hq (a2l id Q)))
    (hS:∀ i (v:Unit),vS bs h ks (V i) = some (S i v):=by intro i v; dsimp) (hc:a3e dm.m n0 (y8 bs) h (S 1 ()):=by exact ckz):awp P dm n0 ((e7t ks V).f (.block id (.loop a))) (y8 bs) h Q :=
  wZ0 (J:=(fun xs i (v:Unit) => G xs i)) (S:=S) (i0:=1) (a0:=()) hf (fun i v => h0 i v) (fun i v => h1 i v) hc
def zF1 {α:Type} (ks:List Nat) (V:α → VS):An:=aL _ 21 ks V
theorem f6d {α:Type} {N:Nat} {G:Nat → α → Option ρ} {a0:α} {p:ρ} {V:α → VS} {S:α → SA} (hf:G N a0 = some p)
    (h1:∀ k v hq,G (k + 1) v = some p → awp P dm n0 a (y8 (S v).1) (S v).2 (KY dm.m n0 (fun k (v:α) => G k v) p S (k + 1) v hq (a2l id Q)))
    (hz:∀ v:α,¬ G 0 v = some p:=by intro v hf; cases hf) (hS:∀ v:α,vS bs h ks (V v) = some (S v):=by intro v; dsimp) (hc:a3e dm.m n0 (y8 bs) h (S a0):=by exact ckz):awp P dm n0 ((zF1 ks V).f (.block id (.loop a))) (y8 bs) h Q :=
  wY0 (J:=(fun k (v:α) => G k v)) (S:=S) (N:=N) (a0:=a0) hf hz (fun k v => h1 k v) hc
def zF2 {α:Type} {β:Type} (ks:List Nat) (V:α × β → VS):An:=aL _ 21 ks V
theorem f6e {α:Type} {β:Type} {N:Nat} {G:Nat → α → β → Option ρ} {a0:α} {a1:β} {p:ρ} {V:α × β → VS} {S:α × β → SA} (hf:G N a0 a1 = some p)
    (h1:∀ k v hq,G (k + 1) v.1 v.2 = some p → awp P dm n0 a (y8 (S v).1) (S v).2 (KY dm.m n0 (fun k (v:α × β) => G k v.1 v.2) p S (k + 1) v hq (a2l id Q)))
    (hz:∀ v:α × β,¬ G 0 v.1 v.2 = some p:=by intro v hf; cases hf) (hS:∀ v:α × β,vS bs h ks (V v) = some (S v):=by intro v; dsimp) (hc:a3e dm.m n0 (y8 bs) h (S (a0,a1)):=by exact ckz):awp P dm n0 ((zF2 ks V).f (.block id (.loop a))) (y8 bs) h Q :=
  wY0 (J:=(fun k (v:α × β) => G k v.1 v.2)) (S:=S) (N:=N) (a0:=(a0,a1)) hf hz (fun k v => h1 k v) hc
def zF3 {α:Type} {β:Type} {γ:Type} (ks:List Nat) (V:α × β × γ → VS):An:=aL _ 21 ks V
theorem f6g {α:Type} {β:Type} {γ:Type} {N:Nat} {G:Nat → α → β → γ → Option ρ} {a0:α} {a1:β} {a2:γ} {p:ρ} {V:α × β × γ → VS} {S:α × β × γ → SA} (hf:G N a0 a1 a2 = some p)
    (h1:∀ k v hq,G (k + 1) v.1 v.2.1 v.2.2 = some p → awp P dm n0 a (y8 (S v).1) (S v).2 (KY dm.m n0 (fun k (v:α × β × γ) => G k v.1 v.2.1 v.2.2) p S (k + 1) v hq (a2l id Q)))
    (hz:∀ v:α × β × γ,¬ G 0 v.1 v.2.1 v.2.2 = some p:=by intro v hf; cases hf) (hS:∀ v:α × β × γ,vS bs h ks (V v) = some (S v):=by intro v; dsimp) (hc:a3e dm.m n0 (y8 bs) h (S (a0,a1,a2)):=by exact ckz):awp P dm n0 ((zF3 ks V).f (.block id (.loop a))) (y8 bs) h Q :=
  wY0 (J:=(fun k (v:α × β × γ) => G k v.1 v.2.1 v.2.2)) (S:=S) (N:=N) (a0:=(a0,a1,a2)) hf hz (fun k v => h1 k v) hc
def zF5 {α:Type} {β:Type} {γ:Type} {δ:Type} {ε:Type} (ks:List Nat) (V:α × β × γ × δ × ε → VS):An:=aL _ 21 ks V
theorem f6h {α:Type} {β:Type} {γ:Type} {δ:Type} {ε:Type} {N:Nat} {G:Nat → α → β → γ → δ → ε → Option ρ} {a0:α} {a1:β} {a2:γ} {a3:δ} {a4:ε} {p:ρ} {V:α × β × γ × δ × ε → VS} {S:α × β × γ × δ × ε → SA} (hf:G N a0 a1 a2 a3 a4 = some p)
    (h1:∀ k v hq,G (k + 1) v.1 v.2.1 v.2.2.1 v.2.2.2.1 v.2.2.2.2 = some p → awp P dm n0 a (y8 (S v).1) (S v).2 (KY dm.m n0 (fun k (v:α × β × γ × δ × ε) => G k v.1 v.2.1 v.2.2.1 v.2.2.2.1 v.2.2.2.2) p S (k + 1) v hq (a2l id Q)))
    (hz:∀ v:α × β × γ × δ × ε,¬ G 0 v.1 v.2.1 v.2.2.1 v.2.2.2.1 v.2.2.2.2 = some p:=by intro v hf; cases hf) (hS:∀ v:α × β × γ × δ × ε,vS bs h ks (V v) = some (S v):=by intro v; dsimp) (hc:a3e dm.m n0 (y8 bs) h (S (a0,a1,a2,a3,a4)):=by exact ckz):awp P dm n0 ((zF5 ks V).f (.block id (.loop a))) (y8 bs) h Q :=
  wY0 (J:=(fun k (v:α × β × γ × δ × ε) => G k v.1 v.2.1 v.2.2.1 v.2.2.2.1 v.2.2.2.2)) (S:=S) (N:=N) (a0:=(a0,a1,a2,a3,a4)) hf hz (fun k v => h1 k v) hc
def zF6 {α:Type} {β:Type} {γ:Type} {δ:Type} {ε:Type} {ζ:Type} (ks:List Nat) (V:α × β × γ × δ × ε × ζ → VS):An:=aL _ 21 ks V
theorem f6i {α:Type} {β:Type} {γ:Type} {δ:Type} {ε:Type} {ζ:Type} {N:Nat} {G:Nat → α → β → γ → δ → ε → ζ → Option ρ} {a0:α} {a1:β} {a2:γ} {a3:δ} {a4:ε} {a5:ζ} {p:ρ} {V:α × β × γ × δ × ε × ζ → VS} {S:α × β × γ × δ × ε × ζ → SA} (hf:G N a0 a1 a2 a3 a4 a5 = some p)
    (h1:∀ k v hq,G (k + 1) v.1 v.2.1 v.2.2.1 v.2.2.2.1 v.2.2.2.2.1 v.2.2.2.2.2 = some p → awp P dm n0 a (y8 (S v).1) (S v).2 (KY dm.m n0 (fun k (v:α × β × γ × δ × ε × ζ) => G k v.1 v.2.1 v.2.2.1 v.2.2.2.1 v.2.2.2.2.1 v.2.2.2.2.2) p S (k + 1) v hq (a2l id Q)))
    (hz:∀ v:α × β × γ × δ × ε × ζ,¬ G 0 v.1 v.2.1 v.2.2.1 v.2.2.2.1 v.2.2.2.2.1 v.2.2.2.2.2 = some p:=by intro v hf; cases hf) (hS:∀ v:α × β × γ × δ × ε × ζ,vS bs h ks (V v) = some (S v):=by intro v; dsimp) (hc:a3e dm.m n0 (y8 bs) h (S (a0,a1,a2,a3,a4,a5)):=by exact ckz):awp P dm n0 ((zF6 ks V).f (.block id (.loop a))) (y8 bs) h Q :=
  wY0 (J:=(fun k (v:α × β × γ × δ × ε × ζ) => G k v.1 v.2.1 v.2.2.1 v.2.2.2.1 v.2.2.2.2.1 v.2.2.2.2.2)) (S:=S) (N:=N) (a0:=(a0,a1,a2,a3,a4,a5)) hf hz (fun k v => h1 k v) hc
end
class K1 {α β:Type} (P:Program) (f:α → Option β) (ea:outParam (α → AV)) (eb:outParam (β → AV)) (k:outParam Nat) (cs:outParam (List AV)):Prop where
  ok:d7g P k = true:=by kernel_rfl
  hc:∀ h p,a3p h p cs = some cs:=by intro _ _; rfl
  hr:∀ f,a5a f cs = cs:=by intro _; rfl
  hp:∀ a r,f a = some r → a0z P k .flat ([ea a] ++ cs) (eb r)
class K2 {α β γ:Type} (P:Program) (f:α → β → Option γ) (ea:outParam (α → AV)) (eb:outParam (β → AV)) (ec:outParam (γ → AV)) (k:outParam Nat) (cs:outParam (List AV)):Prop where
  ok:d7g P k = true:=by kernel_rfl
  hc:∀ h p,a3p h p cs = some cs:=by intro _ _; rfl
  hr:∀ f,a5a f cs = cs:=by intro _; rfl
  hp:∀ a b r,f a b = some r → a0z P k .flat ([ea a,eb b] ++ cs) (ec r)
section
variable {P:Program} {dm:Md} {bs:List (Nat × AV)} {h:List l7}
theorem shE {n:a1h} {d:Nat} {K:(Nat → AV) → List l7 → Prop} {x y:AX} {a b:Int} (hn:a0i P dm n (y8 ((d,.int .u64 (Int.fdiv a (2 ^ (min (Int.toNat b) (IntKind.bits .u64))))) :: bs)) h K) (hx:x.ev (y8 bs) = .int .u64 a:=by rfl) (hy:y.ev (y8 bs) = .int .u64 b:=by rfl) (hb:0 ≤ b:=by decide):a0i P dm (.q ⟨some d,none,.bin .shr x y⟩ n) (y8 bs) h K:=s_q _ rfl (.of (by simp only [aqP,hx,hy]; exact hb) trivial) (by simp only [aqV,hx,hy]; rfl) hn
theorem oCv {x:AX} {args:List AX} {g:Nat} {cf bs' cs:List AV} {r:AV} (hok:d7g P g = true) (hcf:∀ h p,a3p h p cf = some cf) (hc:a0z P g .flat (bs' ++ cf) r) (hx:x.ev (y8 bs) = .fn g cf:=by rfl) (hb:closes h (args.map (AX.ev (y8 bs))) = some cs:=by rfl) (hl:LeL cs bs':=by exact e1m):Opr P dm (.calv x args) bs h r h:=e7k hx hok hcf hc hb hl rfl
end
class Wf (P:Program) (H:Prop) (f:outParam Nat) (args:outParam (List AV)) (r:outParam AV):Prop where
  out:H → a0z P f .fresh args r
class Ww (P:Program) (H:Prop) (f:outParam Nat) (args:outParam (List AV)) (r:outParam AV):Prop where
  out:H → a0z P f .weak args r
instance {P:Program} {H:Prop} {f:Nat} {args:List AV} {r:AV}:CoeFun (Wf P H f args r) (fun _ => H → a0z P f .fresh args r):=⟨fun w => w.out⟩
instance {P:Program} {H:Prop} {f:Nat} {args:List AV} {r:AV}:CoeFun (Ww P H f args r) (fun _ => H → a0z P f .weak args r):=⟨fun w => w.out⟩
class HE (α:Type) (enc:outParam (α → AV)):Prop where
  tt:True
instance:HE Int encI:=⟨trivial⟩
instance:HE Str AV.str:=⟨trivial⟩
@[simp] def catB (x:l7):List l7 → List l7
  | [] => [x]
  | y :: l => y :: catB x l
theorem c6d (x:l7):∀ l:List l7,l ++ [x] = catB x l
  | [] => rfl
  | y :: l => by simp [catB,c6d x l]
@[simp] def lnV:List AV → Nat
  | [] => 0
  | _ :: l => lnV l + 1
@[simp] def pjO:Nat → Tg → List Nat → List Nat
  | o,.own _,r => o :: r
  | _,.lst,r => r
  | _,.no,r => r
  | _,.ptr _,r => r
  | _,.nil,r => r
  | _,.agg _,r => r
@[simp] def pjP:Nat → Tg → List Nat → List Nat
  | o,.ptr _,r => o :: r
  | _,.lst,r => r
  | _,.no,r => r
  | _,.own _,r => r
  | _,.nil,r => r
  | _,.agg _,r => r
@[simp] def pjT:Tg → Tg → List Nat → List Nat
  | .own o,b,r => pjO o b r
  | .ptr o,b,r => pjP o b r
  | .lst,_,r => r
  | .no,_,r => r
  | .nil,_,r => r
  | .agg _,_,r => r
@[simp] def pjL:List AV → List AV → List Nat
  | a :: l,b :: l' => pjT (tgv a) (tgv b) (pjL l l')
  | [],_ => []
  | _ :: _,[] => []
@[simp] def pfO:Tg → Bool
  | .own _ => false
  | .lst => true
  | .no => false
  | .ptr _ => false
  | .nil => false
  | .agg _ => false
@[simp] def pfT:Tg → Tg → Bool
  | .own _,b => pfO b
  | .ptr _,_ => false
  | .lst,_ => false
  | .no,_ => false
  | .nil,_ => false
  | .agg _,_ => false
@[simp] def pfL:List AV → List AV → List Bool
  | a :: l,b :: l' => pfT (tgv a) (tgv b) :: pfL l l'
  | [],_ => []
  | _ :: _,[] => []
@[simp] def anyB:List Bool → Bool
  | [] => false
  | b :: l => bif b then true else anyB l
@[simp] def nrmB (l:List Bool):List Bool:=bif anyB l then l else []
@[simp] def klB (h:List l7):List Nat → List l7
  | [] => h
  | k :: ks => klB (seB h k .dead) ks
theorem b6u:∀ (ks:List Nat) (h:List l7),kill h ks = klB h ks
  | [],h => rfl
  | k :: ks,h => by simp only [kill,klB,← d0y,b6u ks]
theorem c4a:∀ h:List l7,lnO h = h.length
  | [] => rfl
  | x :: l => by simp [lnO,c4a l]
section
variable {P:Program} {dm:Md} {n0:Nat} {bs:List (Nat × AV)} {h h' h2:List l7} {K:(Nat → AV) → List l7 → Prop} {Q:AQ} {n other:a1h} {d:Nat} {op:AOp} {v:AV} {re:List a2q} {α:Type} {enc:α → AV} {l:List α} {e:α}
theorem q1 (hop:Opr P dm op bs h v h') (hn:a0i P dm n (y8 ((d,v) :: bs)) h' K):a0i P dm (.q ⟨some d,none,op⟩ n) (y8 bs) h K:=a2z hop hn
theorem l1 (hop:Opr P dm op bs h v h') (hn:a0i P dm n (y8 ((d,v) :: bs)) h' K) (ho:a0i P dm other (y8 bs) h K) (ha:b5a dm.m re (y8 ((d,v) :: bs)) h h':=by exact agA):a0i P dm (.l ⟨some d,none,op⟩ re n other) (y8 bs) h K:=a4t hop ha ho hn
theorem q0 (hop:Opr P dm op bs h v h') (hn:a0i P dm n (y8 bs) h' K):a0i P dm (.q ⟨none,none,op⟩ n) (y8 bs) h K:=c7r hop hn
theorem l0 (hop:Opr P dm op bs h v h') (hn:a0i P dm n (y8 bs) h' K) (ho:a0i P dm other (y8 bs) h K) (ha:b5a dm.m re (y8 bs) h h':=by exact agA):a0i P dm (.l ⟨none,none,op⟩ re n other) (y8 bs) h K:=c7s hop ha ho hn
theorem oCl {f:Nat} {args:List AX} {cs bs':List AV} {r:AV} (hc:a0z P f .flat bs' r) (hb:closes h (args.map (AX.ev (y8 bs))) = some cs:=by rfl) (hl:LeL cs bs':=by exact e1m):Opr P dm (.call f args) bs h r h:=d2l hc hb hl rfl
theorem e1o {f:Nat} {args:List AX} {as' cs2:List AV} {js ks:List Nat} {fl:List Bool} {r v:AV} {hi hout hs:List l7} (hc:a2a P dm.nz f as' hi r hout) (hj:B1 (pjL (mpB bs args) as') = some js:=by dsimp) (hfl:B1 (nrmB (pfL (mpB bs args) as')) = some fl:=by dsimp) (hf:d7t h fl js (args.map (AX.ev (y8 bs))) = some (cs2,hs,ks):=by rfl) (hl:LeL cs2 as':=by exact e1m) (hh:LeH hs hi:=by exact f0o) (hv:B1 (ren (bkN (lnO h) js) r) = some v:=by dsimp) (h2e:B1 (stB (klB h ks) js (mrB (bkN (lnO h) js) hout)) = some h2:=by dsimp) (hm:dm.m = true → fl = []:=by first | exact fun _ => rfl | exact fun h => absurd h (by decide)):Opr P dm (.call f args) bs h v h2:=by
  cases hv; cases h2e
  have el:=c4a h
  have e:a3v h.length js = bkN h.length js:=funext fun k => d6t _ _ k
  refine b1s fl js hm hc hf hl hh (by rw [e,el]) ?_
  have e2:a3v (kill h ks).length js = bkN h.length js:=by rw [a3x,e]
  rw [← b6u,el]
  unfold b1e
  rw [e2,List.map_drop,e1d,e1j]
theorem oCf {f:Nat} {args:List AX} {cs bs':List AV} {r v:AV} {h1:List l7} (hc:a0z P f .fresh bs' r) (hb:closes h (args.map (AX.ev (y8 bs))) = some cs:=by rfl) (hl:LeL cs bs':=by exact e1m) (hv:a2w (lnO h) r = (v,h1):=by simp only [lnO,a2w,a4f,a1f,c9w,b6x,c8m,List.length_map,List.nil_append,List.append_nil,List.cons_append,List.length_nil,Nat.reduceAdd]; rfl) (hh:B1 (h ++ h1) = some h2:=by dsimp):Opr P dm (.call f args) bs h v h2:=by
  cases hh
  rw [c4a] at hv
  exact c2g hc hb hl hv
theorem oCc {f:Nat} {args:List AX} {cs bs':List AV} {r:AV} (hc:a0z P f .fresh bs' r) (hm:dm.m = false:=by rfl) (hb:closes h (args.map (AX.ev (y8 bs))) = some cs:=by rfl) (hl:LeL cs bs':=by exact e1m):Opr P dm (.call f args) bs h r h:=e7i hm hc hb hl rfl
theorem oCw {f:Nat} {args:List AX} {cs bs':List AV} {r:AV} {ks k0:List Nat} (hc:a0z P f .weak bs' r) (hm:dm.m = false:=by rfl) (hb:a0x false h (args.map (AX.ev (y8 bs))) = some (cs,ks):=by rfl) (hl:LeL cs bs':=by exact e1m) (hk0:B1 ks = some k0:=by dsimp) (hh:B1 (klB h k0) = some h2:=by dsimp only [B1,klB,seB]):Opr P dm (.call f args) bs h r h2:=by
  cases hk0; cases hh
  exact e7j hm hc hb hl rfl (b6u _ _)
theorem oBx {x:AX} {c:AV} {sz j:Nat} (hv:B1 (evB bs x) = some c:=by dsimp) (hs:a4y h c:=by exact trivial) (hl:c.cells.length = sz:=by rfl) (hj:B1 h.length = some j:=by dsimp) (hh:B1 (h ++ [.box sz c]) = some h2:=by dsimp):Opr P dm (.box sz x) bs h (.ptr j 0 0) h2:=by
  cases hv; cases hj; cases hh
  exact d4y (b1x bs x).symm hs hl rfl
theorem oBs {sz j m:Nat} {xs:List AX} {as:List AV} {ks:List Nat} (ha:a0x dm.d h (xs.map (AX.ev (y8 bs))) = some (as,ks):=by rfl) (hnd:dm.d = true → ks.Nodup:=by intro _; decide) (hl:d4f sz as:=by exact rpA) (hm:B1 as.length = some m:=by dsimp) (hh:B1 (kill h ks ++ [.row sz as]) = some h2:=by dsimp [kill]) (hj:B1 h.length = some j:=by dsimp):Opr P dm (.bslice sz xs) bs h (.own j 0 m) h2:=by
  cases hm; cases hh; cases hj
  exact a2m ha hnd hl (.refl _) rfl rfl rfl
theorem oBg [HE α enc] {A B:List α} {sz j m:Nat} {xs:List AX} {as:List AV} {ks k0:List Nat} (hg:(A ++ B).length ≤ 2 ^ 30) (ha:a0x dm.d h (xs.map (AX.ev (y8 bs))) = some (as,ks):=by rfl) (he:LeL as (B.map enc):=by (repeat' first | exact LeL.nil | refine LeL.cons ?_ ?_ | exact leA | fail)) (hnd:dm.d = true → ks.Nodup:=by intro _; decide) (hl:d4f sz as:=by exact rpA) (hm:B1 (lnV as) = some m:=by dsimp) (hk0:B1 ks = some k0:=by dsimp) (hh:B1 (catB (.row sz (B.map enc)) (klB h k0)) = some h2:=by dsimp only [B1,catB,klB,seB]) (hj:B1 (lnO h) = some j:=by dsimp) (hm2:(B.map enc).length = m:=by rfl):Opr P dm (.bslice sz xs) bs h (.own j 0 m) h2:=by
  cases hk0; cases hm; cases hh; cases hj
  rw [c4a,← b6u,← c6d]
  exact a2m ha hnd hl he hm2 rfl rfl
theorem oSb {a x:AX} {o j f z sz:Nat} {y v:AV} (ha:B1 (evB bs a) = some (.ptr o j f):=by dsimp) (ho:hgB h o = some (.box z y):=by dsimp) (hx:B1 (evB bs x) = some v:=by dsimp) (hs:a4y h v:=by exact trivial) (hp:a5s y f sz v:=by first | exact ⟨rfl,nle⟩ | exact ⟨rfl,rfl,rfl⟩) (hl:b4z h v.cells:=by repeat first | exact trivial | refine ⟨⟨rfl,trivial⟩,?_⟩) (hh:B1 (seB h o (.box z (celB y f v))) = some h2:=by dsimp [AV.cells]):Opr P dm (.store sz a x) bs h .skip h2:=by
  have ha:evB bs a = .ptr o j f:=Option.some.inj ha
  cases hx; cases hh
  rw [← d0y]
  exact b0h ((b1x bs a).symm.trans ha) ((b8e h o).symm.trans ho) (b1x bs x).symm hs hp hl (c6c y f _)
theorem oIo {o lo m z z':Nat} {l:List AV} {k:IntKind} {j:Int} {x i:AX} (h0:0 ≤ j ∧ j < (m:Int)) (hx:x.ev (y8 bs) = .own o lo m:=by rfl) (hi:i.ev (y8 bs) = .int k j:=by rfl) (ho:h[o]? = some (.row z' l):=by rfl) (hz:z' = z:=by rfl):Opr P dm (.iaddr z x i) bs h (.ptr o (lo + j.toNat) 0) h:=b3g hx hi h0.1 h0.2 ho hz
theorem oIx {o m z z':Nat} {k:IntKind} {j:Int} {x i:AX} (hl:idx l j = some e) (hx:x.ev (y8 bs) = .own o 0 m:=by rfl) (hi:i.ev (y8 bs) = .int k j:=by rfl) (ho:h[o]? = some (.row z' (l.map enc)):=by rfl) (hm:l.length = m:=by rfl) (hz:z' = z:=by rfl):Opr P dm (.iaddr z x i) bs h (.ptr o (0 + j.toNat) 0) h:=b3g hx hi (c9s hl) (by have h1:=c9s hl; have h2:=(List.getElem?_eq_some_iff.1 (d2g hl)).1; omega) ho hz
theorem oIn {o m z z' j:Nat} {k:IntKind} {L:List AV} {x i:AX} (hj:j < m) (hx:x.ev (y8 bs) = .own o 0 m:=by rfl) (hi:i.ev (y8 bs) = .int k (j:Int):=by rfl) (ho:h[o]? = some (.row z' L):=by rfl) (hz:z' = z:=by rfl):Opr P dm (.iaddr z x i) bs h (.ptr o j 0) h:=fun K hk => d4w hx hi hj ho hz K hk
theorem oLr {dm:Bool} {a:AX} {o j f sz z:Nat} {ag:Bool} {v:AV} (hl:l[j]? = some e) (hx:a.ev (y8 bs) = .ptr o j f:=by rfl) (ho:h[o]? = some (.row z (l.map enc)):=by rfl) (hv:ldO (enc e) f sz ag = some v:=by dsimp):Opr P (dm:Bool) (.load sz ag a) bs h v h :=
  d0v hx ho hl (c8f hv).1 (c8f hv).2
theorem lgS {s:Nat} {t:Str} {b v:Bool} {x:AX} (hn:a0i P dm n (y8 ((d,gs v b (.int .i64 t.length)) :: bs)) h K) (ht:y8 bs s = .bool v:=by rfl) (hx:v = b → x.ev (y8 bs) = .str t:=by intro hv; (try simp only [a5b hv]); rfl):a0i P dm (.q ⟨some d,some (s,b),.lenS x⟩ n) (y8 bs) h K:=s_g _ ht (fun hv => ⟨rfl,.of (by simp only [aqP,hx hv]) trivial,by simp only [aqV,hx hv]⟩) hn
theorem oLo {x:AX} {o lo m z:Nat} {l:List AV} (hx:x.ev (y8 bs) = .own o lo m:=by rfl) (ho:h[o]? = some (.row z l):=by rfl):e3t P dm (.len x) bs h (.int .i64 m) h (m ≤ maxLen):=c7x hx ho
theorem oAp [HE α enc] {A B:List α} {sz bytes j n m:Nat} {s x:AX} {l0 l1:List AV} {ks0 ks1 k0 k1:List Nat} (hg:(A ++ B).length ≤ 2 ^ 30) (cons:Bool) (hdd:dm.d = true:=by rfl) (hd:b7g h sz (s.ev (y8 bs)) = some (l0,n,ks0):=by rfl) (hs:b3t cons h sz (x.ev (y8 bs)) = some (l1,m,ks1):=by rfl) (hf:cons = false → ∀ a ∈ l1,R.flat a = true:=by first | exact fun h => Bool.noConfusion h | exact fun _ => flm (fun _ => rfl) _ | exact fun _ => flo (fun _ => rfl) _ _ | exact fun _ => flw (fun _ => rfl) _ _ _) (hf2:∀ z l',x.ev (y8 bs) = .lst z l' → ∀ a ∈ l1,R.flat a = true:=by first | exact (fun _ _ h => (c9t (show AV.own _ _ _ = AV.lst _ _ from h)).elim) | exact fun _ _ _ => flm (fun _ => rfl) _ | exact fun _ _ _ => flw (fun _ => rfl) _ _ _) (hnd:(ks0 ++ ks1).Nodup:=by decide) (hL:l0 ++ l1 = (A ++ B).map enc:=by first | exact c9u _ _ _ (by rfl) | exact apl _ _ | rfl | (simp [tk,tko]; done) | (simp; omega) | (rw [tk]; simp; done) | (rw [List.nil_append,tk]; simp; done) | fail) (hn:n + m = (A ++ B).length:=by first | (simp; done) | (simp; omega) | fail) (hk0:B1 ks0 = some k0:=by dsimp) (hk1:B1 ks1 = some k1:=by dsimp) (hh2:B1 (catB (.row sz ((A ++ B).map enc)) (klB (klB h k0) k1)) = some h2:=by dsimp only [B1,catB,klB,seB]) (hj:B1 (lnO h) = some j:=by dsimp):Opr P dm (.append sz bytes s x) bs h (.own j 0 (A ++ B).length) h2:=by
  cases hk0; cases hk1; cases hh2; cases hj
  rw [c4a,← b6u,← b6u,← c7d,← c6d]
  exact a7w hdd cons hd hs hf hf2 hnd hL hn hg rfl rfl
theorem oAw [HE α enc] {A B:List α} {sz bytes j n m:Nat} {s x:AX} {l0 l1:List AV} {ks0 ks1 k0 k1:List Nat} (hg:(A ++ B).length ≤ 2 ^ 30) (hd:b7g h sz (s.ev (y8 bs)) = some (l0,n,ks0):=by rfl) (hs:b3t false h sz (x.ev (y8 bs)) = some (l1,m,ks1):=by rfl) (hL:l0 ++ l1 = (A ++ B).map enc:=by first | exact c9u _ _ _ (by rfl) | exact apl _ _ | rfl | (simp [tk,tko]; done) | (simp; omega) | (rw [tk]; simp; done) | (rw [List.nil_append,tk]; simp; done) | fail) (hn:n + m = (A ++ B).length:=by first | (simp; done) | (simp; omega) | fail) (hk0:B1 ks0 = some k0:=by dsimp) (hk1:B1 ks1 = some k1:=by dsimp) (hh2:B1 (catB (.row sz ((A ++ B).map enc)) (klB (klB h k0) k1)) = some h2:=by dsimp only [B1,catB,klB,seB]) (hj:B1 (lnO h) = some j:=by dsimp):Opr P (false:Bool) (.append sz bytes s x) bs h (.own j 0 (A ++ B).length) h2:=by
  cases hk0; cases hk1; cases hh2; cases hj
  rw [c4a,← b6u,← b6u,← c7d,← c6d]
  exact a5i hd hs hL hn hg rfl rfl
@[simp] def flB (bs:List (Nat × AV)):List AV → List (Nat × Nat × AX) → List AV
  | cs,[] => cs
  | cs,(i,_,x) :: r => flB bs (ptB cs i (evB bs x).cells) r
theorem e4h (bs:List (Nat × AV)):∀ (ps:List (Nat × Nat × AX)) (cs:List AV),b9w cs (AX.ev (y8 bs)) ps = flB bs cs ps
  | [],cs => rfl
  | (i,k,x) :: r,cs => by simp only [b9w,flB,e4h bs r,b1x,d7y]
theorem oBd {z:List AV} {ps:List (Nat × Nat × AX)} {w:AV} (hn:a0i P dm n (y8 ((d,w) :: bs)) h K) (hp:aqQ dm.m (.build z ps) (AX.ev (y8 bs)) h:=by exact rpA) (hv:B1 (AV.agg (flB bs z ps)) = some w:=by dsimp [AV.cells]):a0i P dm (.q ⟨some d,none,.build z ps⟩ n) (y8 bs) h K:=by
  cases hv
  exact s_q _ rfl hp (congrArg AV.agg (e4h bs ps z)) hn
theorem f6l {o:Option Nat} {s:Nat} {b e:Bool} (he:e = true) (hn:a0i P dm (.l ⟨o,some (s,b),op⟩ re n other) (y8 ((s,.bool true) :: bs)) h K) (ht:y8 bs s = .bool e:=by rfl):a0i P dm (.l ⟨o,some (s,b),op⟩ re n other) (y8 bs) h K:=d0u ht he hn
theorem f6m {o:Option Nat} {s:Nat} {b e:Bool} (he:¬ e = true) (hn:a0i P dm (.l ⟨o,some (s,b),op⟩ re n other) (y8 ((s,.bool false) :: bs)) h K) (ht:y8 bs s = .bool e:=by rfl):a0i P dm (.l ⟨o,some (s,b),op⟩ re n other) (y8 bs) h K:=d0u ht (bf he) hn
theorem kGl {o:Option Nat} {g:Nat × Bool} {t:Nat → AV} (hn:a0i P dm (.l ⟨o,some g,op⟩ re n other) t h K):a0i P dm (.l ⟨o,some g,op⟩ re n other) t h K:=hn
theorem oSr {a x:AX} {o j f z sz:Nat} {v v0:AV} {e':α} {ks:List Nat} (ha:B1 (evB bs a) = some (.ptr o j f):=by dsimp) (ho:h[o]? = some (.row z (l.map enc)):=by rfl) (hl:l[j]? = some e:=by assumption) (hx:B1 (evB bs x) = some v:=by dsimp) (hab:a1t dm.d h v = some (v0,ks):=by rfl) (hk:o ∉ ks:=by decide) (hnd:dm.d = true → ks.Nodup:=by intro _; decide) (hp:a5s (enc e) f sz v0:=by first | exact ⟨rfl,rfl,rfl⟩ | exact ⟨rfl,nle⟩) (hy:Le (a3q (enc e) f v0) (enc e'):=by exact leA) (hh:B1 (seB (klB h ks) o (.row z ((l.set j e').map enc))) = some h2:=by dsimp only [klB,seB,B1]):Opr P dm (.store sz a x) bs h .skip h2:=by
  cases hh; cases hx
  have ha:evB bs a = .ptr o j f:=Option.some.inj ha
  rw [← d0y,← b6u]
  exact d7r ((b1x bs a).symm.trans ha) ho hl (b1x bs x).symm hab rfl hk hnd hp hy rfl
theorem oSg {a x:AX} {o f z sz:Nat} {v v0:AV} {e':α} {ks:List Nat} {g:Int} (hg:0 ≤ g ∧ g < (l.length:Int)) (ha:B1 (evB bs a) = some (.ptr o (0 + g.toNat) f):=by dsimp) (ho:h[o]? = some (.row z (l.map enc)):=by rfl) (hx:B1 (evB bs x) = some v:=by dsimp) (hab:a1t dm.d h v = some (v0,ks):=by rfl) (hk:o ∉ ks:=by decide) (hnd:dm.d = true → ks.Nodup:=by intro _; decide) (hp:∀ e,a5s (enc e) f sz v0:=by intro e; first | exact ⟨rfl,rfl,rfl⟩ | exact ⟨rfl,nle⟩) (hy:∀ e,Le (a3q (enc e) f v0) (enc e'):=by intro e; exact leA) (hh:B1 (seB (klB h ks) o (.row z ((l.set (0 + g.toNat) e').map enc))) = some h2:=by dsimp only [klB,seB,B1]):Opr P dm (.store sz a x) bs h .skip h2:=by
  have hl:0 + g.toNat < l.length:=by omega
  exact oSr (e:=l[0 + g.toNat]) ha ho (List.getElem?_eq_getElem hl) hx hab hk hnd (hp _) (hy _) hh
theorem mxE {mx:Bool} {x y:AX} {a b:Int} {k k':IntKind} {v:AV} (hn:a0i P dm n (y8 ((d,v) :: bs)) h K) (hx:x.ev (y8 bs) = .int k a:=by rfl) (hy:y.ev (y8 bs) = .int k' b:=by rfl) (hv:B1 (AV.int k (bif mx then (if b > a then b else a) else (if b < a then b else a))) = some v:=by dsimp) (hk:k' = k:=by rfl):a0i P dm (.q ⟨some d,none,.mnmx mx x y⟩ n) (y8 bs) h K:=by
  cases hv; subst hk
  refine s_q _ rfl (.of (by simp only [aqP,hx,hy]) trivial) ?_ hn
  simp only [aqV,hx,hy]
  cases mx <;> rfl
@[simp] def memN:List Nat → Nat → Bool
  | [],_ => false
  | k :: l,n => bif k == n then true else memN l n
@[simp] def keyB:List (Nat × AV) → List Nat → List Nat
  | [],a => a
  | (k,_) :: r,a => keyB r (bif memN a k then a else k :: a)
theorem d9s {α β:Type} {p:α × β → Prop} (h:∀ a b,p (a,b)):∀ v,p v:=fun v => h v.1 v.2
theorem oQv (hv:qv h bs op = some v:=by dsimp):Opr P dm op bs h v h:=fun k hk => d5e hv hk
theorem obE {α β:Type} {G:Prop} {x:Option α} {f:α → Option β} {r:β} (h:x.bind f = some r) (k:∀ v,x = some v → f v = some r → G):G:=by obtain ⟨v,e,g⟩:=ob h; exact k v e g
theorem ogE {p:Prop} {_:Decidable p} {α:Type} {G:Prop} {x:Option α} {r:α} (h:(if p then x else none) = some r) (k:p → x = some r → G):G:=k (og h).1 (og h).2
theorem oiE {p:Prop} {_:Decidable p} {α:Type} {G:Prop} {x y:Option α} {r:α} (h:(if p then x else y) = some r) (k1:p → x = some r → G) (k2:¬ p → y = some r → G):G:=by rcases oi h with ⟨a,b⟩ | ⟨a,b⟩; exact k1 a b; exact k2 a b
section
variable {α β γ δ ε ζ η ρ:Type} {P:Program} {dm:Md} {n0:Nat} {t:Nat → AV} {h:List l7} {Q:AQ} {a b:a0l} {id:Nat} {ks:List Nat}
theorem gwC {V:α → VS} (hn:awp P dm n0 a t h (b1v (awp P dm n0 ((cZ ks V).f b)) Q)):awp P dm n0 a t h (b1v (awp P dm n0 ((cZ ks V).f b)) Q):=hn
theorem gwF {V:α → VS} (hn:awp P dm n0 a t h (b1v (awp P dm n0 ((fZ ks V).f b)) Q)):awp P dm n0 a t h (b1v (awp P dm n0 ((fZ ks V).f b)) Q):=hn
theorem f6o {V:α → VS} (hn:awp P dm n0 a t h (a2l id (b1v (awp P dm n0 ((cZ ks V).f b)) Q))):awp P dm n0 a t h (a2l id (b1v (awp P dm n0 ((cZ ks V).f b)) Q)):=hn
theorem f6p {V:α → VS} (hn:awp P dm n0 a t h (a2l id (b1v (awp P dm n0 ((fZ ks V).f b)) Q))):awp P dm n0 a t h (a2l id (b1v (awp P dm n0 ((fZ ks V).f b)) Q)):=hn
theorem f6q {V:Nat → VS} (hn:awp P dm n0 ((zN0 ks V).f b) t h Q):awp P dm n0 ((zN0 ks V).f b) t h Q:=hn
theorem f6r {V:Nat → α → VS} (hn:awp P dm n0 ((zN1 ks V).f b) t h Q):awp P dm n0 ((zN1 ks V).f b) t h Q:=hn
theorem f6s {V:Nat → α × β → VS} (hn:awp P dm n0 ((zN2 ks V).f b) t h Q):awp P dm n0 ((zN2 ks V).f b) t h Q:=hn
theorem f6t {V:Nat → α × β × γ → VS} (hn:awp P dm n0 ((zN3 ks V).f b) t h Q):awp P dm n0 ((zN3 ks V).f b) t h Q:=hn
theorem f6u {V:Nat → α × β × γ × δ → VS} (hn:awp P dm n0 ((zN4 ks V).f b) t h Q):awp P dm n0 ((zN4 ks V).f b) t h Q:=hn
theorem f6v {V:Nat → α × β × γ × δ × ε × ζ × η → VS} (hn:awp P dm n0 ((zN7 ks V).f b) t h Q):awp P dm n0 ((zN7 ks V).f b) t h Q:=hn
theorem f6w {V:Nat → VS} (hn:awp P dm n0 ((zI0 ks V).f b) t h Q):awp P dm n0 ((zI0 ks V).f b) t h Q:=hn
theorem f6x {V:Nat → α → VS} (hn:awp P dm n0 ((zI1 ks V).f b) t h Q):awp P dm n0 ((zI1 ks V).f b) t h Q:=hn
theorem f6y {V:Nat → α × β → VS} (hn:awp P dm n0 ((zI2 ks V).f b) t h Q):awp P dm n0 ((zI2 ks V).f b) t h Q:=hn
theorem f6z {V:Nat → α × β × γ → VS} (hn:awp P dm n0 ((zI3 ks V).f b) t h Q):awp P dm n0 ((zI3 ks V).f b) t h Q:=hn
theorem f7a {V:Nat → α × β × γ × δ → VS} (hn:awp P dm n0 ((zI4 ks V).f b) t h Q):awp P dm n0 ((zI4 ks V).f b) t h Q:=hn
theorem f7b {V:Nat → α × β × γ × δ × ε × ζ × η → VS} (hn:awp P dm n0 ((zI7 ks V).f b) t h Q):awp P dm n0 ((zI7 ks V).f b) t h Q:=hn
theorem f0v {V:Nat → α → VS} (hn:awp P dm n0 ((d9r ks V).f b) t h Q):awp P dm n0 ((d9r ks V).f b) t h Q:=hn
theorem f3k {V:Nat → VS} (hn:awp P dm n0 ((e7s ks V).f b) t h Q):awp P dm n0 ((e7s ks V).f b) t h Q:=hn
theorem f3l {V:Nat → VS} (hn:awp P dm n0 ((e7t ks V).f b) t h Q):awp P dm n0 ((e7t ks V).f b) t h Q:=hn
theorem f7c {V:α → VS} (hn:awp P dm n0 ((zF1 ks V).f b) t h Q):awp P dm n0 ((zF1 ks V).f b) t h Q:=hn
theorem f7d {V:α × β → VS} (hn:awp P dm n0 ((zF2 ks V).f b) t h Q):awp P dm n0 ((zF2 ks V).f b) t h Q:=hn
theorem f7e {V:α × β × γ → VS} (hn:awp P dm n0 ((zF3 ks V).f b) t h Q):awp P dm n0 ((zF3 ks V).f b) t h Q:=hn
theorem f7f {V:α × β × γ × δ × ε → VS} (hn:awp P dm n0 ((zF5 ks V).f b) t h Q):awp P dm n0 ((zF5 ks V).f b) t h Q:=hn
theorem f7g {V:α × β × γ × δ × ε × ζ → VS} (hn:awp P dm n0 ((zF6 ks V).f b) t h Q):awp P dm n0 ((zF6 ks V).f b) t h Q:=hn
end
theorem wCi {a:a0l} {V:α → VS} {ks ks':List Nat} {L0:List (Nat × AV)} (hn:awp P dm n0 a (y8 L0) h Q) (hk:B1 (keyB bs []) = some ks':=by dsimp) (hL:kpB bs ks' = L0:=by dsimp) (hc:a3e dm.m n0 (y8 bs) h (L0,h):=by exact ckz):awp P dm n0 ((cZ ks V).f a) (y8 bs) h Q:=⟨(L0,h),hc,hn⟩
theorem wFi {a:a0l} {V:α → VS} {ks ks':List Nat} {L0:List (Nat × AV)} (hn:awp P dm n0 a (y8 L0) h Q) (hk:B1 (keyB bs []) = some ks':=by dsimp) (hL:kpB bs ks' = L0:=by dsimp) (hc:a3e dm.m n0 (y8 bs) h (L0,h):=by exact ckz):awp P dm n0 ((fZ ks V).f a) (y8 bs) h Q:=⟨(L0,h),hc,hn⟩
theorem gwI {a:a0l} {V:α → VS} {ks:List Nat} {t:Nat → AV} (hn:awp P dm n0 ((cZ ks V).f a) t h Q):awp P dm n0 ((cZ ks V).f a) t h Q:=hn
theorem gwJ {a:a0l} {V:α → VS} {ks:List Nat} {t:Nat → AV} (hn:awp P dm n0 ((fZ ks V).f a) t h Q):awp P dm n0 ((fZ ks V).f a) t h Q:=hn
theorem f7h:a0i P dm .non (y8 bs) h K:=trivial
theorem e9j {f:Nat} {args:List AX} {t:Nat → AV} (hn:a0i P dm (.q ⟨some d,none,.call f args⟩ n) t h K):a0i P dm (.q ⟨some d,none,.call f args⟩ n) t h K:=hn
theorem f7i {z:Nat} {x i:AX} {t:Nat → AV} (hn:a0i P dm (.q ⟨some d,none,.iaddr z x i⟩ n) t h K):a0i P dm (.q ⟨some d,none,.iaddr z x i⟩ n) t h K:=hn
theorem f7j {x:AX} {t:Nat → AV} (hn:a0i P dm (.q ⟨some d,none,.len x⟩ n) t h K):a0i P dm (.q ⟨some d,none,.len x⟩ n) t h K:=hn
theorem f7k {sz:Nat} {a x:AX} {t:Nat → AV} (hn:a0i P dm (.q ⟨none,none,.store sz a x⟩ n) t h K):a0i P dm (.q ⟨none,none,.store sz a x⟩ n) t h K:=hn
theorem kGd {o:Option Nat} {g:Nat × Bool} {t:Nat → AV} (hn:a0i P dm (.q ⟨o,some g,op⟩ n) t h K):a0i P dm (.q ⟨o,some g,op⟩ n) t h K:=hn
theorem kLl {o:a2q} {t:Nat → AV} (hn:a0i P dm (.l o re n other) t h K):a0i P dm (.l o re n other) t h K:=hn
end
set_option maxRecDepth 10000
theorem Z {p:Prop} (h:p:=by
  repeat' first
    | ((with_reducible refine isT ?_); first
        | with_reducible refine a9v ?_
        | with_reducible exact f7h
        | ((with_reducible refine kGd ?_); first
          | (refine oiE hf (fun c hf => ?_) (fun c hf => ?_) <;> first | refine slq c ?_ | refine sfq c ?_)
          | refine s_on rfl ?_
          | refine go 1 ?_
          | refine lgE ?_
          | refine lgS ?_
          | refine sgE ?_
          | refine ggE ?_
          | refine pgE ?_)
        | ((with_reducible refine kGl ?_); first
          | (refine oiE hf (fun c hf => ?_) (fun c hf => ?_) <;> first | refine f6l c ?_ | refine f6m c ?_)
          | refine c4y rfl ?_
          | refine b8a rfl rfl trivial ?_
          | refine d2h rfl trivial ?_)
        | ((with_reducible refine e9j ?_); refine obE hf fun x ex hf => ?_; first
          | refine q1 (oCl (Wk.out ex)) ?_
          | refine q1 (oCl (Wk.out ex) (d5a rfl (d5a (f0i kf.hc) rfl))) ?_
          | refine q1 (e1o (Wh.out ex)) ?_
          | (have hcc:=hcc; refine q1 (oCc (Wf.out ex)) ?_)
          | refine q1 (oCf (Wf.out ex)) ?_
          | refine q1 (oCc (Wf.out ex)) ?_
          | refine q1 (oCw (Ww.out ex)) ?_)
        | ((with_reducible refine e9j ?_); first
          | refine q1 (oCl (Wk.out ex)) ?_
          | refine q1 (e1o (Wh.out ex)) ?_
          | (have hcc:=hcc; refine q1 (oCc (Wf.out ex)) ?_)
          | refine q1 (oCf (Wf.out ex)) ?_
          | refine q1 (oCw (Ww.out ex)) ?_)
        | ((with_reducible refine f7i ?_); first
          | refine ia hx ?_
          | (refine obE hf fun x ex hf => ?_; first | refine ix ex ?_ | refine q1 (oIx ex) ?_)
          | refine q1 (oIn hlt) ?_
          | refine q1 (oIx (by assumption)) ?_
          | refine iaA ?_
          | refine ixA ?_
          | refine q1 (oIo (by assumption)) ?_
          | (refine ogE hf fun hg hf => ?_; first | refine q1 (oIo hg) ?_ | refine q1 (oIn hg) ?_ | fail))
        | ((with_reducible refine f7j ?_); first
          | refine ln fun hl => ?_
          | refine d4u oLo fun hl => ?_)
        | ((with_reducible refine f7k ?_); first
          | refine q0 oSb ?_
          | refine q0 oSr ?_
          | (refine obE hf fun x ex hf => ?_; refine q0 (oSr (hl:=ex)) ?_)
          | (refine ogE hf fun hg hf => ?_; refine q0 (oSg hg) ?_))
        | ((with_reducible refine kLl ?_); first
          | ((try have ey:=ex); refine obE hf fun x ex hf => ?_; first
            | refine l1 (oCl (Wk.out ex)) ?_ ?_
            | refine l1 (e1o (Wh.out ex)) ?_ ?_
            | (have hcc:=hcc; refine l1 (oCc (Wf.out ex)) ?_ ?_)
            | refine l1 (oCf (Wf.out ex)) ?_ ?_
            | refine l1 (oCc (Wf.out ex)) ?_ ?_
            | refine l1 (oCw (Ww.out ex)) ?_ ?_)
          | (first
            | refine l1 (oCl (Wk.out ex)) ?_ ?_
            | refine l1 (e1o (Wh.out ex)) ?_ ?_
            | (have hcc:=hcc; refine l1 (oCc (Wf.out ex)) ?_ ?_)
            | refine l1 (oCf (Wf.out ex)) ?_ ?_
            | refine l1 (oCc (Wf.out ex)) ?_ ?_
            | refine l1 (oCw (Ww.out ex)) ?_ ?_)
          | (first
            | refine l1 (oCl (Wk.out ey)) ?_ ?_
            | refine l1 (e1o (Wh.out ey)) ?_ ?_
            | (have hcc:=hcc; refine l1 (oCc (Wf.out ey)) ?_ ?_)
            | refine l1 (oCf (Wf.out ey)) ?_ ?_
            | refine l1 (oCc (Wf.out ey)) ?_ ?_
            | refine l1 (oCw (Ww.out ey)) ?_ ?_)
          | (refine obE hf fun x ey hf => ?_; refine obE hf fun x ex hf => ?_; first
            | refine l1 (oCl (Wk.out ex)) ?_ ?_
            | refine l1 (e1o (Wh.out ex)) ?_ ?_
            | (have hcc:=hcc; refine l1 (oCc (Wf.out ex)) ?_ ?_)
            | refine l1 (oCf (Wf.out ex)) ?_ ?_
            | refine l1 (oCc (Wf.out ex)) ?_ ?_
            | refine l1 (oCw (Ww.out ex)) ?_ ?_)
          | refine l1 (oBg (og hf).1) ?_ ?_
          | refine l1 oBs ?_ ?_
          | (refine ogE hf fun hg hf => ?_; first | refine l1 (oAp hg true) ?_ ?_ | refine l1 (oAp hg false) ?_ ?_ | refine l1 (oAw hg) ?_ ?_ | fail)
          | refine l1 oBx ?_ ?_
          | refine l1 oQv ?_ ?_
          | refine l0 oSb ?_ ?_
          | refine l0 oSr ?_ ?_
          | (refine obE hf fun x ex hf => ?_; refine l0 (oSr (hl:=ex)) ?_ ?_)
          | (refine ogE hf fun hg hf => ?_; refine l0 (oSg hg) ?_ ?_))
        | refine go 5 ?_
        | refine go 2 ?_
        | refine go 1 ?_
        | refine q1 oBx ?_
        | refine q1 (oBg (og hf).1) ?_
        | refine q1 oBs ?_
        | refine oBd ?_
        | (refine ogE hf fun hg hf => ?_; first | refine q1 (oAp hg true) ?_ | refine q1 (oAp hg false) ?_ | refine q1 (oAw hg) ?_ | fail)
        | refine pkE ?_
        | refine mxE ?_
        | (refine ogE hf fun hg hf => ?_; first | refine q1 (d4x rfl rfl hg.1 hg.2) ?_ | refine q1 (d9l rfl rfl hg.1 hg.2) ?_ | refine q1 (c7y rfl rfl rfl hg.1 hg.2) ?_ | fail)
        | refine q1 (d4x rfl rfl (by assumption) (by assumption)) ?_
        | (have hg:=hg; first | refine q1 (d4x rfl rfl hg.1 hg.2) ?_ | refine q1 (d9l rfl rfl hg.1 hg.2) ?_ | refine q1 (c7y rfl rfl rfl hg.1 hg.2) ?_ | fail)
        | (have hg:=hg; refine q1 (oIo hg) ?_)
        | (refine obE hf fun x ex hf => ?_; first | refine q1 (oCv kf.ok kf.hc (kf.hp _ _ ex)) ?_ | refine q1 (oCv kf.ok kf.hc (kf.hp _ _ _ ex)) ?_)
        | refine lnS fun hl => ?_
        | refine nkE ?_
        | refine rmE ?_
        | refine quE ?_
        | refine shE ?_
        | refine q1 (oLr (by assumption)) ?_
        | refine q1 (oLr (f3b (by assumption))) ?_
        | refine a2z (d2k rfl rfl hx) ?_
        | (refine obE hf fun x ex hf => ?_; refine a2z (d2j rfl rfl (c9s ex) (d2g ex)) ?_)
        | (refine obE hf fun x ex hf => ?_; refine q1 (oLr ex) ?_)
        | refine eqE ?_
        | (refine ogE hf fun hg hf => ?_))
    | ((with_reducible refine isA ?_); first
        | ((with_reducible refine gwC ?_); refine wCz hf (fun v hf => ?_) ?_; rotate_left; (repeat refine d9s fun a => ?_); intro v hf; (try dsimp only); rotate_right; (try dsimp only))
        | ((with_reducible refine gwF ?_); refine wFz hf (fun p hf hr => ?_) ?_; rotate_left; (repeat refine d9s fun a => ?_); intro v hf; (try dsimp only); rotate_right; (try dsimp only))
        | ((with_reducible refine f6q ?_); refine f5o hf (fun i v hq hle hf => ?_) (fun i v hq x hlt hx hf => ?_) <;> (try dsimp only))
        | ((with_reducible refine f6r ?_); refine f5p hf (fun i v hq hle hf => ?_) (fun i v hq x hlt hx hf => ?_) <;> (try dsimp only))
        | ((with_reducible refine f6s ?_); refine f5q hf (fun i v hq hle hf => ?_) (fun i v hq x hlt hx hf => ?_) <;> (try dsimp only))
        | ((with_reducible refine f6t ?_); refine f5s hf (fun i v hq hle hf => ?_) (fun i v hq x hlt hx hf => ?_) <;> (try dsimp only))
        | ((with_reducible refine f6u ?_); refine f5t hf (fun i v hq hle hf => ?_) (fun i v hq x hlt hx hf => ?_) <;> (try dsimp only))
        | ((with_reducible refine f6v ?_); refine f5u hf (fun i v hq hle hf => ?_) (fun i v hq x hlt hx hf => ?_) <;> (try dsimp only))
        | ((with_reducible refine f6w ?_); refine f5v hf (fun i v hq hle hf => ?_) (fun i v hq x hlt hx hf => ?_) <;> (try dsimp only))
        | ((with_reducible refine f6x ?_); refine f5x hf (fun i v hq hle hf => ?_) (fun i v hq x hlt hx hf => ?_) <;> (try dsimp only))
        | ((with_reducible refine f6y ?_); refine f5y hf (fun i v hq hle hf => ?_) (fun i v hq x hlt hx hf => ?_) <;> (try dsimp only))
        | ((with_reducible refine f6z ?_); refine f6a hf (fun i v hq hle hf => ?_) (fun i v hq x hlt hx hf => ?_) <;> (try dsimp only))
        | ((with_reducible refine f7a ?_); refine f6b hf (fun i v hq hle hf => ?_) (fun i v hq x hlt hx hf => ?_) <;> (try dsimp only))
        | ((with_reducible refine f7b ?_); refine f6c hf (fun i v hq hle hf => ?_) (fun i v hq x hlt hx hf => ?_) <;> (try dsimp only))
        | ((with_reducible refine f0v ?_); refine f0r hf (fun i v hq hle hf => ?_) (fun i v hq x hlt hx hf => ?_) <;> (try dsimp only))
        | ((with_reducible refine f3k ?_); refine f3h hf (fun i v hq hle hf => ?_) (fun i v hq x hlt hx hf => ?_) <;> (try dsimp only))
        | ((with_reducible refine f3l ?_); refine f3i hf (fun i v hq hle hf => ?_) (fun i v hq x hlt hx hf => ?_) <;> (try dsimp only))
        | ((with_reducible refine f7c ?_); refine f6d hf (fun k v hq hf => ?_) <;> (try dsimp only))
        | ((with_reducible refine f7d ?_); refine f6e hf (fun k v hq hf => ?_) <;> (try dsimp only))
        | ((with_reducible refine f7e ?_); refine f6g hf (fun k v hq hf => ?_) <;> (try dsimp only))
        | ((with_reducible refine f7f ?_); refine f6h hf (fun k v hq hf => ?_) <;> (try dsimp only))
        | ((with_reducible refine f7g ?_); refine f6i hf (fun k v hq hf => ?_) <;> (try dsimp only))
        | ((with_reducible refine f6o ?_); refine f5m hf (fun v hf => ?_) ?_; rotate_left; (repeat refine d9s fun a => ?_); intro v hf; (try dsimp only); rotate_right; (try dsimp only))
        | ((with_reducible refine f6p ?_); refine f5n hf (fun p hf hr => ?_) ?_; rotate_left; (repeat refine d9s fun a => ?_); intro v hf; (try dsimp only); rotate_right; (try dsimp only))
        | ((with_reducible refine gwI ?_); refine wCi ?_)
        | ((with_reducible refine gwJ ?_); refine wFi ?_)
        | with_reducible refine a5h ?_
        | with_reducible refine a0n ?_
        | with_reducible refine a4s ?_
        | with_reducible refine b6d ?_
        | with_reducible refine c7v ?_
        | refine wt (dlt hlt) ?_
        | refine wg (dlf hle) ?_
        | refine wt rfl ?_
        | refine wg rfl ?_
        | (refine oiE hf (fun c hf => ?_) (fun c hf => ?_) <;> first | refine wt c ?_ | refine wf c ?_)
        | (refine a7u ?_; cases hf; (repeat cases hr); first | exact rHz | exact rLz | exact rFz | exact rWz)
        | (refine ogE hf fun hg hf => ?_))
    | with_reducible refine a4g ?_
    | with_reducible refine c7u ?_
    | with_reducible refine c7t ?_
    | with_reducible refine b4i ?_
    | with_reducible refine c5x ?_
    | (refine e3u ?_; cases hf; exact ckz)
    | (cases hf; exact ⟨⟨_,rfl⟩,ckz⟩)
    | (refine klz (w:=()) ?_ rfl hlt ?_; (any_goals ((try dsimp only); exact hf)); exact ckz)
    | (refine klz (w:=?_) ?_ rfl hlt ?_; (any_goals ((try dsimp only); exact hf)); exact ckz)
    | (refine klz (w:=(?_,?_)) ?_ rfl hlt ?_; (any_goals ((try dsimp only); exact hf)); exact ckz)
    | (refine klz (w:=(?_,?_,?_,?_)) ?_ rfl hlt ?_; (any_goals ((try dsimp only); exact hf)); exact ckz)
    | (refine klz (w:=(?_,?_,?_,?_,?_,?_,?_)) ?_ rfl hlt ?_; (any_goals ((try dsimp only); exact hf)); exact ckz)
    | (refine kyz (w:=?_) ?_ ?_; (any_goals ((try dsimp only); exact hf)); exact ckz)
    | (refine kyz (w:=(?_,?_)) ?_ ?_; (any_goals ((try dsimp only); exact hf)); exact ckz)
    | (refine kyz (w:=(?_,?_,?_)) ?_ ?_; (any_goals ((try dsimp only); exact hf)); exact ckz)
    | (refine kyz (w:=(?_,?_,?_,?_,?_)) ?_ ?_; (any_goals ((try dsimp only); exact hf)); exact ckz)
    | (refine kyz (w:=(?_,?_,?_,?_,?_,?_)) ?_ ?_; (any_goals ((try dsimp only); exact hf)); exact ckz)
    | (refine ogE hf fun hg hf => ?_)
    | fail
 ):p:=h
end Go.R
end
section
set_option linter.all false
namespace Go.R
open Go Go.RowKit
theorem take_add {α:Type} {A B:List α} {a b:Nat} (h:A.length = a):(A ++ B).take (a + b) = A ++ B.take b:=by
 subst h
 rw [List.take_append,List.take_of_length_le (by omega),Nat.add_sub_cancel_left]
section
variable {P:Program} {C:Ctx} {σ:Sg} {φ:Nat → List Nat} {h:List l7} {w w':World}
theorem Taken.perm {ks f g:List Nat} (a:Taken C σ φ h ks f) (hp:f.Perm g):Taken C σ φ h ks g :=
 ⟨fun b hb => a.ok b (hp.mem_iff.2 hb),fun b hb => a.live b (hp.mem_iff.2 hb),fun hdm b hb => a.own hdm b (hp.mem_iff.2 hb),fun hdm hn => hp.nodup_iff.1 (a.nodup hdm hn)⟩
theorem c3y (hr:o9 C σ φ h w) {o z:Nat} {l:List AV} (ho:h[o]? = some (.row z l)):Taken C σ φ h [o] (φ o) :=
 ⟨fun b hb => (hr.phi ho hb).1,fun b hb hl => absurd hl (hr.phi ho hb).2,fun hdm b hb => ⟨o,by simp,.inr ⟨hb,_,ho,rfl⟩⟩,fun hdm _ => (hr.deep hdm o _ l ho).1⟩
theorem d2m (hr:o9 C σ φ h w) {o z n:Nat} {l:List AV} {v:Value} (ho:h[o]? = some (.row z l)) (hv:RV C σ h w (.own o 0 n) v) (hn:n = l.length) :
  (v = .slice none 0 0 ∧ l = [] ∧ σ o = none ∧ φ o = []) ∨ ∃ g c cur e,σ o = some (g,c) ∧ v = .slice (some ⟨g,0,none⟩) n c ∧ n ≤ c ∧ c ≤ maxLen ∧ w.heap[g]? = some (.cells cur e (0,0)) ∧ cur.size = c * z ∧
   y7 C.dm w z l cur.toList (φ o):=by
 simp only [RV,ho] at hv
 obtain ⟨a,cap,rfl,g1,g2,g3,g4⟩:=hv
 obtain ⟨h0,hob⟩:=hr.obj o _ ho
 cases hs:σ o with
 | none =>
  rw [hs] at hob g4
  obtain ⟨rfl,rfl⟩:=g4
  obtain ⟨rfl,hp⟩:=hob
  subst hn
  exact .inl ⟨rfl,rfl,rfl,hp⟩
 | some p =>
  obtain ⟨g,c⟩:=p
  rw [hs] at hob g4
  obtain ⟨rfl,rfl⟩:=g4.2 rfl
  obtain ⟨h1,cur,e,h2,h3,h4,h5⟩:=hob
  exact .inr ⟨g,cap,cur,e,rfl,rfl,g2,g3,h2,h3,h4⟩
theorem b7h (hr:o9 C σ φ h w) {o o' z:Nat} {l:List AV} {y:l7} {g c b:Nat} (ho:h[o]? = some (.row z l)) (hb:b ∈ φ o) (ho':h[o']? = some y) (hy:y.isLive = true) (hs:σ o' = some (g,c)):b ≠ g:=by
 rintro rfl
 exact (hr.phi ho hb).2 ⟨o',y,c,ho',hy,hs⟩
theorem e7o {z:Nat} {l l':List AV} (hr:o9 C σ φ [.row z l] w) (hsize:w.heap.size ≤ w'.heap.size) {g c:Nat} (hσ:σ 0 = some (g,c)) (hc:c ≤ maxLen)
  (hblk:∀ b,b < w.heap.size → b ≠ g → w'.heap[b]? = w.heap[b]?) {cur':Array Value} {e':TypeId} (hg':w'.heap[g]? = some (.cells cur' e' (0,0))) (hcs':cur'.size = c * z)
  {f cs:List _} (hsub:List.Sublist f (φ 0)) (hrep:y7 C.dm w z l' cs f) (hcell:cur'.toList.take (l'.length * z) = cs.take (l'.length * z)) :
  ∃ σ' φ',o9 C σ' φ' [.dead,.row z l'] w' ∧ Ev σ [.row z l] w σ' [.dead,.row z l'] w' ∧ σ' 1 = some (g,c):=by
 have ho:([.row z l]:List l7)[0]? = some (.row z l):=rfl
 obtain ⟨h0,_⟩:=hr.obj 0 _ ho
 have hgb:C.mine g:=hr.base 0 _ g c ho rfl hσ
 have hlt:∀ b ∈ f,b < w.heap.size:=y7.lt _ _ _ hrep
 have hne:∀ b ∈ f,b ≠ g:=fun b hb => b7h hr ho (hsub.subset hb) ho rfl hσ
 have key:=b9c (w':=w') (ks:=[0]) (as:=l') (fp:=f) hr hsize (g:=g) (c:=c) (sz:=z) ⟨hgb,.inr ⟨0,by simp,_,c,ho,rfl,hσ⟩⟩ hblk hg' h0 hc hcs'
  (y7.congr hcell (y7.world _ _ _ (fun b hb => hblk b (hlt b hb) (hne b hb)) hrep)) ((c3y hr ho).sub hsub) hlt (fun b hb => (hr.phi ho (hsub.subset hb)).2) (fun _ => by simp)
 exact ⟨_,_,key.1,key.2,by simp [upd]⟩
theorem d9p {z:Nat} {l v:List AV} (hr:o9 C σ φ [.row z l,.row z v] w) (hb:∀ b,w.heap.size ≤ b → C.mine b) (hsize:w.heap.size ≤ w'.heap.size) {cs0 csv:List Value}
  (h0:y7 C.dm w z l cs0 (φ 0)) (h1:y7 C.dm w z v csv (φ 1)) (i:Nat) (hi:i ≤ l.length) {g' c':Nat} {cur':Array Value} {e':TypeId}
  (hg:w.heap.size ≤ g' ∨ ∃ c0,σ 0 = some (g',c0)) (hblk:∀ b,b < w.heap.size → b ≠ g' → w'.heap[b]? = w.heap[b]?) (hcur:w'.heap[g']? = some (.cells cur' e' (0,0))) (hcs':cur'.size = c' * z) (hc':c' ≤ maxLen)
  (hcell:cur'.toList.take ((i + v.length + (l.length - i)) * z) = cs0.take (i * z) ++ csv.take (v.length * z) ++ (cs0.drop (i * z)).take ((l.length - i) * z)) :
  ∃ σ' φ',o9 C σ' φ' [.dead,.dead,.row z (l.take i ++ v ++ l.drop i)] w' ∧ Ev σ [.row z l,.row z v] w σ' [.dead,.dead,.row z (l.take i ++ v ++ l.drop i)] w' ∧ σ' 2 = some (g',c'):=by
 have ho:([.row z l,.row z v]:List l7)[0]? = some (.row z l):=rfl
 have ho1:([.row z l,.row z v]:List l7)[1]? = some (.row z v):=rfl
 obtain ⟨hz,_⟩:=hr.obj 0 _ ho
 obtain ⟨fa,fb,hfab,ra,rb⟩:=h0.split i
 have hmine:C.mine g':=by
  rcases hg with hg | ⟨c0,hg⟩
  ·exact hb _ hg
  ·exact hr.base 0 _ g' c0 ho rfl hg
 have hmem:∀ b,b ∈ fa ++ φ 1 ++ fb → b ∈ φ 0 ∨ b ∈ φ 1:=by
  intro b hb'
  rw [hfab]
  simp only [List.mem_append] at hb' ⊢
  rcases hb' with (h | h) | h
  ·exact .inl (.inl h)
  ·exact .inr h
  ·exact .inl (.inr h)
 have hlt:∀ b ∈ fa ++ φ 1 ++ fb,b < w.heap.size:=by
  intro b hb'
  rcases hmem b hb' with h | h
  ·exact y7.lt _ _ _ h0 b h
  ·exact y7.lt _ _ _ h1 b h
 have hnl:∀ b ∈ fa ++ φ 1 ++ fb,¬ liveAt [.row z l,.row z v] σ b:=by
  intro b hb'
  rcases hmem b hb' with h | h
  ·exact (hr.phi ho h).2
  ·exact (hr.phi ho1 h).2
 have hne:∀ b ∈ fa ++ φ 1 ++ fb,b ≠ g':=by
  intro b hb'
  rcases hg with hg | ⟨c0,hg⟩
  ·have:=hlt b hb'; omega
  ·rintro rfl
   exact hnl b hb' ⟨0,_,c0,ho,rfl,hg⟩
 have htk:Taken C σ φ [.row z l,.row z v] [0,1] (fa ++ φ 1 ++ fb):=by
  refine Taken.perm ((c3y hr ho).append hr (c3y hr ho1)) ?_
  rw [hfab,List.append_assoc,List.append_assoc]
  exact List.Perm.append_left _ List.perm_append_comm
 have hl0:(l.take i).length = i:=by rw [List.length_take]; omega
 have hl1:(l.drop i).length = l.length - i:=by rw [List.length_drop]
 have hc0:(cs0.take (i * z)).length = i * z:=by
  have hlen:=h0.length
  rw [List.length_take]
  have:i * z ≤ l.length * z:=Nat.mul_le_mul_right _ (by omega)
  omega
 have hcv:(csv.take (v.length * z)).length = v.length * z:=by
  have hlen:=h1.length
  rw [List.length_take]; omega
 have hA:=y7.append (y7.congr (cs':=cs0.take (i * z)) (by rw [hl0,List.take_take,Nat.min_self]) ra) (by rw [hc0,hl0]) (y7.congr (cs':=csv.take (v.length * z)) (by rw [List.take_take,Nat.min_self]) h1)
 have hB:=y7.append hA (by rw [List.length_append,List.length_append,hc0,hl0,hcv,Nat.add_mul]) rb
 have key:=b9c (w':=w') (ks:=[0,1]) (as:=l.take i ++ v ++ l.drop i) (fp:=fa ++ φ 1 ++ fb) hr hsize (g:=g') (c:=c') (sz:=z)
  ⟨hmine,hg.imp id fun ⟨c0,hg⟩ => ⟨0,by simp,_,c0,ho,rfl,hg⟩⟩ hblk hcur hz hc' hcs'
  (y7.congr (by
   rw [List.length_append,List.length_append,hl0,hl1,hcell,Nat.add_mul (i + v.length),take_add (by rw [List.length_append,hc0,hcv,Nat.add_mul])])
   (y7.world _ _ _ (fun b hb' => hblk b (hlt b hb') (hne b hb')) hB)) htk hlt hnl (fun _ => by decide)
 exact ⟨_,_,key.1,key.2,by simp [upd]⟩
end
section
variable {P:Program}
theorem b3o (w:World) (dT sT ty elem:TypeId) (i:TypeInfo) (g o dLen dCap:Nat) (a:Addr) (sLen sCap:Nat) (cur:Array Value) (t:TypeId) (cs:List Value)
  (hu:P.underlying dT = some (.slice elem)) (hs:P.info? elem = some i)
  (hg:w.heap[g]? = some (.cells cur t (0,0))) (hn:cs.length = Nat.min sLen dLen * i.size)
  (hsrc:∀ j v,cs[j]? = some v → w.cell? (a.add j) = some v) (hfit:o + cs.length ≤ cur.size) (h1:∀ v ∈ cs,v.oneCell' = true) :
  (Builtin.copy_ #[dT,sT] ty #[.slice (some ⟨g,o,none⟩) dLen dCap,.slice (some a) sLen sCap]).run P w =
   .ok (goInt (Nat.min sLen dLen)) (w.setRow g (cur.toList.take o ++ cs ++ cur.toList.drop (o + cs.length)).toArray):=by
 have hl:=run_loadCells_list (P:=P) w a cs hsrc
 have hst:=run_storeCells_at P g o t cs 0 cur w hg (by simpa using hfit) h1
 simp [Builtin.copy_,run_underlying hu,Builtin.lenOf,Builtin.firstCells,sizeOf,typeInfo,hs,← hn,hl,hst]
theorem c8a (w:World) (dT ty elem:TypeId) (i:TypeInfo) (zv:Value) (g o n cap:Nat) (cur:Array Value) (t:TypeId)
  (hu:P.underlying dT = some (.slice elem)) (hs:P.info? elem = some i) (hzv:i.zero = some zv) (hzs:zv.cells.size = i.size) (h1:∀ v ∈ zv.cells.toList,v.oneCell' = true)
  (hg:w.heap[g]? = some (.cells cur t (0,0))) (hn:0 < n) (hfit:o + n * i.size ≤ cur.size) :
  (Builtin.clear_ #[dT] ty #[.slice (some ⟨g,o,none⟩) n cap]).run P w =
   .ok (.tuple #[]) (w.setRow g (cur.toList.take o ++ (Builtin.zeroCells zv.cells n).toList ++ cur.toList.drop (o + n * i.size)).toArray):=by
 have hl:(Builtin.zeroCells zv.cells n).toList.length = n * i.size:=by rw [Array.length_toList,size_zeroCells,hzs]
 have hst:=run_storeCells_at P g o t (Builtin.zeroCells zv.cells n).toList 0 cur w hg (by rw [hl]; simpa using hfit) (by
  intro v hv
  simp only [Builtin.zeroCells] at hv
  simp at hv
  obtain ⟨k,hk,rfl⟩:=hv
  have hp:0 < zv.cells.size:=by
   rcases Nat.eq_zero_or_pos zv.cells.size with h | h
   ·rw [h] at hk; omega
   ·exact h
  have hm:=Nat.mod_lt k hp
  rw [getElem!_pos zv.cells (k % zv.cells.size) hm]
  exact h1 _ (by simp))
 rw [hl] at hst
 obtain ⟨m,rfl⟩:∃ m,n = m + 1:=⟨n - 1,by omega⟩
 have hz0:(zeroValue elem).run P w = .ok zv w:=by simp [zeroValue,typeInfo,hs,hzv]
 simp [Builtin.clear_,run_underlying hu,hz0,hst]
end
end Go.R
end
section
set_option linter.all false
namespace Go.R
open Go Go.RowKit
def f4v (h:List l7):AV → Option (AV × List Nat)
 | .own o 0 n => match h[o]? with
  | some (.row z l) => some (.lst z (l.take n),[o])
  | _ => none
 | a => if R.rflat a = true then some (a,[]) else none
def e9f (h:List l7):List AV → Option (List AV × List Nat)
 | [] => some ([],[])
 | a :: as => match f4v h a,e9f h as with
  | some (b,k),some (bs,ks) => some (b :: bs,k ++ ks)
  | _,_ => none
def e3z (h:List l7):List Nat → Prop
 | [] => True
 | o :: os => (∃ z l,h[o]? = some (.row z l) ∧ ∀ a ∈ l,R.flat a = true) ∧ e3z h os
section
variable {P:Program} {C:Ctx} {σ:Sg} {φ:Nat → List Nat} {h:List l7} {w w':World}
end
def e9g (os:List AOp) (t:Nat → AV) (h:List l7) (r:AV):Prop:=b3v false t h os ∧ ∃ bs ks,e9f h (b2f t h os) = some (bs,ks) ∧ ks.Nodup ∧ e3z h ks ∧ Le (R.pack bs) r
def retQF (os:List AOp) (r:AV):c2b → (Nat → AV) → List l7 → Prop
 | .exit _,_,_ => False
 | .norm,t,h => e9g os t h r
 | .ret,t,h => e9g os t h r
end Go.R
end
