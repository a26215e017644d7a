/- Part of the proof. -/
import Derived.Test.YtldahjcikmpifaaGreatS2
import Derived.KernelRfl
section
set_option linter.all false
namespace Go.R
open Go Go.RowKit
def Opr (P:Program) (dm:Md) (op:AOp) (bs:List (Nat × AV)) (h:List l7) (v:AV) (h':List l7):Prop:=∀ k:AV → List l7 → Prop,k v h' → a6x P dm op (AX.ev (ofL bs)) h k
def e6x (P:Program) (dm:Md) (op:AOp) (bs:List (Nat × AV)) (h:List l7) (v:AV) (h':List l7) (F:Prop):Prop:=∀ k:AV → List l7 → Prop,(F → k v h') → a6x P dm op (AX.ev (ofL bs)) h k
section
variable {P:Program} {dm:Md} {bs:List (Nat × AV)} {h h':List l7} {n other:a1j} {re:List a2z} {K:(Nat → AV) → List l7 → Prop} {d:Nat} {op:AOp} {v:AV} {F:Prop}
theorem a4k (hop:Opr P dm op bs h v h') (hn:a0l P dm n (ofL ((d,v) :: bs)) h' K):a0l P dm (.q ⟨some d,none,op⟩ n) (ofL bs) h K:=hop _ hn
theorem c2p (hop:e6x P dm op bs h v h' F) (hn:F → a0l P dm n (ofL ((d,v) :: bs)) h' K):a0l P dm (.q ⟨some d,none,op⟩ n) (ofL bs) h K:=hop _ hn
theorem c2r (hop:Opr P dm op bs h v h') (hn:a0l P dm n (ofL bs) h' K):a0l P dm (.q ⟨none,none,op⟩ n) (ofL bs) h K:=hop _ hn
theorem a6e (hop:Opr P dm op bs h v h') (ha:b8o dm.m re (ofL ((d,v) :: bs)) h h') (ho:a0l P dm other (ofL bs) h K) (hn:a0l P dm n (ofL ((d,v) :: bs)) h' K):a0l P dm (.l ⟨some d,none,op⟩ re n other) (ofL bs) h K:=⟨hop _ ⟨ha,hn⟩,ho⟩
theorem f3i (hop:Opr P dm op bs h v h') (ha:b8o dm.m re (ofL bs) h h') (ho:a0l P dm other (ofL bs) h K) (hn:a0l P dm n (ofL bs) h' K):a0l P dm (.l ⟨none,none,op⟩ re n other) (ofL bs) h K:=⟨hop _ ⟨ha,hn⟩,ho⟩
theorem b9y {m:Bool} {re:List a2z} {t:Nat → AV}:b8o m re t h h:=by
 cases re with
 | nil => trivial
 | cons a b => exact .inl rfl
theorem b9z {T:a1j} {s:Nat} {b e:Bool} (ht:ofL bs s = .bool e) (he:e = b) (hn:a0l P dm T (ofL ((s,.bool b) :: bs)) h K):a0l P dm T (ofL bs) h K:=by
 subst he
 have:ofL ((s,.bool e) :: bs) = ofL bs:=b5s ht
 rw [this] at hn
 exact hn
theorem s_on {s:Nat} {b:Bool} {o:Option Nat} (ht:ofL bs s = .bool b) (hn:a0l P dm (.q ⟨o,none,op⟩ n) (ofL bs) h K):a0l P dm (.q ⟨o,some (s,b),op⟩ n) (ofL bs) h K:=by
 show b9v P dm _ _ h _
 unfold b9v
 simp only [ht]
 rw [if_pos trivial,b5s ht]
 exact hn
theorem d0s {s:Nat} {b:Bool} {o:Option Nat} (ht:ofL bs s = .bool b) (hn:a0l P dm (.l ⟨o,none,op⟩ re n other) (ofL bs) h K):a0l P dm (.l ⟨o,some (s,b),op⟩ re n other) (ofL bs) h K:=by
 refine ⟨?_,hn.2⟩
 unfold b9v
 simp only [ht]
 rw [if_pos trivial,b5s ht]
 exact hn.1
theorem c0c {s:Nat} {b b':Bool} (ht:ofL bs s = .bool b') (hb:(b' == b) = false) (hn:a0l P dm n (ofL ((d,.skip) :: bs)) h K):a0l P dm (.q ⟨some d,some (s,b),op⟩ n) (ofL bs) h K:=by
 show b9v P dm _ _ h _
 unfold b9v
 simp only [ht]
 have hne:¬ b' = b:=by simpa using hb
 have hx:(!b) = b':=by cases b <;> cases b' <;> simp_all
 rw [if_neg hne,hx,b5s ht]
 exact hn
theorem c3y {s:Nat} {b b':Bool} (ht:ofL bs s = .bool b') (hb:(b' == b) = false) (ho:a0l P dm other (ofL bs) h K) (hn:a0l P dm n (ofL ((d,.skip) :: bs)) h K):a0l P dm (.l ⟨some d,some (s,b),op⟩ re n other) (ofL bs) h K:=by
 refine ⟨?_,ho⟩
 unfold b9v
 simp only [ht]
 have hne:¬ b' = b:=by simpa using hb
 have hx:(!b) = b':=by cases b <;> cases b' <;> simp_all
 rw [if_neg hne,hx,b5s ht]
 exact ⟨b9y,hn⟩
theorem c6s {s:Nat} {b:Bool} (ht:ofL bs s = .skip) (hn:a0l P dm n (ofL ((d,.skip) :: bs)) h K):a0l P dm (.q ⟨some d,some (s,b),op⟩ n) (ofL bs) h K:=by
 show b9v P dm _ _ h _
 unfold b9v
 simp only [ht]
 exact hn
theorem e2x {s:Nat} {b:Bool} (ht:ofL bs s = .skip) (ho:a0l P dm other (ofL bs) h K) (hn:a0l P dm n (ofL ((d,.skip) :: bs)) h K):a0l P dm (.l ⟨some d,some (s,b),op⟩ re n other) (ofL bs) h K:=by
 refine ⟨?_,ho⟩
 unfold b9v
 simp only [ht]
 exact ⟨b9y,hn⟩
variable {m:Bool} {n0:Nat} {a b:a0m} {Q:AQ} {t:Nat → AV}
theorem a9i {T:a1j} (hn:a0l P dm T t h (kN Q)):awp P dm n0 (.reg T) t h Q:=hn
theorem a8y (hn:Q .norm t h):a0l P dm .done t h (kN Q):=hn
theorem a5n (hn:Q .norm t h):awp P dm n0 .skip t h Q:=hn
theorem a5s (hn:awp P dm n0 b t h Q):b3v (awp P dm n0 b) Q .norm t h:=hn
theorem f2g {s} (hn:a3e m n0 t h s):d8b m n0 s Q .norm t h:=hn
theorem e1a {X:Type} {S:X → List (Nat × AV) × List l7} (y:X) (hn:a3e m n0 t h (S y)):c2o m n0 S Q .norm t h:=⟨y,hn⟩
theorem b6g {id:Nat} (hn:Q .norm t h):a2s id Q .norm t h:=hn
theorem c3z {id:Nat} (hn:Q .norm t h):a2s id Q (.exit id) t h:=by simp only [a2s,if_pos]; exact hn
theorem c4a {F:(Nat → AV) → List l7 → AQ → Prop} {i:Nat} (hn:Q (.exit i) t h):b3v F Q (.exit i) t h:=hn
theorem c1u {X:Type} {S:X → List (Nat × AV) × List l7} {μ:X → Nat} {x:X} {i:Nat} (hn:Q (.exit i) t h):b9x m n0 S μ x Q (.exit i) t h:=hn
theorem d5n {X:Type} {S:X → List (Nat × AV) × List l7} {μ:X → Nat} {x:X} (y:X) (hy:μ y < μ x) (hn:a3e m n0 t h (S y)):b9x m n0 S μ x Q .norm t h:=⟨y,hy,hn⟩
theorem sr {T:a1j} (hn:a0l P dm T t h (kN (b3v (awp P dm n0 b) Q))):awp P dm n0 (.seq (.reg T) b) t h Q:=hn
theorem dk (hn:awp P dm n0 b t h Q):a0l P dm .done t h (kN (b3v (awp P dm n0 b) Q)):=hn
theorem c4b {i:Nat} (hn:Q (.exit i) t h):awp P dm n0 (.exit i) t h Q:=hn
theorem b3g (hn:Q .ret t h):awp P dm n0 .ret t h Q:=hn
theorem b7k {id:Nat} (hn:awp P dm n0 a t h (a2s id Q)):awp P dm n0 (.block id a) t h Q:=hn
theorem b5m {s:Nat} {e:Bool} (ht:ofL bs s = .bool e) (he:e = true) (hn:awp P dm n0 a (ofL ((s,.bool true) :: bs)) h Q):awp P dm n0 (.cond (.t s) a b) (ofL bs) h Q:=by
 subst he
 simp only [awp,AX.ev,ht,if_pos]
 exact hn
theorem b4i {s:Nat} {e:Bool} (ht:ofL bs s = .bool e) (he:e = false) (hn:awp P dm n0 b (ofL ((s,.bool false) :: bs)) h Q):awp P dm n0 (.cond (.t s) a b) (ofL bs) h Q:=by
 subst he
 simp only [awp,AX.ev,ht]
 exact hn
theorem b7v {os:List AOp} {r:AV} (hp:b6f m t h os) (hf:rflats (b4h t h os) = true) (hl:Le (pack (b4h t h os)) r):d0q m .flat os r .ret t h:=⟨hp,_,⟨hf,rfl⟩,hl⟩
theorem c9d {os:List AOp} {r:AV} {bs:List AV} {ks:List Nat} (hp:b6f m t h os) (ha:a0r true h (b4h t h os) = some (bs,ks)) (hn:ks.Nodup) (hl:Le (pack bs) r):d0q m .fresh os r .ret t h:=by
 refine ⟨hp,pack bs,?_,hl⟩
 simp only [Ret,ha]
 exact ⟨hn,trivial⟩
theorem c0d {os:List AOp} {r:AV} {hout:List l7} {n0:Nat} {t':Nat → AV} {h':List l7} (gs:List Gh) (js:List Nat) (hg:ghs m t h gs = some (t',h')) (hp:b6f m t' h' os) (hk:b2b n0 h'.length js = true) (hh:LeH (b1z h' js) hout) (hl:Le (ren (a7r js) (pack (b4h t' h' os))) r):c7u m n0 os r hout .ret t h :=
 ⟨gs,js,t',h',hg,hp,hk,hh,hl⟩
theorem d0t {os:List AOp} {r:AV} {bs:List AV} {ks:List Nat} (hp:b6f m t h os) (ha:a0r false h (b4h t h os) = some (bs,ks)) (hl:Le (pack bs) r):d0q m .weak os r .ret t h:=by
 refine ⟨hp,pack bs,?_,hl⟩
 simp only [Ret,ha]
end
section
variable {P:Program} {dm:Md} {bs:List (Nat × AV)} {h:List l7} {α:Type} {enc:α → AV} {l:List α} {z:Nat} {x i:AX} {e:α} {k:IntKind}
theorem a4g {op:AOp} {e:AX → AV} {h:List l7} {k:AV → List l7 → Prop} (hq:op.quiet = true) (hm:mmT op e h) (h1:aqP op e h ∧ (aqF op e → k (aqV op e h) h)):a6x P dm op e h k:=by
 cases op <;> first | exact ⟨aqQ.of h1.1 hm,h1.2⟩ | cases hq
theorem o_q {op:AOp} (v:AV) (hq:op.quiet = true) (hp:aqQ dm.m op (AX.ev (ofL bs)) h) (hv:aqV op (AX.ev (ofL bs)) h = v):Opr P dm op bs h v h:=by
 intro k hk
 subst hv
 cases op <;> first | (exact ⟨hp,fun _ => hk⟩) | (cases hq)
theorem e2y (v:AV) (hv:x.ev (ofL bs) = v):Opr P dm (.mov x) bs h v h:=o_q v rfl (.of trivial trivial) hv
theorem d8c (hx:x.ev (ofL bs) = .lst z (l.map enc)):e6x P dm (.len x) bs h (.int .i64 l.length) h (l.length ≤ maxLen):=by
 intro k hk
 refine a4g rfl trivial ?_
 simp only [aqP,aqF,aqV,hx,List.length_map]
 exact ⟨trivial,hk⟩
theorem d8d {o lo m z:Nat} {l:List AV} (hx:x.ev (ofL bs) = .own o lo m) (ho:h[o]? = some (.row z l)):e6x P dm (.len x) bs h (.int .i64 m) h (m ≤ maxLen):=by
 intro k hk
 refine a4g rfl trivial ?_
 simp only [aqP,aqF,aqV,hx,ho]
 exact ⟨trivial,hk⟩
theorem e1b {s:List UInt8} (hx:x.ev (ofL bs) = .str s):e6x P dm (.lenS x) bs h (.int .i64 s.length) h (s.length ≤ maxLen):=by
 intro k hk
 refine a4g rfl trivial ?_
 simp only [aqP,aqF,aqV,hx]
 exact ⟨trivial,hk⟩
theorem c5c {n:Int} (hx:x.ev (ofL bs) = .lst z (l.map enc)) (hi:i.ev (ofL bs) = .int k n) (h0:0 ≤ n) (hl:l[n.toNat]? = some e):Opr P dm (.iaddr z x i) bs h (.iptr (enc e) 0) h:=by
 intro k hk
 have hlt:n.toNat < l.length:=(List.getElem?_eq_some_iff.1 hl).1
 have hg:(l.map enc).getD n.toNat .undef = enc e:=by simp [hl]
 refine a4g rfl trivial ?_
 simp only [aqP,aqF,aqV,hx,hi,List.length_map,hg]
 exact ⟨⟨⟨h0,by omega⟩,trivial⟩,fun _ => hk⟩
theorem d0u {j:Nat} (hx:x.ev (ofL bs) = .lst z (l.map enc)) (hi:i.ev (ofL bs) = .int k (j:Int)) (hl:l[j]? = some e):Opr P dm (.iaddr z x i) bs h (.iptr (enc e) 0) h :=
 c5c hx hi (by omega) (by simpa using hl)
theorem b6x {o lo m z':Nat} {l:List AV} {n:Int} (hx:x.ev (ofL bs) = .own o lo m) (hi:i.ev (ofL bs) = .int k n) (h0:0 ≤ n) (h1:n < m) (ho:h[o]? = some (.row z' l)) (hz:z' = z):Opr P dm (.iaddr z x i) bs h (.ptr o (lo + n.toNat) 0) h:=by
 intro k hk
 subst hz
 refine a4g rfl trivial ?_
 simp only [aqP,aqF,aqV,hx,hi,ho]
 exact ⟨⟨⟨h0,h1⟩,trivial⟩,fun _ => hk⟩
theorem d8e {o m z':Nat} {l:List AV} {j:Nat} (hx:x.ev (ofL bs) = .own o 0 m) (hi:i.ev (ofL bs) = .int k (j:Int)) (h1:j < m) (ho:h[o]? = some (.row z' l)) (hz:z' = z):Opr P dm (.iaddr z x i) bs h (.ptr o j 0) h:=by
 have:=b6x (P:=P) (dm:=dm) (z:=z) hx hi (by omega) (by omega) ho hz
 simpa using this
theorem e1c {s:List UInt8} {n:Int} {c:UInt8} (hx:x.ev (ofL bs) = .str s) (hi:i.ev (ofL bs) = .int k n) (h0:0 ≤ n) (hl:s[n.toNat]? = some c):Opr P dm (.idxs x i) bs h (.int .u8 c.toNat) h:=by
 intro k hk
 have hlt:n.toNat < s.length:=(List.getElem?_eq_some_iff.1 hl).1
 have hg:s.getD n.toNat 0 = c:=by simp [hl]
 refine a4g rfl trivial ?_
 simp only [aqP,aqF,aqV,hx,hi,hg]
 exact ⟨⟨h0,by omega⟩,fun _ => hk⟩
theorem d5o {s:List UInt8} {j:Nat} {c:UInt8} (hx:x.ev (ofL bs) = .str s) (hi:i.ev (ofL bs) = .int k (j:Int)) (hl:s[j]? = some c):Opr P dm (.idxs x i) bs h (.int .u8 c.toNat) h :=
 e1c hx hi (by omega) (by simpa using hl)
theorem d3t {dm:Bool} {a:AX} {o j f sz z:Nat} {ag:Bool} {v:AV} (hx:a.ev (ofL bs) = .ptr o j f) (ho:h[o]? = some (.row z (l.map enc))) (hl:l[j]? = some e) (hp:ldP (enc e) f sz ag) (hv:ldV (enc e) f sz ag = v):Opr P (dm:Bool) (.load sz ag a) bs h v h:=by
 intro k hk
 have hg:(l.map enc).getD j .undef = enc e:=by simp [hl]
 have key:aqP (.load sz ag a) (AX.ev (ofL bs)) h:=by
  simp only [aqP,hx,ho,hg]
  exact hp
 refine ⟨key,fun _ => ?_⟩
 simp only [aqV,hx,ho,hg,hv]
 exact hk
theorem nle {a b:Nat} (h:Nat.ble a b = true:=by rfl):a ≤ b:=Nat.le_of_ble_eq_true h
theorem d3u {n:Int} {hi:AX} (hx:x.ev (ofL bs) = .lst z (l.map enc)) (hh:hi.ev (ofL bs) = .int k n) (h0:0 ≤ n) (h1:n ≤ l.length):Opr P dm (.slice z x none (some hi)) bs h (.lst z ((l.take n.toNat).map enc)) h:=by
 intro k hk
 refine a4g rfl trivial ?_
 simp only [aqP,aqF,aqV,hx,hh,c8q,b6j,e0g,d2m,Option.map_some,Option.map_none,Option.getD_some,Option.getD_none,List.length_map,← List.map_take]
 exact ⟨⟨⟨by omega,h0,h1⟩,trivial⟩,fun _ => hk⟩
theorem e2z {n:Int} {lo:AX} (hx:x.ev (ofL bs) = .lst z (l.map enc)) (hh:lo.ev (ofL bs) = .int k n) (h0:0 ≤ n) (h1:n ≤ l.length):Opr P dm (.slice z x (some lo) none) bs h (.lst z ((l.drop n.toNat).map enc)) h:=by
 intro k hk
 refine a4g rfl trivial ?_
 simp only [aqP,aqF,aqV,hx,hh,c8q,b6j,e0g,d2m,Option.map_some,Option.map_none,Option.getD_some,Option.getD_none,List.length_map,← List.map_drop]
 exact ⟨⟨⟨h0,h1,by omega⟩,trivial⟩,fun _ => hk⟩
theorem d0v {o m:Nat} {l:List AV} {n:Int} {hi:AX} (hx:x.ev (ofL bs) = .own o 0 m) (ho:h[o]? = some (.row z l)) (hh:hi.ev (ofL bs) = .int k n) (h0:0 ≤ n) (h1:n ≤ m):Opr P dm (.slice z x none (some hi)) bs h (.own o 0 n.toNat) h:=by
 intro k hk
 refine a4g rfl trivial ?_
 simp only [aqP,aqF,aqV,hx,ho,hh,c8q,b6j,e0g,d2m,Option.map_some,Option.map_none,Option.getD_some,Option.getD_none]
 exact ⟨⟨⟨by omega,h0,h1⟩,trivial⟩,fun _ => hk⟩
theorem e6y {o m:Nat} {l:List AV} {n:Int} {lo:AX} (hx:x.ev (ofL bs) = .own o 0 m) (ho:h[o]? = some (.row z l)) (hh:lo.ev (ofL bs) = .int k n) (h0:0 ≤ n) (h1:n ≤ m):Opr P dm (.slice z x (some lo) none) bs h (.own o n.toNat (m - n.toNat)) h:=by
 intro k hk
 refine a4g rfl trivial ?_
 simp only [aqP,aqF,aqV,hx,ho,hh,c8q,b6j,e0g,d2m,Option.map_some,Option.map_none,Option.getD_some,Option.getD_none,Nat.zero_add]
 exact ⟨⟨⟨h0,h1,by omega⟩,trivial⟩,fun _ => hk⟩
theorem c2s {c:AV} {sz j:Nat} (hv:x.ev (ofL bs) = c) (hs:a6p h c) (hl:c.cells.length = sz) (hj:h.length = j):Opr P dm (.box sz x) bs h (.ptr j 0 0) (h ++ [.box sz c]):=by
 intro k hk
 subst hj hv
 exact ⟨⟨hs,hl⟩,hk⟩
theorem a8z {a:AX} {o j f z sz:Nat} {y v y':AV} (ha:a.ev (ofL bs) = .ptr o j f) (ho:h[o]? = some (.box z y)) (hx:x.ev (ofL bs) = v) (hs:a6p h v) (hp:a9h y f sz v) (hl:b9u h v.cells) (hy:a4f y f v = y'):Opr P dm (.store sz a x) bs h .skip (h.set o (.box z y')):=by
 intro k hk
 subst hx hy
 simp only [a6x,ha,ho]
 exact ⟨⟨hs,hp,hl⟩,hk⟩
theorem e1d {a:AX} {o j f z sz:Nat} {v v0 v':AV} {e':α} {ks:List Nat} {h2:List l7} (ha:a.ev (ofL bs) = .ptr o j f) (ho:h[o]? = some (.row z (l.map enc))) (hl:l[j]? = some e) (hx:x.ev (ofL bs) = v) (hab:a1y dm.d h v = some (v0,ks)) (hv0:v0 = v') (hk:o ∉ ks) (hnd:dm.d = true → ks.Nodup) (hp:a9h (enc e) f sz v') (hy:Le (a4f (enc e) f v') (enc e')) (hh:kill h ks = h2) :
  Opr P dm (.store sz a x) bs h .skip (h2.set o (.row z ((l.set j e').map enc))):=by
 intro k hk'
 subst hx hh hv0
 have hg:(l.map enc)[j]? = some (enc e):=by simp [hl]
 simp only [a6x,ha,ho,hg,hab]
 refine ⟨⟨hk,hnd,hp⟩,_,hy,?_⟩
 rw [← List.map_set]
 exact hk'
theorem e4l {sz bytes j m:Nat} {zero:AV} {nx cx:AX} {k':IntKind} {c:Int} (e:α) (hz:Le zero (enc e)) (hn:nx.ev (ofL bs) = .int k (m:Int)) (hc:cx.ev (ofL bs) = .int k' c) (h1:(m:Int) ≤ c) (h2:c ≤ 2 ^ 30) (hj:h.length = j) :
  Opr P dm (.mkslice sz bytes zero nx cx) bs h (.own j 0 m) (h ++ [.row sz ((List.replicate m e).map enc)]):=by
 intro k hk
 subst hj
 simp only [a6x,hn,hc]
 refine ⟨⟨by omega,h1,h2⟩,(List.replicate m e).map enc,?_,by simpa using hk⟩
 rw [Int.toNat_natCast,List.map_replicate]
 exact LeL.rep hz m
theorem a3a {sz j m:Nat} {xs:List AX} {as as':List AV} {ks:List Nat} {h2:List l7} (ha:a0r dm.d h (xs.map (AX.ev (ofL bs))) = some (as,ks)) (hnd:dm.d = true → ks.Nodup) (hl:d7n sz as) (he:LeL as as') (hm:as'.length = m) (hh:kill h ks = h2) (hj:h.length = j) :
  Opr P dm (.bslice sz xs) bs h (.own j 0 m) (h2 ++ [.row sz as']):=by
 intro k hk
 subst hj hm hh
 simp only [a6x,ha]
 exact .inl ⟨⟨hnd,hl⟩,as',he,by rw [he.length]; exact hk⟩
theorem a6f {sz bytes j n m len:Nat} {s:AX} {l0 l1 L:List AV} {ks0 ks1:List Nat} {h2:List l7} (hd:b9r h sz (s.ev (ofL bs)) = some (l0,n,ks0)) (hs:b6e false h sz (x.ev (ofL bs)) = some (l1,m,ks1)) (hL:l0 ++ l1 = L) (hn:n + m = len) (hb:len ≤ 2 ^ 30) (hh:kill h (ks0 ++ ks1) = h2) (hj:h.length = j) :
  Opr P (false:Bool) (.append sz bytes s x) bs h (.own j 0 len) (h2 ++ [.row sz L]):=by
 intro k hk
 subst hL hn hh hj
 simp only [a6x,hd,hs]
 exact ⟨hb,hk⟩
theorem b1r (hdd:dm.d = true) {sz bytes j n m len:Nat} {s:AX} {l0 l1 L:List AV} {ks0 ks1:List Nat} {h2:List l7} (cons:Bool) (hd:b9r h sz (s.ev (ofL bs)) = some (l0,n,ks0)) (hs:b6e cons h sz (x.ev (ofL bs)) = some (l1,m,ks1)) (hf:cons = false → ∀ a ∈ l1,R.flat a = true) (hf2:∀ z l',x.ev (ofL bs) = .lst z l' → ∀ a ∈ l1,R.flat a = true) (hnd:(ks0 ++ ks1).Nodup) (hL:l0 ++ l1 = L) (hn:n + m = len) (hb:len ≤ 2 ^ 30) (hh:kill h (ks0 ++ ks1) = h2) (hj:h.length = j) :
  Opr P dm (.append sz bytes s x) bs h (.own j 0 len) (h2 ++ [.row sz L]):=by
 intro k hk
 subst hL hn hh hj
 simp only [a6x,hdd]
 refine .inl ⟨cons,?_⟩
 simp only [hd,hs]
 exact ⟨⟨hf,hf2,hnd,hb⟩,hk⟩
def Agn (m:Bool) (op:AOp) (bs:List (Nat × AV)) (h:List l7) (v:AV):Prop:=aqQ m op (AX.ev (ofL bs)) h ∧ v = aqV op (AX.ev (ofL bs)) h
theorem Agn.of {m:Bool} {op:AOp} (hq:op.quiet = true) {v:AV} (ho:∀ k:AV → List l7 → Prop,k v h → (aqP op (AX.ev (ofL bs)) h ∧ (aqF op (AX.ev (ofL bs)) → k (aqV op (AX.ev (ofL bs)) h) h))) (hf:aqF op (AX.ev (ofL bs))) (hm:mmT op (AX.ev (ofL bs)) h:=by trivial):Agn m op bs h v:=by
 obtain ⟨h1,h2⟩:=ho (fun r _ => v = r) rfl
 exact ⟨.of h1 hm,h2 hf⟩
theorem f3j (hx:x.ev (ofL bs) = .lst z (l.map enc)):Agn false (.len x) bs h (.int .i64 l.length):=by
 simp only [Agn,aqQ,aqP,aqV,hx,List.length_map,and_self]
theorem e4m {o lo m z:Nat} {l:List AV} (hx:x.ev (ofL bs) = .own o lo m) (ho:h[o]? = some (.row z l)):Agn false (.len x) bs h (.int .i64 m):=by
 simp only [Agn,aqQ,aqP,aqV,hx,ho,and_self]
theorem d8f {n:Int} (hx:x.ev (ofL bs) = .lst z (l.map enc)) (hi:i.ev (ofL bs) = .int k n) (h0:0 ≤ n) (hl:l[n.toNat]? = some e):Agn false (.iaddr z x i) bs h (.iptr (enc e) 0) :=
 Agn.of rfl (fun k hk => c5c (P:=default) (dm:=(false:Bool)) hx hi h0 hl k hk) (by trivial)
theorem e4n {j:Nat} (hx:x.ev (ofL bs) = .lst z (l.map enc)) (hi:i.ev (ofL bs) = .int k (j:Int)) (hl:l[j]? = some e):Agn false (.iaddr z x i) bs h (.iptr (enc e) 0) :=
 d8f hx hi (by omega) (by simpa using hl)
theorem c6t {n:Int} {hi:AX} (hx:x.ev (ofL bs) = .lst z (l.map enc)) (hh:hi.ev (ofL bs) = .int k n) (h0:0 ≤ n) (h1:n ≤ l.length):Agn false (.slice z x none (some hi)) bs h (.lst z ((l.take n.toNat).map enc)) :=
 Agn.of rfl (fun k hk => d3u (P:=default) (dm:=(false:Bool)) hx hh h0 h1 k hk) trivial
theorem b5z {n:Int} {lo:AX} (hx:x.ev (ofL bs) = .lst z (l.map enc)) (hh:lo.ev (ofL bs) = .int k n) (h0:0 ≤ n) (h1:n ≤ l.length):Agn false (.slice z x (some lo) none) bs h (.lst z ((l.drop n.toNat).map enc)) :=
 Agn.of rfl (fun k hk => e2z (P:=default) (dm:=(false:Bool)) hx hh h0 h1 k hk) trivial
theorem c1w {o m:Nat} {l:List AV} {n:Int} {hi:AX} (hx:x.ev (ofL bs) = .own o 0 m) (ho:h[o]? = some (.row z l)) (hh:hi.ev (ofL bs) = .int k n) (h0:0 ≤ n) (h1:n ≤ m):Agn false (.slice z x none (some hi)) bs h (.own o 0 n.toNat) :=
 Agn.of rfl (fun k hk => d0v (P:=default) (dm:=(false:Bool)) hx ho hh h0 h1 k hk) trivial
theorem b3r {o m:Nat} {l:List AV} {n:Int} {lo:AX} (hx:x.ev (ofL bs) = .own o 0 m) (ho:h[o]? = some (.row z l)) (hh:lo.ev (ofL bs) = .int k n) (h0:0 ≤ n) (h1:n ≤ m):Agn false (.slice z x (some lo) none) bs h (.own o n.toNat (m - n.toNat)) :=
 Agn.of rfl (fun k hk => e6y (P:=default) (dm:=(false:Bool)) hx ho hh h0 h1 k hk) trivial
theorem c7w {o lo m z':Nat} {l:List AV} {n:Int} (hx:x.ev (ofL bs) = .own o lo m) (hi:i.ev (ofL bs) = .int k n) (h0:0 ≤ n) (h1:n < m) (ho:h[o]? = some (.row z' l)) (hz:z' = z):Agn false (.iaddr z x i) bs h (.ptr o (lo + n.toNat) 0) :=
 Agn.of rfl (fun k hk => b6x (P:=default) (dm:=(false:Bool)) hx hi h0 h1 ho hz k hk) trivial
theorem e1e {a:AX} {o j f sz z:Nat} {ag:Bool} {v:AV} (hx:a.ev (ofL bs) = .ptr o j f) (ho:h[o]? = some (.row z (l.map enc))) (hl:l[j]? = some e) (hp:ldP (enc e) f sz ag) (hv:ldV (enc e) f sz ag = v):Agn false (.load sz ag a) bs h v:=by
 have hg:(l.map enc).getD j .undef = enc e:=by simp [hl]
 refine ⟨?_,?_⟩
 ·show aqP (.load sz ag a) (AX.ev (ofL bs)) h
  simp only [aqP,hx,ho,hg]
  exact hp
 ·simp only [aqV,hx,ho,hg,hv]
variable {f:Nat} {args:List AX} {r:AV} {cs cs':List AV}
theorem d8g {h:List l7} {p:Nat → Nat → Nat → Option AV} {a a':AV} {as as':List AV} (h1:a3k h p a = some a') (h2:a3v h p as = some as'):a3v h p (a :: as) = some (a' :: as'):=by simp only [a3v,h1,h2]
theorem f3k {h:List l7} {p:Nat → Nat → Nat → Option AV} {kf:Nat} {cf:List AV} (hcf:∀ h p,a3v h p cf = some cf):a3k h p (.fn kf cf) = some (.fn kf cf):=by simp only [a3k,hcf]; rfl
theorem c0e {bs':List AV} {v:AV} (hc:a0v P f .flat bs' r) (hb:closes h (args.map (AX.ev (ofL bs))) = some cs) (hl:LeL cs bs') (hv:r = v):Opr P dm (.call f args) bs h v h:=fun k hk => a2b.flat hc hb hl (by rw [hv]; exact hk)
theorem e3a {bs':List AV} {v:AV} {h':List l7} (hc:a0v P f .fresh bs' r) (hb:closes h (args.map (AX.ev (ofL bs))) = some cs) (hl:LeL cs bs') (hv:a4i h.length r = (v,h')):Opr P dm (.call f args) bs h v (h ++ h'):=fun k hk => a2b.fresh hc hb hl (by rw [hv]; exact hk)
theorem f0m (hm:dm.m = false) {bs':List AV} {v:AV} (hc:a0v P f .fresh bs' r) (hb:closes h (args.map (AX.ev (ofL bs))) = some cs) (hl:LeL cs bs') (hv:r = v):Opr P dm (.call f args) bs h v h:=fun k hk => a2b.freshc hm hc hb hl (by rw [hv]; exact hk)
theorem f0n (hm:dm.m = false) {bs':List AV} {ks:List Nat} {h2:List l7} {v:AV} (hc:a0v P f .weak bs' r) (hb:a0r false h (args.map (AX.ev (ofL bs))) = some (cs,ks)) (hl:LeL cs bs') (hv:r = v) (hh:kill h ks = h2):Opr P dm (.call f args) bs h v h2:=fun k hk => a2b.weak hm hc hb hl (by rw [hh,hv]; exact hk)
def e4o (h:List l7) (fl:List Bool) (js:List Nat) (as:List AV):Option (List AV × List l7 × List Nat):=match c3v h fl as with
 | some (cs,ks) => match b2b 0 h.length js with
  | true => some (a7h (a7r js) cs,b1z (kill h ks) js,ks)
  | false => none
 | none => none
theorem d3v {h:List l7} {fl:List Bool} {js ks:List Nat} {as cs2:List AV} {hs:List l7} (hf:e4o h fl js as = some (cs2,hs,ks)):∃ cs,c3v h fl as = some (cs,ks) ∧ b2b 0 h.length js = true ∧ a7h (a7r js) cs = cs2 ∧ b1z (kill h ks) js = hs:=by
 unfold e4o at hf
 split at hf
 ·rename_i cs ks' e
  split at hf
  ·rename_i e2
   cases hf
   exact ⟨cs,e,e2,rfl,rfl⟩
  ·cases hf
 ·cases hf
theorem c1x {as' cs2:List AV} {ks:List Nat} {hi hout h2 hs:List l7} {v:AV} (fl:List Bool) (js:List Nat) (hm:dm.m = true → fl = []) (hc:a3n P dm.nz f as' hi r hout) (hf:e4o h fl js (args.map (AX.ev (ofL bs))) = some (cs2,hs,ks)) (hl:LeL cs2 as') (hh:LeH hs hi) (hv:ren (a5x h.length js) r = v) (h2e:b5c (kill h ks) js hout = h2):Opr P dm (.call f args) bs h v h2:=by
 obtain ⟨cs,hf2,hn,rfl,rfl⟩:=d3v hf
 obtain ⟨_,_,k1,k2⟩:=b8r hn
 exact fun k hk => a2b.heapf fl ks js hm hf2 hc k1 k2 hl hh (by rw [hv,h2e]; exact hk)
theorem f0o {g:Nat} {caps as as' cs2:List AV} {ks:List Nat} {hi hout h2 hs:List l7} {v:AV} (fl:List Bool) (js:List Nat) (hm:dm.m = true → fl = []) (hx:x.ev (ofL bs) = .fn g caps) (hok:d7o P g = true) (hc:a3n P dm.nz g as' hi r hout) (has:args.map (AX.ev (ofL bs)) ++ caps = as) (hf:e4o h fl js as = some (cs2,hs,ks)) (hl:LeL cs2 as') (hh:LeH hs hi) (hv:ren (a5x h.length js) r = v) (h2e:b5c (kill h ks) js hout = h2):Opr P dm (.calv x args) bs h v h2:=by
 obtain ⟨cs,hf2,hn,rfl,rfl⟩:=d3v hf
 obtain ⟨_,_,k1,k2⟩:=b8r hn
 intro k hk
 simp only [a6x,hx]
 rw [has]
 exact ⟨hok,a2b.heapf fl ks js hm hf2 hc k1 k2 hl hh (by rw [hv,h2e]; exact hk)⟩
theorem c0f {p:Nat → Nat → Nat → Option AV}:∀ {as bs as' bs':List AV},a3v h p as = some as' → a3v h p bs = some bs' → a3v h p (as ++ bs) = some (as' ++ bs')
 | [],bs,as',bs',h1,h2 => by simp only [a3v] at h1; cases h1; simpa using h2
 | a :: as,bs,as',bs',h1,h2 => by
  simp only [a3v,List.cons_append] at h1 ⊢
  split at h1
  ·rename_i x xs e1 e2
   cases h1
   rw [e1,c0f e2 h2]
   rfl
  ·cases h1
theorem LeL.append:∀ {as bs as' bs':List AV},LeL as as' → LeL bs bs' → LeL (as ++ bs) (as' ++ bs')
 | _,_,_,_,.nil,h => h
 | _,_,_,_,.cons a t,h => .cons a (LeL.append t h)
theorem f0p {g:Nat} {cf bs':List AV} {v:AV} (hx:x.ev (ofL bs) = .fn g cf) (hok:d7o P g = true) (hcf:∀ h p,a3v h p cf = some cf) (hc:a0v P g .flat (bs' ++ cf) r) (hb:closes h (args.map (AX.ev (ofL bs))) = some cs) (hl:LeL cs bs') (hv:r = v):Opr P dm (.calv x args) bs h v h:=by
 intro k hk
 simp only [a6x,hx]
 refine ⟨hok,a2b.flat hc (c0f hb (hcf _ _)) (LeL.append hl (.refl _)) ?_⟩
 rw [hv]; exact hk
end
section
variable {P:Program} {dm:Md} {bs:List (Nat × AV)} {h:List l7} {α:Type} {enc:α → AV} {l:List α} {z:Nat} {x:AX} {y:α} {zero:AV}
theorem LeO.tk (l:List α) (n:Nat):LeO (.row z ((l.map enc).take n)) (.row z ((l.take n).map enc)):=by rw [List.map_take]; exact .refl _
end
section
variable {P:Program} {dm:Md} {n0:Nat} {bs:List (Nat × AV)} {h:List l7} {α β:Type} {enc:α → AV} {enc':β → AV} {l:List α} {z:Nat} {x:α}
end
section
variable {α:Type} {enc:α → AV}
theorem d2t {o a b z:Nat} {l:List AV} (h:AV.own o a b = AV.lst z l):False:=by cases h
theorem flw (hf:∀ x,R.flat (enc x) = true) (l:List α) (n m:Nat):∀ a ∈ ((l.map enc).drop n).take m,R.flat a = true:=by
 intro a ha
 obtain ⟨x,_,rfl⟩:=List.mem_map.1 (List.mem_of_mem_drop (List.mem_of_mem_take ha))
 exact hf x
theorem tkw (l:List α) (n m:Nat):((l.map enc).drop n).take m = ((l.drop n).take m).map enc:=by rw [List.map_take,List.map_drop]
theorem flo (hf:∀ x,R.flat (enc x) = true) (l:List α) (n:Nat):∀ a ∈ ((l.map enc).drop 0).take n,R.flat a = true:=by
 intro a ha
 obtain ⟨x,_,rfl⟩:=List.mem_map.1 (List.mem_of_mem_take ha)
 exact hf x
theorem d2u (a b:List α) (B:List AV) (h:B = b.map enc):((a.map enc).take a.length) ++ ((B.drop 0).take B.length) = (a ++ b).map enc:=by
 subst h
 rw [List.drop_zero,List.take_of_length_le (by simp),List.take_of_length_le (by simp),List.map_append]
theorem apg (a b:List α) {B:List AV} (h:B = b.map enc):((a.map enc).take a.length) ++ B = (a ++ b).map enc:=by
 rw [h,List.take_of_length_le (by simp),List.map_append]
theorem apl (a b:List α):((a.map enc).take a.length) ++ b.map enc = (a ++ b).map enc:=by
 rw [List.take_of_length_le (by simp),List.map_append]
theorem tko (a:List α):((a.map enc).drop 0).take a.length = a.map enc:=by
 rw [List.drop_zero,List.take_of_length_le (by simp)]
theorem tk (a:List α):(a.map enc).take a.length = a.map enc:=List.take_of_length_le (by simp)
theorem repm (n:Nat) (x:α):List.replicate n (enc x) = (List.replicate n x).map enc:=by simp
theorem flm (hf:∀ x,R.flat (enc x) = true) (l:List α):∀ a ∈ l.map enc,R.flat a = true:=by
 intro a ha
 obtain ⟨x,_,rfl⟩:=List.mem_map.1 ha
 exact hf x
end
end Go.R
end
section
set_option linter.all false
namespace Go.R
open Go
abbrev Str:=List UInt8
def encI (n:Int):AV:=.int .i64 n
def a0p (n:Int):AV:=.int .u8 n
def a2m {α:Type} (z:Nat) (f:α → AV) (l:List α):AV:=.lst z (l.map f)
def b8c:Nat → List AV → List (Nat × AV)
 | _,[] => []
 | k,a :: as => (k,a) :: b8c (k + 1) as
theorem d3w:∀ (as:List AV) (k n:Nat),ofL (b8c k as) n = if k ≤ n then as.getD (n - k) .undef else .undef
 | [],k,n => by simp [b8c,ofL]
 | a :: as,k,n => by
  simp only [b8c,ofL,d3w as (k + 1) n]
  by_cases h:n = k
  ·subst h; simp
  ·rw [if_neg h]
   by_cases h2:k ≤ n
   ·have h3:n - k = (n - (k + 1)) + 1:=by omega
    rw [if_pos h2,if_pos (by omega),h3,List.getD_cons_succ]
   ·rw [if_neg h2,if_neg (by omega)]
theorem c9f (as:List AV):d5l as = ofL (b8c 0 as):=by
 funext n
 rw [d3w]
 simp [d5l]
def gs (v b:Bool) (V:AV):AV:=if v = b then V else .skip
theorem a2p {v b:Bool} (h:v = b) {V:AV}:gs v b V = V:=if_pos h
theorem lenV {α:Type} (f:α → AV) (l:List α):AV.int .i64 ((l.map f).length:Int) = AV.int .i64 l.length:=by rw [List.length_map]
section
variable {P:Program} {dm:Md} {bs:List (Nat × AV)} {h:List l7} {n:a1j} {d:Nat} {K:(Nat → AV) → List l7 → Prop}
theorem s_g {op:AOp} {s:Nat} {b v:Bool} (V:AV) (ht:ofL bs s = .bool v) (hon:v = b → op.quiet = true ∧ aqQ dm.m op (AX.ev (ofL bs)) h ∧ aqV op (AX.ev (ofL bs)) h = V) (hn:a0l P dm n (ofL ((d,gs v b V) :: bs)) h K):a0l P dm (.q ⟨some d,some (s,b),op⟩ n) (ofL bs) h K:=by
 by_cases hv:v = b
 ·obtain ⟨h1,h2,h3⟩:=hon hv
  rw [a2p hv] at hn
  subst hv
  exact s_on ht (s_q V h1 h2 h3 hn)
 ·have e:gs v b V = .skip:=if_neg hv
  rw [e] at hn
  exact c0c ht (by cases v <;> cases b <;> simp_all) hn
theorem e4r {op:AOp} {s:Nat} {b1 b2 v1 v2:Bool} (V:AV) (ht:ofL bs s = gs v1 b1 (.bool v2)) (hon:v1 = b1 → v2 = b2 → op.quiet = true ∧ aqQ dm.m op (AX.ev (ofL bs)) h ∧ aqV op (AX.ev (ofL bs)) h = V) (hn:a0l P dm n (ofL ((d,gs v1 b1 (gs v2 b2 V)) :: bs)) h K):a0l P dm (.q ⟨some d,some (s,b2),op⟩ n) (ofL bs) h K:=by
 by_cases hv:v1 = b1
 ·rw [a2p hv] at hn ht
  exact s_g V ht (hon hv) hn
 ·have e:∀ W,gs v1 b1 W = .skip:=fun W => if_neg hv
  rw [e] at hn ht
  exact c6s ht hn
theorem f3l {c a b:AX} {s:Nat} {v1 b1 v2 x y:Bool} (ht:ofL bs s = .bool v1) (hc:v1 = b1 → c.ev (ofL bs) = .bool v2) (h1:v1 = b1 → v2 = true → a.ev (ofL bs) = .bool x) (h2:v1 = b1 → v2 = false → b.ev (ofL bs) = .bool y) (hn:a0l P dm n (ofL ((d,gs v1 b1 (.bool (bif v2 then x else y))) :: bs)) h K):a0l P dm (.q ⟨some d,some (s,b1),.pick c a b⟩ n) (ofL bs) h K:=by
 refine s_g _ ht (fun hv => ⟨rfl,.of ?_ trivial,?_⟩) hn
 ·simp only [aqP,hc hv]; cases v2 <;> trivial
 ·simp only [aqV,hc hv]
  cases v2 with
  | true => simpa using h1 hv rfl
  | false => simpa using h2 hv rfl
theorem c6u {c a b:AX} {v x y:Bool} (hc:c.ev (ofL bs) = .bool v) (h1:v = true → a.ev (ofL bs) = .bool x) (h2:v = false → b.ev (ofL bs) = .bool y) (hn:a0l P dm n (ofL ((d,.bool (bif v then x else y)) :: bs)) h K):a0l P dm (.q ⟨some d,none,.pick c a b⟩ n) (ofL bs) h K:=by
 refine s_q (.bool (bif v then x else y)) rfl (.of ?_ trivial) ?_ hn
 ·simp only [aqP,hc]; cases v <;> trivial
 ·simp only [aqV,hc]
  cases v with
  | true => simpa using h1 rfl
  | false => simpa using h2 rfl
end
abbrev tq (d:Nat) (o:AOp) (n:a1j):a1j:=.q ⟨some d,none,o⟩ n
abbrev tm (d:Nat) (x:AX) (n:a1j):a1j:=.q ⟨some d,none,.mov x⟩ n
abbrev tg (d s:Nat) (b:Bool) (o:AOp) (n:a1j):a1j:=.q ⟨some d,some (s,b),o⟩ n
def bstr (l:List Int):Str:=l.map fun n => UInt8.ofNat n.toNat
section
variable {P:Program} {dm:Md} {bs:List (Nat × AV)} {h:List l7} {x:AX}
end
@[irreducible] def FUEL:Nat:=2 ^ 100
theorem LeL.repm {α:Type} {enc:α → AV} {z:AV} {x:α} (h:Le z (enc x)) (n:Nat):LeL (List.replicate n z) ((List.replicate n x).map enc):=by
 rw [← R.repm]
 exact LeL.rep h n
section
variable {P:Program} {dm:Md} {n0:Nat} {bs:List (Nat × AV)} {h h2:List l7} {z:Nat} {α:Type} {l l':List α} {enc:α → AV}
end
section
variable {P:Program} {dm:Md} {n0:Nat} {bs:List (Nat × AV)} {h h2:List l7} {z:Nat} {α:Type} {l l':List α} {enc:α → AV}
end
section
variable {α:Type} {l:List α} {enc:α → AV} {z i:Nat} {el':AV}
end
section
variable {α:Type} {enc:α → AV}
theorem tkl {a:List α} {n:Nat} (h:a.length = n):(a.map enc).take n = a.map enc:=List.take_of_length_le (by simp [h])
end
def f5s {α β:Type} (o:Option α) (f:α → Option β) (g:Option β):Option β:=match o with
 | some x => f x
 | none => g
theorem oo {α β:Type} {o:Option α} {f:α → Option β} {g:Option β} {r:β} (h:f5s o f g = some r):(∃ x,o = some x ∧ f x = some r) ∨ (o = none ∧ g = some r):=by
 cases o with
 | some x => exact .inl ⟨x,rfl,h⟩
 | none => exact .inr ⟨rfl,h⟩
abbrev AV.I (n : Int) : AV := .int .i64 n
theorem tr : True := trivial
theorem Le.r {a : AV} : Le a a := .refl a
theorem LeL.r {a : List AV} : LeL a a := .refl a
theorem LeO.r {a : l7} : LeO a a := .refl a
theorem LeH.r {a : List l7} : LeH a a := .refl a
end Go.R
end
section
set_option linter.all false
namespace Go.R
open Go
theorem a0w {n:Int} (h:-9223372036854775808 ≤ n ∧ n < 9223372036854775808):w64 n = n:=e6w h.1 h.2
theorem getElem?_replicate_some {α:Type} {n i:Nat} {x:α} (h:i < n):(List.replicate n x)[i]? = some x:=by simp [h]
theorem a0h {α:Type} (l:List α) (i:Nat):idx l (i:Int) = l[i]?:=by simp [idx]
theorem e7b {α:Type} {l:List α} {i:Nat} {x:α} {xs:List α} (h:l.drop i = x :: xs):idx l (i:Int) = some x:=by
 rw [a0h]
 have:=congrArg List.head? h
 rw [List.head?_drop] at this
 simpa using this
theorem a2e {α:Type} {l:List α} {i:Nat} {x:α} {xs:List α} (h:l.drop i = x :: xs):l.drop (i + 1) = xs:=by
 have:=congrArg List.tail h
 rw [List.tail_drop] at this
 simpa using this
theorem a6g {α:Type} {l:List α} {i:Nat} {x:α} {xs:List α} (h:l.drop i = x :: xs):i < l.length:=by
 rcases Nat.lt_or_ge i l.length with h1 | h1
 ·exact h1
 ·rw [List.drop_of_length_le h1] at h; cases h
end Go.R
end
section
set_option linter.all false
namespace Go.R
open Go
@[simp] def getB:List (Nat × AV) → Nat → AV
  | [],_ => .undef
  | (k,v) :: r,n => bif n == k then v else getB r n
theorem d5p (n:Nat):∀ bs:List (Nat × AV),getB bs n = ofL bs n
  | [] => rfl
  | (k,v) :: r => by
    simp only [getB,ofL,d5p n r]
    by_cases h:n = k
    · simp [h]
    · have h':(n == k) = false:=by simpa using h
      simp [h,h']
@[simp] def evB (bs:List (Nat × AV)):AX → AV
  | .t n => getB bs n
  | .c v => v
theorem b6y (bs:List (Nat × AV)) (x:AX):evB bs x = x.ev (ofL bs):=by
  cases x with
  | t n => exact d5p n bs
  | c v => rfl
@[simp] def hgB:List l7 → Nat → Option l7
  | [],_ => none
  | x :: r,n => bif n == 0 then some x else hgB r (n - 1)
theorem d0x:∀ (h:List l7) (n:Nat),hgB h n = h[n]?
  | [],n => by simp [hgB]
  | x :: r,0 => rfl
  | x :: r,n + 1 => by simp [hgB,d0x r n]
@[simp] def lgB:List AV → Nat → Option AV
  | [],_ => none
  | x :: r,n => bif n == 0 then some x else lgB r (n - 1)
theorem e1f:∀ (h:List AV) (n:Nat),lgB h n = h[n]?
  | [],n => by simp [lgB]
  | x :: r,0 => rfl
  | x :: r,n + 1 => by simp [lgB,e1f r n]
@[simp] def dpB:List AV → Nat → Option (List AV)
  | l,0 => some l
  | [],_ + 1 => none
  | _ :: l,n + 1 => dpB l n
theorem e7c:∀ (l:List AV) (n:Nat) {r:List AV},dpB l n = some r → n ≤ l.length ∧ l.drop n = r
  | [],0,r,h => by cases h; exact ⟨Nat.zero_le _,rfl⟩
  | x :: l,0,r,h => by cases h; exact ⟨Nat.zero_le _,rfl⟩
  | [],n + 1,r,h => by cases h
  | x :: l,n + 1,r,h => by
    obtain ⟨h1,h2⟩:=e7c l n (show dpB l n = some r from h)
    exact ⟨by simpa using h1,by simpa using h2⟩
@[simp] def tkB:List AV → Nat → Option (List AV)
  | _,0 => some []
  | [],_ + 1 => none
  | x :: l,n + 1 => match tkB l n with | some r => some (x :: r) | none => none
theorem e7d:∀ (l:List AV) (n:Nat) {r:List AV},tkB l n = some r → n ≤ l.length ∧ l.take n = r
  | [],0,r,h => by cases h; exact ⟨Nat.zero_le _,rfl⟩
  | x :: l,0,r,h => by cases h; exact ⟨Nat.zero_le _,rfl⟩
  | [],n + 1,r,h => by cases h
  | x :: l,n + 1,r,h => by
    simp only [tkB] at h
    cases ht:tkB l n with
    | none => rw [ht] at h; cases h
    | some q =>
      rw [ht] at h
      cases h
      obtain ⟨h1,h2⟩:=e7d l n ht
      exact ⟨by simpa using h1,by simpa using h2⟩
@[simp] def fl0 (f:Nat) (ag:Bool) (v:AV):Option AV:=match ag with
  | true => none
  | false => bif f == 0 then some v else none
theorem f3n {f:Nat} {ag:Bool} {v w:AV} (h:fl0 f ag v = some w):(ag = false ∧ f = 0) ∧ v = w:=by
  unfold fl0 at h
  cases ag with
  | true => cases h
  | false =>
    cases hf:(f == 0) with
    | false => simp only [hf] at h; cases h
    | true => simp only [hf] at h; cases h; exact ⟨⟨rfl,by simpa using hf⟩,rfl⟩
@[simp] def ldO (el:AV) (f sz:Nat) (ag:Bool):Option AV :=
  match el with
  | .agg cs => match ag with
    | true => match dpB cs f with
      | some r => match tkB r sz with | some q => some (.agg q) | none => none
      | none => none
    | false => lgB cs f
  | .int k n => fl0 f ag (.int k n)
  | .bool b => fl0 f ag (.bool b)
  | .str s => fl0 f ag (.str s)
  | .lst z l => fl0 f ag (.lst z l)
  | .nil => fl0 f ag .nil
  | .own o l n => fl0 f ag (.own o l n)
  | .ptr o l n => fl0 f ag (.ptr o l n)
  | .iptr o l => fl0 f ag (.iptr o l)
  | .fn o l => fl0 f ag (.fn o l)
  | _ => none
theorem d0y {el v:AV} {f sz:Nat} {ag:Bool} (h:ldO el f sz ag = some v):ldP el f sz ag ∧ ldV el f sz ag = v:=by
  unfold ldO at h
  split at h
  · rename_i cs
    split at h
    · split at h
      · rename_i r hr
        split at h
        · rename_i q hq
          cases h
          obtain ⟨h1,rfl⟩:=e7c _ _ hr
          obtain ⟨h3,rfl⟩:=e7d _ _ hq
          rw [List.length_drop] at h3
          exact ⟨by simp only [ldP]; omega,rfl⟩
        · cases h
      · cases h
    · rw [e1f] at h
      obtain ⟨h1,h2⟩:=List.getElem?_eq_some_iff.1 h
      exact ⟨h1,by simp only [ldV]; rw [List.getD_eq_getElem?_getD,h]; rfl⟩
  all_goals first
    | (obtain ⟨h1,rfl⟩:=f3n h; exact ⟨h1,rfl⟩)
    | cases h
@[simp] def binO (op:BinOp) (x y:AV):Option AV :=
  match op,x,y with
  | .add,.int .i64 a,.int .i64 b => some (.int .i64 (IntKind.i64.wrap (a + b)))
  | .sub,.int .i64 a,.int .i64 b => some (.int .i64 (IntKind.i64.wrap (a - b)))
  | .mul,.int .i64 a,.int .i64 b => some (.int .i64 (IntKind.i64.wrap (a * b)))
  | .eql,.int .i64 a,.int .i64 b => some (.bool (a == b))
  | .neq,.int .i64 a,.int .i64 b => some (.bool (a != b))
  | .lss,.int .i64 a,.int .i64 b => some (.bool (decide (a < b)))
  | .leq,.int .i64 a,.int .i64 b => some (.bool (decide (a ≤ b)))
  | .gtr,.int .i64 a,.int .i64 b => some (.bool (decide (a > b)))
  | .geq,.int .i64 a,.int .i64 b => some (.bool (decide (a ≥ b)))
  | .add,.int .u64 a,.int .u64 b => some (.int .u64 (IntKind.u64.wrap (a + b)))
  | .mul,.int .u64 a,.int .u64 b => some (.int .u64 (IntKind.u64.wrap (a * b)))
  | .eql,.int .u8 a,.int .u8 b => some (.bool (a == b))
  | .neq,.int .u8 a,.int .u8 b => some (.bool (a != b))
  | .lss,.int .u8 a,.int .u8 b => some (.bool (decide (a < b)))
  | .leq,.int .u8 a,.int .u8 b => some (.bool (decide (a ≤ b)))
  | .gtr,.int .u8 a,.int .u8 b => some (.bool (decide (a > b)))
  | .geq,.int .u8 a,.int .u8 b => some (.bool (decide (a ≥ b)))
  | .eql,.str a,.str b => some (.bool (a == b))
  | .neq,.str a,.str b => some (.bool !(a == b))
  | .lss,.str a,.str b => some (.bool (Op.bytesLess a b))
  | _,_,_ => none
theorem f0r {op:BinOp} {x y v:AV} (h:binO op x y = some v):d2l op x y ∧ c9l op x y = v:=by
  unfold binO at h
  split at h <;> first | (cases h; exact ⟨rfl,rfl⟩) | (cases h; exact ⟨trivial,rfl⟩) | cases h
@[simp] def mpB (bs:List (Nat × AV)):List AX → List AV
  | [] => []
  | x :: l => evB bs x :: mpB bs l
theorem e7e (bs:List (Nat × AV)):∀ l:List AX,l.map (evB bs) = mpB bs l
  | [] => rfl
  | x :: l => by simp only [List.map_cons,mpB,e7e bs l]
@[simp] def qv (h:List l7) (bs:List (Nat × AV)):AOp → Option AV
  | .mov x => some (evB bs x)
  | .faddr off a => match evB bs a with
    | .iptr el f => some (.iptr el (f + off))
    | .ptr o i f => match hgB h o with
      | some (.box _ _) => some (.ptr o i (f + off))
      | some (.row _ _) => some (.ptr o i (f + off))
      | _ => none
    | _ => none
  | .load sz ag a => match evB bs a with
    | .iptr el f => ldO el f sz ag
    | .ptr o i f => match hgB h o with
      | some (.box _ v) => ldO v f sz ag
      | _ => none
    | _ => none
  | .field off sz ag x => match evB bs x with
    | .agg cs => ldO (.agg cs) off sz ag
    | _ => none
  | .bin op x y => binO op (evB bs x) (evB bs y)
  | .not x => match evB bs x with
    | .bool b => some (.bool !b)
    | _ => none
  | .eqB ng x y => match evB bs x,evB bs y with
    | .bool a,.bool b => match ng with
      | true => some (.bool !(a == b))
      | false => some (.bool (a == b))
    | _,_ => none
  | .extract i x => match evB bs x with
    | .tup vs => lgB vs i
    | _ => none
  | .mkfn f caps => some (.fn f (mpB bs caps))
  | .convI k x => match evB bs x with
    | .int _ n => some (.int k (k.wrap n))
    | _ => none
  | .pick c a b => match evB bs c with
    | .bool true => some (evB bs a)
    | .bool false => some (evB bs b)
    | _ => none
  | _ => none
theorem d8i {P:Program} {dm:Md} {h:List l7} {bs:List (Nat × AV)} {op:AOp} {v:AV} (hq:qv h bs op = some v) {k:AV → List l7 → Prop} (hk:k v h):a6x P dm op (AX.ev (ofL bs)) h k:=by
  cases op <;> simp only [qv,b6y,d0x] at hq
  case mov x => cases hq; exact a4g rfl trivial ⟨trivial,fun _ => hk⟩
  case mkfn f caps =>
    cases hq
    refine a4g rfl trivial ⟨trivial,fun _ => ?_⟩
    have:mpB bs caps = caps.map (AX.ev (ofL bs)):=(e7e bs caps).symm.trans (List.map_congr_left (fun x _ => b6y bs x))
    simp only [aqV,← this]; exact hk
  case bin op x y =>
    obtain ⟨h1,rfl⟩:=f0r hq
    exact a4g rfl trivial ⟨h1,fun _ => hk⟩
  case faddr off a =>
    split at hq
    · rename_i e; cases hq
      exact a4g rfl (by simp only [mmT]) ⟨by simp only [aqP,e],fun _ => by simp only [aqV,e]; exact hk⟩
    · rename_i e
      split at hq
      · rename_i e2; cases hq
        exact a4g rfl (by simp only [mmT]) ⟨by simp only [aqP,e,e2],fun _ => by simp only [aqV,e]; exact hk⟩
      · rename_i e2; cases hq
        exact a4g rfl (by simp only [mmT]) ⟨by simp only [aqP,e,e2],fun _ => by simp only [aqV,e]; exact hk⟩
      · cases hq
    · cases hq
  case load sz ag a =>
    split at hq
    · rename_i e
      obtain ⟨h1,rfl⟩:=d0y hq
      exact a4g rfl (by simp only [mmT,e]) ⟨by simp only [aqP,e]; exact h1,fun _ => by simp only [aqV,e]; exact hk⟩
    · rename_i e
      split at hq
      · rename_i e2
        obtain ⟨h1,rfl⟩:=d0y hq
        exact a4g rfl (by simp only [mmT,e,e2]) ⟨by simp only [aqP,e,e2]; exact h1,fun _ => by simp only [aqV,e,e2]; exact hk⟩
      · cases hq
    · cases hq
  case field off sz ag x =>
    split at hq
    · rename_i e
      obtain ⟨h1,rfl⟩:=d0y hq
      exact a4g rfl trivial ⟨by simp only [aqP,e]; exact h1,fun _ => by simp only [aqV,e]; exact hk⟩
    · cases hq
  case not x =>
    split at hq
    · rename_i e; cases hq
      exact a4g rfl trivial ⟨by simp only [aqP,e],fun _ => by simp only [aqV,e]; exact hk⟩
    · cases hq
  case eqB ng x y =>
    split at hq
    · rename_i e1 e2
      cases ng <;> (cases hq; exact a4g rfl trivial ⟨by simp only [aqP,e1,e2],fun _ => by simp only [aqV,e1,e2]; exact hk⟩)
    · cases hq
  case extract i x =>
    split at hq
    · rename_i e
      rw [e1f] at hq
      obtain ⟨h1,h2⟩:=List.getElem?_eq_some_iff.1 hq
      exact a4g rfl trivial ⟨by simp only [aqP,e]; exact h1,fun _ => by simp only [aqV,e]; rw [List.getD_eq_getElem?_getD,hq]; exact hk⟩
    · cases hq
  case convI k x =>
    split at hq
    · rename_i e; cases hq
      exact a4g rfl trivial ⟨by simp only [aqP,e],fun _ => by simp only [aqV,e]; exact hk⟩
    · cases hq
  case pick c a b =>
    split at hq
    · rename_i e; cases hq
      exact a4g rfl trivial ⟨by simp only [aqP,e],fun _ => by simp only [aqV,e]; exact hk⟩
    · rename_i e; cases hq
      exact a4g rfl trivial ⟨by simp only [aqP,e],fun _ => by simp only [aqV,e]; exact hk⟩
    · cases hq
  all_goals cases hq
@[simp] def gval (h:List l7) (bs:List (Nat × AV)) (op:AOp):Option (Nat × Bool) → Option AV
  | none => qv h bs op
  | some (s,b) => match getB bs s with
    | .bool true => match b with
      | true => qv h bs op
      | false => some .skip
    | .bool false => match b with
      | false => qv h bs op
      | true => some .skip
    | .skip => some .skip
    | _ => none
@[simp] def stp (h:List l7):Option (a1j × List (Nat × AV)) → Option (a1j × List (Nat × AV))
  | some (.q ⟨some d,g,op⟩ n,bs) => match gval h bs op g with
    | some v => some (n,(d,v) :: bs)
    | none => none
  | _ => none
@[simp] def itr (h:List l7):Nat → Option (a1j × List (Nat × AV)) → Option (a1j × List (Nat × AV))
  | 0,x => x
  | k + 1,x => itr h k (stp h x)
theorem d0z (h:List l7):∀ k,itr h k none = none
  | 0 => rfl
  | k + 1 => d0z h k
section
variable {P:Program} {dm:Md} {h:List l7} {K:(Nat → AV) → List l7 → Prop} {n0:Nat} {b:a0m} {Q:AQ}
theorem c9h:∀ (k:Nat) (T:a1j) (bs:List (Nat × AV)) {T':a1j} {bs':List (Nat × AV)},itr h k (some (T,bs)) = some (T',bs') → a0l P dm T' (ofL bs') h K → a0l P dm T (ofL bs) h K
  | 0,T,bs,T',bs',hr,hx => by cases hr; exact hx
  | k + 1,T,bs,T',bs',hr,hx => by
    have hr:itr h k (stp h (some (T,bs))) = some (T',bs'):=hr
    unfold stp at hr
    split at hr
    · rename_i d g op n bs0 e
      cases e
      split at hr
      · rename_i v hv
        have ih:=fun (hq:a0l P dm n (ofL ((d,v) :: bs)) h K) => hq
        have hn:=c9h k n _ hr hx
        cases g with
        | none => exact a4k (h':=h) (v:=v) (fun k' hk => d8i hv hk) hn
        | some sb =>
          obtain ⟨s,b⟩:=sb
          simp only [gval,d5p] at hv
          split at hv
          · rename_i e
            cases b with
            | true => exact s_on e (a4k (h':=h) (v:=v) (fun k' hk => d8i hv hk) hn)
            | false => cases hv; exact c0c e rfl hn
          · rename_i e
            cases b with
            | false => exact s_on e (a4k (h':=h) (v:=v) (fun k' hk => d8i hv hk) hn)
            | true => cases hv; exact c0c e rfl hn
          · rename_i e; cases hv; exact c6s e hn
          · cases hv
      · rw [d0z] at hr; cases hr
    · rw [d0z] at hr; cases hr
theorem go {T T':a1j} {bs bs':List (Nat × AV)} (k:Nat) (hx:a0l P dm T' (ofL bs') h K) (hr:itr h k (some (T,bs)) = some (T',bs'):=by dsimp):a0l P dm T (ofL bs) h K:=c9h k T bs hr hx
theorem gd {T:a1j} {bs bs':List (Nat × AV)} (k:Nat) (hx:K (ofL bs') h) (hr:itr h k (some (T,bs)) = some (.done,bs'):=by dsimp):a0l P dm T (ofL bs) h K:=c9h k T bs hr hx
theorem gq {T:a1j} {bs bs':List (Nat × AV)} (k:Nat) (hx:awp P dm n0 b (ofL bs') h Q) (hr:itr h k (some (T,bs)) = some (.done,bs'):=by dsimp):a0l P dm T (ofL bs) h (kN (b3v (awp P dm n0 b) Q)):=c9h k T bs hr hx
end
end Go.R
end
section
set_option linter.all false
namespace Go.R
open Go
abbrev fa (d o a:Nat) (n:a1j):a1j:=tq d (.faddr o (.t a)) n
abbrev ld (d s a:Nat) (n:a1j):a1j:=tq d (.load s false (.t a)) n
abbrev la (d s a:Nat) (n:a1j):a1j:=tq d (.load s true (.t a)) n
abbrev fl (d e o a s:Nat) (n:a1j):a1j:=fa d o a (ld e s d n)
abbrev mv (d a:Nat) (n:a1j):a1j:=tm d (.t a) n
abbrev iad (d z a i:Nat) (n:a1j):a1j:=tq d (.iaddr z (.t a) (.t i)) n
abbrev bt (d:Nat) (o:BinOp) (a b:Nat) (n:a1j):a1j:=tq d (.bin o (.t a) (.t b)) n
abbrev bi (d:Nat) (o:BinOp) (a:Nat) (k:Int) (n:a1j):a1j:=tq d (.bin o (.t a) (.c (.int .i64 k))) n
abbrev im (d:Nat) (k:Int) (n:a1j):a1j:=tm d (.c (.int .i64 k)) n
abbrev lg (d a:Nat) (n:a1j):a1j:=tq d (.len (.t a)) n
@[simp] def ovB:List AV → List AV → List AV
  | cs,[] => cs
  | [],x :: new => x :: new
  | _ :: cs,x :: new => x :: ovB cs new
theorem e7f:∀ cs new:List AV,ovB cs new = new ++ cs.drop new.length
  | cs,[] => by cases cs <;> rfl
  | [],x :: new => by simp [ovB]
  | c :: cs,x :: new => by simp [ovB,e7f cs new]
@[simp] def ptB:List AV → Nat → List AV → List AV
  | cs,0,new => ovB cs new
  | [],_ + 1,new => new
  | x :: cs,n + 1,new => x :: ptB cs n new
theorem e1g:∀ (cs:List AV) (n:Nat) (new:List AV),putCells cs n new = ptB cs n new
  | cs,0,new => by simp [putCells,ptB,e7f]
  | [],n + 1,new => by simp [putCells,ptB]
  | x :: cs,n + 1,new => by
    have:=e1g cs n new
    simp only [putCells] at this
    simp only [putCells,ptB,← this]
    have e:n + 1 + new.length = n + new.length + 1:=by omega
    rw [e]; rfl
@[simp] def celB (y:AV) (f:Nat) (v:AV):AV:=match y with
  | .agg cs => .agg (ptB cs f v.cells)
  | _ => v
theorem e3c (y:AV) (f:Nat) (v:AV):a4f y f v = celB y f v:=by
  cases y <;> simp only [a4f,celB,e1g]
def pkT (rs:List a2z) (d:Nat):Option a2z:=bif Nat.blt d 1000 then rs.find? (fun r => r.dst == some d) else (rs.filter (fun r => r.dst == none))[d - 1000]?
def f3o (rs:List a2z):Nat → Nat → a1j → a1j
  | _,0,T => T
  | d,n + 1,T => match pkT rs d with
    | some r => .q r (f3o rs (d + 1) n T)
    | none => .fail
def e7g (rs:List a2z):List (List Nat) → a1j
  | [] => .done
  | [] :: l => e7g rs l
  | [d] :: l => f3o rs d 1 (e7g rs l)
  | (d :: 0 :: re) :: l => match pkT rs d with
    | some r => .l r (re.filterMap (pkT rs)) (e7g rs l) .non
    | none => .fail
  | (d :: e :: _) :: l => f3o rs d (e + 1 - d) (e7g rs l)
def c0g (sp:List (Nat × List (List Nat))) (P:Program) (N:Nat):Code → Nat → Option a0m × Nat
  | .region i ops draw,k => match ocs P ops N ops.toList with
    | none => (none,k + 1)
    | some rs => match draw with
      | false => (some (.reg (lin rs)),k + 1)
      | true => match sp.lookup k with
        | some o => (some (.reg (e7g rs o)),k + 1)
        | none => (a7s P N (.region i ops true),k + 1)
  | .seq a b,k => match c0g sp P N a k with
    | (some a,k) => match c0g sp P N b k with
      | (some b,k) => (some (.seq a b),k)
      | (none,k) => (none,k)
    | (none,k) => (none,k)
  | .cond c a b,k => match cx c with
    | some c => match c0g sp P N a k with
      | (some a,k) => match c0g sp P N b k with
        | (some b,k) => (some (.cond c a b),k)
        | (none,k) => (none,k)
      | (none,k) => (none,k)
    | none => (none,k)
  | .block id c,k => match c0g sp P N c k with
    | (some c,k) => (some (.block id c),k)
    | (none,k) => (none,k)
  | .loop c,k => match c0g sp P N c k with
    | (some c,k) => (some (.loop c),k)
    | (none,k) => (none,k)
  | .scope c,k => c0g sp P N c k
  | c,k => (a7s P N c,k)
def c0h (sp:List (Nat × List (List Nat))) (P:Program) (fn:Func):Option (a0m × List AOp × Nat):=match fn.body,d2q P fn.results.toList with
  | some c,some s => match (c0g sp P fn.ntmps c 0).1 with
    | some a => some (a,s,fn.ntmps)
    | none => none
  | _,_ => none
def wrC:List Nat → Nat → a0m → a0m
  | [],_,c => c
  | m :: ms,n,c => bif m / 2 == n then (bif m % 2 == 0 then .cut (wrC ms n c) else .rev (wrC ms n c)) else wrC ms n c
def d5q (ms:List Nat):a0m → Nat → a0m × Nat
  | .seq a b,n => match d5q ms a (n + 1) with
    | (a',n1) => match d5q ms b n1 with
      | (b',n2) => (wrC ms n (.seq a' b'),n2)
  | .cond x a b,n => match d5q ms a (n + 1) with
    | (a',n1) => match d5q ms b n1 with
      | (b',n2) => (wrC ms n (.cond x a' b'),n2)
  | .block i a,n => match d5q ms a (n + 1) with
    | (a',n1) => (wrC ms n (.block i a'),n1)
  | .loop a,n => match d5q ms a (n + 1) with
    | (a',n1) => (wrC ms n (.loop a'),n1)
  | c,n => (wrC ms n c,n + 1)
def cfr:a0m → Bool
  | .seq a b => cfr a && cfr b
  | .cond _ a b => cfr a && cfr b
  | .block _ a => cfr a
  | .loop a => cfr a
  | .cut _ => false
  | .rev _ => false
  | _ => true
theorem f2k (n:Nat) (c:a0m):∀ ms,(wrC ms n c).erase = c.erase
  | [] => rfl
  | m :: ms => by
    have ih:=f2k n c ms
    simp only [wrC]
    cases m / 2 == n <;> cases m % 2 == 0 <;> simpa [a0m.erase] using ih
theorem f3p (ms:List Nat):∀ (c:a0m) (n:Nat),cfr c = true → ((d5q ms c n).1).erase = c:=by
  intro c
  induction c <;> intro n h <;> simp only [cfr,Bool.and_eq_true,reduceCtorEq] at h <;> simp_all [d5q,f2k,a0m.erase]
def d5r (sp:List (Nat × List (List Nat))) (ms:List Nat) (P:Program) (fn:Func):Option (a0m × List AOp × Nat):=match c0h sp P fn with
  | some (c,s,N) => match cfr c with
    | true => some ((d5q ms c 0).1,s,N)
    | false => none
  | none => none
theorem d3x {sp:List (Nat × List (List Nat))} {ms:List Nat} {P:Program} {fn:Func} {ac:a0m} {s:List AOp} {N:Nat} (h0:b8a P fn = c0h sp P fn) (h:d5r sp ms P fn = some (ac,s,N)):b8a P fn = some (ac.erase,s,N):=by
  rw [h0]
  unfold d5r at h
  split at h
  · rename_i c s' N' e
    split at h
    · rename_i hc
      cases h
      rw [f3p ms c 0 hc]; exact e
    · cases h
  · cases h
section
variable {P:Program} {dm:Md} {n0:Nat} {m:Bool} {t:Nat → AV} {h:List l7} {Q:AQ} {X:Type} {S:X → List (Nat × AV) × List l7} {μ:X → Nat} {x:X}
theorem co {f:Nat} {cm:CM} {args:List AV} {r:AV} {fn:Func} {ac:a0m} {slots:List AOp} {N:Nat} {bs:List (Nat × AV)} {d:Bool} (ms:List Nat) (hf:P.funcs[f]? = some fn) (hk:awp P (d:Bool) 0 ac (ofL bs) [] (d0q false cm slots r)) (sp:List (Nat × List (List Nat)):=[]) (h0:b8a P fn = c0h sp P fn:=by kernel_rfl) (hc:d5r sp ms P fn = some (ac,slots,N):=by conv => lhs; cbv) (hm:P.follows .mixedOrders = true:=by exact mixed) (hl:args.length ≤ N:=by exact nle) (hb:b8c 0 args = bs:=by dsimp only [b8c]) (hd:cmD cm = d:=by dsimp only [cmD]):a0v P f cm args r:=by
  subst hb hd
  exact a0v.of_awp hm hf (d3x h0 hc) hl (by rw [c9f]; exact hk)
theorem coh {f:Nat} {args:List AV} {hin hout:List l7} {r:AV} {fn:Func} {ac:a0m} {slots:List AOp} {N:Nat} {bs:List (Nat × AV)} {k:Nat} (ms:List Nat) (hf:P.funcs[f]? = some fn) (hk:awp P dm k ac (ofL bs) hin (c7u dm.m k slots r hout)) (sp:List (Nat × List (List Nat)):=[]) (h0:b8a P fn = c0h sp P fn:=by kernel_rfl) (hc:d5r sp ms P fn = some (ac,slots,N):=by conv => lhs; cbv) (hm:P.follows .mixedOrders = true:=by exact mixed) (hl:args.length ≤ N:=by exact nle) (hb:b8c 0 args = bs:=by dsimp only [b8c]) (hz:dm.z = false:=by rfl) (hk0:hin.length = k:=by rfl):a3n P dm f args hin r hout:=by
  subst hb hk0
  exact a3n.of_awp hm hf (d3x h0 hc) hl (by rw [c9f]; exact hk) hz
theorem rf {os:List AOp} {r:AV} (hp:b6f m t h os:=by exact ⟨trivial,trivial⟩) (hf:rflats (b4h t h os) = true:=by rfl) (hl:Le (pack (b4h t h os)) r:=by exact .refl _):d0q m .flat os r .ret t h:=b7v hp hf hl
theorem ck {s:List (Nat × AV) × List l7} (js:List Nat) (hk:b2b n0 h.length js = true:=by rfl) (hf:c8t (a7r js) t s.1:=by repeat first | exact trivial | refine ⟨.refl _,?_⟩ | refine ⟨.of_eq (congrArg (AV.int _) (b2c (by assumption) (by assumption))),?_⟩) (hh:LeH (b1z h js) s.2:=by exact .refl _):a3e m n0 t h s:=⟨[],js,_,_,rfl,hk,hf,hh⟩
theorem kl (y:X) (js:List Nat) (hy:μ y < μ x:=by first | exact mul (by assumption) | exact Nat.lt_succ_self _) (hk:b2b n0 h.length js = true:=by rfl) (hf:c8t (a7r js) t (S y).1:=by repeat first | exact trivial | refine ⟨.refl _,?_⟩ | refine ⟨.of_eq (congrArg (AV.int _) (b2c (by assumption) (by assumption))),?_⟩) (hh:LeH (b1z h js) (S y).2:=by exact .refl _):b9x m n0 S μ x Q .norm t h:=⟨y,hy,ck js hk hf hh⟩
theorem kk (y:X) (js:List Nat) (hk:b2b n0 h.length js = true:=by rfl) (hf:c8t (a7r js) t (S y).1:=by repeat first | exact trivial | refine ⟨.refl _,?_⟩ | refine ⟨.of_eq (congrArg (AV.int _) (b2c (by assumption) (by assumption))),?_⟩) (hh:LeH (b1z h js) (S y).2:=by exact .refl _):c2o m n0 S Q .norm t h:=⟨y,ck js hk hf hh⟩
theorem al {body:a0m} {id:Nat} (S:X → List (Nat × AV) × List l7) (μ:X → Nat) (x0:X) (js:List Nat) (h1:∀ x,awp P dm n0 body (ofL (S x).1) (S x).2 (b9x dm.m n0 S μ x (a2s id Q))) (hk:b2b n0 h.length js = true:=by rfl) (hf:c8t (a7r js) t (S x0).1:=by repeat first | exact trivial | refine ⟨.refl _,?_⟩ | refine ⟨.of_eq (congrArg (AV.int _) (b2c (by assumption) (by assumption))),?_⟩) (hh:LeH (b1z h js) (S x0).2:=by exact .refl _):awp P dm n0 (.block id (.loop body)) t h Q:=b5t S μ x0 (ck js hk hf hh) h1
theorem wc {a:a0m} (s:List (Nat × AV) × List l7) (js:List Nat) (hn:awp P dm n0 a (ofL s.1) s.2 Q) (hk:b2b n0 h.length js = true:=by rfl) (hf:c8t (a7r js) t s.1:=by repeat first | exact trivial | refine ⟨.refl _,?_⟩ | refine ⟨.of_eq (congrArg (AV.int _) (b2c (by assumption) (by assumption))),?_⟩) (hh:LeH (b1z h js) s.2:=by exact .refl _):awp P dm n0 (.cut a) t h Q:=⟨s,ck js hk hf hh,hn⟩
end
section
variable {P:Program} {dm:Md} {n0:Nat} {bs:List (Nat × AV)} {h h2:List l7} {n other:a1j} {re:List a2z} {d:Nat} {K:(Nat → AV) → List l7 → Prop} {Q:AQ} {α:Type} {enc:α → AV} {l:List α} {e:α}
theorem sg {op:AOp} {s:Nat} {b v:Bool} (V:AV) (hn:a0l P dm n (ofL ((d,gs v b V) :: bs)) h K) (ht:ofL bs s = .bool v:=by rfl) (hon:v = b → op.quiet = true ∧ aqQ dm.m op (AX.ev (ofL bs)) h ∧ aqV op (AX.ev (ofL bs)) h = V:=by intro hv; (try simp only [a2p hv]); first | exact ⟨rfl,trivial,rfl⟩ | exact ⟨rfl,nle,rfl⟩ | exact ⟨rfl,rfl,rfl⟩):a0l P dm (.q ⟨some d,some (s,b),op⟩ n) (ofL bs) h K:=s_g V ht hon hn
theorem bx {x:AX} {c:AV} {sz j:Nat} (hn:a0l P dm n (ofL ((d,.ptr j 0 0) :: bs)) h2 K) (hv:evB bs x = c:=by dsimp) (hs:a6p h c:=by exact trivial) (hl:c.cells.length = sz:=by rfl) (hj:h.length = j:=by dsimp) (hh:h ++ [.box sz c] = h2:=by dsimp):a0l P dm (.q ⟨some d,none,.box sz x⟩ n) (ofL bs) h K:=by
  subst hh
  exact a4k (c2s ((b6y bs x).symm.trans hv) hs hl hj) hn
theorem sb {a x:AX} {o j f z sz:Nat} {y v:AV} (hn:a0l P dm n (ofL bs) h2 K) (ha:evB bs a = .ptr o j f:=by dsimp) (ho:hgB h o = some (.box z y):=by dsimp) (hx:evB bs x = v:=by dsimp) (hs:a6p h v:=by exact trivial) (hp:a9h y f sz v:=by first | exact ⟨rfl,nle⟩ | exact ⟨rfl,rfl,rfl⟩) (hl:b9u h v.cells:=by repeat first | exact trivial | refine ⟨⟨rfl,trivial⟩,?_⟩) (hh:h.set o (.box z (celB y f v)) = h2:=by dsimp [AV.cells]):a0l P dm (.q ⟨none,none,.store sz a x⟩ n) (ofL bs) h K:=by
  subst hh
  exact c2r (a8z ((b6y bs a).symm.trans ha) ((d0x h o).symm.trans ho) ((b6y bs x).symm.trans hx) hs hp hl (e3c y f v)) hn
theorem ln {z:Nat} {x:AX} (hn:l.length ≤ maxLen → a0l P dm n (ofL ((d,.int .i64 l.length) :: bs)) h K) (hx:x.ev (ofL bs) = .lst z (l.map enc):=by rfl):a0l P dm (.q ⟨some d,none,.len x⟩ n) (ofL bs) h K:=c2p (d8c hx) hn
theorem lnS {x:AX} {s:Str} (hn:s.length ≤ maxLen → a0l P dm n (ofL ((d,.int .i64 s.length) :: bs)) h K) (hx:x.ev (ofL bs) = .str s:=by rfl):a0l P dm (.q ⟨some d,none,.lenS x⟩ n) (ofL bs) h K:=c2p (e1b hx) hn
theorem ia {z j:Nat} {k:IntKind} {x i:AX} (hl:l[j]? = some e) (hn:a0l P dm n (ofL ((d,.iptr (enc e) 0) :: bs)) h K) (hx:x.ev (ofL bs) = .lst z (l.map enc):=by rfl) (hi:i.ev (ofL bs) = .int k (j:Int):=by rfl):a0l P dm (.q ⟨some d,none,.iaddr z x i⟩ n) (ofL bs) h K:=a4k (d0u hx hi hl) hn
theorem ix {z:Nat} {j:Int} {k:IntKind} {x i:AX} (hl:idx l j = some e) (hn:a0l P dm n (ofL ((d,.iptr (enc e) 0) :: bs)) h K) (hx:x.ev (ofL bs) = .lst z (l.map enc):=by rfl) (hi:i.ev (ofL bs) = .int k j:=by rfl):a0l P dm (.q ⟨some d,none,.iaddr z x i⟩ n) (ofL bs) h K:=a4k (c5c hx hi (d2s hl) (d5m hl)) hn
theorem cl {f:Nat} {args:List AX} {cs bs':List AV} {r:AV} (hc:a0v P f .flat bs' r) (hn:a0l P dm n (ofL ((d,r) :: bs)) h K) (hb:closes h (args.map (AX.ev (ofL bs))) = some cs:=by rfl) (hl:LeL cs bs':=by exact .refl _):a0l P dm (.q ⟨some d,none,.call f args⟩ n) (ofL bs) h K:=a4k (c0e hc hb hl rfl) hn
theorem cll {f:Nat} {args:List AX} {cs bs':List AV} {r:AV} (hc:a0v P f .flat bs' r) (hn:a0l P dm n (ofL ((d,r) :: bs)) h K) (ho:a0l P dm other (ofL bs) h K:=by exact trivial) (hb:closes h (args.map (AX.ev (ofL bs))) = some cs:=by rfl) (hl:LeL cs bs':=by exact .refl _):a0l P dm (.l ⟨some d,none,.call f args⟩ re n other) (ofL bs) h K:=a6e (c0e hc hb hl rfl) b9y ho hn
theorem cf {f:Nat} {args:List AX} {cs bs':List AV} {r:AV} (v:AV) (h':List l7) (hc:a0v P f .fresh bs' r) (hn:a0l P dm n (ofL ((d,v) :: bs)) (h ++ h') K) (hb:closes h (args.map (AX.ev (ofL bs))) = some cs:=by rfl) (hl:LeL cs bs':=by exact .refl _) (hv:a4i h.length r = (v,h'):=by simp only [a4i,a8x,a2m,List.length_map,List.nil_append,List.append_nil,List.cons_append]; rfl):a0l P dm (.q ⟨some d,none,.call f args⟩ n) (ofL bs) h K:=a4k (e3a hc hb hl hv) hn
theorem sl {T:a1j} (s:Nat) {e:Bool} (he:e = true) (hn:a0l P dm T (ofL ((s,.bool true) :: bs)) h K) (ht:ofL bs s = .bool e:=by rfl):a0l P dm T (ofL bs) h K:=b9z ht he hn
theorem sf {T:a1j} (s:Nat) {e:Bool} (he:¬ e = true) (hn:a0l P dm T (ofL ((s,.bool false) :: bs)) h K) (ht:ofL bs s = .bool e:=by rfl):a0l P dm T (ofL bs) h K:=b9z ht (bf he) hn
theorem wt {a b:a0m} {s:Nat} {e:Bool} (he:e = true) (hn:awp P dm n0 a (ofL ((s,.bool true) :: bs)) h Q) (ht:ofL bs s = .bool e:=by rfl):awp P dm n0 (.cond (.t s) a b) (ofL bs) h Q:=b5m ht he hn
theorem wf {a b:a0m} {s:Nat} {e:Bool} (he:¬ e = true) (hn:awp P dm n0 b (ofL ((s,.bool false) :: bs)) h Q) (ht:ofL bs s = .bool e:=by rfl):awp P dm n0 (.cond (.t s) a b) (ofL bs) h Q:=b4i ht (bf he) hn
theorem wg {a b:a0m} {s:Nat} {e:Bool} (he:e = false) (hn:awp P dm n0 b (ofL ((s,.bool false) :: bs)) h Q) (ht:ofL bs s = .bool e:=by rfl):awp P dm n0 (.cond (.t s) a b) (ofL bs) h Q:=b4i ht he hn
theorem le {m:Bool} {t:Nat → AV} {X:Type} {S:X → List (Nat × AV) × List l7} {μ:X → Nat} {x:X} {F:(Nat → AV) → List l7 → AQ → Prop} {id:Nat} (hn:Q .norm t h):awp P dm n0 (.exit id) t h (b3v F (b9x m n0 S μ x (a2s id Q))):=c4b<|c4a<|c1u<|c3z hn
end
@[simp] def kpB (bs:List (Nat × AV)):List Nat → List (Nat × AV)
  | [] => []
  | k :: ks => (k,getB bs k) :: kpB bs ks
section
variable {P:Program} {dm:Md} {n0:Nat} {bs L0:List (Nat × AV)} {h:List l7} {Q:AQ} {X:Type} {a b:a0m} {id:Nat}
theorem ah {body:a0m} (ks:List Nat) (V:X → List (Nat × AV)) (μ:X → Nat) (x0:X) (h1:∀ x,awp P dm n0 body (ofL (V x ++ L0)) h (b9x dm.m n0 (fun q => (V q ++ L0,h)) μ x (a2s id Q))) (hL:kpB bs ks = L0:=by dsimp) (hk:b2b n0 h.length (List.range h.length) = true:=by rfl) (hf:c8t (a7r (List.range h.length)) (ofL bs) (V x0 ++ L0):=by repeat first | exact trivial | refine ⟨.refl _,?_⟩ | refine ⟨.of_eq (congrArg (AV.int _) (b2c (by assumption) (by assumption))),?_⟩) (hh:LeH (b1z h (List.range h.length)) h:=by exact .refl _):awp P dm n0 (.block id (.loop body)) (ofL bs) h Q:=b5t (fun q => (V q ++ L0,h)) μ x0 (ck _ hk hf hh) h1
theorem ac (ks:List Nat) (V:List (Nat × AV)) (h1:awp P dm n0 a (ofL bs) h (d8b dm.m n0 (V ++ L0,h) Q)) (h2:awp P dm n0 b (ofL (V ++ L0)) h Q) (hL:kpB bs ks = L0:=by dsimp):awp P dm n0 a (ofL bs) h (b3v (awp P dm n0 (.cut b)) Q):=b0n (V ++ L0,h) h1 h2
theorem ax (ks:List Nat) (V:X → List (Nat × AV)) (h1:awp P dm n0 a (ofL bs) h (c2o dm.m n0 (fun q => (V q ++ L0,h)) Q)) (h2:∀ x,awp P dm n0 b (ofL (V x ++ L0)) h Q) (hL:kpB bs ks = L0:=by dsimp):awp P dm n0 a (ofL bs) h (b3v (awp P dm n0 (.cut b)) Q):=b8b (fun q => (V q ++ L0,h)) h1 h2
theorem axb (ks:List Nat) (V:X → List (Nat × AV)) (h1:awp P dm n0 a (ofL bs) h (a2s id (c2o dm.m n0 (fun q => (V q ++ L0,h)) Q))) (h2:∀ x,awp P dm n0 b (ofL (V x ++ L0)) h Q) (hL:kpB bs ks = L0:=by dsimp):awp P dm n0 a (ofL bs) h (a2s id (b3v (awp P dm n0 (.cut b)) Q)):=c1t (fun q => (V q ++ L0,h)) h1 h2
end
end Go.R
end
section
set_option linter.all false
namespace Go.R
open Go
structure An:Type 1 where
  δ:Type
  k:Nat
  ks:List Nat
  V:δ
  f:a0m → a0m
  e:∀ c,(f c).erase = c.erase
def aC (δ:Type) (k:Nat) (ks:List Nat) (V:δ):An:=⟨δ,k,ks,V,.cut,fun _ => rfl⟩
def aL (δ:Type) (k:Nat) (ks:List Nat) (V:δ):An:=⟨δ,k,ks,V,fun c => c,fun _ => rfl⟩
def cA {α:Type} (ks:List Nat) (V:α → List (Nat × AV)):An:=aC _ 0 ks V
def fA {α:Type} (ks:List Nat) (V:α → List (Nat × AV)):An:=aC _ 1 ks V
def lI (ks:List Nat) (V:Nat → List (Nat × AV)):An:=aL _ 2 ks V
def lN (ks:List Nat) (V:Nat → List (Nat × AV)):An:=aL _ 3 ks V
def lA {α:Type} (ks:List Nat) (V:Nat → α → List (Nat × AV)):An:=aL _ 4 ks V
def lIA {α:Type} (ks:List Nat) (V:Nat → α → List (Nat × AV)):An:=aL _ 5 ks V
def lAI {α:Type} (ks:List Nat) (V:Nat → α → List (Nat × AV)):An:=aL _ 6 ks V
def lk:List Nat → List An → Nat → An
  | n :: ns,a :: as,k => bif k == n then a else lk ns as k
  | _,_,_ => aL Unit 9 [] ()
def wrA (A:Nat → a0m → a0m) (ms:List Nat) (n:Nat) (c:a0m):a0m:=bif ms.elem n then A n c else c
def d5s (A:Nat → a0m → a0m) (ms:List Nat):a0m → Nat → a0m × Nat
  | .seq a b,n => match d5s A ms a (n + 1) with
    | (a',n1) => match d5s A ms b n1 with
      | (b',n2) => (wrA A ms n (.seq a' b'),n2)
  | .cond x a b,n => match d5s A ms a (n + 1) with
    | (a',n1) => match d5s A ms b n1 with
      | (b',n2) => (wrA A ms n (.cond x a' b'),n2)
  | .block i a,n => match d5s A ms a (n + 1) with
    | (a',n1) => (wrA A ms n (.block i a'),n1)
  | .loop a,n => match d5s A ms a (n + 1) with
    | (a',n1) => (wrA A ms n (.loop a'),n1)
  | c,n => (wrA A ms n c,n + 1)
theorem f3s {A:Nat → a0m → a0m} (hA:∀ n c,(A n c).erase = c.erase) (ms:List Nat):∀ (c:a0m) (n:Nat),cfr c = true → ((d5s A ms c n).1).erase = c:=by
  have hw:∀ n c,(wrA A ms n c).erase = c.erase:=by
    intro n c; unfold wrA; cases ms.elem n
    · rfl
    · exact hA n c
  intro c
  induction c <;> intro n h <;> simp only [cfr,Bool.and_eq_true,reduceCtorEq] at h <;> simp_all [d5s,a0m.erase]
def d5t (sp:List (Nat × List (List Nat))) (A:Nat → a0m → a0m) (ms:List Nat) (P:Program) (fn:Func):Option (a0m × List AOp × Nat):=match c0h sp P fn with
  | some (c,s,N) => match cfr c with
    | true => some ((d5s A ms c 0).1,s,N)
    | false => none
  | none => none
theorem d3y {sp:List (Nat × List (List Nat))} {A:Nat → a0m → a0m} (hA:∀ n c,(A n c).erase = c.erase) {ms:List Nat} {P:Program} {fn:Func} {ac:a0m} {s:List AOp} {N:Nat} (h0:b8a P fn = c0h sp P fn) (h:d5t sp A ms P fn = some (ac,s,N)):b8a P fn = some (ac.erase,s,N):=by
  rw [h0]
  unfold d5t at h
  split at h
  · rename_i c s' N' e
    split at h
    · rename_i hc
      cases h
      rw [f3s hA ms c 0 hc]; exact e
    · cases h
  · cases h
section
variable {P:Program} {dm:Md} {n0:Nat} {bs L0:List (Nat × AV)} {h:List l7} {Q:AQ} {a b:a0m} {id:Nat} {ks:List Nat} {α β ρ τ:Type} {r:β}
theorem coA {f:Nat} {cm:CM} {args:List AV} {r:AV} {fn:Func} {ac:(Nat → a0m → a0m) → a0m} {ac2:a0m} {slots:List AOp} {N:Nat} {d:Bool} (ms:List Nat) (as:List An) (hf:P.funcs[f]? = some fn) (hk:awp P (d:Bool) 0 ac2 (ofL bs) [] (d0q false cm slots r)) (sp:List (Nat × List (List Nat)):=[]) (h0:b8a P fn = c0h sp P fn:=by kernel_rfl) (hc:∀ A,d5t sp A ms P fn = some (ac A,slots,N):=by intro A; conv => lhs; cbv) (h2:ac (fun n c => (lk ms as n).f c) = ac2:=by dsimp [lk]) (hm:P.follows .mixedOrders = true:=by exact mixed) (hl:args.length ≤ N:=by exact nle) (hb:b8c 0 args = bs:=by dsimp only [b8c]) (hd:cmD cm = d:=by dsimp only [cmD]):a0v P f cm args r:=by
  subst hb hd h2
  exact a0v.of_awp hm hf (d3y (fun n c => (lk ms as n).e c) h0 (hc _)) hl (by rw [c9f]; exact hk)
@[simp] def itm (h:List l7):Nat → a1j → List (Nat × AV) → Option (a1j × List (Nat × AV)) → a1j × List (Nat × AV)
  | 0,T,bs,_ => (T,bs)
  | _ + 1,T,bs,none => (T,bs)
  | k + 1,_,_,some (T,bs) => itm h k T bs (stp h (some (T,bs)))
theorem wCu {r:ρ} {x:Option α} {f:α → Option ρ} {V:α → List (Nat × AV)} (hf:Option.bind x f = some r) (h1:∀ v,x = some v → awp P dm n0 a (ofL bs) h (d8b dm.m n0 (V v ++ L0,h) Q)) (h2:∀ v,f v = some r → awp P dm n0 b (ofL (V v ++ L0)) h Q) (hL:kpB bs ks = L0:=by dsimp):awp P dm n0 a (ofL bs) h (b3v (awp P dm n0 ((cA ks V).f b)) Q):=by
  obtain ⟨v,e,hf⟩:=ob hf
  exact b0n (V v ++ L0,h) (h1 v e) (h2 v hf)
theorem f7p {r:ρ} {x:Option α} {f:α → Option ρ} {V:α → List (Nat × AV)} (hf:Option.bind x f = some r) (h1:∀ v,x = some v → awp P dm n0 a (ofL bs) h (a2s id (d8b dm.m n0 (V v ++ L0,h) Q))) (h2:∀ v,f v = some r → awp P dm n0 b (ofL (V v ++ L0)) h Q) (hL:kpB bs ks = L0:=by dsimp):awp P dm n0 a (ofL bs) h (a2s id (b3v (awp P dm n0 ((cA ks V).f b)) Q)):=by
  obtain ⟨v,e,hf⟩:=ob hf
  exact d0r (V v ++ L0,h) (h1 v e) (h2 v hf)
theorem wFu {R:Type} {r:ρ} {x:Option (Fl R α)} {f:Fl R α → Option ρ} {V:α → List (Nat × AV)} (hf:Option.bind x f = some r) (h1:∀ p,x = some p → f p = some r → awp P dm n0 a (ofL bs) h (c2o dm.m n0 (fun q:{s:α // p = .go s} => (V q.1 ++ L0,h)) Q)) (h2:∀ s,f (.go s) = some r → awp P dm n0 b (ofL (V s ++ L0)) h Q) (hL:kpB bs ks = L0:=by dsimp):awp P dm n0 a (ofL bs) h (b3v (awp P dm n0 ((fA ks V).f b)) Q):=by
  obtain ⟨p,e,hf⟩:=ob hf
  exact b8b (fun q:{s:α // p = .go s} => (V q.1 ++ L0,h)) (h1 p e hf) (fun q => h2 q.1 (by rw [← q.2]; exact hf))
theorem f7q {R:Type} {r:ρ} {x:Option (Fl R α)} {f:Fl R α → Option ρ} {V:α → List (Nat × AV)} (hf:Option.bind x f = some r) (h1:∀ p,x = some p → f p = some r → awp P dm n0 a (ofL bs) h (a2s id (c2o dm.m n0 (fun q:{s:α // p = .go s} => (V q.1 ++ L0,h)) Q))) (h2:∀ s,f (.go s) = some r → awp P dm n0 b (ofL (V s ++ L0)) h Q) (hL:kpB bs ks = L0:=by dsimp):awp P dm n0 a (ofL bs) h (a2s id (b3v (awp P dm n0 ((fA ks V).f b)) Q)):=by
  obtain ⟨p,e,hf⟩:=ob hf
  exact c1t (fun q:{s:α // p = .go s} => (V q.1 ++ L0,h)) (h1 p e hf) (fun q => h2 q.1 (by rw [← q.2]; exact hf))
abbrev LI (J:List τ → Nat → α → Option ρ) (l:List τ) (p:ρ):={q:Nat × α // J (l.drop q.1) q.1 q.2 = some p}
abbrev KL (m:Bool) (n0:Nat) (J:List τ → Nat → α → Option ρ) (l:List τ) (p:ρ) (V:Nat → α → List (Nat × AV)) (L0:List (Nat × AV)) (h:List l7) (i:Nat) (v:α) (hq:J (l.drop i) i v = some p) (Q:AQ):AQ:=b9x m n0 (fun q:LI J l p => (V q.1.1 q.1.2 ++ L0,h)) (fun q => l.length - q.1.1) ⟨(i,v),hq⟩ Q
theorem ckr {m:Bool} {t:Nat → AV} {s:List (Nat × AV) × List l7} (hk:b2b n0 h.length (List.range s.2.length) = true:=by rfl) (hf:c8t (a7r (List.range s.2.length)) t s.1:=by repeat first | exact trivial | refine ⟨.refl _,?_⟩ | refine ⟨.of_eq (congrArg (AV.int _) (b2c (by assumption) (by assumption))),?_⟩) (hh:LeH (b1z h (List.range s.2.length)) s.2:=by exact .refl _):a3e m n0 t h s:=⟨[],List.range s.2.length,_,_,rfl,hk,hf,hh⟩
theorem kln {m:Bool} {t:Nat → AV} {h':List l7} {J:List τ → Nat → α → Option ρ} {l:List τ} {p:ρ} {V:Nat → α → List (Nat × AV)} {i j:Nat} {v w:α} {hq:J (l.drop i) i v = some p} (hf:J (l.drop j) j w = some p) (hj:j = i + 1) (hl:i < l.length) (hc:a3e m n0 t h' (V j w ++ L0,h)):KL m n0 J l p V L0 h i v hq Q .norm t h' :=
  ⟨⟨(j,w),hf⟩,by subst hj; exact mul hl,hc⟩
theorem wL0 {l:List τ} {J:List τ → Nat → α → Option ρ} {i0:Nat} {a0:α} {p:ρ} {V:Nat → α → List (Nat × AV)} (hf:J (l.drop i0) i0 a0 = some p)
    (h0:∀ i v (hq:J (l.drop i) i v = some p),l.length ≤ i → J [] i v = some p → awp P dm n0 a (ofL (V i v ++ L0)) h (KL dm.m n0 J l p V L0 h i v hq (a2s id Q)))
    (h1:∀ i v (hq:J (l.drop i) i v = some p) x,i < l.length → l[i]? = some x → J (x :: l.drop (i + 1)) i v = some p → awp P dm n0 a (ofL (V i v ++ L0)) h (KL dm.m n0 J l p V L0 h i v hq (a2s id Q)))
    (hc:a3e dm.m n0 (ofL bs) h (V i0 a0 ++ L0,h)):awp P dm n0 (.block id (.loop a)) (ofL bs) h Q:=by
  refine b5t (fun q:LI J l p => (V q.1.1 q.1.2 ++ L0,h)) (fun q => l.length - q.1.1) ⟨(i0,a0),hf⟩ hc ?_
  rintro ⟨⟨i,v⟩,hq⟩
  rcases c7v l i with ⟨hl,hd⟩ | ⟨hl,x,hx,hd⟩
  · exact h0 i v hq hl (by have:=hq; simp only [hd] at this; exact this)
  · exact h1 i v hq x hl hx (by have:=hq; simp only [hd] at this; exact this)
theorem wlI {l:List τ} {G:List τ → Nat → Option ρ} {p:ρ} {V:Nat → List (Nat × AV)} (hf:G l 0 = some p)
    (h0:∀ i hq,l.length ≤ i → G [] i = some p → awp P dm n0 a (ofL (V i ++ L0)) h (KL dm.m n0 (fun xs i (v:Unit) => G xs i) l p (fun i _ => V i) L0 h i () hq (a2s id Q)))
    (h1:∀ i hq x,i < l.length → l[i]? = some x → G (x :: l.drop (i + 1)) i = some p → awp P dm n0 a (ofL (V i ++ L0)) h (KL dm.m n0 (fun xs i (v:Unit) => G xs i) l p (fun i _ => V i) L0 h i () hq (a2s id Q)))
    (hL:kpB bs ks = L0:=by dsimp) (hc:a3e dm.m n0 (ofL bs) h (V 0 ++ L0,h):=by exact ckr):awp P dm n0 ((lI ks V).f (.block id (.loop a))) (ofL bs) h Q :=
  wL0 (J:=(fun xs i (v:Unit) => G xs i)) (V:=(fun i _ => V i)) (i0:=0) (a0:=()) hf (fun i v => h0 i) (fun i v => h1 i) hc
theorem wlN {l:List τ} {G:List τ → Option ρ} {p:ρ} {V:Nat → List (Nat × AV)} (hf:G l = some p)
    (h0:∀ i hq,l.length ≤ i → G [] = some p → awp P dm n0 a (ofL (V i ++ L0)) h (KL dm.m n0 (fun xs i (v:Unit) => G xs) l p (fun i _ => V i) L0 h i () hq (a2s id Q)))
    (h1:∀ i hq x,i < l.length → l[i]? = some x → G (x :: l.drop (i + 1)) = some p → awp P dm n0 a (ofL (V i ++ L0)) h (KL dm.m n0 (fun xs i (v:Unit) => G xs) l p (fun i _ => V i) L0 h i () hq (a2s id Q)))
    (hL:kpB bs ks = L0:=by dsimp) (hc:a3e dm.m n0 (ofL bs) h (V 0 ++ L0,h):=by exact ckr):awp P dm n0 ((lN ks V).f (.block id (.loop a))) (ofL bs) h Q :=
  wL0 (J:=(fun xs i (v:Unit) => G xs)) (V:=(fun i _ => V i)) (i0:=0) (a0:=()) hf (fun i v => h0 i) (fun i v => h1 i) hc
theorem wlA {l:List τ} {G:List τ → α → Option ρ} {p:ρ} {a0:α} {V:Nat → α → List (Nat × AV)} (hf:G l a0 = some p)
    (h0:∀ i v hq,l.length ≤ i → G [] v = some p → awp P dm n0 a (ofL (V i v ++ L0)) h (KL dm.m n0 (fun xs i (v:α) => G xs v) l p V L0 h i v hq (a2s id Q)))
    (h1:∀ i v hq x,i < l.length → l[i]? = some x → G (x :: l.drop (i + 1)) v = some p → awp P dm n0 a (ofL (V i v ++ L0)) h (KL dm.m n0 (fun xs i (v:α) => G xs v) l p V L0 h i v hq (a2s id Q)))
    (hL:kpB bs ks = L0:=by dsimp) (hc:a3e dm.m n0 (ofL bs) h (V 0 a0 ++ L0,h):=by exact ckr):awp P dm n0 ((lA ks V).f (.block id (.loop a))) (ofL bs) h Q :=
  wL0 (J:=(fun xs i (v:α) => G xs v)) (V:=V) (i0:=0) (a0:=a0) hf (fun i v => h0 i v) (fun i v => h1 i v) hc
theorem f7r {l:List τ} {G:List τ → Nat → α → Option ρ} {p:ρ} {a0:α} {V:Nat → α → List (Nat × AV)} (hf:G l 0 a0 = some p)
    (h0:∀ i v hq,l.length ≤ i → G [] i v = some p → awp P dm n0 a (ofL (V i v ++ L0)) h (KL dm.m n0 (fun xs i (v:α) => G xs i v) l p V L0 h i v hq (a2s id Q)))
    (h1:∀ i v hq x,i < l.length → l[i]? = some x → G (x :: l.drop (i + 1)) i v = some p → awp P dm n0 a (ofL (V i v ++ L0)) h (KL dm.m n0 (fun xs i (v:α) => G xs i v) l p V L0 h i v hq (a2s id Q)))
    (hL:kpB bs ks = L0:=by dsimp) (hc:a3e dm.m n0 (ofL bs) h (V 0 a0 ++ L0,h):=by exact ckr):awp P dm n0 ((lIA ks V).f (.block id (.loop a))) (ofL bs) h Q :=
  wL0 (J:=(fun xs i (v:α) => G xs i v)) (V:=V) (i0:=0) (a0:=a0) hf (fun i v => h0 i v) (fun i v => h1 i v) hc
theorem f7s {l:List τ} {G:List τ → α → Nat → Option ρ} {p:ρ} {a0:α} {V:Nat → α → List (Nat × AV)} (hf:G l a0 0 = some p)
    (h0:∀ i v hq,l.length ≤ i → G [] v i = some p → awp P dm n0 a (ofL (V i v ++ L0)) h (KL dm.m n0 (fun xs i (v:α) => G xs v i) l p V L0 h i v hq (a2s id Q)))
    (h1:∀ i v hq x,i < l.length → l[i]? = some x → G (x :: l.drop (i + 1)) v i = some p → awp P dm n0 a (ofL (V i v ++ L0)) h (KL dm.m n0 (fun xs i (v:α) => G xs v i) l p V L0 h i v hq (a2s id Q)))
    (hL:kpB bs ks = L0:=by dsimp) (hc:a3e dm.m n0 (ofL bs) h (V 0 a0 ++ L0,h):=by exact ckr):awp P dm n0 ((lAI ks V).f (.block id (.loop a))) (ofL bs) h Q :=
  wL0 (J:=(fun xs i (v:α) => G xs v i)) (V:=V) (i0:=0) (a0:=a0) hf (fun i v => h0 i v) (fun i v => h1 i v) hc
end
class Wk (P:Program) (H:Prop) (f:outParam Nat) (args:outParam (List AV)) (r:outParam AV):Prop where
  out:H → a0v P f .flat args r
instance {P:Program} {H:Prop} {f:Nat} {args:List AV} {r:AV}:CoeFun (Wk P H f args r) (fun _ => H → a0v P f .flat args r):=⟨fun w => w.out⟩
end Go.R
end
section
set_option linter.all false
namespace Go.R
open Go
section
variable {P:Program} {dm:Md} {n0:Nat} {bs:List (Nat × AV)} {h:List l7} {K:(Nat → AV) → List l7 → Prop} {Q:AQ}
theorem slq {o:Option Nat} {s:Nat} {b e:Bool} {op:AOp} {n:a1j} (he:e = true) (hn:a0l P dm (.q ⟨o,some (s,b),op⟩ n) (ofL ((s,.bool true) :: bs)) h K) (ht:ofL bs s = .bool e:=by rfl):a0l P dm (.q ⟨o,some (s,b),op⟩ n) (ofL bs) h K:=b9z ht he hn
theorem sfq {o:Option Nat} {s:Nat} {b e:Bool} {op:AOp} {n:a1j} (he:¬ e = true) (hn:a0l P dm (.q ⟨o,some (s,b),op⟩ n) (ofL ((s,.bool false) :: bs)) h K) (ht:ofL bs s = .bool e:=by rfl):a0l P dm (.q ⟨o,some (s,b),op⟩ n) (ofL bs) h K:=b9z ht (bf he) hn
theorem sgE {op:AOp} {n:a1j} {d s:Nat} {b v:Bool} {V:AV} (hn:a0l P dm n (ofL ((d,gs v b V) :: bs)) h K) (ht:ofL bs s = .bool v:=by rfl) (hon:v = b → qv h bs op = some V:=by intro hv; (try simp only [a2p hv]); dsimp):a0l P dm (.q ⟨some d,some (s,b),op⟩ n) (ofL bs) h K:=by
  cases hvb:(v == b) with
  | true =>
    have e:v = b:=by simpa using hvb
    rw [a2p e] at hn
    subst e
    exact s_on ht (a4k (h':=h) (v:=V) (fun k' hk => d8i (hon rfl) hk) hn)
  | false =>
    have e:¬ v = b:=by simpa using hvb
    rw [show gs v b V = .skip from if_neg e] at hn
    exact c0c ht hvb hn
theorem pkE {c a b:AX} {n:a1j} {d:Nat} {v x y:Bool} (hn:a0l P dm n (ofL ((d,.bool (bif v then x else y)) :: bs)) h K) (hc:c.ev (ofL bs) = .bool v:=by rfl) (h1:v = true → a.ev (ofL bs) = .bool x:=by intro hv; (try simp only [a2p hv]); rfl) (h2:v = false → b.ev (ofL bs) = .bool y:=by intro hv; (try simp only [a2p hv]); rfl):a0l P dm (.q ⟨some d,none,.pick c a b⟩ n) (ofL bs) h K:=c6u hc h1 h2 hn
theorem pgE {c a b:AX} {n:a1j} {d s:Nat} {v1 b1 v2 x y:Bool} (hn:a0l P dm n (ofL ((d,gs v1 b1 (.bool (bif v2 then x else y))) :: bs)) h K) (ht:ofL bs s = .bool v1:=by rfl) (hc:v1 = b1 → c.ev (ofL bs) = .bool v2:=by intro hv; (try simp only [a2p hv]); rfl) (h1:v1 = b1 → v2 = true → a.ev (ofL bs) = .bool x:=by intro hw hv; (try simp only [a2p hw,a2p hv]); rfl) (h2:v1 = b1 → v2 = false → b.ev (ofL bs) = .bool y:=by intro hw hv; (try simp only [a2p hw,a2p hv]); rfl):a0l P dm (.q ⟨some d,some (s,b1),.pick c a b⟩ n) (ofL bs) h K:=f3l ht hc h1 h2 hn
theorem ggE {op:AOp} {n:a1j} {d s:Nat} {b1 b2 v1 v2:Bool} {V:AV} (hn:a0l P dm n (ofL ((d,gs v1 b1 (gs v2 b2 V)) :: bs)) h K) (ht:ofL bs s = gs v1 b1 (.bool v2):=by rfl) (hon:v1 = b1 → v2 = b2 → qv h bs op = some V:=by intro hw hv; simp only [a2p hw,a2p hv]; dsimp):a0l P dm (.q ⟨some d,some (s,b2),op⟩ n) (ofL bs) h K:=by
  by_cases hw:v1 = b1
  · rw [a2p hw] at hn ht
    exact sgE hn ht (hon hw)
  · have e:∀ W,gs v1 b1 W = .skip:=fun W => if_neg hw
    rw [e] at hn ht
    exact c6s ht hn
theorem iaA {α:Type} {enc:α → AV} {l:List α} {e:α} {n:a1j} {d z j:Nat} {k:IntKind} {x i:AX} (hn:a0l P dm n (ofL ((d,.iptr (enc e) 0) :: bs)) h K) (hx:x.ev (ofL bs) = .lst z (l.map enc):=by rfl) (hi:i.ev (ofL bs) = .int k (j:Int):=by rfl) (hl:l[j]? = some e:=by assumption):a0l P dm (.q ⟨some d,none,.iaddr z x i⟩ n) (ofL bs) h K:=a4k (d0u hx hi hl) hn
theorem ixA {α:Type} {enc:α → AV} {l:List α} {e:α} {n:a1j} {d z:Nat} {j:Int} {k:IntKind} {x i:AX} (hn:a0l P dm n (ofL ((d,.iptr (enc e) 0) :: bs)) h K) (hx:x.ev (ofL bs) = .lst z (l.map enc):=by rfl) (hi:i.ev (ofL bs) = .int k j:=by rfl) (hl:idx l j = some e:=by assumption):a0l P dm (.q ⟨some d,none,.iaddr z x i⟩ n) (ofL bs) h K:=a4k (c5c hx hi (d2s hl) (d5m hl)) hn
theorem lgE {α:Type} {enc:α → AV} {l:List α} {n:a1j} {d s z:Nat} {b v:Bool} {x:AX} (hn:a0l P dm n (ofL ((d,gs v b (.int .i64 l.length)) :: bs)) h K) (ht:ofL bs s = .bool v:=by rfl) (hx:v = b → x.ev (ofL bs) = .lst z (l.map enc):=by intro hv; (try simp only [a2p hv]); rfl):a0l P dm (.q ⟨some d,some (s,b),.len x⟩ n) (ofL bs) h K:=s_g _ ht (fun hv => ⟨rfl,.of (by simp only [aqP,hx hv]) trivial,by simp only [aqV,hx hv]; exact lenV _ _⟩) hn
theorem eqE {op:AOp} {n:a1j} {d:Nat} {v:Bool} (hn:a0l P dm n (ofL ((d,.bool v) :: bs)) h K) (hv:aqV op (AX.ev (ofL bs)) h = .bool v:=by rfl) (hq:op.quiet = true:=by rfl) (hp:aqQ dm.m op (AX.ev (ofL bs)) h:=by repeat first | exact trivial | exact rfl | exact nle | refine ⟨?_,?_⟩):a0l P dm (.q ⟨some d,none,op⟩ n) (ofL bs) h K:=s_q _ hq hp hv hn
theorem isT {T:a1j} {t:Nat → AV} (hn:a0l P dm T t h K):a0l P dm T t h K:=hn
theorem isA {n0:Nat} {a:a0m} {t:Nat → AV} (hn:awp P dm n0 a t h Q):awp P dm n0 a t h Q:=hn
end
set_option maxRecDepth 10000
theorem W {p:Prop} (h:p:=by
  repeat' first
    | ((with_reducible refine isT ?_); first
        | refine go 3 ?_
        | refine go 1 ?_
        | with_reducible refine a8y ?_
        | (rcases oi hf with ⟨c,hf⟩ | ⟨c,hf⟩ <;> first | refine slq c ?_ | refine sfq c ?_)
        | refine bx ?_
        | refine sb ?_
        | refine sgE ?_
        | refine ggE ?_
        | refine pkE ?_
        | refine pgE ?_
        | refine s_on rfl ?_
        | refine d0s rfl ?_
        | refine c3y rfl rfl trivial ?_
        | refine e2x rfl trivial ?_
        | refine ln fun hl => ?_
        | refine lnS fun hl => ?_
        | refine ia hx ?_
        | refine iaA ?_
        | refine ixA ?_
        | refine a4k (d5o rfl rfl hx) ?_
        | refine lgE ?_
        | refine eqE ?_
        | (obtain ⟨x,ex,hf⟩:=ob hf; first | refine ix ex ?_ | refine cl (Wk.out ex) ?_ | refine cll (Wk.out ex) ?_ | refine a4k (e1c rfl rfl (d2s ex) (d5m ex)) ?_)
        | (obtain ⟨hg,hf⟩:=og hf))
    | ((with_reducible refine isA ?_); first
        | (refine wCu hf (fun v hf => ?_) (fun v hf => ?_) <;> (try dsimp only [List.cons_append,List.nil_append]))
        | (refine wFu hf (fun p hf hr => ?_) (fun v hf => ?_) <;> (try dsimp only [List.cons_append,List.nil_append]))
        | (refine wlI hf (fun i hq hle hf => ?_) (fun i hq x hlt hx hf => ?_) <;> (try dsimp only [List.cons_append,List.nil_append]))
        | (refine wlN hf (fun i hq hle hf => ?_) (fun i hq x hlt hx hf => ?_) <;> (try dsimp only [List.cons_append,List.nil_append]))
        | (refine wlA hf (fun i v hq hle hf => ?_) (fun i v hq x hlt hx hf => ?_) <;> (try dsimp only [List.cons_append,List.nil_append]))
        | (refine f7r hf (fun i v hq hle hf => ?_) (fun i v hq x hlt hx hf => ?_) <;> (try dsimp only [List.cons_append,List.nil_append]))
        | (refine f7s hf (fun i v hq hle hf => ?_) (fun i v hq x hlt hx hf => ?_) <;> (try dsimp only [List.cons_append,List.nil_append]))
        | (refine f7p hf (fun v hf => ?_) (fun v hf => ?_) <;> (try dsimp only [List.cons_append,List.nil_append]))
        | (refine f7q hf (fun p hf hr => ?_) (fun v hf => ?_) <;> (try dsimp only [List.cons_append,List.nil_append]))
        | with_reducible refine a9i ?_
        | with_reducible refine a0q ?_
        | with_reducible refine a5n ?_
        | with_reducible refine b7k ?_
        | with_reducible refine c4b ?_
        | refine wt (dlt hlt) ?_
        | refine wg (dlf hle) ?_
        | refine wt rfl ?_
        | refine wg rfl ?_
        | (rcases oi hf with ⟨c,hf⟩ | ⟨c,hf⟩ <;> first | refine wt c ?_ | refine wf c ?_)
        | (refine b3g ?_; cases hf; (repeat cases hr); first | exact rf | exact b7v ⟨nle,trivial⟩ rfl (.refl _) | exact b7v ⟨.of trivial trivial,trivial⟩ rfl (.refl _) | exact b7v ⟨trivial,⟨trivial,trivial⟩⟩ rfl (.refl _))
        | (obtain ⟨hg,hf⟩:=og hf))
    | with_reducible refine a5s ?_
    | with_reducible refine c4a ?_
    | with_reducible refine c3z ?_
    | with_reducible refine b6g ?_
    | with_reducible refine c1u ?_
    | (refine f2g ?_; cases hf; exact ckr)
    | (cases hf; exact ⟨⟨_,rfl⟩,ckr⟩)
    | exact kln hf rfl hlt ckr
    | exact kln (w:=()) hf rfl hlt ckr
 ):p:=h
end Go.R
end
section
set_option linter.all false
namespace Go.R
open Go
section
variable {f:Nat → Option Nat}
@[simp] theorem rn_int {k:IntKind} {n:Int}:ren f (.int k n) = .int k n:=rfl
@[simp] theorem rn_bool {b:Bool}:ren f (.bool b) = .bool b:=rfl
@[simp] theorem rn_str {s:List UInt8}:ren f (.str s) = .str s:=rfl
@[simp] theorem rn_lst {z:Nat} {l:List AV}:ren f (.lst z l) = .lst z l:=rfl
@[simp] theorem rn_nil:ren f .nil = .nil:=rfl
@[simp] theorem rn_skip:ren f .skip = .skip:=rfl
@[simp] theorem rn_agg {l:List AV}:ren f (.agg l) = .agg (a7h f l):=rfl
@[simp] theorem rn_tup {l:List AV}:ren f (.tup l) = .tup (a7h f l):=rfl
@[simp] theorem rn_fn {g:Nat} {l:List AV}:ren f (.fn g l) = .fn g (a7h f l):=rfl
@[simp] theorem rns_nil:a7h f [] = []:=rfl
@[simp] theorem rns_cons {a:AV} {l:List AV}:a7h f (a :: l) = ren f a :: a7h f l:=rfl
end
section
variable {f:Nat → Option Nat}
@[simp] theorem rn_own {o lo n:Nat}:ren f (.own o lo n) = match f o with | some o' => .own o' lo n | none => .undef:=rfl
@[simp] theorem rn_ptr {o i k:Nat}:ren f (.ptr o i k) = match f o with | some o' => .ptr o' i k | none => .undef:=rfl
@[simp] theorem rO_box {z:Nat} {v:AV}:a5w f (.box z v) = .box z (ren f v):=rfl
@[simp] theorem rO_row {z:Nat} {l:List AV}:a5w f (.row z l) = .row z l:=rfl
end
@[simp] def bkN (n:Nat):List Nat → Nat → Option Nat
  | [],k => some (n + k)
  | j :: _,0 => some j
  | _ :: js,k + 1 => bkN n js k
theorem e1h (n:Nat):∀ (js:List Nat) (k:Nat),a5x n js k = bkN n js k
  | [],k => by simp [a5x,bkN]
  | j :: js,0 => by simp [a5x,bkN]
  | j :: js,k + 1 => by
    have:=e1h n js k
    simp only [a5x] at this
    simp only [a5x,bkN,List.length_cons,Nat.add_lt_add_iff_right,List.getElem?_cons_succ,Nat.add_sub_add_right]
    exact this
@[simp] def seB:List l7 → Nat → l7 → List l7
  | [],_,_ => []
  | _ :: l,0,x => x :: l
  | y :: l,n + 1,x => y :: seB l n x
theorem d1a:∀ (l:List l7) (n:Nat) (x:l7),l.set n x = seB l n x
  | [],_,_ => rfl
  | _ :: _,0,_ => rfl
  | y :: l,n + 1,x => by simp [seB,d1a l n x]
@[simp] def stB:List l7 → List Nat → List l7 → List l7
  | h,[],xs => h ++ xs
  | h,_ :: _,[] => h
  | h,j :: js,x :: xs => stB (seB h j x) js xs
theorem e1i:∀ (js:List Nat) (h xs:List l7),b5b h js xs ++ xs.drop js.length = stB h js xs
  | [],h,xs => by simp [b5b,stB]
  | j :: js,h,[] => by simp [b5b,stB]
  | j :: js,h,x :: xs => by
    have:=e1i js (h.set j x) xs
    simp only [b5b,stB,List.length_cons,List.drop_succ_cons,← d1a]
    exact this
@[simp] def jsA:List AV → List Nat
  | [] => []
  | .ptr o _ _ :: l => o :: jsA l
  | .own o _ _ :: l => o :: jsA l
  | _ :: l => jsA l
@[simp] def B1 {α:Type} (x:α):Option α:=some x
@[simp] def mrB (f:Nat → Option Nat):List l7 → List l7
  | [] => []
  | x :: l => a5w f x :: mrB f l
theorem e1j (f:Nat → Option Nat):∀ l:List l7,l.map (a5w f) = mrB f l
  | [] => rfl
  | x :: l => by simp only [List.map_cons,mrB,e1j f l]
class Wh (P:Program) (H:Prop) (dm:outParam Md) (f:outParam Nat) (args:outParam (List AV)) (hin:outParam (List l7)) (r:outParam AV) (hout:outParam (List l7)):Prop where
  out:H → a3n P dm f args hin r hout
instance {P:Program} {H:Prop} {dm:Md} {f:Nat} {args:List AV} {hin:List l7} {r:AV} {hout:List l7}:CoeFun (Wh P H dm f args hin r hout) (fun _ => H → a3n P dm f args hin r hout):=⟨fun w => w.out⟩
section
variable {P:Program} {dm:Md} {n0:Nat} {bs:List (Nat × AV)} {h h2:List l7} {K:(Nat → AV) → List l7 → Prop} {Q:AQ} {n:a1j} {d:Nat}
theorem rmE {x y:AX} {a b:Int} (hn:a0l P dm n (ofL ((d,.int .i64 (a.tmod b)) :: bs)) h K) (hx:x.ev (ofL bs) = .int .i64 a:=by rfl) (hy:y.ev (ofL bs) = .int .i64 b:=by rfl) (hb:b ≠ 0:=by first | assumption | decide):a0l P dm (.q ⟨some d,none,.bin .rem x y⟩ n) (ofL bs) h K:=s_q _ rfl (.of (by simp only [aqP,hx,hy]; exact ⟨rfl,hb⟩) trivial) (by simp only [aqV,hx,hy]; rfl) hn
theorem quE {x y:AX} {a b:Int} (hn:a0l P dm n (ofL ((d,.int .i64 (w64 (a.tdiv b))) :: bs)) h K) (hx:x.ev (ofL bs) = .int .i64 a:=by rfl) (hy:y.ev (ofL bs) = .int .i64 b:=by rfl) (hb:b ≠ 0:=by first | assumption | decide):a0l P dm (.q ⟨some d,none,.bin .quo x y⟩ n) (ofL bs) h K:=s_q _ rfl (.of (by simp only [aqP,hx,hy]; exact ⟨rfl,hb⟩) trivial) (by simp only [aqV,hx,hy]; rfl) hn
theorem nkE {x:AX} {o i f z:Nat} {y:AV} (hn:a0l P dm n (ofL ((d,.ptr o i f) :: bs)) h K) (hx:x.ev (ofL bs) = .ptr o i f:=by rfl) (ho:hgB h o = some (.box z y):=by dsimp):a0l P dm (.q ⟨some d,none,.nilck x⟩ n) (ofL bs) h K:=by
  rw [d0x] at ho
  exact s_q _ rfl (.of (by simp only [aqP,hx,ho]) trivial) (by simp only [aqV,hx]) hn
end
section
variable {P:Program} {dm:Md} {bs:List (Nat × AV)}
theorem b6a {f:Nat} {args:List AV} {hin hout:List l7} {r:AV} {fn:Func} {ac:(Nat → a0m → a0m) → a0m} {ac2:a0m} {slots:List AOp} {N k:Nat} (ms:List Nat) (as:List An) (hf:P.funcs[f]? = some fn) (hk:awp P dm k ac2 (ofL bs) hin (c7u dm.m k slots r hout)) (sp:List (Nat × List (List Nat)):=[]) (h0:b8a P fn = c0h sp P fn:=by kernel_rfl) (hc:∀ A,d5t sp A ms P fn = some (ac A,slots,N):=by intro A; conv => lhs; cbv) (h2:ac (fun n c => (lk ms as n).f c) = ac2:=by dsimp [lk]) (hm:P.follows .mixedOrders = true:=by exact mixed) (hl:args.length ≤ N:=by exact nle) (hb:b8c 0 args = bs:=by dsimp only [b8c]) (hz:dm.z = false:=by rfl) (hk0:hin.length = k:=by rfl):a3n P dm f args hin r hout:=by
  subst hb hk0 h2
  exact a3n.of_awp hm hf (d3y (fun n c => (lk ms as n).e c) h0 (hc _)) hl (by rw [c9f]; exact hk) hz
end
abbrev SA:=List (Nat × AV) × List l7
abbrev VS:=(Nat → AV) → (Nat → AV) → (Nat → Nat → AV) → (Nat → l7) → (Nat → Nat) → List (Nat × AV) × Option (List l7)
@[simp] def dfl:Option AV → AV
  | some v => v
  | none => .undef
@[simp] def boxV:Option l7 → AV
  | some (.box _ v) => v
  | some .dead => .undef
  | some (.row _ _) => .undef
  | some (.rowx _ _ _ _) => .undef
  | some (.map _) => .undef
  | none => .undef
@[simp] def aggL:AV → List AV
  | .agg l => l
  | .undef => []
  | .skip => []
  | .int _ _ => []
  | .bool _ => []
  | .str _ => []
  | .nil => []
  | .lst _ _ => []
  | .own _ _ _ => []
  | .tup _ => []
  | .ptr _ _ _ => []
  | .iptr _ _ => []
  | .fn _ _ => []
  | .hdr _ _ _ => []
@[simp] def rowL:Option l7 → List AV
  | some (.row _ l) => l
  | some .dead => []
  | some (.box _ _) => []
  | some (.rowx _ _ _ _) => []
  | some (.map _) => []
  | none => []
@[simp] def rowS:Option l7 → Nat
  | some (.row z _) => z
  | some .dead => 0
  | some (.box _ _) => 0
  | some (.rowx _ _ _ _) => 0
  | some (.map _) => 0
  | none => 0
@[simp] def obD:Option l7 → l7
  | some x => x
  | none => .dead
@[simp] def wX (h:List l7) (k:Nat):AV:=boxV (hgB h k)
@[simp] def cX (h:List l7) (k i:Nat):AV:=dfl (lgB (aggL (boxV (hgB h k))) i)
@[simp] def oX (h:List l7) (k:Nat):l7:=obD (hgB h k)
@[simp] def mX (h:List l7) (k:Nat):Nat:=(rowL (hgB h k)).length
@[simp] def prS (L:List (Nat × AV)) (h:List l7):List (Nat × AV) × Option (List l7) → SA
  | (a,none) => (a ++ L,h)
  | (a,some H) => (a ++ L,H)
@[simp] def vS (bs:List (Nat × AV)) (h:List l7) (ks:List Nat) (V:VS):Option SA:=some (prS (kpB bs ks) h (V (getB bs) (wX h) (cX h) (oX h) (mX h)))
inductive Pl where
  | no
  | sl (s:Nat)
  | sc (s i:Nat)
  | bx (o i:Nat)
structure Ft where
  m:List (Nat × Nat)
  q:List Nat
  gs:List Gh
  nh:Nat
@[simp] def inM:List (Nat × Nat) → Nat → Bool
  | [],_ => false
  | (k,_) :: r,n => bif k == n then true else inM r n
@[simp] def lkM:List (Nat × Nat) → Nat → Nat
  | [],n => n
  | (k,j) :: r,n => bif k == n then j else lkM r n
@[simp] def adM:Ft → Nat → Nat → Ft
  | ⟨m,q,gs,nh⟩,k,j => bif inM m k then ⟨m,q,gs,nh⟩ else ⟨(k,j) :: m,q ++ [k],gs,nh⟩
@[simp] def rowZ (H:List l7) (k:Nat):Nat:=rowS (hgB H k)
@[simp] def gNil:Pl → Nat → Gh
  | .sl s,z => .nilT s z
  | .sc s i,z => .nilS s i z
  | .bx o i,z => .nilC o i z
  | .no,z => .kill z
@[simp] def gFrz:Pl → Gh
  | .sl s => .frz s
  | .sc s i => .frzS s i
  | .bx o i => .frzC o i
  | .no => .kill 0
@[simp] def plI:Pl → Nat → Pl
  | .sl s,i => .sc s i
  | .bx o _,i => .bx o i
  | .sc _ _,_ => .no
  | .no,_ => .no
@[simp] def adN (H:List l7):Ft → Pl → Nat → Ft
  | ⟨m,q,gs,nh⟩,p,k => bif inM m k then ⟨m,q,gs,nh⟩ else ⟨(k,nh) :: m,q,gs ++ [gNil p (rowZ H k)],nh + 1⟩
@[simp] def adF:Ft → Pl → Ft
  | ⟨m,q,gs,nh⟩,p => ⟨m,q,gs ++ [gFrz p],nh⟩
inductive Tg where
  | no
  | own (o:Nat)
  | ptr (o:Nat)
  | nil
  | lst
  | agg (l:List AV)
@[simp] def tgv (fb:Bool):AV → Tg
  | .agg l => .agg l
  | .undef => .no
  | .skip => .no
  | .int _ _ => .no
  | .bool _ => .no
  | .str _ => .no
  | .nil => .nil
  | .lst _ _ => .lst
  | .own o _ _ => .own o
  | .tup _ => .no
  | .ptr o _ _ => .ptr o
  | .iptr _ _ => .no
  | .fn _ l => bif fb then .agg l else .no
  | .hdr _ _ _ => .no
@[simp] def tgOwn:Nat → Pl → Tg → Ft → Ft
  | j,_,.own k,f => adM f k j
  | _,p,.lst,f => adF f p
  | _,_,.no,f => f
  | _,_,.ptr _,f => f
  | _,_,.nil,f => f
  | _,_,.agg _,f => f
@[simp] def tgPtr:Nat → Tg → Ft → Ft
  | j,.ptr k,f => adM f k j
  | _,.lst,f => f
  | _,.no,f => f
  | _,.own _,f => f
  | _,.nil,f => f
  | _,.agg _,f => f
@[simp] def tgNil (H:List l7):Pl → Tg → Ft → Ft
  | p,.own k,f => adN H f p k
  | _,.lst,f => f
  | _,.no,f => f
  | _,.ptr _,f => f
  | _,.nil,f => f
  | _,.agg _,f => f
mutual
@[simp] def ftT (fb:Bool) (H:List l7):Nat → Pl → Tg → Tg → Ft → Ft
  | 0,_,_,_,f => f
  | _ + 1,p,.own j,b,f => tgOwn j p b f
  | _ + 1,_,.ptr j,b,f => tgPtr j b f
  | _ + 1,p,.nil,b,f => tgNil H p b f
  | n + 1,p,.agg l,b,f => ftA fb H n p l b f
  | _ + 1,_,.lst,_,f => f
  | _ + 1,_,.no,_,f => f
@[simp] def ftA (fb:Bool) (H:List l7):Nat → Pl → List AV → Tg → Ft → Ft
  | 0,_,_,_,f => f
  | n + 1,p,l,.agg l',f => ftL fb H n p 0 l l' f
  | _ + 1,_,_,.own _,f => f
  | _ + 1,_,_,.ptr _,f => f
  | _ + 1,_,_,.nil,f => f
  | _ + 1,_,_,.lst,f => f
  | _ + 1,_,_,.no,f => f
@[simp] def ftL (fb:Bool) (H:List l7):Nat → Pl → Nat → List AV → List AV → Ft → Ft
  | 0,_,_,_,_,f => f
  | n + 1,p,i,a :: l,b :: l',f => ftL fb H n p (i + 1) l l' (ftT fb H n (plI p i) (tgv fb a) (tgv fb b) f)
  | _ + 1,_,_,[],_,f => f
  | _ + 1,_,_,_ :: _,[],f => f
end
@[simp] def isAg:AV → Bool
  | .agg _ => true
  | .undef => false
  | .skip => false
  | .int _ _ => false
  | .bool _ => false
  | .str _ => false
  | .nil => false
  | .lst _ _ => false
  | .own _ _ _ => false
  | .tup _ => false
  | .ptr _ _ _ => false
  | .iptr _ _ => false
  | .fn _ _ => false
  | .hdr _ _ _ => false
@[simp] def ftB (fb:Bool) (H:List l7) (j:Nat) (v v':AV) (f:Ft):Ft:=bif isAg v then ftL fb H 60 (.bx j 0) 0 (aggL v) (aggL v') f else ftT fb H 60 (.bx j 0) (tgv fb v) (tgv fb v') f
@[simp] def ftO (fb:Bool) (h H:List l7):Nat → Ft → Ft
  | 0,f => f
  | _ + 1,⟨m,[],gs,nh⟩ => ⟨m,[],gs,nh⟩
  | n + 1,⟨m,k :: q,gs,nh⟩ => ftO fb h H n (ftB fb H (lkM m k) (boxV (hgB h (lkM m k))) (boxV (hgB H k)) ⟨m,q,gs,nh⟩)
@[simp] def ftS (fb:Bool) (H:List l7) (bs:List (Nat × AV)):List (Nat × AV) → Ft → Ft
  | [],f => f
  | (s,v) :: r,f => ftS fb H bs r (ftT fb H 60 (.sl s) (tgv fb (getB bs s)) (tgv fb v) f)
@[simp] def ptrN:AV → Nat
  | .ptr o _ _ => o
  | .undef => 0
  | .skip => 0
  | .int _ _ => 0
  | .bool _ => 0
  | .str _ => 0
  | .nil => 0
  | .lst _ _ => 0
  | .own _ _ _ => 0
  | .agg _ => 0
  | .tup _ => 0
  | .iptr _ _ => 0
  | .fn _ _ => 0
  | .hdr _ _ _ => 0
@[simp] def ptrF:AV → Nat
  | .ptr _ _ f => f
  | .undef => 0
  | .skip => 0
  | .int _ _ => 0
  | .bool _ => 0
  | .str _ => 0
  | .nil => 0
  | .lst _ _ => 0
  | .own _ _ _ => 0
  | .agg _ => 0
  | .tup _ => 0
  | .iptr _ _ => 0
  | .fn _ _ => 0
  | .hdr _ _ _ => 0
@[simp] def rsV (bs:List (Nat × AV)) (h:List l7):AOp → Pl × AV
  | .mov (.t s) => (.sl s,getB bs s)
  | .mov (.c v) => (.no,v)
  | .load _ ag (.t s) => (.bx (ptrN (getB bs s)) (ptrF (getB bs s)),bif ag then boxV (hgB h (ptrN (getB bs s))) else dfl (lgB (aggL (boxV (hgB h (ptrN (getB bs s))))) (ptrF (getB bs s))))
  | _ => (.no,.undef)
@[simp] def ftR (fb:Bool) (H:List l7):List (Pl × AV) → List AV → Ft → Ft
  | (p,a) :: os,v :: l,f => ftR fb H os l (ftT fb H 60 p (tgv fb a) (tgv fb v) f)
  | [],_,f => f
  | _ :: _,[],f => f
@[simp] def mvs (bs:List (Nat × AV)) (h:List l7):List AOp → List (Pl × AV)
  | [] => []
  | o :: l => rsV bs h o :: mvs bs h l
@[simp] def tupL:AV → List AV
  | .tup l => l
  | .undef => []
  | .skip => []
  | .int _ _ => []
  | .bool _ => []
  | .str _ => []
  | .nil => []
  | .lst _ _ => []
  | .own _ _ _ => []
  | .agg _ => []
  | .ptr _ _ _ => []
  | .iptr _ _ => []
  | .fn _ _ => []
  | .hdr _ _ _ => []
@[simp] def iniM:Nat → Nat → List (Nat × Nat)
  | 0,_ => []
  | n + 1,k => (k,k) :: iniM n (k + 1)
@[simp] def iniQ:Nat → Nat → List Nat
  | 0,_ => []
  | n + 1,k => k :: iniQ n (k + 1)
@[simp] def jsM (m:List (Nat × Nat)):List l7 → Nat → List Nat
  | [],_ => []
  | _ :: l,k => lkM m k :: jsM m l (k + 1)
@[simp] def outF (H:List l7):Ft → List Gh × List Nat
  | ⟨m,_,gs,_⟩ => (gs,jsM m H 0)
@[simp] def lnO:List l7 → Nat
  | [] => 0
  | _ :: l => lnO l + 1
@[simp] def unT:List AOp → AV → List AV
  | [_],v => [v]
  | [],_ => []
  | _ :: _ :: _,v => tupL v
@[simp] def fitT (fb:Bool) (n0:Nat) (bs:List (Nat × AV)) (h:List l7) (vs:List (Nat × AV)) (H:List l7):List Gh × List Nat:=outF H (ftO fb h H 60 (ftS fb H bs vs ⟨iniM n0 0,iniQ n0 0,[],lnO h⟩))
@[simp] def fitR (fb:Bool) (n0:Nat) (bs:List (Nat × AV)) (h:List l7) (os:List AOp) (r:AV) (H:List l7):List Gh × List Nat:=outF H (ftO fb h H 60 (ftR fb H (mvs bs h os) (unT os r) ⟨iniM n0 0,iniQ n0 0,[],lnO h⟩))
section
theorem tkL (L:List AV):(L.drop 0).take L.length = L:=by simp
theorem tkM (L:List AV):L.take L.length = L:=by simp
theorem leA {a b:AV} (h:Le a b:=by first | exact .refl _ | (repeat' first | exact .refl _ | exact .nil _ | exact LeL.nil | refine .agg ?_ | refine .tup ?_ | refine LeL.cons ?_ ?_ | exact .of_eq (congrArg (AV.own _ 0) (by simp)) | exact .of_eq (congrArg (AV.fn _) (kf.hr _)) | exact .of_eq (congrArg (AV.int _) (b2c (by assumption) (by assumption))) | exact .of_eq (congrArg (AV.int _) (congrArg Int.ofNat (by simp))) | exact .of_eq (congrArg (AV.lst _) (tkL _)) | exact .of_eq (congrArg (AV.lst _) (tkM _)) | exact .of_eq (congrArg (AV.lst _) (tk _)) | exact .of_eq (congrArg (AV.lst _) (tko _)) | exact .of_eq (congrArg (AV.lst _) (by first | (simp; done) | (simp [List.take_of_length_le]; done) | fail)) | fail)):Le a b:=h
theorem e7h {a b:List l7} (h:LeH a b:=by first | exact .refl _ | (repeat' first | exact LeH.nil | refine LeH.cons ?_ ?_ | exact LeO.refl _ | exact LeO.box leA | refine LeO.row ?_ | exact LeL.nil | refine LeL.cons ?_ ?_ | exact leA | fail)):LeH a b:=h
theorem f7u {p:Prop} (h:p:=by repeat' first | exact trivial | refine ⟨.refl _,?_⟩ | refine ⟨leA,?_⟩ | fail):p:=h
theorem rpA {p:Prop} (h:p:=by repeat first | exact trivial | exact nle | exact .of trivial trivial | exact rfl | refine ⟨?_,?_⟩):p:=h
theorem f7v {α:Type} {enc:α → AV} {l:List α} {e:α} {bs:List (Nat × AV)} {h:List l7} {z j:Nat} {k:IntKind} {x i:AX} {v:AV} (hl:l[j]? = some e) (hx:x.ev (ofL bs) = .lst z (l.map enc)) (hi:i.ev (ofL bs) = .int k (j:Int)) (hv:v = .iptr (enc e) 0):Agn false (.iaddr z x i) bs h v:=by rw [hv]; exact e4n hx hi hl
theorem f3t {α:Type} {enc:α → AV} {l:List α} {e:α} {bs:List (Nat × AV)} {h:List l7} {a:AX} {o j f sz z:Nat} {ag:Bool} {v:AV} (hl:l[j]? = some e) (hx:a.ev (ofL bs) = .ptr o j f) (ho:h[o]? = some (.row z (l.map enc))) (hp:ldP (enc e) f sz ag) (hv:ldV (enc e) f sz ag = v):Agn false (.load sz ag a) bs h v:=e1e hx ho hl hp hv
theorem f7w {α:Type} {enc:α → AV} {l:List α} {e:α} {bs:List (Nat × AV)} {h:List l7} {z:Nat} {j:Int} {k:IntKind} {x i:AX} {v:AV} (hl:idx l j = some e) (hx:x.ev (ofL bs) = .lst z (l.map enc)) (hi:i.ev (ofL bs) = .int k j) (hv:v = .iptr (enc e) 0):Agn false (.iaddr z x i) bs h v:=by rw [hv]; exact d8f hx hi (d2s hl) (d5m hl)
theorem f5u {α:Type} {l:List α} {e:α} {j:Int} (hl:idx l j = some e):l[0 + j.toNat]? = some e:=by rw [Nat.zero_add]; exact d5m hl
theorem f7x {bs:List (Nat × AV)} {h:List l7} {α:Type} {enc:α → AV} {l:List α} {e:α} {z z' o m:Nat} {j:Int} {k:IntKind} {x i:AX} {v:AV} (hl:idx l j = some e) (hx:x.ev (ofL bs) = .own o 0 m) (hi:i.ev (ofL bs) = .int k j) (ho:h[o]? = some (.row z' (l.map enc))) (hm:l.length = m) (hz:z' = z) (hv:v = .ptr o (0 + j.toNat) 0):Agn false (.iaddr z x i) bs h v:=by
  rw [hv]
  exact c7w hx hi (d2s hl) (by have h1:=d2s hl; have h2:=(List.getElem?_eq_some_iff.1 (d5m hl)).1; omega) ho hz
theorem agA {p:Prop} (h:p:=by first | exact b9y | exact trivial | (refine .inr ?_; repeat' first | exact trivial | exact f7v (by assumption) rfl rfl rfl | exact f7w (by assumption) rfl rfl rfl | exact c6t rfl rfl (by omega) (by omega) | exact b5z rfl rfl (by omega) (by omega) | exact c1w rfl rfl rfl (by omega) (by omega) | exact b3r rfl rfl rfl (by omega) (by omega) | exact f3j rfl | exact e4m rfl rfl | exact f3t (by assumption) rfl rfl nle rfl | exact f3t (f5u (by assumption)) rfl rfl nle rfl | exact f3t (enc:=encI) (by assumption) rfl rfl ⟨rfl,rfl⟩ rfl | exact c7w rfl rfl (by omega) (by omega) rfl rfl | exact f7x (by assumption) rfl rfl rfl rfl rfl rfl | exact nle | exact rfl | exact .of trivial trivial | refine ⟨?_,?_⟩)):p:=h
theorem ckz (fb:Bool) {m:Bool} {n0:Nat} {bs vs:List (Nat × AV)} {h H h':List l7} {gs:List Gh} {js:List Nat} {t':Nat → AV} (hfit:B1 (fitT fb n0 bs h vs H) = some (gs,js):=by dsimp) (hg:ghs m (ofL bs) h gs = some (t',h'):=by rfl) (hk:b2b n0 h'.length js = true:=by rfl) (hf:c8t (a7r js) t' vs:=by exact f7u) (hh:LeH (b1z h' js) H:=by exact e7h):a3e m n0 (ofL bs) h (vs,H):=⟨gs,js,t',h',hg,hk,hf,hh⟩
theorem rHz (fb:Bool) {m:Bool} {n0:Nat} {bs:List (Nat × AV)} {h h' hout:List l7} {os:List AOp} {r:AV} {gs:List Gh} {js:List Nat} {t':Nat → AV} (hfit:B1 (fitR fb n0 bs h os r hout) = some (gs,js):=by dsimp) (hg:ghs m (ofL bs) h gs = some (t',h'):=by rfl) (hp:b6f m t' h' os:=by exact rpA) (hk:b2b n0 h'.length js = true:=by rfl) (hh:LeH (b1z h' js) hout:=by exact e7h) (hl:Le (ren (a7r js) (pack (b4h t' h' os))) r:=by exact leA):c7u m n0 os r hout .ret (ofL bs) h:=c0d gs js hg hp hk hh hl
theorem rHn (fb:Bool) {m:Bool} {n0:Nat} {bs:List (Nat × AV)} {h h' hout:List l7} {os:List AOp} {r:AV} {gs:List Gh} {js:List Nat} {t':Nat → AV} (hfit:B1 (fitR fb n0 bs h os r hout) = some (gs,js):=by dsimp) (hg:ghs m (ofL bs) h gs = some (t',h'):=by rfl) (hp:b6f m t' h' os:=by exact rpA) (hk:b2b n0 h'.length js = true:=by rfl) (hh:LeH (b1z h' js) hout:=by exact e7h) (hl:Le (ren (a7r js) (pack (b4h t' h' os))) r:=by exact leA):c7u m n0 os r hout .norm (ofL bs) h:=⟨gs,js,t',h',hg,hp,hk,hh,hl⟩
theorem gNm {m:Bool} {n0:Nat} {os:List AOp} {r:AV} {hout h:List l7} {t:Nat → AV} (hn:c7u m n0 os r hout .norm t h):c7u m n0 os r hout .norm t h:=hn
theorem e1k {a b:List AV} (h:LeL a b:=by first | exact .refl _ | (repeat' first | exact LeL.nil | refine LeL.cons ?_ ?_ | exact leA | fail)):LeL a b:=h
theorem rFz {m:Bool} {t:Nat → AV} {h:List l7} {os:List AOp} {r:AV} {bs:List AV} {ks:List Nat} (hp:b6f m t h os:=by exact rpA) (ha:a0r true h (b4h t h os) = some (bs,ks):=by rfl) (hn:ks.Nodup:=by decide) (hl:Le (pack bs) r:=by exact leA):d0q m .fresh os r .ret t h:=c9d hp ha hn hl
theorem rWz {m:Bool} {t:Nat → AV} {h:List l7} {os:List AOp} {r:AV} {bs:List AV} {ks:List Nat} (hp:b6f m t h os:=by exact rpA) (ha:a0r false h (b4h t h os) = some (bs,ks):=by rfl) (hl:Le (pack bs) r:=by exact leA):d0q m .weak os r .ret t h:=d0t hp ha hl
theorem rLz {m:Bool} {t:Nat → AV} {h:List l7} {os:List AOp} {r:AV} (hp:b6f m t h os:=by exact rpA) (hf:rflats (b4h t h os) = true:=by rfl) (hl:Le (pack (b4h t h os)) r:=by exact leA):d0q m .flat os r .ret t h:=b7v hp hf hl
end
def cZ {α:Type} (ks:List Nat) (V:α → VS):An:=aC _ 10 ks V
def fZ {α:Type} (ks:List Nat) (V:α → VS):An:=aC _ 11 ks V
section
variable {P:Program} {dm:Md} {n0:Nat} {bs:List (Nat × AV)} {h:List l7} {Q:AQ} {a b:a0m} {id:Nat} {ks:List Nat} {α ρ τ:Type} {r:ρ}
theorem wCz {x:Option α} {f:α → Option ρ} {V:α → VS} {S:α → SA} (hf:Option.bind x f = some r) (h1:∀ v,x = some v → awp P dm n0 a (ofL bs) h (d8b dm.m n0 (S v) Q)) (h2:∀ v,f v = some r → awp P dm n0 b (ofL (S v).1) (S v).2 Q) (hS:∀ v,vS bs h ks (V v) = some (S v):=by intro v; dsimp):awp P dm n0 a (ofL bs) h (b3v (awp P dm n0 ((cZ ks V).f b)) Q):=by
  obtain ⟨v,e,hf⟩:=ob hf
  exact b0n (S v) (h1 v e) (h2 v hf)
theorem f7y {x:Option α} {f:α → Option ρ} {V:α → VS} {S:α → SA} (hf:Option.bind x f = some r) (h1:∀ v,x = some v → awp P dm n0 a (ofL bs) h (a2s id (d8b dm.m n0 (S v) Q))) (h2:∀ v,f v = some r → awp P dm n0 b (ofL (S v).1) (S v).2 Q) (hS:∀ v,vS bs h ks (V v) = some (S v):=by intro v; dsimp):awp P dm n0 a (ofL bs) h (a2s id (b3v (awp P dm n0 ((cZ ks V).f b)) Q)):=by
  obtain ⟨v,e,hf⟩:=ob hf
  exact d0r (S v) (h1 v e) (h2 v hf)
theorem wFz {R:Type} {x:Option (Fl R α)} {f:Fl R α → Option ρ} {V:α → VS} {S:α → SA} (hf:Option.bind x f = some r) (h1:∀ p,x = some p → f p = some r → awp P dm n0 a (ofL bs) h (c2o dm.m n0 (fun q:{s:α // p = .go s} => S q.1) Q)) (h2:∀ s,f (.go s) = some r → awp P dm n0 b (ofL (S s).1) (S s).2 Q) (hS:∀ v,vS bs h ks (V v) = some (S v):=by intro v; dsimp):awp P dm n0 a (ofL bs) h (b3v (awp P dm n0 ((fZ ks V).f b)) Q):=by
  obtain ⟨p,e,hf⟩:=ob hf
  exact b8b (fun q:{s:α // p = .go s} => S q.1) (h1 p e hf) (fun q => h2 q.1 (by rw [← q.2]; exact hf))
theorem f7z {R:Type} {x:Option (Fl R α)} {f:Fl R α → Option ρ} {V:α → VS} {S:α → SA} (hf:Option.bind x f = some r) (h1:∀ p,x = some p → f p = some r → awp P dm n0 a (ofL bs) h (a2s id (c2o dm.m n0 (fun q:{s:α // p = .go s} => S q.1) Q))) (h2:∀ s,f (.go s) = some r → awp P dm n0 b (ofL (S s).1) (S s).2 Q) (hS:∀ v,vS bs h ks (V v) = some (S v):=by intro v; dsimp):awp P dm n0 a (ofL bs) h (a2s id (b3v (awp P dm n0 ((fZ ks V).f b)) Q)):=by
  obtain ⟨p,e,hf⟩:=ob hf
  exact c1t (fun q:{s:α // p = .go s} => S q.1) (h1 p e hf) (fun q => h2 q.1 (by rw [← q.2]; exact hf))
abbrev LZ (J:List τ → Nat → α → Option ρ) (l:List τ) (p:ρ):={q:Nat × α // J (l.drop q.1) q.1 q.2 = some p}
abbrev KZ (m:Bool) (n0:Nat) (J:List τ → Nat → α → Option ρ) (l:List τ) (p:ρ) (S:Nat → α → SA) (i:Nat) (v:α) (hq:J (l.drop i) i v = some p) (Q:AQ):AQ:=b9x m n0 (fun q:LZ J l p => S q.1.1 q.1.2) (fun q => l.length - q.1.1) ⟨(i,v),hq⟩ Q
theorem klz {m:Bool} {t:Nat → AV} {h':List l7} {J:List τ → Nat → α → Option ρ} {l:List τ} {p:ρ} {S:Nat → α → SA} {i j:Nat} {v w:α} {hq:J (l.drop i) i v = some p} (hf:J (l.drop j) j w = some p) (hj:j = i + 1) (hl:i < l.length) (hc:a3e m n0 t h' (S j w)):KZ m n0 J l p S i v hq Q .norm t h' :=
  ⟨⟨(j,w),hf⟩,by subst hj; exact mul hl,hc⟩
theorem wZ0 {l:List τ} {J:List τ → Nat → α → Option ρ} {i0:Nat} {a0:α} {p:ρ} {S:Nat → α → SA} (hf:J (l.drop i0) i0 a0 = some p)
    (h0:∀ i v (hq:J (l.drop i) i v = some p),l.length ≤ i → J [] i v = some p → awp P dm n0 a (ofL (S i v).1) (S i v).2 (KZ dm.m n0 J l p S i v hq (a2s id Q)))
    (h1:∀ i v (hq:J (l.drop i) i v = some p) x,i < l.length → l[i]? = some x → J (x :: l.drop (i + 1)) i v = some p → awp P dm n0 a (ofL (S i v).1) (S i v).2 (KZ dm.m n0 J l p S i v hq (a2s id Q)))
    (hc:a3e dm.m n0 (ofL bs) h (S i0 a0)):awp P dm n0 (.block id (.loop a)) (ofL bs) h Q:=by
  refine b5t (fun q:LZ J l p => S q.1.1 q.1.2) (fun q => l.length - q.1.1) ⟨(i0,a0),hf⟩ hc ?_
  rintro ⟨⟨i,v⟩,hq⟩
  rcases c7v l i with ⟨hl,hd⟩ | ⟨hl,x,hx,hd⟩
  · exact h0 i v hq hl (by have:=hq; simp only [hd] at this; exact this)
  · exact h1 i v hq x hl hx (by have:=hq; simp only [hd] at this; exact this)
abbrev KY (m:Bool) (n0:Nat) (J:Nat → α → Option ρ) (p:ρ) (S:α → SA) (k:Nat) (v:α) (hq:J k v = some p) (Q:AQ):AQ:=b9x m n0 (fun q:{q:Nat × α // J q.1 q.2 = some p} => S q.1.2) (fun q => q.1.1) ⟨(k,v),hq⟩ Q
theorem kyz {m:Bool} {t:Nat → AV} {h':List l7} {J:Nat → α → Option ρ} {p:ρ} {S:α → SA} {k:Nat} {v w:α} {hq:J (k + 1) v = some p} (hf:J k w = some p) (hc:a3e m n0 t h' (S w)):KY m n0 J p S (k + 1) v hq Q .norm t h':=⟨⟨(k,w),hf⟩,Nat.lt_succ_self _,hc⟩
theorem wY0 {J:Nat → α → Option ρ} {N:Nat} {a0:α} {p:ρ} {S:α → SA} (hf:J N a0 = some p) (hz:∀ v,¬ J 0 v = some p) (h1:∀ k v (hq:J (k + 1) v = some p),J (k + 1) v = some p → awp P dm n0 a (ofL (S v).1) (S v).2 (KY dm.m n0 J p S (k + 1) v hq (a2s id Q))) (hc:a3e dm.m n0 (ofL bs) h (S a0)):awp P dm n0 (.block id (.loop a)) (ofL bs) h Q:=by
  refine b5t (fun q:{q:Nat × α // J q.1 q.2 = some p} => S q.1.2) (fun q => q.1.1) ⟨(N,a0),hf⟩ hc ?_
  rintro ⟨⟨k,v⟩,hq⟩
  cases k with
  | zero => exact absurd hq (hz v)
  | succ k => exact h1 k v hq hq
end
section
variable {P:Program} {dm:Md} {n0:Nat} {bs:List (Nat × AV)} {h:List l7} {Q:AQ} {a:a0m} {id:Nat} {ks:List Nat} {ρ τ:Type}
def zN0 (ks:List Nat) (V:Nat → VS):An:=aL _ 20 ks V
theorem f8a {l:List τ} {G:List τ → Option ρ}  {p:ρ} {V:Nat → VS} {S:Nat → Unit → SA} (hf:G l = some p)
    (h0:∀ i v hq,l.length ≤ i → G [] = some p → awp P dm n0 a (ofL (S i v).1) (S i v).2 (KZ dm.m n0 (fun xs i (v:Unit) => G xs) l p S i v hq (a2s id Q)))
    (h1:∀ i v hq x,i < l.length → l[i]? = some x → G (x :: l.drop (i + 1)) = some p → awp P dm n0 a (ofL (S i v).1) (S i v).2 (KZ dm.m n0 (fun xs i (v:Unit) => G xs) l p S i v hq (a2s id Q)))
    (hS:∀ i (v:Unit),vS bs h ks (V i) = some (S i v):=by intro i v; dsimp) (hc:a3e dm.m n0 (ofL bs) h (S 0 ()):=by first | exact ckz true | exact ckz false | fail):awp P dm n0 ((zN0 ks V).f (.block id (.loop a))) (ofL bs) h Q :=
  wZ0 (J:=(fun xs i (v:Unit) => G xs)) (S:=S) (i0:=0) (a0:=()) hf (fun i v => h0 i v) (fun i v => h1 i v) hc
def zN1 {α:Type} (ks:List Nat) (V:Nat → α → VS):An:=aL _ 20 ks V
theorem f8b {α:Type} {l:List τ} {G:List τ → α → Option ρ} {a0:α} {p:ρ} {V:Nat → α → VS} {S:Nat → α → SA} (hf:G l a0 = some p)
    (h0:∀ i v hq,l.length ≤ i → G [] v = some p → awp P dm n0 a (ofL (S i v).1) (S i v).2 (KZ dm.m n0 (fun xs i (v:α) => G xs v) l p S i v hq (a2s id Q)))
    (h1:∀ i v hq x,i < l.length → l[i]? = some x → G (x :: l.drop (i + 1)) v = some p → awp P dm n0 a (ofL (S i v).1) (S i v).2 (KZ dm.m n0 (fun xs i (v:α) => G xs v) l p S i v hq (a2s id Q)))
    (hS:∀ i (v:α),vS bs h ks (V i v) = some (S i v):=by intro i v; dsimp) (hc:a3e dm.m n0 (ofL bs) h (S 0 a0):=by first | exact ckz true | exact ckz false | fail):awp P dm n0 ((zN1 ks V).f (.block id (.loop a))) (ofL bs) h Q :=
  wZ0 (J:=(fun xs i (v:α) => G xs v)) (S:=S) (i0:=0) (a0:=a0) hf (fun i v => h0 i v) (fun i v => h1 i v) hc
def zN2 {α:Type} {β:Type} (ks:List Nat) (V:Nat → α × β → VS):An:=aL _ 20 ks V
theorem f8c {α:Type} {β:Type} {l:List τ} {G:List τ → α → β → Option ρ} {a0:α} {a1:β} {p:ρ} {V:Nat → α × β → VS} {S:Nat → α × β → SA} (hf:G l a0 a1 = some p)
    (h0:∀ i v hq,l.length ≤ i → G [] v.1 v.2 = some p → awp P dm n0 a (ofL (S i v).1) (S i v).2 (KZ dm.m n0 (fun xs i (v:α × β) => G xs v.1 v.2) l p S i v hq (a2s id Q)))
    (h1:∀ i v hq x,i < l.length → l[i]? = some x → G (x :: l.drop (i + 1)) v.1 v.2 = some p → awp P dm n0 a (ofL (S i v).1) (S i v).2 (KZ dm.m n0 (fun xs i (v:α × β) => G xs v.1 v.2) l p S i v hq (a2s id Q)))
    (hS:∀ i (v:α × β),vS bs h ks (V i v) = some (S i v):=by intro i v; dsimp) (hc:a3e dm.m n0 (ofL bs) h (S 0 (a0,a1)):=by first | exact ckz true | exact ckz false | fail):awp P dm n0 ((zN2 ks V).f (.block id (.loop a))) (ofL bs) h Q :=
  wZ0 (J:=(fun xs i (v:α × β) => G xs v.1 v.2)) (S:=S) (i0:=0) (a0:=(a0,a1)) hf (fun i v => h0 i v) (fun i v => h1 i v) hc
def zN3 {α:Type} {β:Type} {γ:Type} (ks:List Nat) (V:Nat → α × β × γ → VS):An:=aL _ 20 ks V
theorem f8d {α:Type} {β:Type} {γ:Type} {l:List τ} {G:List τ → α → β → γ → Option ρ} {a0:α} {a1:β} {a2:γ} {p:ρ} {V:Nat → α × β × γ → VS} {S:Nat → α × β × γ → SA} (hf:G l a0 a1 a2 = some p)
    (h0:∀ i v hq,l.length ≤ i → G [] v.1 v.2.1 v.2.2 = some p → awp P dm n0 a (ofL (S i v).1) (S i v).2 (KZ dm.m n0 (fun xs i (v:α × β × γ) => G xs v.1 v.2.1 v.2.2) l p S i v hq (a2s id Q)))
    (h1:∀ i v hq x,i < l.length → l[i]? = some x → G (x :: l.drop (i + 1)) v.1 v.2.1 v.2.2 = some p → awp P dm n0 a (ofL (S i v).1) (S i v).2 (KZ dm.m n0 (fun xs i (v:α × β × γ) => G xs v.1 v.2.1 v.2.2) l p S i v hq (a2s id Q)))
    (hS:∀ i (v:α × β × γ),vS bs h ks (V i v) = some (S i v):=by intro i v; dsimp) (hc:a3e dm.m n0 (ofL bs) h (S 0 (a0,a1,a2)):=by first | exact ckz true | exact ckz false | fail):awp P dm n0 ((zN3 ks V).f (.block id (.loop a))) (ofL bs) h Q :=
  wZ0 (J:=(fun xs i (v:α × β × γ) => G xs v.1 v.2.1 v.2.2)) (S:=S) (i0:=0) (a0:=(a0,a1,a2)) hf (fun i v => h0 i v) (fun i v => h1 i v) hc
def zN4 {α:Type} {β:Type} {γ:Type} {δ:Type} (ks:List Nat) (V:Nat → α × β × γ × δ → VS):An:=aL _ 20 ks V
theorem f8e {α:Type} {β:Type} {γ:Type} {δ:Type} {l:List τ} {G:List τ → α → β → γ → δ → Option ρ} {a0:α} {a1:β} {a2:γ} {a3:δ} {p:ρ} {V:Nat → α × β × γ × δ → VS} {S:Nat → α × β × γ × δ → SA} (hf:G l a0 a1 a2 a3 = some p)
    (h0:∀ i v hq,l.length ≤ i → G [] v.1 v.2.1 v.2.2.1 v.2.2.2 = some p → awp P dm n0 a (ofL (S i v).1) (S i v).2 (KZ dm.m n0 (fun xs i (v:α × β × γ × δ) => G xs v.1 v.2.1 v.2.2.1 v.2.2.2) l p S i v hq (a2s id Q)))
    (h1:∀ i v hq x,i < l.length → l[i]? = some x → G (x :: l.drop (i + 1)) v.1 v.2.1 v.2.2.1 v.2.2.2 = some p → awp P dm n0 a (ofL (S i v).1) (S i v).2 (KZ dm.m n0 (fun xs i (v:α × β × γ × δ) => G xs v.1 v.2.1 v.2.2.1 v.2.2.2) l p S i v hq (a2s id Q)))
    (hS:∀ i (v:α × β × γ × δ),vS bs h ks (V i v) = some (S i v):=by intro i v; dsimp) (hc:a3e dm.m n0 (ofL bs) h (S 0 (a0,a1,a2,a3)):=by first | exact ckz true | exact ckz false | fail):awp P dm n0 ((zN4 ks V).f (.block id (.loop a))) (ofL bs) h Q :=
  wZ0 (J:=(fun xs i (v:α × β × γ × δ) => G xs v.1 v.2.1 v.2.2.1 v.2.2.2)) (S:=S) (i0:=0) (a0:=(a0,a1,a2,a3)) hf (fun i v => h0 i v) (fun i v => h1 i v) hc
def zN7 {α:Type} {β:Type} {γ:Type} {δ:Type} {ε:Type} {ζ:Type} {η:Type} (ks:List Nat) (V:Nat → α × β × γ × δ × ε × ζ × η → VS):An:=aL _ 20 ks V
theorem f8f {α:Type} {β:Type} {γ:Type} {δ:Type} {ε:Type} {ζ:Type} {η:Type} {l:List τ} {G:List τ → α → β → γ → δ → ε → ζ → η → Option ρ} {a0:α} {a1:β} {a2:γ} {a3:δ} {a4:ε} {a5:ζ} {a6:η} {p:ρ} {V:Nat → α × β × γ × δ × ε × ζ × η → VS} {S:Nat → α × β × γ × δ × ε × ζ × η → SA} (hf:G l a0 a1 a2 a3 a4 a5 a6 = some p)
    (h0:∀ i v hq,l.length ≤ i → G [] v.1 v.2.1 v.2.2.1 v.2.2.2.1 v.2.2.2.2.1 v.2.2.2.2.2.1 v.2.2.2.2.2.2 = some p → awp P dm n0 a (ofL (S i v).1) (S i v).2 (KZ dm.m n0 (fun xs i (v:α × β × γ × δ × ε × ζ × η) => G xs v.1 v.2.1 v.2.2.1 v.2.2.2.1 v.2.2.2.2.1 v.2.2.2.2.2.1 v.2.2.2.2.2.2) l p S i v hq (a2s id Q)))
    (h1:∀ i v hq x,i < l.length → l[i]? = some x → G (x :: l.drop (i + 1)) v.1 v.2.1 v.2.2.1 v.2.2.2.1 v.2.2.2.2.1 v.2.2.2.2.2.1 v.2.2.2.2.2.2 = some p → awp P dm n0 a (ofL (S i v).1) (S i v).2 (KZ dm.m n0 (fun xs i (v:α × β × γ × δ × ε × ζ × η) => G xs v.1 v.2.1 v.2.2.1 v.2.2.2.1 v.2.2.2.2.1 v.2.2.2.2.2.1 v.2.2.2.2.2.2) l p S i v hq (a2s id Q)))
    (hS:∀ i (v:α × β × γ × δ × ε × ζ × η),vS bs h ks (V i v) = some (S i v):=by intro i v; dsimp) (hc:a3e dm.m n0 (ofL bs) h (S 0 (a0,a1,a2,a3,a4,a5,a6)):=by first | exact ckz true | exact ckz false | fail):awp P dm n0 ((zN7 ks V).f (.block id (.loop a))) (ofL bs) h Q :=
  wZ0 (J:=(fun xs i (v:α × β × γ × δ × ε × ζ × η) => G xs v.1 v.2.1 v.2.2.1 v.2.2.2.1 v.2.2.2.2.1 v.2.2.2.2.2.1 v.2.2.2.2.2.2)) (S:=S) (i0:=0) (a0:=(a0,a1,a2,a3,a4,a5,a6)) hf (fun i v => h0 i v) (fun i v => h1 i v) hc
def zI0 (ks:List Nat) (V:Nat → VS):An:=aL _ 20 ks V
theorem f8g {l:List τ} {G:List τ → Nat → Option ρ}  {p:ρ} {V:Nat → VS} {S:Nat → Unit → SA} (hf:G l 0 = some p)
    (h0:∀ i v hq,l.length ≤ i → G [] i = some p → awp P dm n0 a (ofL (S i v).1) (S i v).2 (KZ dm.m n0 (fun xs i (v:Unit) => G xs i) l p S i v hq (a2s id Q)))
    (h1:∀ i v hq x,i < l.length → l[i]? = some x → G (x :: l.drop (i + 1)) i = some p → awp P dm n0 a (ofL (S i v).1) (S i v).2 (KZ dm.m n0 (fun xs i (v:Unit) => G xs i) l p S i v hq (a2s id Q)))
    (hS:∀ i (v:Unit),vS bs h ks (V i) = some (S i v):=by intro i v; dsimp) (hc:a3e dm.m n0 (ofL bs) h (S 0 ()):=by first | exact ckz true | exact ckz false | fail):awp P dm n0 ((zI0 ks V).f (.block id (.loop a))) (ofL bs) h Q :=
  wZ0 (J:=(fun xs i (v:Unit) => G xs i)) (S:=S) (i0:=0) (a0:=()) hf (fun i v => h0 i v) (fun i v => h1 i v) hc
def zI1 {α:Type} (ks:List Nat) (V:Nat → α → VS):An:=aL _ 20 ks V
theorem f8h {α:Type} {l:List τ} {G:List τ → Nat → α → Option ρ} {a0:α} {p:ρ} {V:Nat → α → VS} {S:Nat → α → SA} (hf:G l 0 a0 = some p)
    (h0:∀ i v hq,l.length ≤ i → G [] i v = some p → awp P dm n0 a (ofL (S i v).1) (S i v).2 (KZ dm.m n0 (fun xs i (v:α) => G xs i v) l p S i v hq (a2s id Q)))
    (h1:∀ i v hq x,i < l.length → l[i]? = some x → G (x :: l.drop (i + 1)) i v = some p → awp P dm n0 a (ofL (S i v).1) (S i v).2 (KZ dm.m n0 (fun xs i (v:α) => G xs i v) l p S i v hq (a2s id Q)))
    (hS:∀ i (v:α),vS bs h ks (V i v) = some (S i v):=by intro i v; dsimp) (hc:a3e dm.m n0 (ofL bs) h (S 0 a0):=by first | exact ckz true | exact ckz false | fail):awp P dm n0 ((zI1 ks V).f (.block id (.loop a))) (ofL bs) h Q :=
  wZ0 (J:=(fun xs i (v:α) => G xs i v)) (S:=S) (i0:=0) (a0:=a0) hf (fun i v => h0 i v) (fun i v => h1 i v) hc
def zI2 {α:Type} {β:Type} (ks:List Nat) (V:Nat → α × β → VS):An:=aL _ 20 ks V
theorem f8i {α:Type} {β:Type} {l:List τ} {G:List τ → Nat → α → β → Option ρ} {a0:α} {a1:β} {p:ρ} {V:Nat → α × β → VS} {S:Nat → α × β → SA} (hf:G l 0 a0 a1 = some p)
    (h0:∀ i v hq,l.length ≤ i → G [] i v.1 v.2 = some p → awp P dm n0 a (ofL (S i v).1) (S i v).2 (KZ dm.m n0 (fun xs i (v:α × β) => G xs i v.1 v.2) l p S i v hq (a2s id Q)))
    (h1:∀ i v hq x,i < l.length → l[i]? = some x → G (x :: l.drop (i + 1)) i v.1 v.2 = some p → awp P dm n0 a (ofL (S i v).1) (S i v).2 (KZ dm.m n0 (fun xs i (v:α × β) => G xs i v.1 v.2) l p S i v hq (a2s id Q)))
    (hS:∀ i (v:α × β),vS bs h ks (V i v) = some (S i v):=by intro i v; dsimp) (hc:a3e dm.m n0 (ofL bs) h (S 0 (a0,a1)):=by first | exact ckz true | exact ckz false | fail):awp P dm n0 ((zI2 ks V).f (.block id (.loop a))) (ofL bs) h Q :=
  wZ0 (J:=(fun xs i (v:α × β) => G xs i v.1 v.2)) (S:=S) (i0:=0) (a0:=(a0,a1)) hf (fun i v => h0 i v) (fun i v => h1 i v) hc
def zI3 {α:Type} {β:Type} {γ:Type} (ks:List Nat) (V:Nat → α × β × γ → VS):An:=aL _ 20 ks V
theorem f8j {α:Type} {β:Type} {γ:Type} {l:List τ} {G:List τ → Nat → α → β → γ → Option ρ} {a0:α} {a1:β} {a2:γ} {p:ρ} {V:Nat → α × β × γ → VS} {S:Nat → α × β × γ → SA} (hf:G l 0 a0 a1 a2 = some p)
    (h0:∀ i v hq,l.length ≤ i → G [] i v.1 v.2.1 v.2.2 = some p → awp P dm n0 a (ofL (S i v).1) (S i v).2 (KZ dm.m n0 (fun xs i (v:α × β × γ) => G xs i v.1 v.2.1 v.2.2) l p S i v hq (a2s id Q)))
    (h1:∀ i v hq x,i < l.length → l[i]? = some x → G (x :: l.drop (i + 1)) i v.1 v.2.1 v.2.2 = some p → awp P dm n0 a (ofL (S i v).1) (S i v).2 (KZ dm.m n0 (fun xs i (v:α × β × γ) => G xs i v.1 v.2.1 v.2.2) l p S i v hq (a2s id Q)))
    (hS:∀ i (v:α × β × γ),vS bs h ks (V i v) = some (S i v):=by intro i v; dsimp) (hc:a3e dm.m n0 (ofL bs) h (S 0 (a0,a1,a2)):=by first | exact ckz true | exact ckz false | fail):awp P dm n0 ((zI3 ks V).f (.block id (.loop a))) (ofL bs) h Q :=
  wZ0 (J:=(fun xs i (v:α × β × γ) => G xs i v.1 v.2.1 v.2.2)) (S:=S) (i0:=0) (a0:=(a0,a1,a2)) hf (fun i v => h0 i v) (fun i v => h1 i v) hc
def zI4 {α:Type} {β:Type} {γ:Type} {δ:Type} (ks:List Nat) (V:Nat → α × β × γ × δ → VS):An:=aL _ 20 ks V
theorem f8k {α:Type} {β:Type} {γ:Type} {δ:Type} {l:List τ} {G:List τ → Nat → α → β → γ → δ → Option ρ} {a0:α} {a1:β} {a2:γ} {a3:δ} {p:ρ} {V:Nat → α × β × γ × δ → VS} {S:Nat → α × β × γ × δ → SA} (hf:G l 0 a0 a1 a2 a3 = some p)
    (h0:∀ i v hq,l.length ≤ i → G [] i v.1 v.2.1 v.2.2.1 v.2.2.2 = some p → awp P dm n0 a (ofL (S i v).1) (S i v).2 (KZ dm.m n0 (fun xs i (v:α × β × γ × δ) => G xs i v.1 v.2.1 v.2.2.1 v.2.2.2) l p S i v hq (a2s id Q)))
    (h1:∀ i v hq x,i < l.length → l[i]? = some x → G (x :: l.drop (i + 1)) i v.1 v.2.1 v.2.2.1 v.2.2.2 = some p → awp P dm n0 a (ofL (S i v).1) (S i v).2 (KZ dm.m n0 (fun xs i (v:α × β × γ × δ) => G xs i v.1 v.2.1 v.2.2.1 v.2.2.2) l p S i v hq (a2s id Q)))
    (hS:∀ i (v:α × β × γ × δ),vS bs h ks (V i v) = some (S i v):=by intro i v; dsimp) (hc:a3e dm.m n0 (ofL bs) h (S 0 (a0,a1,a2,a3)):=by first | exact ckz true | exact ckz false | fail):awp P dm n0 ((zI4 ks V).f (.block id (.loop a))) (ofL bs) h Q :=
  wZ0 (J:=(fun xs i (v:α × β × γ × δ) => G xs i v.1 v.2.1 v.2.2.1 v.2.2.2)) (S:=S) (i0:=0) (a0:=(a0,a1,a2,a3)) hf (fun i v => h0 i v) (fun i v => h1 i v) hc
def zI7 {α:Type} {β:Type} {γ:Type} {δ:Type} {ε:Type} {ζ:Type} {η:Type} (ks:List Nat) (V:Nat → α × β × γ × δ × ε × ζ × η → VS):An:=aL _ 20 ks V
theorem f8l {α:Type} {β:Type} {γ:Type} {δ:Type} {ε:Type} {ζ:Type} {η:Type} {l:List τ} {G:List τ → Nat → α → β → γ → δ → ε → ζ → η → Option ρ} {a0:α} {a1:β} {a2:γ} {a3:δ} {a4:ε} {a5:ζ} {a6:η} {p:ρ} {V:Nat → α × β × γ × δ × ε × ζ × η → VS} {S:Nat → α × β × γ × δ × ε × ζ × η → SA} (hf:G l 0 a0 a1 a2 a3 a4 a5 a6 = some p)
    (h0:∀ i v hq,l.length ≤ i → G [] i v.1 v.2.1 v.2.2.1 v.2.2.2.1 v.2.2.2.2.1 v.2.2.2.2.2.1 v.2.2.2.2.2.2 = some p → awp P dm n0 a (ofL (S i v).1) (S i v).2 (KZ dm.m n0 (fun xs i (v:α × β × γ × δ × ε × ζ × η) => G xs i v.1 v.2.1 v.2.2.1 v.2.2.2.1 v.2.2.2.2.1 v.2.2.2.2.2.1 v.2.2.2.2.2.2) l p S i v hq (a2s id Q)))
    (h1:∀ i v hq x,i < l.length → l[i]? = some x → G (x :: l.drop (i + 1)) i v.1 v.2.1 v.2.2.1 v.2.2.2.1 v.2.2.2.2.1 v.2.2.2.2.2.1 v.2.2.2.2.2.2 = some p → awp P dm n0 a (ofL (S i v).1) (S i v).2 (KZ dm.m n0 (fun xs i (v:α × β × γ × δ × ε × ζ × η) => G xs i v.1 v.2.1 v.2.2.1 v.2.2.2.1 v.2.2.2.2.1 v.2.2.2.2.2.1 v.2.2.2.2.2.2) l p S i v hq (a2s id Q)))
    (hS:∀ i (v:α × β × γ × δ × ε × ζ × η),vS bs h ks (V i v) = some (S i v):=by intro i v; dsimp) (hc:a3e dm.m n0 (ofL bs) h (S 0 (a0,a1,a2,a3,a4,a5,a6)):=by first | exact ckz true | exact ckz false | fail):awp P dm n0 ((zI7 ks V).f (.block id (.loop a))) (ofL bs) h Q :=
  wZ0 (J:=(fun xs i (v:α × β × γ × δ × ε × ζ × η) => G xs i v.1 v.2.1 v.2.2.1 v.2.2.2.1 v.2.2.2.2.1 v.2.2.2.2.2.1 v.2.2.2.2.2.2)) (S:=S) (i0:=0) (a0:=(a0,a1,a2,a3,a4,a5,a6)) hf (fun i v => h0 i v) (fun i v => h1 i v) hc
def e3d {α:Type} (ks:List Nat) (V:Nat → α → VS):An:=aL _ 20 ks V
theorem f3u {α:Type} {l:List τ} {G:List τ → α → Nat → Option ρ} {a0:α} {p:ρ} {V:Nat → α → VS} {S:Nat → α → SA} (hf:G l a0 0 = some p)
    (h0:∀ i v hq,l.length ≤ i → G [] v i = some p → awp P dm n0 a (ofL (S i v).1) (S i v).2 (KZ dm.m n0 (fun xs i (v:α) => G xs v i) l p S i v hq (a2s id Q)))
    (h1:∀ i v hq x,i < l.length → l[i]? = some x → G (x :: l.drop (i + 1)) v i = some p → awp P dm n0 a (ofL (S i v).1) (S i v).2 (KZ dm.m n0 (fun xs i (v:α) => G xs v i) l p S i v hq (a2s id Q)))
    (hS:∀ i (v:α),vS bs h ks (V i v) = some (S i v):=by intro i v; dsimp) (hc:a3e dm.m n0 (ofL bs) h (S 0 a0):=by first | exact ckz true | exact ckz false | fail):awp P dm n0 ((e3d ks V).f (.block id (.loop a))) (ofL bs) h Q :=
  wZ0 (J:=(fun xs i (v:α) => G xs v i)) (S:=S) (i0:=0) (a0:=a0) hf (fun i v => h0 i v) (fun i v => h1 i v) hc
def f0t (ks:List Nat) (V:Nat → VS):An:=aL _ 20 ks V
theorem f6a {l:List τ} {G:List τ → Option ρ}  {p:ρ} {V:Nat → VS} {S:Nat → Unit → SA} (hf:G (List.drop 1 l) = some p)
    (h0:∀ i v hq,l.length ≤ i → G [] = some p → awp P dm n0 a (ofL (S i v).1) (S i v).2 (KZ dm.m n0 (fun xs i (v:Unit) => G xs) l p S i v hq (a2s id Q)))
    (h1:∀ i v hq x,i < l.length → l[i]? = some x → G (x :: l.drop (i + 1)) = some p → awp P dm n0 a (ofL (S i v).1) (S i v).2 (KZ dm.m n0 (fun xs i (v:Unit) => G xs) l p S i v hq (a2s id Q)))
    (hS:∀ i (v:Unit),vS bs h ks (V i) = some (S i v):=by intro i v; dsimp) (hc:a3e dm.m n0 (ofL bs) h (S 1 ()):=by first | exact ckz true | exact ckz false | fail):awp P dm n0 ((f0t ks V).f (.block id (.loop a))) (ofL bs) h Q :=
  wZ0 (J:=(fun xs i (v:Unit) => G xs)) (S:=S) (i0:=1) (a0:=()) hf (fun i v => h0 i v) (fun i v => h1 i v) hc
def f0u (ks:List Nat) (V:Nat → VS):An:=aL _ 20 ks V
theorem f6b {l:List τ} {G:List τ → Nat → Option ρ}  {p:ρ} {V:Nat → VS} {S:Nat → Unit → SA} (hf:G (List.drop 1 l) 1 = some p)
    (h0:∀ i v hq,l.length ≤ i → G [] i = some p → awp P dm n0 a (ofL (S i v).1) (S i v).2 (KZ dm.m n0 (fun xs i (v:Unit) => G xs i) l p S i v hq (a2s id Q)))
    (h1:∀ i v hq x,i < l.length → l[i]? = some x → G (x :: l.drop (i + 1)) i = some p → awp P dm n0 a (ofL (S i v).1) (S i v).2 (KZ dm.m n0 (fun xs i (v:Unit) => G xs i) l p S i v hq (a2s id Q)))
    (hS:∀ i (v:Unit),vS bs h ks (V i) = some (S i v):=by intro i v; dsimp) (hc:a3e dm.m n0 (ofL bs) h (S 1 ()):=by first | exact ckz true | exact ckz false | fail):awp P dm n0 ((f0u ks V).f (.block id (.loop a))) (ofL bs) h Q :=
  wZ0 (J:=(fun xs i (v:Unit) => G xs i)) (S:=S) (i0:=1) (a0:=()) hf (fun i v => h0 i v) (fun i v => h1 i v) hc
def zF1 {α:Type} (ks:List Nat) (V:α → VS):An:=aL _ 21 ks V
theorem f8m {α:Type} {N:Nat} {G:Nat → α → Option ρ} {a0:α} {p:ρ} {V:α → VS} {S:α → SA} (hf:G N a0 = some p)
    (h1:∀ k v hq,G (k + 1) v = some p → awp P dm n0 a (ofL (S v).1) (S v).2 (KY dm.m n0 (fun k (v:α) => G k v) p S (k + 1) v hq (a2s id Q)))
    (hz:∀ v:α,¬ G 0 v = some p:=by intro v hf; cases hf) (hS:∀ v:α,vS bs h ks (V v) = some (S v):=by intro v; dsimp) (hc:a3e dm.m n0 (ofL bs) h (S a0):=by first | exact ckz true | exact ckz false | fail):awp P dm n0 ((zF1 ks V).f (.block id (.loop a))) (ofL bs) h Q :=
  wY0 (J:=(fun k (v:α) => G k v)) (S:=S) (N:=N) (a0:=a0) hf hz (fun k v => h1 k v) hc
def zF2 {α:Type} {β:Type} (ks:List Nat) (V:α × β → VS):An:=aL _ 21 ks V
theorem f8n {α:Type} {β:Type} {N:Nat} {G:Nat → α → β → Option ρ} {a0:α} {a1:β} {p:ρ} {V:α × β → VS} {S:α × β → SA} (hf:G N a0 a1 = some p)
    (h1:∀ k v hq,G (k + 1) v.1 v.2 = some p → awp P dm n0 a (ofL (S v).1) (S v).2 (KY dm.m n0 (fun k (v:α × β) => G k v.1 v.2) p S (k + 1) v hq (a2s id Q)))
    (hz:∀ v:α × β,¬ G 0 v.1 v.2 = some p:=by intro v hf; cases hf) (hS:∀ v:α × β,vS bs h ks (V v) = some (S v):=by intro v; dsimp) (hc:a3e dm.m n0 (ofL bs) h (S (a0,a1)):=by first | exact ckz true | exact ckz false | fail):awp P dm n0 ((zF2 ks V).f (.block id (.loop a))) (ofL bs) h Q :=
  wY0 (J:=(fun k (v:α × β) => G k v.1 v.2)) (S:=S) (N:=N) (a0:=(a0,a1)) hf hz (fun k v => h1 k v) hc
def zF3 {α:Type} {β:Type} {γ:Type} (ks:List Nat) (V:α × β × γ → VS):An:=aL _ 21 ks V
theorem f8p {α:Type} {β:Type} {γ:Type} {N:Nat} {G:Nat → α → β → γ → Option ρ} {a0:α} {a1:β} {a2:γ} {p:ρ} {V:α × β × γ → VS} {S:α × β × γ → SA} (hf:G N a0 a1 a2 = some p)
    (h1:∀ k v hq,G (k + 1) v.1 v.2.1 v.2.2 = some p → awp P dm n0 a (ofL (S v).1) (S v).2 (KY dm.m n0 (fun k (v:α × β × γ) => G k v.1 v.2.1 v.2.2) p S (k + 1) v hq (a2s id Q)))
    (hz:∀ v:α × β × γ,¬ G 0 v.1 v.2.1 v.2.2 = some p:=by intro v hf; cases hf) (hS:∀ v:α × β × γ,vS bs h ks (V v) = some (S v):=by intro v; dsimp) (hc:a3e dm.m n0 (ofL bs) h (S (a0,a1,a2)):=by first | exact ckz true | exact ckz false | fail):awp P dm n0 ((zF3 ks V).f (.block id (.loop a))) (ofL bs) h Q :=
  wY0 (J:=(fun k (v:α × β × γ) => G k v.1 v.2.1 v.2.2)) (S:=S) (N:=N) (a0:=(a0,a1,a2)) hf hz (fun k v => h1 k v) hc
def zF5 {α:Type} {β:Type} {γ:Type} {δ:Type} {ε:Type} (ks:List Nat) (V:α × β × γ × δ × ε → VS):An:=aL _ 21 ks V
theorem f8q {α:Type} {β:Type} {γ:Type} {δ:Type} {ε:Type} {N:Nat} {G:Nat → α → β → γ → δ → ε → Option ρ} {a0:α} {a1:β} {a2:γ} {a3:δ} {a4:ε} {p:ρ} {V:α × β × γ × δ × ε → VS} {S:α × β × γ × δ × ε → SA} (hf:G N a0 a1 a2 a3 a4 = some p)
    (h1:∀ k v hq,G (k + 1) v.1 v.2.1 v.2.2.1 v.2.2.2.1 v.2.2.2.2 = some p → awp P dm n0 a (ofL (S v).1) (S v).2 (KY dm.m n0 (fun k (v:α × β × γ × δ × ε) => G k v.1 v.2.1 v.2.2.1 v.2.2.2.1 v.2.2.2.2) p S (k + 1) v hq (a2s id Q)))
    (hz:∀ v:α × β × γ × δ × ε,¬ G 0 v.1 v.2.1 v.2.2.1 v.2.2.2.1 v.2.2.2.2 = some p:=by intro v hf; cases hf) (hS:∀ v:α × β × γ × δ × ε,vS bs h ks (V v) = some (S v):=by intro v; dsimp) (hc:a3e dm.m n0 (ofL bs) h (S (a0,a1,a2,a3,a4)):=by first | exact ckz true | exact ckz false | fail):awp P dm n0 ((zF5 ks V).f (.block id (.loop a))) (ofL bs) h Q :=
  wY0 (J:=(fun k (v:α × β × γ × δ × ε) => G k v.1 v.2.1 v.2.2.1 v.2.2.2.1 v.2.2.2.2)) (S:=S) (N:=N) (a0:=(a0,a1,a2,a3,a4)) hf hz (fun k v => h1 k v) hc
def zF6 {α:Type} {β:Type} {γ:Type} {δ:Type} {ε:Type} {ζ:Type} (ks:List Nat) (V:α × β × γ × δ × ε × ζ → VS):An:=aL _ 21 ks V
theorem f8r {α:Type} {β:Type} {γ:Type} {δ:Type} {ε:Type} {ζ:Type} {N:Nat} {G:Nat → α → β → γ → δ → ε → ζ → Option ρ} {a0:α} {a1:β} {a2:γ} {a3:δ} {a4:ε} {a5:ζ} {p:ρ} {V:α × β × γ × δ × ε × ζ → VS} {S:α × β × γ × δ × ε × ζ → SA} (hf:G N a0 a1 a2 a3 a4 a5 = some p)
    (h1:∀ k v hq,G (k + 1) v.1 v.2.1 v.2.2.1 v.2.2.2.1 v.2.2.2.2.1 v.2.2.2.2.2 = some p → awp P dm n0 a (ofL (S v).1) (S v).2 (KY dm.m n0 (fun k (v:α × β × γ × δ × ε × ζ) => G k v.1 v.2.1 v.2.2.1 v.2.2.2.1 v.2.2.2.2.1 v.2.2.2.2.2) p S (k + 1) v hq (a2s id Q)))
    (hz:∀ v:α × β × γ × δ × ε × ζ,¬ G 0 v.1 v.2.1 v.2.2.1 v.2.2.2.1 v.2.2.2.2.1 v.2.2.2.2.2 = some p:=by intro v hf; cases hf) (hS:∀ v:α × β × γ × δ × ε × ζ,vS bs h ks (V v) = some (S v):=by intro v; dsimp) (hc:a3e dm.m n0 (ofL bs) h (S (a0,a1,a2,a3,a4,a5)):=by first | exact ckz true | exact ckz false | fail):awp P dm n0 ((zF6 ks V).f (.block id (.loop a))) (ofL bs) h Q :=
  wY0 (J:=(fun k (v:α × β × γ × δ × ε × ζ) => G k v.1 v.2.1 v.2.2.1 v.2.2.2.1 v.2.2.2.2.1 v.2.2.2.2.2)) (S:=S) (N:=N) (a0:=(a0,a1,a2,a3,a4,a5)) hf hz (fun k v => h1 k v) hc
end
class K1 {α β:Type} (P:Program) (f:α → Option β) (ea:outParam (α → AV)) (eb:outParam (β → AV)) (k:outParam Nat) (cs:outParam (List AV)):Prop where
  ok:d7o P k = true:=by kernel_rfl
  hc:∀ h p,a3v h p cs = some cs:=by intro _ _; rfl
  hr:∀ f,a7h f cs = cs:=by intro _; rfl
  hp:∀ a r,f a = some r → a0v P k .flat ([ea a] ++ cs) (eb r)
class K2 {α β γ:Type} (P:Program) (f:α → β → Option γ) (ea:outParam (α → AV)) (eb:outParam (β → AV)) (ec:outParam (γ → AV)) (k:outParam Nat) (cs:outParam (List AV)):Prop where
  ok:d7o P k = true:=by kernel_rfl
  hc:∀ h p,a3v h p cs = some cs:=by intro _ _; rfl
  hr:∀ f,a7h f cs = cs:=by intro _; rfl
  hp:∀ a b r,f a b = some r → a0v P k .flat ([ea a,eb b] ++ cs) (ec r)
section
variable {P:Program} {dm:Md} {bs:List (Nat × AV)} {h:List l7}
theorem shE {n:a1j} {d:Nat} {K:(Nat → AV) → List l7 → Prop} {x y:AX} {a b:Int} (hn:a0l P dm n (ofL ((d,.int .u64 (Int.fdiv a (2 ^ (min (Int.toNat b) (IntKind.bits .u64))))) :: bs)) h K) (hx:x.ev (ofL bs) = .int .u64 a:=by rfl) (hy:y.ev (ofL bs) = .int .u64 b:=by rfl) (hb:0 ≤ b:=by decide):a0l P dm (.q ⟨some d,none,.bin .shr x y⟩ n) (ofL bs) h K:=s_q _ rfl (.of (by simp only [aqP,hx,hy]; exact hb) trivial) (by simp only [aqV,hx,hy]; rfl) hn
theorem oCv {x:AX} {args:List AX} {g:Nat} {cf bs' cs:List AV} {r:AV} (hok:d7o P g = true) (hcf:∀ h p,a3v h p cf = some cf) (hc:a0v P g .flat (bs' ++ cf) r) (hx:x.ev (ofL bs) = .fn g cf:=by rfl) (hb:closes h (args.map (AX.ev (ofL bs))) = some cs:=by rfl) (hl:LeL cs bs':=by exact e1k):Opr P dm (.calv x args) bs h r h:=f0p hx hok hcf hc hb hl rfl
end
class Wf (P:Program) (H:Prop) (f:outParam Nat) (args:outParam (List AV)) (r:outParam AV):Prop where
  out:H → a0v P f .fresh args r
class Ww (P:Program) (H:Prop) (f:outParam Nat) (args:outParam (List AV)) (r:outParam AV):Prop where
  out:H → a0v P f .weak args r
instance {P:Program} {H:Prop} {f:Nat} {args:List AV} {r:AV}:CoeFun (Wf P H f args r) (fun _ => H → a0v P f .fresh args r):=⟨fun w => w.out⟩
instance {P:Program} {H:Prop} {f:Nat} {args:List AV} {r:AV}:CoeFun (Ww P H f args r) (fun _ => H → a0v P f .weak args r):=⟨fun w => w.out⟩
class HE (α:Type) (enc:outParam (α → AV)):Prop where
  tt:True
instance:HE Int encI:=⟨trivial⟩
instance:HE Str AV.str:=⟨trivial⟩
@[simp] def catB (x:l7):List l7 → List l7
  | [] => [x]
  | y :: l => y :: catB x l
theorem c9i (x:l7):∀ l:List l7,l ++ [x] = catB x l
  | [] => rfl
  | y :: l => by simp [catB,c9i x l]
@[simp] def lnV:List AV → Nat
  | [] => 0
  | _ :: l => lnV l + 1
@[simp] def pjO:Nat → Tg → List Nat → List Nat
  | o,.own _,r => o :: r
  | _,.lst,r => r
  | _,.no,r => r
  | _,.ptr _,r => r
  | _,.nil,r => r
  | _,.agg _,r => r
@[simp] def pjP:Nat → Tg → List Nat → List Nat
  | o,.ptr _,r => o :: r
  | _,.lst,r => r
  | _,.no,r => r
  | _,.own _,r => r
  | _,.nil,r => r
  | _,.agg _,r => r
@[simp] def pjO2:Tg → List Nat → List Nat
  | .ptr o,r => o :: r
  | .own _,r => r
  | .lst,r => r
  | .no,r => r
  | .nil,r => r
  | .agg _,r => r
@[simp] def pjC:List AV → List Nat → List Nat
  | [],r => r
  | a :: l,r => pjO2 (tgv false a) (pjC l r)
@[simp] def pjT:Tg → Tg → List Nat → List Nat
  | .own o,b,r => pjO o b r
  | .ptr o,b,r => pjP o b r
  | .lst,_,r => r
  | .no,_,r => r
  | .nil,_,r => r
  | .agg l,_,r => pjC l r
@[simp] def pjL:List AV → List AV → List Nat
  | a :: l,b :: l' => pjT (tgv true a) (tgv true b) (pjL l l')
  | [],_ => []
  | _ :: _,[] => []
@[simp] def pfO:Tg → Bool
  | .own _ => false
  | .lst => true
  | .no => false
  | .ptr _ => false
  | .nil => false
  | .agg _ => false
@[simp] def pfT:Tg → Tg → Bool
  | .own _,b => pfO b
  | .ptr _,_ => false
  | .lst,_ => false
  | .no,_ => false
  | .nil,_ => false
  | .agg _,_ => false
@[simp] def pfL:List AV → List AV → List Bool
  | a :: l,b :: l' => pfT (tgv true a) (tgv true b) :: pfL l l'
  | [],_ => []
  | _ :: _,[] => []
@[simp] def anyB:List Bool → Bool
  | [] => false
  | b :: l => bif b then true else anyB l
@[simp] def nrmB (l:List Bool):List Bool:=bif anyB l then l else []
@[simp] def klB (h:List l7):List Nat → List l7
  | [] => h
  | k :: ks => klB (seB h k .dead) ks
theorem b7w:∀ (ks:List Nat) (h:List l7),kill h ks = klB h ks
  | [],h => rfl
  | k :: ks,h => by simp only [kill,klB,← d1a,b7w ks]
theorem c4c:∀ h:List l7,lnO h = h.length
  | [] => rfl
  | x :: l => by simp [lnO,c4c l]
section
variable {P:Program} {dm:Md} {n0:Nat} {bs:List (Nat × AV)} {h h' h2:List l7} {K:(Nat → AV) → List l7 → Prop} {Q:AQ} {n other:a1j} {d:Nat} {op:AOp} {v:AV} {re:List a2z} {α:Type} {enc:α → AV} {l:List α} {e:α}
theorem q1 (hop:Opr P dm op bs h v h') (hn:a0l P dm n (ofL ((d,v) :: bs)) h' K):a0l P dm (.q ⟨some d,none,op⟩ n) (ofL bs) h K:=a4k hop hn
theorem l1 (hop:Opr P dm op bs h v h') (hn:a0l P dm n (ofL ((d,v) :: bs)) h' K) (ho:a0l P dm other (ofL bs) h K) (ha:b8o dm.m re (ofL ((d,v) :: bs)) h h':=by exact agA):a0l P dm (.l ⟨some d,none,op⟩ re n other) (ofL bs) h K:=a6e hop ha ho hn
theorem q0 (hop:Opr P dm op bs h v h') (hn:a0l P dm n (ofL bs) h' K):a0l P dm (.q ⟨none,none,op⟩ n) (ofL bs) h K:=c2r hop hn
theorem l0 (hop:Opr P dm op bs h v h') (hn:a0l P dm n (ofL bs) h' K) (ho:a0l P dm other (ofL bs) h K) (ha:b8o dm.m re (ofL bs) h h':=by exact agA):a0l P dm (.l ⟨none,none,op⟩ re n other) (ofL bs) h K:=f3i hop ha ho hn
theorem oCl {f:Nat} {args:List AX} {cs bs':List AV} {r:AV} (hc:a0v P f .flat bs' r) (hb:closes h (args.map (AX.ev (ofL bs))) = some cs:=by rfl) (hl:LeL cs bs':=by exact e1k):Opr P dm (.call f args) bs h r h:=c0e hc hb hl rfl
theorem e4s {f:Nat} {args:List AX} {as' cs2:List AV} {js ks:List Nat} {fl:List Bool} {r v:AV} {hi hout hs:List l7} (hc:a3n P dm.nz f as' hi r hout) (hj:B1 (pjL (mpB bs args) as') = some js:=by dsimp) (hfl:B1 (nrmB (pfL (mpB bs args) as')) = some fl:=by dsimp) (hf:e4o h fl js (args.map (AX.ev (ofL bs))) = some (cs2,hs,ks):=by rfl) (hl:LeL cs2 as':=by exact e1k) (hh:LeH hs hi:=by exact e7h) (hv:B1 (ren (bkN (lnO h) js) r) = some v:=by dsimp) (h2e:B1 (stB (klB h ks) js (mrB (bkN (lnO h) js) hout)) = some h2:=by dsimp) (hm:dm.m = true → fl = []:=by first | exact fun _ => rfl | exact fun h => absurd h (by decide)):Opr P dm (.call f args) bs h v h2:=by
  cases hv; cases h2e
  have el:=c4c h
  have e:a5x h.length js = bkN h.length js:=funext fun k => e1h _ _ k
  refine c1x fl js hm hc hf hl hh (by rw [e,el]) ?_
  have e2:a5x (kill h ks).length js = bkN h.length js:=by rw [a3x,e]
  rw [← b7w,el]
  unfold b5c
  rw [e2,List.map_drop,e1i,e1j]
theorem oCf {f:Nat} {args:List AX} {cs bs':List AV} {r v:AV} {h1:List l7} (hc:a0v P f .fresh bs' r) (hb:closes h (args.map (AX.ev (ofL bs))) = some cs:=by rfl) (hl:LeL cs bs':=by exact e1k) (hv:a4i (lnO h) r = (v,h1):=by simp only [lnO,a4i,a8x,a2m,d2v,d5v,e1q,List.length_map,List.nil_append,List.append_nil,List.cons_append,List.length_nil,Nat.reduceAdd]; rfl) (hh:B1 (h ++ h1) = some h2:=by dsimp):Opr P dm (.call f args) bs h v h2:=by
  cases hh
  rw [c4c] at hv
  exact e3a hc hb hl hv
theorem f0v {g:Nat} {x:AX} {args:List AX} {caps as' cs2:List AV} {js ks:List Nat} {fl:List Bool} {r v:AV} {hi hout hs:List l7} (hc:a3n P dm.nz g as' hi r hout) (hx:x.ev (ofL bs) = .fn g caps:=by rfl) (hok:d7o P g = true:=by kernel_rfl) (hj:B1 (pjL (mpB bs args ++ caps) as') = some js:=by dsimp) (hfl:B1 (nrmB (pfL (mpB bs args ++ caps) as')) = some fl:=by dsimp) (hf:e4o h fl js (args.map (AX.ev (ofL bs)) ++ caps) = some (cs2,hs,ks):=by rfl) (hl:LeL cs2 as':=by exact e1k) (hh:LeH hs hi:=by exact e7h) (hv:B1 (ren (bkN (lnO h) js) r) = some v:=by dsimp) (h2e:B1 (stB (klB h ks) js (mrB (bkN (lnO h) js) hout)) = some h2:=by dsimp) (hm:dm.m = true → fl = []:=by first | exact fun _ => rfl | exact fun h => absurd h (by decide)):Opr P dm (.calv x args) bs h v h2:=by
  cases hv; cases h2e
  have el:=c4c h
  have e:a5x h.length js = bkN h.length js:=funext fun k => e1h _ _ k
  refine f0o fl js hm hx hok hc rfl hf hl hh (by rw [e,el]) ?_
  have e2:a5x (kill h ks).length js = bkN h.length js:=by rw [a3x,e]
  rw [← b7w,el]
  unfold b5c
  rw [e2,List.map_drop,e1i,e1j]
theorem oCc {f:Nat} {args:List AX} {cs bs':List AV} {r:AV} (hc:a0v P f .fresh bs' r) (hm:dm.m = false:=by rfl) (hb:closes h (args.map (AX.ev (ofL bs))) = some cs:=by rfl) (hl:LeL cs bs':=by exact e1k):Opr P dm (.call f args) bs h r h:=f0m hm hc hb hl rfl
theorem oCw {f:Nat} {args:List AX} {cs bs':List AV} {r:AV} {ks k0:List Nat} (hc:a0v P f .weak bs' r) (hm:dm.m = false:=by rfl) (hb:a0r false h (args.map (AX.ev (ofL bs))) = some (cs,ks):=by rfl) (hl:LeL cs bs':=by exact e1k) (hk0:B1 ks = some k0:=by dsimp) (hh:B1 (klB h k0) = some h2:=by dsimp only [B1,klB,seB]):Opr P dm (.call f args) bs h r h2:=by
  cases hk0; cases hh
  exact f0n hm hc hb hl rfl (b7w _ _)
theorem oBx {x:AX} {c:AV} {sz j:Nat} (hv:B1 (evB bs x) = some c:=by dsimp) (hs:a6p h c:=by exact trivial) (hl:c.cells.length = sz:=by rfl) (hj:B1 h.length = some j:=by dsimp) (hh:B1 (h ++ [.box sz c]) = some h2:=by dsimp):Opr P dm (.box sz x) bs h (.ptr j 0 0) h2:=by
  cases hv; cases hj; cases hh
  exact c2s (b6y bs x).symm hs hl rfl
theorem oBs {sz j m:Nat} {xs:List AX} {as:List AV} {ks:List Nat} (ha:a0r dm.d h (xs.map (AX.ev (ofL bs))) = some (as,ks):=by rfl) (hnd:dm.d = true → ks.Nodup:=by intro _; decide) (hl:d7n sz as:=by exact rpA) (hm:B1 as.length = some m:=by dsimp) (hh:B1 (kill h ks ++ [.row sz as]) = some h2:=by dsimp [kill]) (hj:B1 h.length = some j:=by dsimp):Opr P dm (.bslice sz xs) bs h (.own j 0 m) h2:=by
  cases hm; cases hh; cases hj
  exact a3a ha hnd hl (.refl _) rfl rfl rfl
theorem oBg [HE α enc] {A B:List α} {sz j m:Nat} {xs:List AX} {as:List AV} {ks k0:List Nat} (hg:(A ++ B).length ≤ 2 ^ 30) (ha:a0r dm.d h (xs.map (AX.ev (ofL bs))) = some (as,ks):=by rfl) (he:LeL as (B.map enc):=by (repeat' first | exact LeL.nil | refine LeL.cons ?_ ?_ | exact leA | fail)) (hnd:dm.d = true → ks.Nodup:=by intro _; decide) (hl:d7n sz as:=by exact rpA) (hm:B1 (lnV as) = some m:=by dsimp) (hk0:B1 ks = some k0:=by dsimp) (hh:B1 (catB (.row sz (B.map enc)) (klB h k0)) = some h2:=by dsimp only [B1,catB,klB,seB]) (hj:B1 (lnO h) = some j:=by dsimp) (hm2:(B.map enc).length = m:=by rfl):Opr P dm (.bslice sz xs) bs h (.own j 0 m) h2:=by
  cases hk0; cases hm; cases hh; cases hj
  rw [c4c,← b7w,← c9i]
  exact a3a ha hnd hl he hm2 rfl rfl
theorem oSb {a x:AX} {o j f z sz:Nat} {y v:AV} (ha:B1 (evB bs a) = some (.ptr o j f):=by dsimp) (ho:hgB h o = some (.box z y):=by dsimp) (hx:B1 (evB bs x) = some v:=by dsimp) (hs:a6p h v:=by exact trivial) (hp:a9h y f sz v:=by first | exact ⟨rfl,nle⟩ | exact ⟨rfl,rfl,rfl⟩) (hl:b9u h v.cells:=by repeat first | exact trivial | refine ⟨⟨rfl,trivial⟩,?_⟩) (hh:B1 (seB h o (.box z (celB y f v))) = some h2:=by dsimp [AV.cells]):Opr P dm (.store sz a x) bs h .skip h2:=by
  have ha:evB bs a = .ptr o j f:=Option.some.inj ha
  cases hx; cases hh
  rw [← d1a]
  exact a8z ((b6y bs a).symm.trans ha) ((d0x h o).symm.trans ho) (b6y bs x).symm hs hp hl (e3c y f _)
theorem oIo {o lo m z z':Nat} {l:List AV} {k:IntKind} {j:Int} {x i:AX} (h0:0 ≤ j ∧ j < (m:Int)) (hx:x.ev (ofL bs) = .own o lo m:=by rfl) (hi:i.ev (ofL bs) = .int k j:=by rfl) (ho:h[o]? = some (.row z' l):=by rfl) (hz:z' = z:=by rfl):Opr P dm (.iaddr z x i) bs h (.ptr o (lo + j.toNat) 0) h:=b6x hx hi h0.1 h0.2 ho hz
theorem oIx {o m z z':Nat} {k:IntKind} {j:Int} {x i:AX} (hl:idx l j = some e) (hx:x.ev (ofL bs) = .own o 0 m:=by rfl) (hi:i.ev (ofL bs) = .int k j:=by rfl) (ho:h[o]? = some (.row z' (l.map enc)):=by rfl) (hm:l.length = m:=by rfl) (hz:z' = z:=by rfl):Opr P dm (.iaddr z x i) bs h (.ptr o (0 + j.toNat) 0) h:=b6x hx hi (d2s hl) (by have h1:=d2s hl; have h2:=(List.getElem?_eq_some_iff.1 (d5m hl)).1; omega) ho hz
theorem oIn {o m z z' j:Nat} {k:IntKind} {L:List AV} {x i:AX} (hj:j < m) (hx:x.ev (ofL bs) = .own o 0 m:=by rfl) (hi:i.ev (ofL bs) = .int k (j:Int):=by rfl) (ho:h[o]? = some (.row z' L):=by rfl) (hz:z' = z:=by rfl):Opr P dm (.iaddr z x i) bs h (.ptr o j 0) h:=fun K hk => d8e hx hi hj ho hz K hk
theorem oLr {dm:Bool} {a:AX} {o j f sz z:Nat} {ag:Bool} {v:AV} (hl:l[j]? = some e) (hx:a.ev (ofL bs) = .ptr o j f:=by rfl) (ho:h[o]? = some (.row z (l.map enc)):=by rfl) (hv:ldO (enc e) f sz ag = some v:=by dsimp):Opr P (dm:Bool) (.load sz ag a) bs h v h :=
  d3t hx ho hl (d0y hv).1 (d0y hv).2
theorem lgS {s:Nat} {t:Str} {b v:Bool} {x:AX} (hn:a0l P dm n (ofL ((d,gs v b (.int .i64 t.length)) :: bs)) h K) (ht:ofL bs s = .bool v:=by rfl) (hx:v = b → x.ev (ofL bs) = .str t:=by intro hv; (try simp only [a2p hv]); rfl):a0l P dm (.q ⟨some d,some (s,b),.lenS x⟩ n) (ofL bs) h K:=s_g _ ht (fun hv => ⟨rfl,.of (by simp only [aqP,hx hv]) trivial,by simp only [aqV,hx hv]⟩) hn
theorem oLo {x:AX} {o lo m z:Nat} {l:List AV} (hx:x.ev (ofL bs) = .own o lo m:=by rfl) (ho:h[o]? = some (.row z l):=by rfl):e6x P dm (.len x) bs h (.int .i64 m) h (m ≤ maxLen):=d8d hx ho
theorem oAp [HE α enc] {A B:List α} {sz bytes j n m:Nat} {s x:AX} {l0 l1:List AV} {ks0 ks1 k0 k1:List Nat} (hg:(A ++ B).length ≤ 2 ^ 30) (cons:Bool) (hdd:dm.d = true:=by rfl) (hd:b9r h sz (s.ev (ofL bs)) = some (l0,n,ks0):=by rfl) (hs:b6e cons h sz (x.ev (ofL bs)) = some (l1,m,ks1):=by rfl) (hf:cons = false → ∀ a ∈ l1,R.flat a = true:=by first | exact fun h => Bool.noConfusion h | exact fun _ => flm (fun _ => rfl) _ | exact fun _ => flo (fun _ => rfl) _ _ | exact fun _ => flw (fun _ => rfl) _ _ _) (hf2:∀ z l',x.ev (ofL bs) = .lst z l' → ∀ a ∈ l1,R.flat a = true:=by first | exact (fun _ _ h => (d2t (show AV.own _ _ _ = AV.lst _ _ from h)).elim) | exact fun _ _ _ => flm (fun _ => rfl) _ | exact fun _ _ _ => flw (fun _ => rfl) _ _ _) (hnd:(ks0 ++ ks1).Nodup:=by decide) (hL:l0 ++ l1 = (A ++ B).map enc:=by first | exact d2u _ _ _ (by rfl) | exact apl _ _ | rfl | (simp [tk,tko]; done) | (simp; omega) | (rw [tk]; simp; done) | (rw [List.nil_append,tk]; simp; done) | fail) (hn:n + m = (A ++ B).length:=by first | (simp; done) | (simp; omega) | fail) (hk0:B1 ks0 = some k0:=by dsimp) (hk1:B1 ks1 = some k1:=by dsimp) (hh2:B1 (catB (.row sz ((A ++ B).map enc)) (klB (klB h k0) k1)) = some h2:=by dsimp only [B1,catB,klB,seB]) (hj:B1 (lnO h) = some j:=by dsimp):Opr P dm (.append sz bytes s x) bs h (.own j 0 (A ++ B).length) h2:=by
  cases hk0; cases hk1; cases hh2; cases hj
  rw [c4c,← b7w,← b7w,← d0e,← c9i]
  exact b1r hdd cons hd hs hf hf2 hnd hL hn hg rfl rfl
theorem oAw [HE α enc] {A B:List α} {sz bytes j n m:Nat} {s x:AX} {l0 l1:List AV} {ks0 ks1 k0 k1:List Nat} (hg:(A ++ B).length ≤ 2 ^ 30) (hd:b9r h sz (s.ev (ofL bs)) = some (l0,n,ks0):=by rfl) (hs:b6e false h sz (x.ev (ofL bs)) = some (l1,m,ks1):=by rfl) (hL:l0 ++ l1 = (A ++ B).map enc:=by first | exact d2u _ _ _ (by rfl) | exact apl _ _ | rfl | (simp [tk,tko]; done) | (simp; omega) | (rw [tk]; simp; done) | (rw [List.nil_append,tk]; simp; done) | fail) (hn:n + m = (A ++ B).length:=by first | (simp; done) | (simp; omega) | fail) (hk0:B1 ks0 = some k0:=by dsimp) (hk1:B1 ks1 = some k1:=by dsimp) (hh2:B1 (catB (.row sz ((A ++ B).map enc)) (klB (klB h k0) k1)) = some h2:=by dsimp only [B1,catB,klB,seB]) (hj:B1 (lnO h) = some j:=by dsimp):Opr P (false:Bool) (.append sz bytes s x) bs h (.own j 0 (A ++ B).length) h2:=by
  cases hk0; cases hk1; cases hh2; cases hj
  rw [c4c,← b7w,← b7w,← d0e,← c9i]
  exact a6f hd hs hL hn hg rfl rfl
@[simp] def flB (bs:List (Nat × AV)):List AV → List (Nat × Nat × AX) → List AV
  | cs,[] => cs
  | cs,(i,_,x) :: r => flB bs (ptB cs i (evB bs x).cells) r
theorem e7j (bs:List (Nat × AV)):∀ (ps:List (Nat × Nat × AX)) (cs:List AV),c2k cs (AX.ev (ofL bs)) ps = flB bs cs ps
  | [],cs => rfl
  | (i,k,x) :: r,cs => by simp only [c2k,flB,e7j bs r,b6y,e1g]
theorem oBd {z:List AV} {ps:List (Nat × Nat × AX)} {w:AV} (hn:a0l P dm n (ofL ((d,w) :: bs)) h K) (hp:aqQ dm.m (.build z ps) (AX.ev (ofL bs)) h:=by exact rpA) (hv:B1 (AV.agg (flB bs z ps)) = some w:=by dsimp [AV.cells]):a0l P dm (.q ⟨some d,none,.build z ps⟩ n) (ofL bs) h K:=by
  cases hv
  exact s_q _ rfl hp (congrArg AV.agg (e7j bs ps z)) hn
theorem f8u {o:Option Nat} {s:Nat} {b e:Bool} (he:e = true) (hn:a0l P dm (.l ⟨o,some (s,b),op⟩ re n other) (ofL ((s,.bool true) :: bs)) h K) (ht:ofL bs s = .bool e:=by rfl):a0l P dm (.l ⟨o,some (s,b),op⟩ re n other) (ofL bs) h K:=b9z ht he hn
theorem f8v {o:Option Nat} {s:Nat} {b e:Bool} (he:¬ e = true) (hn:a0l P dm (.l ⟨o,some (s,b),op⟩ re n other) (ofL ((s,.bool false) :: bs)) h K) (ht:ofL bs s = .bool e:=by rfl):a0l P dm (.l ⟨o,some (s,b),op⟩ re n other) (ofL bs) h K:=b9z ht (bf he) hn
theorem kGl {o:Option Nat} {g:Nat × Bool} {t:Nat → AV} (hn:a0l P dm (.l ⟨o,some g,op⟩ re n other) t h K):a0l P dm (.l ⟨o,some g,op⟩ re n other) t h K:=hn
theorem oSr {a x:AX} {o j f z sz:Nat} {v v0:AV} {e':α} {ks:List Nat} (ha:B1 (evB bs a) = some (.ptr o j f):=by dsimp) (ho:h[o]? = some (.row z (l.map enc)):=by rfl) (hl:l[j]? = some e:=by assumption) (hx:B1 (evB bs x) = some v:=by dsimp) (hab:a1y dm.d h v = some (v0,ks):=by rfl) (hk:o ∉ ks:=by decide) (hnd:dm.d = true → ks.Nodup:=by intro _; decide) (hp:a9h (enc e) f sz v0:=by first | exact ⟨rfl,rfl,rfl⟩ | exact ⟨rfl,nle⟩) (hy:Le (a4f (enc e) f v0) (enc e'):=by exact leA) (hh:B1 (seB (klB h ks) o (.row z ((l.set j e').map enc))) = some h2:=by dsimp only [klB,seB,B1]):Opr P dm (.store sz a x) bs h .skip h2:=by
  cases hh; cases hx
  have ha:evB bs a = .ptr o j f:=Option.some.inj ha
  rw [← d1a,← b7w]
  exact e1d ((b6y bs a).symm.trans ha) ho hl (b6y bs x).symm hab rfl hk hnd hp hy rfl
theorem oSg {a x:AX} {o f z sz:Nat} {v v0:AV} {e':α} {ks:List Nat} {g:Int} (hg:0 ≤ g ∧ g < (l.length:Int)) (ha:B1 (evB bs a) = some (.ptr o (0 + g.toNat) f):=by dsimp) (ho:h[o]? = some (.row z (l.map enc)):=by rfl) (hx:B1 (evB bs x) = some v:=by dsimp) (hab:a1y dm.d h v = some (v0,ks):=by rfl) (hk:o ∉ ks:=by decide) (hnd:dm.d = true → ks.Nodup:=by intro _; decide) (hp:∀ e,a9h (enc e) f sz v0:=by intro e; first | exact ⟨rfl,rfl,rfl⟩ | exact ⟨rfl,nle⟩) (hy:∀ e,Le (a4f (enc e) f v0) (enc e'):=by intro e; exact leA) (hh:B1 (seB (klB h ks) o (.row z ((l.set (0 + g.toNat) e').map enc))) = some h2:=by dsimp only [klB,seB,B1]):Opr P dm (.store sz a x) bs h .skip h2:=by
  have hl:0 + g.toNat < l.length:=by omega
  exact oSr (e:=l[0 + g.toNat]) ha ho (List.getElem?_eq_getElem hl) hx hab hk hnd (hp _) (hy _) hh
theorem mxE {mx:Bool} {x y:AX} {a b:Int} {k k':IntKind} {v:AV} (hn:a0l P dm n (ofL ((d,v) :: bs)) h K) (hx:x.ev (ofL bs) = .int k a:=by rfl) (hy:y.ev (ofL bs) = .int k' b:=by rfl) (hv:B1 (AV.int k (bif mx then (if b > a then b else a) else (if b < a then b else a))) = some v:=by dsimp) (hk:k' = k:=by rfl):a0l P dm (.q ⟨some d,none,.mnmx mx x y⟩ n) (ofL bs) h K:=by
  cases hv; subst hk
  refine s_q _ rfl (.of (by simp only [aqP,hx,hy]) trivial) ?_ hn
  simp only [aqV,hx,hy]
  cases mx <;> rfl
@[simp] def memN:List Nat → Nat → Bool
  | [],_ => false
  | k :: l,n => bif k == n then true else memN l n
@[simp] def keyB:List (Nat × AV) → List Nat → List Nat
  | [],a => a
  | (k,_) :: r,a => keyB r (bif memN a k then a else k :: a)
theorem e3e {α β:Type} {p:α × β → Prop} (h:∀ a b,p (a,b)):∀ v,p v:=fun v => h v.1 v.2
theorem oQv (hv:qv h bs op = some v:=by dsimp):Opr P dm op bs h v h:=fun k hk => d8i hv hk
theorem obE {α β:Type} {G:Prop} {x:Option α} {f:α → Option β} {r:β} (h:x.bind f = some r) (k:∀ v,x = some v → f v = some r → G):G:=by obtain ⟨v,e,g⟩:=ob h; exact k v e g
theorem ogE {p:Prop} {_:Decidable p} {α:Type} {G:Prop} {x:Option α} {r:α} (h:(if p then x else none) = some r) (k:p → x = some r → G):G:=k (og h).1 (og h).2
theorem oiE {p:Prop} {_:Decidable p} {α:Type} {G:Prop} {x y:Option α} {r:α} (h:(if p then x else y) = some r) (k1:p → x = some r → G) (k2:¬ p → y = some r → G):G:=by rcases oi h with ⟨a,b⟩ | ⟨a,b⟩; exact k1 a b; exact k2 a b
section
variable {α β γ δ ε ζ η ρ:Type} {P:Program} {dm:Md} {n0:Nat} {t:Nat → AV} {h:List l7} {Q:AQ} {a b:a0m} {id:Nat} {ks:List Nat}
theorem gwC {V:α → VS} (hn:awp P dm n0 a t h (b3v (awp P dm n0 ((cZ ks V).f b)) Q)):awp P dm n0 a t h (b3v (awp P dm n0 ((cZ ks V).f b)) Q):=hn
theorem gwF {V:α → VS} (hn:awp P dm n0 a t h (b3v (awp P dm n0 ((fZ ks V).f b)) Q)):awp P dm n0 a t h (b3v (awp P dm n0 ((fZ ks V).f b)) Q):=hn
theorem f8x {V:α → VS} (hn:awp P dm n0 a t h (a2s id (b3v (awp P dm n0 ((cZ ks V).f b)) Q))):awp P dm n0 a t h (a2s id (b3v (awp P dm n0 ((cZ ks V).f b)) Q)):=hn
theorem f8y {V:α → VS} (hn:awp P dm n0 a t h (a2s id (b3v (awp P dm n0 ((fZ ks V).f b)) Q))):awp P dm n0 a t h (a2s id (b3v (awp P dm n0 ((fZ ks V).f b)) Q)):=hn
theorem f8z {V:Nat → VS} (hn:awp P dm n0 ((zN0 ks V).f b) t h Q):awp P dm n0 ((zN0 ks V).f b) t h Q:=hn
theorem f9a {V:Nat → α → VS} (hn:awp P dm n0 ((zN1 ks V).f b) t h Q):awp P dm n0 ((zN1 ks V).f b) t h Q:=hn
theorem f9b {V:Nat → α × β → VS} (hn:awp P dm n0 ((zN2 ks V).f b) t h Q):awp P dm n0 ((zN2 ks V).f b) t h Q:=hn
theorem f9c {V:Nat → α × β × γ → VS} (hn:awp P dm n0 ((zN3 ks V).f b) t h Q):awp P dm n0 ((zN3 ks V).f b) t h Q:=hn
theorem f9d {V:Nat → α × β × γ × δ → VS} (hn:awp P dm n0 ((zN4 ks V).f b) t h Q):awp P dm n0 ((zN4 ks V).f b) t h Q:=hn
theorem f9e {V:Nat → α × β × γ × δ × ε × ζ × η → VS} (hn:awp P dm n0 ((zN7 ks V).f b) t h Q):awp P dm n0 ((zN7 ks V).f b) t h Q:=hn
theorem f9f {V:Nat → VS} (hn:awp P dm n0 ((zI0 ks V).f b) t h Q):awp P dm n0 ((zI0 ks V).f b) t h Q:=hn
theorem f9g {V:Nat → α → VS} (hn:awp P dm n0 ((zI1 ks V).f b) t h Q):awp P dm n0 ((zI1 ks V).f b) t h Q:=hn
theorem f9h {V:Nat → α × β → VS} (hn:awp P dm n0 ((zI2 ks V).f b) t h Q):awp P dm n0 ((zI2 ks V).f b) t h Q:=hn
theorem f9i {V:Nat → α × β × γ → VS} (hn:awp P dm n0 ((zI3 ks V).f b) t h Q):awp P dm n0 ((zI3 ks V).f b) t h Q:=hn
theorem f9j {V:Nat → α × β × γ × δ → VS} (hn:awp P dm n0 ((zI4 ks V).f b) t h Q):awp P dm n0 ((zI4 ks V).f b) t h Q:=hn
theorem f9k {V:Nat → α × β × γ × δ × ε × ζ × η → VS} (hn:awp P dm n0 ((zI7 ks V).f b) t h Q):awp P dm n0 ((zI7 ks V).f b) t h Q:=hn
theorem f3x {V:Nat → α → VS} (hn:awp P dm n0 ((e3d ks V).f b) t h Q):awp P dm n0 ((e3d ks V).f b) t h Q:=hn
theorem f6d {V:Nat → VS} (hn:awp P dm n0 ((f0t ks V).f b) t h Q):awp P dm n0 ((f0t ks V).f b) t h Q:=hn
theorem f6e {V:Nat → VS} (hn:awp P dm n0 ((f0u ks V).f b) t h Q):awp P dm n0 ((f0u ks V).f b) t h Q:=hn
theorem f9l {V:α → VS} (hn:awp P dm n0 ((zF1 ks V).f b) t h Q):awp P dm n0 ((zF1 ks V).f b) t h Q:=hn
theorem f9m {V:α × β → VS} (hn:awp P dm n0 ((zF2 ks V).f b) t h Q):awp P dm n0 ((zF2 ks V).f b) t h Q:=hn
theorem f9n {V:α × β × γ → VS} (hn:awp P dm n0 ((zF3 ks V).f b) t h Q):awp P dm n0 ((zF3 ks V).f b) t h Q:=hn
theorem f9o {V:α × β × γ × δ × ε → VS} (hn:awp P dm n0 ((zF5 ks V).f b) t h Q):awp P dm n0 ((zF5 ks V).f b) t h Q:=hn
theorem f9p {V:α × β × γ × δ × ε × ζ → VS} (hn:awp P dm n0 ((zF6 ks V).f b) t h Q):awp P dm n0 ((zF6 ks V).f b) t h Q:=hn
end
theorem wCi {a:a0m} {V:α → VS} {ks ks':List Nat} {L0:List (Nat × AV)} (hn:awp P dm n0 a (ofL L0) h Q) (hk:B1 (keyB bs []) = some ks':=by dsimp) (hL:kpB bs ks' = L0:=by dsimp) (hc:a3e dm.m n0 (ofL bs) h (L0,h):=by first | exact ckz true | exact ckz false | fail):awp P dm n0 ((cZ ks V).f a) (ofL bs) h Q:=⟨(L0,h),hc,hn⟩
theorem wFi {a:a0m} {V:α → VS} {ks ks':List Nat} {L0:List (Nat × AV)} (hn:awp P dm n0 a (ofL L0) h Q) (hk:B1 (keyB bs []) = some ks':=by dsimp) (hL:kpB bs ks' = L0:=by dsimp) (hc:a3e dm.m n0 (ofL bs) h (L0,h):=by first | exact ckz true | exact ckz false | fail):awp P dm n0 ((fZ ks V).f a) (ofL bs) h Q:=⟨(L0,h),hc,hn⟩
theorem gwI {a:a0m} {V:α → VS} {ks:List Nat} {t:Nat → AV} (hn:awp P dm n0 ((cZ ks V).f a) t h Q):awp P dm n0 ((cZ ks V).f a) t h Q:=hn
theorem gwJ {a:a0m} {V:α → VS} {ks:List Nat} {t:Nat → AV} (hn:awp P dm n0 ((fZ ks V).f a) t h Q):awp P dm n0 ((fZ ks V).f a) t h Q:=hn
theorem f9q:a0l P dm .non (ofL bs) h K:=trivial
theorem f2m {f:Nat} {args:List AX} {t:Nat → AV} (hn:a0l P dm (.q ⟨some d,none,.call f args⟩ n) t h K):a0l P dm (.q ⟨some d,none,.call f args⟩ n) t h K:=hn
theorem f9r {z:Nat} {x i:AX} {t:Nat → AV} (hn:a0l P dm (.q ⟨some d,none,.iaddr z x i⟩ n) t h K):a0l P dm (.q ⟨some d,none,.iaddr z x i⟩ n) t h K:=hn
theorem f9s {x:AX} {t:Nat → AV} (hn:a0l P dm (.q ⟨some d,none,.len x⟩ n) t h K):a0l P dm (.q ⟨some d,none,.len x⟩ n) t h K:=hn
theorem f9t {sz:Nat} {a x:AX} {t:Nat → AV} (hn:a0l P dm (.q ⟨none,none,.store sz a x⟩ n) t h K):a0l P dm (.q ⟨none,none,.store sz a x⟩ n) t h K:=hn
theorem kGd {o:Option Nat} {g:Nat × Bool} {t:Nat → AV} (hn:a0l P dm (.q ⟨o,some g,op⟩ n) t h K):a0l P dm (.q ⟨o,some g,op⟩ n) t h K:=hn
theorem kLl {o:a2z} {t:Nat → AV} (hn:a0l P dm (.l o re n other) t h K):a0l P dm (.l o re n other) t h K:=hn
end
set_option maxRecDepth 10000
theorem Z {p:Prop} (h:p:=by
  repeat' first
    | ((with_reducible refine isT ?_); first
        | with_reducible refine a8y ?_
        | with_reducible exact f9q
        | ((with_reducible refine kGd ?_); first
          | (refine oiE hf (fun c hf => ?_) (fun c hf => ?_) <;> first | refine slq c ?_ | refine sfq c ?_)
          | refine s_on rfl ?_
          | refine go 1 ?_
          | refine lgE ?_
          | refine lgS ?_
          | refine sgE ?_
          | refine ggE ?_
          | refine pgE ?_)
        | ((with_reducible refine kGl ?_); first
          | (refine oiE hf (fun c hf => ?_) (fun c hf => ?_) <;> first | refine f8u c ?_ | refine f8v c ?_)
          | refine d0s rfl ?_
          | refine c3y rfl rfl trivial ?_
          | refine e2x rfl trivial ?_)
        | ((with_reducible refine f2m ?_); refine obE hf fun x ex hf => ?_; first
          | refine q1 (oCl (Wk.out ex)) ?_
          | refine q1 (oCl (Wk.out ex) (d8g rfl (d8g (f3k kf.hc) rfl))) ?_
          | refine q1 (e4s (Wh.out ex)) ?_
          | (have hcc:=hcc; refine q1 (oCc (Wf.out ex)) ?_)
          | refine q1 (oCf (Wf.out ex)) ?_
          | refine q1 (oCc (Wf.out ex)) ?_
          | refine q1 (oCw (Ww.out ex)) ?_)
        | ((with_reducible refine f2m ?_); first
          | refine q1 (oCl (Wk.out ex)) ?_
          | refine q1 (e4s (Wh.out ex)) ?_
          | (have hcc:=hcc; refine q1 (oCc (Wf.out ex)) ?_)
          | refine q1 (oCf (Wf.out ex)) ?_
          | refine q1 (oCw (Ww.out ex)) ?_)
        | ((with_reducible refine f9r ?_); first
          | refine ia hx ?_
          | (refine obE hf fun x ex hf => ?_; first | refine ix ex ?_ | refine q1 (oIx ex) ?_)
          | refine q1 (oIn hlt) ?_
          | refine q1 (oIx (by assumption)) ?_
          | refine iaA ?_
          | refine ixA ?_
          | refine q1 (oIo (by assumption)) ?_
          | (refine ogE hf fun hg hf => ?_; first | refine q1 (oIo hg) ?_ | refine q1 (oIn hg) ?_ | fail))
        | ((with_reducible refine f9s ?_); first
          | refine ln fun hl => ?_
          | refine c2p oLo fun hl => ?_)
        | ((with_reducible refine f9t ?_); first
          | refine q0 oSb ?_
          | refine q0 oSr ?_
          | (refine obE hf fun x ex hf => ?_; refine q0 (oSr (hl:=ex)) ?_)
          | (refine ogE hf fun hg hf => ?_; refine q0 (oSg hg) ?_))
        | ((with_reducible refine kLl ?_); first
          | ((try have ey:=ex); refine obE hf fun x ex hf => ?_; first
            | refine l1 (oCl (Wk.out ex)) ?_ ?_
            | refine l1 (e4s (Wh.out ex)) ?_ ?_
            | refine l1 (f0v (Wh.out ex)) ?_ ?_
            | (have hcc:=hcc; refine l1 (oCc (Wf.out ex)) ?_ ?_)
            | refine l1 (oCf (Wf.out ex)) ?_ ?_
            | refine l1 (oCc (Wf.out ex)) ?_ ?_
            | refine l1 (oCw (Ww.out ex)) ?_ ?_)
          | (first
            | refine l1 (oCl (Wk.out ex)) ?_ ?_
            | refine l1 (e4s (Wh.out ex)) ?_ ?_
            | refine l1 (f0v (Wh.out ex)) ?_ ?_
            | (have hcc:=hcc; refine l1 (oCc (Wf.out ex)) ?_ ?_)
            | refine l1 (oCf (Wf.out ex)) ?_ ?_
            | refine l1 (oCc (Wf.out ex)) ?_ ?_
            | refine l1 (oCw (Ww.out ex)) ?_ ?_)
          | (first
            | refine l1 (oCl (Wk.out ey)) ?_ ?_
            | refine l1 (e4s (Wh.out ey)) ?_ ?_
            | refine l1 (f0v (Wh.out ey)) ?_ ?_
            | (have hcc:=hcc; refine l1 (oCc (Wf.out ey)) ?_ ?_)
            | refine l1 (oCf (Wf.out ey)) ?_ ?_
            | refine l1 (oCc (Wf.out ey)) ?_ ?_
            | refine l1 (oCw (Ww.out ey)) ?_ ?_)
          | (refine obE hf fun x ey hf => ?_; refine obE hf fun x ex hf => ?_; first
            | refine l1 (oCl (Wk.out ex)) ?_ ?_
            | refine l1 (e4s (Wh.out ex)) ?_ ?_
            | refine l1 (f0v (Wh.out ex)) ?_ ?_
            | (have hcc:=hcc; refine l1 (oCc (Wf.out ex)) ?_ ?_)
            | refine l1 (oCf (Wf.out ex)) ?_ ?_
            | refine l1 (oCc (Wf.out ex)) ?_ ?_
            | refine l1 (oCw (Ww.out ex)) ?_ ?_)
          | refine l1 (oBg (og hf).1) ?_ ?_
          | refine l1 oBs ?_ ?_
          | (refine ogE hf fun hg hf => ?_; first | refine l1 (oAp hg true) ?_ ?_ | refine l1 (oAp hg false) ?_ ?_ | refine l1 (oAw hg) ?_ ?_ | fail)
          | refine l1 oBx ?_ ?_
          | refine l1 oQv ?_ ?_
          | refine l0 oSb ?_ ?_
          | refine l0 oSr ?_ ?_
          | (refine obE hf fun x ex hf => ?_; refine l0 (oSr (hl:=ex)) ?_ ?_)
          | (refine ogE hf fun hg hf => ?_; refine l0 (oSg hg) ?_ ?_))
        | refine go 5 ?_
        | refine go 2 ?_
        | refine go 1 ?_
        | refine q1 oBx ?_
        | refine q1 (oBg (og hf).1) ?_
        | refine q1 oBs ?_
        | refine oBd ?_
        | (refine ogE hf fun hg hf => ?_; first | refine q1 (oAp hg true) ?_ | refine q1 (oAp hg false) ?_ | refine q1 (oAw hg) ?_ | fail)
        | refine pkE ?_
        | refine mxE ?_
        | (refine ogE hf fun hg hf => ?_; first | refine q1 (d3u rfl rfl hg.1 hg.2) ?_ | refine q1 (e2z rfl rfl hg.1 hg.2) ?_ | refine q1 (d0v rfl rfl rfl hg.1 hg.2) ?_ | fail)
        | refine q1 (d3u rfl rfl (by assumption) (by assumption)) ?_
        | (have hg:=hg; first | refine q1 (d3u rfl rfl hg.1 hg.2) ?_ | refine q1 (e2z rfl rfl hg.1 hg.2) ?_ | refine q1 (d0v rfl rfl rfl hg.1 hg.2) ?_ | fail)
        | (have hg:=hg; refine q1 (oIo hg) ?_)
        | (refine obE hf fun x ex hf => ?_; first | refine q1 (oCv kf.ok kf.hc (kf.hp _ _ ex)) ?_ | refine q1 (oCv kf.ok kf.hc (kf.hp _ _ _ ex)) ?_)
        | refine lnS fun hl => ?_
        | refine nkE ?_
        | refine rmE ?_
        | refine quE ?_
        | refine shE ?_
        | refine q1 (oLr (by assumption)) ?_
        | refine q1 (oLr (f5u (by assumption))) ?_
        | refine a4k (d5o rfl rfl hx) ?_
        | (refine obE hf fun x ex hf => ?_; refine a4k (e1c rfl rfl (d2s ex) (d5m ex)) ?_)
        | (refine obE hf fun x ex hf => ?_; refine q1 (oLr ex) ?_)
        | refine eqE ?_
        | (refine ogE hf fun hg hf => ?_))
    | ((with_reducible refine isA ?_); first
        | ((with_reducible refine gwC ?_); refine wCz hf (fun v hf => ?_) ?_; rotate_left; (repeat refine e3e fun a => ?_); intro v hf; (try dsimp only); rotate_right; (try dsimp only))
        | ((with_reducible refine gwF ?_); refine wFz hf (fun p hf hr => ?_) ?_; rotate_left; (repeat refine e3e fun a => ?_); intro v hf; (try dsimp only); rotate_right; (try dsimp only))
        | ((with_reducible refine f8z ?_); refine f8a hf (fun i v hq hle hf => ?_) (fun i v hq x hlt hx hf => ?_) <;> (try dsimp only))
        | ((with_reducible refine f9a ?_); refine f8b hf (fun i v hq hle hf => ?_) (fun i v hq x hlt hx hf => ?_) <;> (try dsimp only))
        | ((with_reducible refine f9b ?_); refine f8c hf (fun i v hq hle hf => ?_) (fun i v hq x hlt hx hf => ?_) <;> (try dsimp only))
        | ((with_reducible refine f9c ?_); refine f8d hf (fun i v hq hle hf => ?_) (fun i v hq x hlt hx hf => ?_) <;> (try dsimp only))
        | ((with_reducible refine f9d ?_); refine f8e hf (fun i v hq hle hf => ?_) (fun i v hq x hlt hx hf => ?_) <;> (try dsimp only))
        | ((with_reducible refine f9e ?_); refine f8f hf (fun i v hq hle hf => ?_) (fun i v hq x hlt hx hf => ?_) <;> (try dsimp only))
        | ((with_reducible refine f9f ?_); refine f8g hf (fun i v hq hle hf => ?_) (fun i v hq x hlt hx hf => ?_) <;> (try dsimp only))
        | ((with_reducible refine f9g ?_); refine f8h hf (fun i v hq hle hf => ?_) (fun i v hq x hlt hx hf => ?_) <;> (try dsimp only))
        | ((with_reducible refine f9h ?_); refine f8i hf (fun i v hq hle hf => ?_) (fun i v hq x hlt hx hf => ?_) <;> (try dsimp only))
        | ((with_reducible refine f9i ?_); refine f8j hf (fun i v hq hle hf => ?_) (fun i v hq x hlt hx hf => ?_) <;> (try dsimp only))
        | ((with_reducible refine f9j ?_); refine f8k hf (fun i v hq hle hf => ?_) (fun i v hq x hlt hx hf => ?_) <;> (try dsimp only))
        | ((with_reducible refine f9k ?_); refine f8l hf (fun i v hq hle hf => ?_) (fun i v hq x hlt hx hf => ?_) <;> (try dsimp only))
        | ((with_reducible refine f3x ?_); refine f3u hf (fun i v hq hle hf => ?_) (fun i v hq x hlt hx hf => ?_) <;> (try dsimp only))
        | ((with_reducible refine f6d ?_); refine f6a hf (fun i v hq hle hf => ?_) (fun i v hq x hlt hx hf => ?_) <;> (try dsimp only))
        | ((with_reducible refine f6e ?_); refine f6b hf (fun i v hq hle hf => ?_) (fun i v hq x hlt hx hf => ?_) <;> (try dsimp only))
        | ((with_reducible refine f9l ?_); refine f8m hf (fun k v hq hf => ?_) <;> (try dsimp only))
        | ((with_reducible refine f9m ?_); refine f8n hf (fun k v hq hf => ?_) <;> (try dsimp only))
        | ((with_reducible refine f9n ?_); refine f8p hf (fun k v hq hf => ?_) <;> (try dsimp only))
        | ((with_reducible refine f9o ?_); refine f8q hf (fun k v hq hf => ?_) <;> (try dsimp only))
        | ((with_reducible refine f9p ?_); refine f8r hf (fun k v hq hf => ?_) <;> (try dsimp only))
        | ((with_reducible refine f8x ?_); refine f7y hf (fun v hf => ?_) ?_; rotate_left; (repeat refine e3e fun a => ?_); intro v hf; (try dsimp only); rotate_right; (try dsimp only))
        | ((with_reducible refine f8y ?_); refine f7z hf (fun p hf hr => ?_) ?_; rotate_left; (repeat refine e3e fun a => ?_); intro v hf; (try dsimp only); rotate_right; (try dsimp only))
        | ((with_reducible refine gwI ?_); refine wCi ?_)
        | ((with_reducible refine gwJ ?_); refine wFi ?_)
        | with_reducible refine a9i ?_
        | with_reducible refine a0q ?_
        | with_reducible refine a5n ?_
        | with_reducible refine b7k ?_
        | with_reducible refine c4b ?_
        | refine wt (dlt hlt) ?_
        | refine wg (dlf hle) ?_
        | refine wt rfl ?_
        | refine wg rfl ?_
        | (refine oiE hf (fun c hf => ?_) (fun c hf => ?_) <;> first | refine wt c ?_ | refine wf c ?_)
        | (refine b3g ?_; cases hf; (repeat cases hr); first | exact rHz true | exact rHz false | exact rLz | exact rFz | exact rWz)
        | (refine ogE hf fun hg hf => ?_))
    | with_reducible refine a5s ?_
    | with_reducible refine c4a ?_
    | with_reducible refine c3z ?_
    | with_reducible refine b6g ?_
    | with_reducible refine c1u ?_
    | ((with_reducible refine gNm ?_); cases hf; (repeat cases hr); first | exact rHn true | exact rHn false | fail)
    | (refine f2g ?_; cases hf; first | exact ckz true | exact ckz false | fail)
    | (cases hf; first | exact ⟨⟨_,rfl⟩,ckz true⟩ | exact ⟨⟨_,rfl⟩,ckz false⟩ | fail)
    | (refine klz (w:=()) ?_ rfl hlt ?_; (any_goals ((try dsimp only); exact hf)); first | exact ckz true | exact ckz false | fail)
    | (refine klz (w:=?_) ?_ rfl hlt ?_; (any_goals ((try dsimp only); exact hf)); first | exact ckz true | exact ckz false | fail)
    | (refine klz (w:=(?_,?_)) ?_ rfl hlt ?_; (any_goals ((try dsimp only); exact hf)); first | exact ckz true | exact ckz false | fail)
    | (refine klz (w:=(?_,?_,?_)) ?_ rfl hlt ?_; (any_goals ((try dsimp only); exact hf)); first | exact ckz true | exact ckz false | fail)
    | (refine klz (w:=(?_,?_,?_,?_)) ?_ rfl hlt ?_; (any_goals ((try dsimp only); exact hf)); first | exact ckz true | exact ckz false | fail)
    | (refine klz (w:=(?_,?_,?_,?_,?_,?_,?_)) ?_ rfl hlt ?_; (any_goals ((try dsimp only); exact hf)); first | exact ckz true | exact ckz false | fail)
    | (refine kyz (w:=?_) ?_ ?_; (any_goals ((try dsimp only); exact hf)); first | exact ckz true | exact ckz false | fail)
    | (refine kyz (w:=(?_,?_)) ?_ ?_; (any_goals ((try dsimp only); exact hf)); first | exact ckz true | exact ckz false | fail)
    | (refine kyz (w:=(?_,?_,?_)) ?_ ?_; (any_goals ((try dsimp only); exact hf)); first | exact ckz true | exact ckz false | fail)
    | (refine kyz (w:=(?_,?_,?_,?_,?_)) ?_ ?_; (any_goals ((try dsimp only); exact hf)); first | exact ckz true | exact ckz false | fail)
    | (refine kyz (w:=(?_,?_,?_,?_,?_,?_)) ?_ ?_; (any_goals ((try dsimp only); exact hf)); first | exact ckz true | exact ckz false | fail)
    | (refine ogE hf fun hg hf => ?_)
    | fail
 ):p:=h
end Go.R
end
section
set_option linter.all false
namespace Go.R
open Go Go.RowKit
theorem take_add {α:Type} {A B:List α} {a b:Nat} (h:A.length = a):(A ++ B).take (a + b) = A ++ B.take b:=by
 subst h
 rw [List.take_append,List.take_of_length_le (by omega),Nat.add_sub_cancel_left]
section
variable {P:Program} {C:Ctx} {σ:Sg} {φ:Nat → List Nat} {h:List l7} {w w':World}
end
section
variable {P:Program}
end
end Go.R
end
section
set_option linter.all false
namespace Go.R
open Go Go.RowKit
def f7m (h:List l7):AV → Option (AV × List Nat)
 | .own o 0 n => match h[o]? with
  | some (.row z l) => some (.lst z (l.take n),[o])
  | _ => none
 | a => if R.rflat a = true then some (a,[]) else none
def f2i (h:List l7):List AV → Option (List AV × List Nat)
 | [] => some ([],[])
 | a :: as => match f7m h a,f2i h as with
  | some (b,k),some (bs,ks) => some (b :: bs,k ++ ks)
  | _,_ => none
def e6z (h:List l7):List Nat → Prop
 | [] => True
 | o :: os => (∃ z l,h[o]? = some (.row z l) ∧ ∀ a ∈ l,R.flat a = true) ∧ e6z h os
section
variable {P:Program} {C:Ctx} {σ:Sg} {φ:Nat → List Nat} {h:List l7} {w w':World}
end
def f2j (os:List AOp) (t:Nat → AV) (h:List l7) (r:AV):Prop:=b6f false t h os ∧ ∃ bs ks,f2i h (b4h t h os) = some (bs,ks) ∧ ks.Nodup ∧ e6z h ks ∧ Le (R.pack bs) r
def retQF (os:List AOp) (r:AV):c5a → (Nat → AV) → List l7 → Prop
 | .exit _,_,_ => False
 | .norm,t,h => f2j os t h r
 | .ret,t,h => f2j os t h r
end Go.R
end
