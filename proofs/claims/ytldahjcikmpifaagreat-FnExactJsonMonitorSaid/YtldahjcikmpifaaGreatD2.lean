import Derived.Test.YtldahjcikmpifaaGreatD1
set_option linter.all false
namespace Go.R
open Go Go.RowKit
def Opr (P:Program) (dm:Md) (op:AOp) (bs:List (Nat × AV)) (h:List y9) (v:AV) (h':List y9):Prop:=∀ k:AV → List y9 → Prop,k v h' → a4s P dm op (AX.ev (ofL bs)) h k
def e0m (P:Program) (dm:Md) (op:AOp) (bs:List (Nat × AV)) (h:List y9) (v:AV) (h':List y9) (F:Prop):Prop:=∀ k:AV → List y9 → Prop,(F → k v h') → a4s P dm op (AX.ev (ofL bs)) h k
section
variable {P:Program} {dm:Md} {bs:List (Nat × AV)} {h h':List y9} {n other:b0f} {re:List a4q} {K:(Nat → AV) → List y9 → Prop} {d:Nat} {op:AOp} {v:AV} {F:Prop}
theorem y7 (hop:Opr P dm op bs h v h') (hn:a5g P dm n (ofL ((d,v) :: bs)) h' K):a5g P dm (.q ⟨some d,none,op⟩ n) (ofL bs) h K:=hop _ hn
theorem a1a (hop:e0m P dm op bs h v h' F) (hn:F → a5g P dm n (ofL ((d,v) :: bs)) h' K):a5g P dm (.q ⟨some d,none,op⟩ n) (ofL bs) h K:=hop _ hn
theorem a1k (hop:Opr P dm op bs h v h') (hn:a5g P dm n (ofL bs) h' K):a5g P dm (.q ⟨none,none,op⟩ n) (ofL bs) h K:=hop _ hn
theorem a2e (hop:Opr P dm op bs h v h') (ha:b9y dm.m re (ofL ((d,v) :: bs)) h h') (ho:a5g P dm other (ofL bs) h K) (hn:a5g P dm n (ofL ((d,v) :: bs)) h' K):a5g P dm (.l ⟨some d,none,op⟩ re n other) (ofL bs) h K:=⟨hop _ ⟨ha,hn⟩,ho⟩
theorem a1j (hop:Opr P dm op bs h v h') (ha:b9y dm.m re (ofL bs) h h') (ho:a5g P dm other (ofL bs) h K) (hn:a5g P dm n (ofL bs) h' K):a5g P dm (.l ⟨none,none,op⟩ re n other) (ofL bs) h K:=⟨hop _ ⟨ha,hn⟩,ho⟩
theorem e5s {ng:Bool} {x:AX} {z:Nat} {l:List AV} {d:Nat} (hx:x.ev (ofL bs) = .lst z l) (hn:∀ b,(b = true → l = []) → a5g P dm n (ofL ((d,.bool (b != ng)) :: bs)) h K):a5g P dm (.q ⟨some d,none,.isnil ng x⟩ n) (ofL bs) h K:=by
 show a4s P dm (.isnil ng x) (AX.ev (ofL bs)) h _
 simp only [a4s,hx]
 exact hn
theorem e4u {α:Type} {enc:α → AV} {l:List α} (h:l.map enc = []):l = []:=by simpa using h
theorem a2j {m:Bool} {re:List a4q} {t:Nat → AV}:b9y m re t h h:=by
 cases re with
 | nil => trivial
 | cons a b => exact .inl rfl
theorem a0x {T:b0f} {s:Nat} {b e:Bool} (ht:ofL bs s = .bool e) (he:e = b) (hn:a5g P dm T (ofL ((s,.bool b) :: bs)) h K):a5g P dm T (ofL bs) h K:=by
 subst he
 have:ofL ((s,.bool e) :: bs) = ofL bs:=b2s ht
 rw [this] at hn
 exact hn
theorem s_on {s:Nat} {b:Bool} {o:Option Nat} (ht:ofL bs s = .bool b) (hn:a5g P dm (.q ⟨o,none,op⟩ n) (ofL bs) h K):a5g P dm (.q ⟨o,some (s,b),op⟩ n) (ofL bs) h K:=by
 show b7h P dm _ _ h _
 unfold b7h
 simp only [ht]
 rw [if_pos trivial,b2s ht]
 exact hn
theorem c6t {s:Nat} {b:Bool} {o:Option Nat} (ht:ofL bs s = .bool b) (hn:a5g P dm (.l ⟨o,none,op⟩ re n other) (ofL bs) h K):a5g P dm (.l ⟨o,some (s,b),op⟩ re n other) (ofL bs) h K:=by
 refine ⟨?_,hn.2⟩
 unfold b7h
 simp only [ht]
 rw [if_pos trivial,b2s ht]
 exact hn.1
theorem y5 {s:Nat} {b b':Bool} (ht:ofL bs s = .bool b') (hb:(b' == b) = false) (hn:a5g P dm n (ofL ((d,.skip) :: bs)) h K):a5g P dm (.q ⟨some d,some (s,b),op⟩ n) (ofL bs) h K:=by
 show b7h P dm _ _ h _
 unfold b7h
 simp only [ht]
 have hne:¬ b' = b:=by simpa using hb
 have hx:(!b) = b':=by cases b <;> cases b' <;> simp_all
 rw [if_neg hne,hx,b2s ht]
 exact hn
theorem c0d {s:Nat} {b b':Bool} (ht:ofL bs s = .bool b') (hb:(b' == b) = false) (ho:a5g P dm other (ofL bs) h K) (hn:a5g P dm n (ofL ((d,.skip) :: bs)) h K):a5g P dm (.l ⟨some d,some (s,b),op⟩ re n other) (ofL bs) h K:=by
 refine ⟨?_,ho⟩
 unfold b7h
 simp only [ht]
 have hne:¬ b' = b:=by simpa using hb
 have hx:(!b) = b':=by cases b <;> cases b' <;> simp_all
 rw [if_neg hne,hx,b2s ht]
 exact ⟨a2j,hn⟩
theorem a1g {s:Nat} {b:Bool} (ht:ofL bs s = .skip) (hn:a5g P dm n (ofL ((d,.skip) :: bs)) h K):a5g P dm (.q ⟨some d,some (s,b),op⟩ n) (ofL bs) h K:=by
 show b7h P dm _ _ h _
 unfold b7h
 simp only [ht]
 exact hn
theorem c5n {s:Nat} {b:Bool} (ht:ofL bs s = .skip) (ho:a5g P dm other (ofL bs) h K) (hn:a5g P dm n (ofL ((d,.skip) :: bs)) h K):a5g P dm (.l ⟨some d,some (s,b),op⟩ re n other) (ofL bs) h K:=by
 refine ⟨?_,ho⟩
 unfold b7h
 simp only [ht]
 exact ⟨a2j,hn⟩
variable {m:Bool} {n0:Nat} {a b:a0q} {Q:AQ} {t:Nat → AV}
theorem a0t {T:b0f} (hn:a5g P dm T t h (kN Q)):awp P dm n0 (.reg T) t h Q:=hn
theorem a0e (hn:Q .norm t h):a5g P dm .done t h (kN Q):=hn
theorem a0h (hn:Q .norm t h):awp P dm n0 .skip t h Q:=hn
theorem a0j (hn:awp P dm n0 b t h Q):d3p (awp P dm n0 b) Q .norm t h:=hn
theorem a2s {X:Type} {S:X → List (Nat × AV) × List y9} (y:X) (hn:b6r m n0 t h (S y)):e4i m n0 S Q .norm t h:=⟨y,hn⟩
theorem a1v {id:Nat} (hn:Q .norm t h):d1j id Q .norm t h:=hn
theorem a2m {id:Nat} (hn:Q .norm t h):d1j id Q (.exit id) t h:=by simp only [d1j,if_pos]; exact hn
theorem a2n {F:(Nat → AV) → List y9 → AQ → Prop} {i:Nat} (hn:Q (.exit i) t h):d3p F Q (.exit i) t h:=hn
theorem a1s {X:Type} {S:X → List (Nat × AV) × List y9} {μ:X → Nat} {x:X} {i:Nat} (hn:Q (.exit i) t h):d6w m n0 S μ x Q (.exit i) t h:=hn
theorem a1p {X:Type} {S:X → List (Nat × AV) × List y9} {μ:X → Nat} {x:X} (y:X) (hy:μ y < μ x) (hn:b6r m n0 t h (S y)):d6w m n0 S μ x Q .norm t h:=⟨y,hy,hn⟩
theorem sr {T:b0f} (hn:a5g P dm T t h (kN (d3p (awp P dm n0 b) Q))):awp P dm n0 (.seq (.reg T) b) t h Q:=hn
theorem dk (hn:awp P dm n0 b t h Q):a5g P dm .done t h (kN (d3p (awp P dm n0 b) Q)):=hn
theorem a2o {i:Nat} (hn:Q (.exit i) t h):awp P dm n0 (.exit i) t h Q:=hn
theorem a0d (hn:Q .ret t h):awp P dm n0 .ret t h Q:=hn
theorem a2y {id:Nat} (hn:awp P dm n0 a t h (d1j id Q)):awp P dm n0 (.block id a) t h Q:=hn
theorem x9 {s:Nat} {e:Bool} (ht:ofL bs s = .bool e) (he:e = true) (hn:awp P dm n0 a (ofL ((s,.bool true) :: bs)) h Q):awp P dm n0 (.cond (.t s) a b) (ofL bs) h Q:=by
 subst he
 simp only [awp,AX.ev,ht,if_pos]
 exact hn
theorem x8 {s:Nat} {e:Bool} (ht:ofL bs s = .bool e) (he:e = false) (hn:awp P dm n0 b (ofL ((s,.bool false) :: bs)) h Q):awp P dm n0 (.cond (.t s) a b) (ofL bs) h Q:=by
 subst he
 simp only [awp,AX.ev,ht]
 exact hn
theorem a0f {os:List AOp} {r:AV} (hp:b7j m t h os) (hf:rflats (b6s t h os) = true) (hl:Le (pack (b6s t h os)) r):e0i m .flat os r .ret t h:=⟨hp,_,⟨hf,rfl⟩,hl⟩
theorem a1x {os:List AOp} {r:AV} {bs:List AV} {ks:List Nat} (hp:b7j m t h os) (ha:a1n true h (b6s t h os) = some (bs,ks)) (hn:ks.Nodup) (hl:Le (pack bs) r):e0i m .fresh os r .ret t h:=by
 refine ⟨hp,pack bs,?_,hl⟩
 simp only [Ret,ha]
 exact ⟨hn,trivial⟩
theorem a4p {os:List AOp} {r:AV} {hout:List y9} {n0:Nat} {t':Nat → AV} {h':List y9} (gs:List Gh) (js:List Nat) (hg:ghs m t h gs = some (t',h')) (hp:b7j m t' h' os) (hk:b9z n0 h'.length js = true) (hh:LeH (b3e h' js) hout) (hl:Le (ren (a8n js) (pack (b6s t' h' os))) r):e4h m n0 os r hout .ret t h :=
 ⟨gs,js,t',h',hg,hp,hk,hh,hl⟩
theorem b7l {os:List AOp} {r:AV} {bs:List AV} {ks:List Nat} (hp:b7j m t h os) (ha:a1n false h (b6s t h os) = some (bs,ks)) (hl:Le (pack bs) r):e0i m .weak os r .ret t h:=by
 refine ⟨hp,pack bs,?_,hl⟩
 simp only [Ret,ha]
end
section
variable {P:Program} {dm:Md} {bs:List (Nat × AV)} {h:List y9} {α:Type} {enc:α → AV} {l:List α} {z:Nat} {x i:AX} {e:α} {k:IntKind}
theorem b2i {op:AOp} {e:AX → AV} {h:List y9} {k:AV → List y9 → Prop} (hq:op.quiet = true) (hm:mmT op e h) (h1:aqP op e h ∧ (aqF op e → k (aqV op e h) h)):a4s P dm op e h k:=by
 cases op <;> first | exact ⟨aqQ.of h1.1 hm,h1.2⟩ | cases hq
theorem o_q {op:AOp} (v:AV) (hq:op.quiet = true) (hp:aqQ dm.m op (AX.ev (ofL bs)) h) (hv:aqV op (AX.ev (ofL bs)) h = v):Opr P dm op bs h v h:=by
 intro k hk
 subst hv
 cases op <;> first | (exact ⟨hp,fun _ => hk⟩) | (cases hq)
theorem a4c (v:AV) (hv:x.ev (ofL bs) = v):Opr P dm (.mov x) bs h v h:=o_q v rfl (.of trivial trivial) hv
theorem a1t (hx:x.ev (ofL bs) = .lst z (l.map enc)):e0m P dm (.len x) bs h (.int .i64 l.length) h (l.length ≤ maxLen):=by
 intro k hk
 refine b2i rfl trivial ?_
 simp only [aqP,aqF,aqV,hx,List.length_map]
 exact ⟨trivial,hk⟩
theorem a8p {o lo m z:Nat} {l:List AV} (hx:x.ev (ofL bs) = .own o lo m) (ho:h[o]? = some (.row z l)):e0m P dm (.len x) bs h (.int .i64 m) h (m ≤ maxLen):=by
 intro k hk
 refine b2i rfl trivial ?_
 simp only [aqP,aqF,aqV,hx,ho]
 exact ⟨trivial,hk⟩
theorem a9m {s:List UInt8} (hx:x.ev (ofL bs) = .str s):e0m P dm (.lenS x) bs h (.int .i64 s.length) h (s.length ≤ maxLen):=by
 intro k hk
 refine b2i rfl trivial ?_
 simp only [aqP,aqF,aqV,hx]
 exact ⟨trivial,hk⟩
theorem a3d {n:Int} (hx:x.ev (ofL bs) = .lst z (l.map enc)) (hi:i.ev (ofL bs) = .int k n) (h0:0 ≤ n) (hl:l[n.toNat]? = some e):Opr P dm (.iaddr z x i) bs h (.iptr (enc e) 0) h:=by
 intro k hk
 have hlt:n.toNat < l.length:=(List.getElem?_eq_some_iff.1 hl).1
 have hg:(l.map enc).getD n.toNat .undef = enc e:=by simp [hl]
 refine b2i rfl trivial ?_
 simp only [aqP,aqF,aqV,hx,hi,List.length_map,hg]
 exact ⟨⟨⟨h0,by omega⟩,trivial⟩,fun _ => hk⟩
theorem a1m {j:Nat} (hx:x.ev (ofL bs) = .lst z (l.map enc)) (hi:i.ev (ofL bs) = .int k (j:Int)) (hl:l[j]? = some e):Opr P dm (.iaddr z x i) bs h (.iptr (enc e) 0) h :=
 a3d hx hi (by omega) (by simpa using hl)
theorem a2x {o lo m z':Nat} {l:List AV} {n:Int} (hx:x.ev (ofL bs) = .own o lo m) (hi:i.ev (ofL bs) = .int k n) (h0:0 ≤ n) (h1:n < m) (ho:h[o]? = some (.row z' l)) (hz:z' = z):Opr P dm (.iaddr z x i) bs h (.ptr o (lo + n.toNat) 0) h:=by
 intro k hk
 subst hz
 refine b2i rfl trivial ?_
 simp only [aqP,aqF,aqV,hx,hi,ho]
 exact ⟨⟨⟨h0,h1⟩,trivial⟩,fun _ => hk⟩
theorem b7m {o m z':Nat} {l:List AV} {j:Nat} (hx:x.ev (ofL bs) = .own o 0 m) (hi:i.ev (ofL bs) = .int k (j:Int)) (h1:j < m) (ho:h[o]? = some (.row z' l)) (hz:z' = z):Opr P dm (.iaddr z x i) bs h (.ptr o j 0) h:=by
 have:=a2x (P:=P) (dm:=dm) (z:=z) hx hi (by omega) (by omega) ho hz
 simpa using this
theorem e0n {s:List UInt8} {n:Int} {c:UInt8} (hx:x.ev (ofL bs) = .str s) (hi:i.ev (ofL bs) = .int k n) (h0:0 ≤ n) (hl:s[n.toNat]? = some c):Opr P dm (.idxs x i) bs h (.int .u8 c.toNat) h:=by
 intro k hk
 have hlt:n.toNat < s.length:=(List.getElem?_eq_some_iff.1 hl).1
 have hg:s.getD n.toNat 0 = c:=by simp [hl]
 refine b2i rfl trivial ?_
 simp only [aqP,aqF,aqV,hx,hi,hg]
 exact ⟨⟨h0,by omega⟩,fun _ => hk⟩
theorem b2j {s:List UInt8} {j:Nat} {c:UInt8} (hx:x.ev (ofL bs) = .str s) (hi:i.ev (ofL bs) = .int k (j:Int)) (hl:s[j]? = some c):Opr P dm (.idxs x i) bs h (.int .u8 c.toNat) h :=
 e0n hx hi (by omega) (by simpa using hl)
theorem b2c {dm:Bool} {a:AX} {o j f sz z:Nat} {ag:Bool} {v:AV} (hx:a.ev (ofL bs) = .ptr o j f) (ho:h[o]? = some (.row z (l.map enc))) (hl:l[j]? = some e) (hp:ldP (enc e) f sz ag) (hv:ldV (enc e) f sz ag = v):Opr P (dm:Bool) (.load sz ag a) bs h v h:=by
 intro k hk
 have hg:(l.map enc).getD j .undef = enc e:=by simp [hl]
 have key:aqP (.load sz ag a) (AX.ev (ofL bs)) h:=by
  simp only [aqP,hx,ho,hg]
  exact hp
 refine ⟨key,fun _ => ?_⟩
 simp only [aqV,hx,ho,hg,hv]
 exact hk
theorem a2l {a:AX} {f sz:Nat} {ag:Bool} {el c v:AV} (hx:a.ev (ofL bs) = .iptr el f) (he:el = c) (hp:ldP c f sz ag) (hv:ldV c f sz ag = v):Opr P dm (.load sz ag a) bs h v h:=by
 intro k hk
 subst he
 refine b2i rfl (by simp only [mmT,hx]) ?_
 simp only [aqP,aqF,aqV,hx,hv]
 exact ⟨hp,fun _ => hk⟩
theorem nle {a b:Nat} (h:Nat.ble a b = true:=by rfl):a ≤ b:=Nat.le_of_ble_eq_true h
theorem d5w {o m:Nat} {l:List AV} {n:Int} {hi:AX} (hx:x.ev (ofL bs) = .own o 0 m) (ho:h[o]? = some (.row z l)) (hh:hi.ev (ofL bs) = .int k n) (h0:0 ≤ n) (h1:n ≤ m):Opr P dm (.slice z x none (some hi)) bs h (.own o 0 n.toNat) h:=by
 intro k hk
 refine b2i rfl trivial ?_
 simp only [aqP,aqF,aqV,hx,ho,hh,c8i,b4n,d9p,d2c,Option.map_some,Option.map_none,Option.getD_some,Option.getD_none]
 exact ⟨⟨⟨by omega,h0,h1⟩,trivial⟩,fun _ => hk⟩
theorem d1l {o m:Nat} {l:List AV} {n:Int} {lo:AX} (hx:x.ev (ofL bs) = .own o 0 m) (ho:h[o]? = some (.row z l)) (hh:lo.ev (ofL bs) = .int k n) (h0:0 ≤ n) (h1:n ≤ m):Opr P dm (.slice z x (some lo) none) bs h (.own o n.toNat (m - n.toNat)) h:=by
 intro k hk
 refine b2i rfl trivial ?_
 simp only [aqP,aqF,aqV,hx,ho,hh,c8i,b4n,d9p,d2c,Option.map_some,Option.map_none,Option.getD_some,Option.getD_none,Nat.zero_add]
 exact ⟨⟨⟨h0,h1,by omega⟩,trivial⟩,fun _ => hk⟩
theorem a1i {c:AV} {sz j:Nat} (hv:x.ev (ofL bs) = c) (hs:a7h h c) (hl:c.cells.length = sz) (hj:h.length = j):Opr P dm (.box sz x) bs h (.ptr j 0 0) (h ++ [.box sz c]):=by
 intro k hk
 subst hj hv
 exact ⟨⟨hs,hl⟩,hk⟩
theorem a0i {a:AX} {o j f z sz:Nat} {y v y':AV} (ha:a.ev (ofL bs) = .ptr o j f) (ho:h[o]? = some (.box z y)) (hx:x.ev (ofL bs) = v) (hs:a7h h v) (hp:b0h y f sz v) (hl:c3b h v.cells) (hy:a5u y f v = y'):Opr P dm (.store sz a x) bs h .skip (h.set o (.box z y')):=by
 intro k hk
 subst hx hy
 simp only [a4s,ha,ho]
 exact ⟨⟨hs,hp,hl⟩,hk⟩
theorem a7n {a:AX} {o j f z sz:Nat} {v v0 v':AV} {e':α} {ks:List Nat} {h2:List y9} (ha:a.ev (ofL bs) = .ptr o j f) (ho:h[o]? = some (.row z (l.map enc))) (hl:l[j]? = some e) (hx:x.ev (ofL bs) = v) (hab:a2w dm.d h v = some (v0,ks)) (hv0:v0 = v') (hk:o ∉ ks) (hnd:dm.d = true → ks.Nodup) (hp:b0h (enc e) f sz v') (hy:Le (a5u (enc e) f v') (enc e')) (hh:kill h ks = h2) :
  Opr P dm (.store sz a x) bs h .skip (h2.set o (.row z ((l.set j e').map enc))):=by
 intro k hk'
 subst hx hh hv0
 have hg:(l.map enc)[j]? = some (enc e):=by simp [hl]
 simp only [a4s,ha,ho,hg,hab]
 refine ⟨⟨hk,hnd,hp⟩,_,hy,?_⟩
 rw [← List.map_set]
 exact hk'
theorem b3p {a:AX} {o j f z sz:Nat} {v v0 v' c:AV} {e':α} {ks:List Nat} {h2:List y9} (ha:a.ev (ofL bs) = .ptr o j f) (ho:h[o]? = some (.row z (l.map enc))) (hl:l[j]? = some e) (he:enc e = c) (hx:x.ev (ofL bs) = v) (hab:a2w dm.d h v = some (v0,ks)) (hv0:v0 = v') (hk:o ∉ ks) (hnd:dm.d = true → ks.Nodup) (hp:b0h c f sz v') (hy:Le (a5u c f v') (enc e')) (hh:kill h ks = h2) :
  Opr P dm (.store sz a x) bs h .skip (h2.set o (.row z ((l.set j e').map enc))):=by
 subst he
 exact a7n ha ho hl hx hab hv0 hk hnd hp hy hh
theorem d0e {sz bytes j m:Nat} {zero:AV} {nx cx:AX} {k':IntKind} {c:Int} (e:α) (hz:Le zero (enc e)) (hn:nx.ev (ofL bs) = .int k (m:Int)) (hc:cx.ev (ofL bs) = .int k' c) (h1:(m:Int) ≤ c) (h2:c ≤ 2 ^ 30) (hj:h.length = j) :
  Opr P dm (.mkslice sz bytes zero nx cx) bs h (.own j 0 m) (h ++ [.row sz ((List.replicate m e).map enc)]):=by
 intro k hk
 subst hj
 simp only [a4s,hn,hc]
 refine ⟨⟨by omega,h1,h2⟩,(List.replicate m e).map enc,?_,by simpa using hk⟩
 rw [Int.toNat_natCast,List.map_replicate]
 exact LeL.rep hz m
theorem a1o {sz j m:Nat} {xs:List AX} {as as':List AV} {ks:List Nat} {h2:List y9} (ha:a1n dm.d h (xs.map (AX.ev (ofL bs))) = some (as,ks)) (hnd:dm.d = true → ks.Nodup) (hl:d8j sz as) (he:LeL as as') (hm:as'.length = m) (hh:kill h ks = h2) (hj:h.length = j) :
  Opr P dm (.bslice sz xs) bs h (.own j 0 m) (h2 ++ [.row sz as']):=by
 intro k hk
 subst hj hm hh
 simp only [a4s,ha]
 exact .inl ⟨⟨hnd,hl⟩,as',he,by rw [he.length]; exact hk⟩
theorem d8r {sz bytes j n m len:Nat} {s:AX} {l0 l1 L:List AV} {ks0 ks1:List Nat} {h2:List y9} (hd:c0q h sz (s.ev (ofL bs)) = some (l0,n,ks0)) (hs:b4b false h sz (x.ev (ofL bs)) = some (l1,m,ks1)) (hL:l0 ++ l1 = L) (hn:n + m = len) (hb:len ≤ 2 ^ 30) (hh:kill h (ks0 ++ ks1) = h2) (hj:h.length = j) :
  Opr P (false:Bool) (.append sz bytes s x) bs h (.own j 0 len) (h2 ++ [.row sz L]):=by
 intro k hk
 subst hL hn hh hj
 simp only [a4s,hd,hs]
 exact ⟨hb,hk⟩
theorem a4k (hdd:dm.d = true) {sz bytes j n m len:Nat} {s:AX} {l0 l1 L:List AV} {ks0 ks1:List Nat} {h2:List y9} (cons:Bool) (hd:c0q h sz (s.ev (ofL bs)) = some (l0,n,ks0)) (hs:b4b cons h sz (x.ev (ofL bs)) = some (l1,m,ks1)) (hf:cons = false → ∀ a ∈ l1,R.flat a = true) (hf2:∀ z l',x.ev (ofL bs) = .lst z l' → ∀ a ∈ l1,R.flat a = true) (hnd:(ks0 ++ ks1).Nodup) (hL:l0 ++ l1 = L) (hn:n + m = len) (hb:len ≤ 2 ^ 30) (hh:kill h (ks0 ++ ks1) = h2) (hj:h.length = j) :
  Opr P dm (.append sz bytes s x) bs h (.own j 0 len) (h2 ++ [.row sz L]):=by
 intro k hk
 subst hL hn hh hj
 simp only [a4s,hdd]
 refine .inl ⟨cons,?_⟩
 simp only [hd,hs]
 exact ⟨⟨hf,hf2,hnd,hb⟩,hk⟩
def Agn (m:Bool) (op:AOp) (bs:List (Nat × AV)) (h:List y9) (v:AV):Prop:=aqQ m op (AX.ev (ofL bs)) h ∧ v = aqV op (AX.ev (ofL bs)) h
theorem Agn.of {m:Bool} {op:AOp} (hq:op.quiet = true) {v:AV} (ho:∀ k:AV → List y9 → Prop,k v h → (aqP op (AX.ev (ofL bs)) h ∧ (aqF op (AX.ev (ofL bs)) → k (aqV op (AX.ev (ofL bs)) h) h))) (hf:aqF op (AX.ev (ofL bs))) (hm:mmT op (AX.ev (ofL bs)) h:=by trivial):Agn m op bs h v:=by
 obtain ⟨h1,h2⟩:=ho (fun r _ => v = r) rfl
 exact ⟨.of h1 hm,h2 hf⟩
theorem c1j {o m:Nat} {l:List AV} {n:Int} {hi:AX} (hx:x.ev (ofL bs) = .own o 0 m) (ho:h[o]? = some (.row z l)) (hh:hi.ev (ofL bs) = .int k n) (h0:0 ≤ n) (h1:n ≤ m):Agn false (.slice z x none (some hi)) bs h (.own o 0 n.toNat) :=
 Agn.of rfl (fun k hk => d5w (P:=default) (dm:=(false:Bool)) hx ho hh h0 h1 k hk) trivial
theorem b1f {o m:Nat} {l:List AV} {n:Int} {lo:AX} (hx:x.ev (ofL bs) = .own o 0 m) (ho:h[o]? = some (.row z l)) (hh:lo.ev (ofL bs) = .int k n) (h0:0 ≤ n) (h1:n ≤ m):Agn false (.slice z x (some lo) none) bs h (.own o n.toNat (m - n.toNat)) :=
 Agn.of rfl (fun k hk => d1l (P:=default) (dm:=(false:Bool)) hx ho hh h0 h1 k hk) trivial
theorem d3r {o lo m z':Nat} {l:List AV} {n:Int} (hx:x.ev (ofL bs) = .own o lo m) (hi:i.ev (ofL bs) = .int k n) (h0:0 ≤ n) (h1:n < m) (ho:h[o]? = some (.row z' l)) (hz:z' = z):Agn false (.iaddr z x i) bs h (.ptr o (lo + n.toNat) 0) :=
 Agn.of rfl (fun k hk => a2x (P:=default) (dm:=(false:Bool)) hx hi h0 h1 ho hz k hk) trivial
theorem d5x {a:AX} {o j f sz z:Nat} {ag:Bool} {v:AV} (hx:a.ev (ofL bs) = .ptr o j f) (ho:h[o]? = some (.row z (l.map enc))) (hl:l[j]? = some e) (hp:ldP (enc e) f sz ag) (hv:ldV (enc e) f sz ag = v):Agn false (.load sz ag a) bs h v:=by
 have hg:(l.map enc).getD j .undef = enc e:=by simp [hl]
 refine ⟨?_,?_⟩
 ·show aqP (.load sz ag a) (AX.ev (ofL bs)) h
  simp only [aqP,hx,ho,hg]
  exact hp
 ·simp only [aqV,hx,ho,hg,hv]
variable {f:Nat} {args:List AX} {r:AV} {cs cs':List AV}
theorem c1k {h:List y9} {p:Nat → Nat → Nat → Option AV} {a a':AV} {as as':List AV} (h1:a4b h p a = some a') (h2:a4j h p as = some as'):a4j h p (a :: as) = some (a' :: as'):=by simp only [a4j,h1,h2]
theorem e0o {h:List y9} {p:Nat → Nat → Nat → Option AV} {kf:Nat} {cf:List AV} (hcf:∀ h p,a4j h p cf = some cf):a4b h p (.fn kf cf) = some (.fn kf cf):=by simp only [a4b,hcf]; rfl
theorem a0p {bs':List AV} {v:AV} (hc:a0a P f .flat bs' r) (hb:closes h (args.map (AX.ev (ofL bs))) = some cs) (hl:LeL cs bs') (hv:r = v):Opr P dm (.call f args) bs h v h:=fun k hk => a2p.flat hc hb hl (by rw [hv]; exact hk)
theorem a5i {bs':List AV} {v:AV} {h':List y9} (hc:a0a P f .fresh bs' r) (hb:closes h (args.map (AX.ev (ofL bs))) = some cs) (hl:LeL cs bs') (hv:a2r h.length r = (v,h')):Opr P dm (.call f args) bs h v (h ++ h'):=fun k hk => a2p.fresh hc hb hl (by rw [hv]; exact hk)
theorem d6y (hm:dm.m = false) {bs':List AV} {v:AV} (hc:a0a P f .fresh bs' r) (hb:closes h (args.map (AX.ev (ofL bs))) = some cs) (hl:LeL cs bs') (hv:r = v):Opr P dm (.call f args) bs h v h:=fun k hk => a2p.freshc hm hc hb hl (by rw [hv]; exact hk)
theorem b8p (hm:dm.m = false) {bs':List AV} {ks:List Nat} {h2:List y9} {v:AV} (hc:a0a P f .weak bs' r) (hb:a1n false h (args.map (AX.ev (ofL bs))) = some (cs,ks)) (hl:LeL cs bs') (hv:r = v) (hh:kill h ks = h2):Opr P dm (.call f args) bs h v h2:=fun k hk => a2p.weak hm hc hb hl (by rw [hh,hv]; exact hk)
def e0p (h:List y9) (fl:List Bool) (js:List Nat) (as:List AV):Option (List AV × List y9 × List Nat):=match b9w h fl as with
 | some (cs,ks) => match b9z 0 h.length js with
  | true => some (a7m (a8n js) cs,b3e (kill h ks) js,ks)
  | false => none
 | none => none
theorem c3e {h:List y9} {fl:List Bool} {js ks:List Nat} {as cs2:List AV} {hs:List y9} (hf:e0p h fl js as = some (cs2,hs,ks)):∃ cs,b9w h fl as = some (cs,ks) ∧ b9z 0 h.length js = true ∧ a7m (a8n js) cs = cs2 ∧ b3e (kill h ks) js = hs:=by
 unfold e0p at hf
 split at hf
 ·rename_i cs ks' e
  split at hf
  ·rename_i e2
   cases hf
   exact ⟨cs,e,e2,rfl,rfl⟩
  ·cases hf
 ·cases hf
theorem b3q {as' cs2:List AV} {ks:List Nat} {hi hout h2 hs:List y9} {v:AV} (fl:List Bool) (js:List Nat) (hm:dm.m = true → fl = []) (hc:a0z P dm.nz f as' hi r hout) (hf:e0p h fl js (args.map (AX.ev (ofL bs))) = some (cs2,hs,ks)) (hl:LeL cs2 as') (hh:LeH hs hi) (hv:ren (a7y h.length js) r = v) (h2e:b2r (kill h ks) js hout = h2):Opr P dm (.call f args) bs h v h2:=by
 obtain ⟨cs,hf2,hn,rfl,rfl⟩:=c3e hf
 obtain ⟨_,_,k1,k2⟩:=b4e hn
 exact fun k hk => a2p.heapf fl ks js hm hf2 hc k1 k2 hl hh (by rw [hv,h2e]; exact hk)
theorem b4f {as' cs2:List AV} {ks:List Nat} {hi hout h2 hs:List y9} {v:AV} (fl:List Bool) (js:List Nat) (hm:dm.m = true → fl = []) (hc:a0z P dm.nz f as' hi r hout) (hf:e0p h fl js (args.map (AX.ev (ofL bs))) = some (cs2,hs,ks)) (hl:LeL cs2 as') (hh:LeH hs hi) (hv:ren (a7y h.length js) r = v) (h2e:b2r (kill h ks) js hout = h2):e0m P dm (.call f args) bs h v h2 (b8j hi hout):=by
 obtain ⟨cs,hf2,hn,rfl,rfl⟩:=c3e hf
 obtain ⟨_,_,k1,k2⟩:=b4e hn
 exact fun k hk => a2p.heapfs fl ks js hm hf2 hc k1 k2 hl hh (fun hs => by rw [hv,h2e]; exact hk hs)
theorem d6z {g:Nat} {caps as as' cs2:List AV} {ks:List Nat} {hi hout h2 hs:List y9} {v:AV} (fl:List Bool) (js:List Nat) (hm:dm.m = true → fl = []) (hx:x.ev (ofL bs) = .fn g caps) (hok:d3c P g = true) (hc:a0z P dm.nz g as' hi r hout) (has:args.map (AX.ev (ofL bs)) ++ caps = as) (hf:e0p h fl js as = some (cs2,hs,ks)) (hl:LeL cs2 as') (hh:LeH hs hi) (hv:ren (a7y h.length js) r = v) (h2e:b2r (kill h ks) js hout = h2):Opr P dm (.calv x args) bs h v h2:=by
 obtain ⟨cs,hf2,hn,rfl,rfl⟩:=c3e hf
 obtain ⟨_,_,k1,k2⟩:=b4e hn
 intro k hk
 simp only [a4s,hx]
 rw [has]
 exact ⟨hok,a2p.heapf fl ks js hm hf2 hc k1 k2 hl hh (by rw [hv,h2e]; exact hk)⟩
theorem b7n {p:Nat → Nat → Nat → Option AV}:∀ {as bs as' bs':List AV},a4j h p as = some as' → a4j h p bs = some bs' → a4j h p (as ++ bs) = some (as' ++ bs')
 | [],bs,as',bs',h1,h2 => by simp only [a4j] at h1; cases h1; simpa using h2
 | a :: as,bs,as',bs',h1,h2 => by
  simp only [a4j,List.cons_append] at h1 ⊢
  split at h1
  ·rename_i x xs e1 e2
   cases h1
   rw [e1,b7n e2 h2]
   rfl
  ·cases h1
theorem LeL.append:∀ {as bs as' bs':List AV},LeL as as' → LeL bs bs' → LeL (as ++ bs) (as' ++ bs')
 | _,_,_,_,.nil,h => h
 | _,_,_,_,.cons a t,h => .cons a (LeL.append t h)
theorem d7a {g:Nat} {cf bs':List AV} {v:AV} (hx:x.ev (ofL bs) = .fn g cf) (hok:d3c P g = true) (hcf:∀ h p,a4j h p cf = some cf) (hc:a0a P g .flat (bs' ++ cf) r) (hb:closes h (args.map (AX.ev (ofL bs))) = some cs) (hl:LeL cs bs') (hv:r = v):Opr P dm (.calv x args) bs h v h:=by
 intro k hk
 simp only [a4s,hx]
 refine ⟨hok,a2p.flat hc (b7n hb (hcf _ _)) (LeL.append hl (.refl _)) ?_⟩
 rw [hv]; exact hk
end
section
variable {P:Program} {dm:Md} {bs:List (Nat × AV)} {h:List y9} {α:Type} {enc:α → AV} {l:List α} {z:Nat} {x:AX} {y:α} {zero:AV}
theorem LeL.repz {n:Nat} (hz:Le zero (enc y)):LeL (List.replicate n zero) ((List.replicate n y).map enc):=by
 rw [List.map_replicate]
 induction n with
 | zero => exact .nil
 | succ n ih => exact .cons hz ih
theorem e5t {o lo n:Nat} {L:List α} (hx:x.ev (ofL bs) = .own o lo n) (ho:h[o]? = some (.row z (l.map enc))) (hz:Le zero (enc y)) (hL:l.take lo ++ List.replicate n y ++ l.drop (lo + n) = L):Opr P dm (.clr z zero x) bs h (.tup []) (h.set o (.row z (L.map enc))):=by
 intro k hk
 subst hL
 simp only [a4s,hx,ho]
 refine ⟨trivial,_,LeL.repz hz,?_⟩
 rw [← List.map_take,← List.map_drop,← List.map_append,← List.map_append]
 exact hk
theorem LeO.tk (l:List α) (n:Nat):LeO (.row z ((l.map enc).take n)) (.row z ((l.take n).map enc)):=by rw [List.map_take]; exact .refl _
theorem e3c {j:Nat} (hj:h.length = j):Opr P dm .mkmap bs h (.ptr j 0 0) (h ++ [.map []]):=by
 intro k hk
 subst hj
 exact hk
theorem a0s {mx kx:AX} {o i f:Nat} {s:List UInt8} {m m':List (List UInt8 × AV)} {v:AV} (hm:mx.ev (ofL bs) = .ptr o i f) (hkx:kx.ev (ofL bs) = .str s) (ho:h[o]? = some (.map m)) (hv:x.ev (ofL bs) = v) (hs:a9b m s v = m') :
  Opr P dm (.mapset mx kx x) bs h .skip (h.set o (.map m')):=by
 intro k hk
 subst hs
 simp only [a4s,hm,hkx,ho,hv]
 exact hk
theorem a3e {mx kx:AX} {o i f:Nat} {s:List UInt8} {m:List (List UInt8 × AV)} {v z:AV} (hm:mx.ev (ofL bs) = .ptr o i f) (hkx:kx.ev (ofL bs) = .str s) (ho:h[o]? = some (.map m)) (hl:(b0e m s).getD z = v) :
  Opr P dm (.mapget z mx kx) bs h v h:=by
 intro k hk
 simp only [a4s,hm,hkx,ho,hl]
 exact hk
theorem c1l {α:Type} {s k:List UInt8} {v:α} {m:List (List UInt8 × α)} (h:(s == k) = false):b0e ((k,v) :: m) s = b0e m s:=by
 have:¬ k = s:=fun e => by subst e; simp at h
 simp only [b0e,this,if_false]
theorem d8s {ng:Bool} {z:Nat} {l:List AV} (hx:x.ev (ofL bs) = .hdr (.pointer none) z l):Opr P dm (.isnilp ng x) bs h (.bool !ng) h:=by
 intro k hk
 simp only [a4s,hx]
 exact hk
theorem b8q {ng:Bool} {o i f z:Nat} {y:AV} (hx:x.ev (ofL bs) = .ptr o i f) (ho:h[o]? = some (.box z y)):Opr P dm (.isnilp ng x) bs h (.bool ng) h:=by
 intro k hk
 simp only [a4s,hx,ho]
 exact hk
end
section
variable {P:Program} {dm:Md} {n0:Nat} {bs:List (Nat × AV)} {h:List y9} {α β:Type} {enc:α → AV} {enc':β → AV} {l:List α} {z:Nat} {x:α}
theorem d1m {i:Nat} {y:AV} (hx:l[i]? = some x):((l.map enc).set i y)[i]? = some y:=by
 have hlt:=(List.getElem?_eq_some_iff.1 hx).1
 simp [hlt]
theorem a4l {i:Nat} {y:α} (hx:l[i]? = some x):(l.set i y)[i]? = some y:=by
 have hlt:=(List.getElem?_eq_some_iff.1 hx).1
 simp [hlt]
theorem e0q {a:a0q} {t:Nat → AV} {Q:AQ} {o i f z':Nat} {l':List β} {el:AV} (ho:h[o]? = some (.row z (l.map enc))) (hx:l[i]? = some x) (he:enc x = el) (hf:el.cells[f]? = some (.lst z' (l'.map enc'))) (hn:∀ v,awp P dm n0 a t (h.set o (.row z ((l.map enc).set i (b3i el f (.hdr v z' (l'.map enc')))))) Q):awp P dm n0 (.rev a) t h Q:=by
 subst he
 exact .inl ⟨o,i,f,z,_,_,z',_,ho,by simp [hx],hf,hn⟩
theorem c3f {a:AX} {o i f z':Nat} {L l':List AV} {el:AV} {v:Value} (ha:a.ev (ofL bs) = .ptr o i f) (ho:h[o]? = some (.row z L)) (hl:L[i]? = some el) (hp:ldP el f 1 false) (hv:ldV el f 1 false = .hdr v z' l'):Opr P dm (.load 1 false a) bs h (.hdr v z' l') h:=by
 intro k hk
 have hg:L.getD i .undef = el:=by simp [hl]
 refine b2i rfl ?_ ?_
 ·simp only [mmT,ha,ho,hg,hv,c2t,b9p]
 ·simp only [aqP,aqF,aqV,ha,ho,hg,hv]
  exact ⟨hp,fun _ => hk⟩
theorem d1n {f:Nat} {args:List AX} {o i j z':Nat} {n n':Int} {v:Value} {l' l'':List β} {el:AV} {y:α} (hd:dm.d = true) (hm:dm.m = true) (hc:a0z P ⟨true,true,false⟩ f [.own 0 0 l'.length,.int .i64 n] [.row z' (l'.map enc')] (.int .i64 n') [.row z' (l''.map enc')])
  (ha:args.map (AX.ev (ofL bs)) = [.hdr v z' (l'.map enc'),.int .i64 n]) (ho:h[o]? = some (.row z ((l.map enc).set i el))) (hx:l[i]? = some x) (hf:el.cells[j]? = some (.hdr v z' (l'.map enc'))) (hz:0 < z') (hy:b3i el j (.lst z' (l''.map enc')) = enc y):Opr P dm (.call f args) bs h (.int .i64 n') (h.set o (.row z ((l.set i y).map enc))):=by
 intro k hk
 refine .inl (.inr (.inr (.inr (.inr (.inr ⟨hm,hd,o,i,j,z,z',_,_,l''.map enc',el,v,n,n',ha,ho,d1m hx,hf,hz,by simpa using hc,?_⟩)))))
 have e:((l.map enc).set i el).set i (b3i el j (.lst z' (l''.map enc'))) = (l.set i y).map enc:=by
  rw [List.set_set,hy,List.map_set]
 rw [e]
 exact hk
end
section
variable {α:Type} {enc:α → AV}
theorem b8y {o a b z:Nat} {l:List AV} (h:AV.own o a b = AV.lst z l):False:=by cases h
theorem flw (hf:∀ x,R.flat (enc x) = true) (l:List α) (n m:Nat):∀ a ∈ ((l.map enc).drop n).take m,R.flat a = true:=by
 intro a ha
 obtain ⟨x,_,rfl⟩:=List.mem_map.1 (List.mem_of_mem_drop (List.mem_of_mem_take ha))
 exact hf x
theorem tkw (l:List α) (n m:Nat):((l.map enc).drop n).take m = ((l.drop n).take m).map enc:=by rw [List.map_take,List.map_drop]
theorem flo (hf:∀ x,R.flat (enc x) = true) (l:List α) (n:Nat):∀ a ∈ ((l.map enc).drop 0).take n,R.flat a = true:=by
 intro a ha
 obtain ⟨x,_,rfl⟩:=List.mem_map.1 (List.mem_of_mem_take ha)
 exact hf x
theorem d1o (a b:List α) (B:List AV) (h:B = b.map enc):((a.map enc).take a.length) ++ ((B.drop 0).take B.length) = (a ++ b).map enc:=by
 subst h
 rw [List.drop_zero,List.take_of_length_le (by simp),List.take_of_length_le (by simp),List.map_append]
theorem apg (a b:List α) {B:List AV} (h:B = b.map enc):((a.map enc).take a.length) ++ B = (a ++ b).map enc:=by
 rw [h,List.take_of_length_le (by simp),List.map_append]
theorem tko (a:List α):((a.map enc).drop 0).take a.length = a.map enc:=by
 rw [List.drop_zero,List.take_of_length_le (by simp)]
theorem e5u {β:Type} {enc2:β → AV} {a:List α} {b:List β} (h:(a.map enc).length = (b.map enc2).length):((a.map enc).drop 0).take b.length = a.map enc:=by
 rw [List.length_map,List.length_map] at h
 rw [← h]
 exact tko a
theorem tk (a:List α):(a.map enc).take a.length = a.map enc:=List.take_of_length_le (by simp)
theorem repm (n:Nat) (x:α):List.replicate n (enc x) = (List.replicate n x).map enc:=by simp
theorem flm (hf:∀ x,R.flat (enc x) = true) (l:List α):∀ a ∈ l.map enc,R.flat a = true:=by
 intro a ha
 obtain ⟨x,_,rfl⟩:=List.mem_map.1 ha
 exact hf x
end
end Go.R
