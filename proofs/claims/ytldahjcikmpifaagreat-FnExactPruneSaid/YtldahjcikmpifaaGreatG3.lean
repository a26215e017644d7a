/- Part of the proof. -/
import Derived.Test.YtldahjcikmpifaaGreatG2
import Derived.KernelRfl
section
set_option linter.all false
namespace Go.R
open Go Go.RowKit
def Opr (P:Program) (dm:Md) (op:AOp) (bs:List (Nat × AV)) (h:List l9) (v:AV) (h':List l9):Prop:=∀ k:AV → List l9 → Prop,k v h' → a5s P dm op (AX.ev (ofL bs)) h k
def e6y (P:Program) (dm:Md) (op:AOp) (bs:List (Nat × AV)) (h:List l9) (v:AV) (h':List l9) (F:Prop):Prop:=∀ k:AV → List l9 → Prop,(F → k v h') → a5s P dm op (AX.ev (ofL bs)) h k
section
variable {P:Program} {dm:Md} {bs:List (Nat × AV)} {h h':List l9} {n other:a1m} {re:List a2t} {K:(Nat → AV) → List l9 → Prop} {d:Nat} {op:AOp} {v:AV} {F:Prop}
theorem a0x (hop:Opr P dm op bs h v h') (hn:a1g P dm n (ofL ((d,v) :: bs)) h' K):a1g P dm (.q ⟨some d,none,op⟩ n) (ofL bs) h K:=hop _ hn
theorem b1x (hop:e6y P dm op bs h v h' F) (hn:F → a1g P dm n (ofL ((d,v) :: bs)) h' K):a1g P dm (.q ⟨some d,none,op⟩ n) (ofL bs) h K:=hop _ hn
theorem a7p (hop:Opr P dm op bs h v h') (hn:a1g P dm n (ofL bs) h' K):a1g P dm (.q ⟨none,none,op⟩ n) (ofL bs) h K:=hop _ hn
theorem a4s (hop:Opr P dm op bs h v h') (ha:c3l dm.m re (ofL ((d,v) :: bs)) h h') (ho:a1g P dm other (ofL bs) h K) (hn:a1g P dm n (ofL ((d,v) :: bs)) h' K):a1g P dm (.l ⟨some d,none,op⟩ re n other) (ofL bs) h K:=⟨hop _ ⟨ha,hn⟩,ho⟩
theorem b8p (hop:Opr P dm op bs h v h') (ha:c3l dm.m re (ofL bs) h h') (ho:a1g P dm other (ofL bs) h K) (hn:a1g P dm n (ofL bs) h' K):a1g P dm (.l ⟨none,none,op⟩ re n other) (ofL bs) h K:=⟨hop _ ⟨ha,hn⟩,ho⟩
theorem f4j {ng:Bool} {x:AX} {z:Nat} {l:List AV} {d:Nat} (hx:x.ev (ofL bs) = .lst z l) (hn:∀ b,(b = true → l = []) → a1g P dm n (ofL ((d,.bool (b != ng)) :: bs)) h K):a1g P dm (.q ⟨some d,none,.isnil ng x⟩ n) (ofL bs) h K:=by
 show a5s P dm (.isnil ng x) (AX.ev (ofL bs)) h _
 simp only [a5s,hx]
 exact hn
theorem f3b {α:Type} {enc:α → AV} {l:List α} (h:l.map enc = []):l = []:=by simpa using h
theorem c6r {m:Bool} {re:List a2t} {t:Nat → AV}:c3l m re t h h:=by
 cases re with
 | nil => trivial
 | cons a b => exact .inl rfl
theorem e2r {T:a1m} {s:Nat} {b e:Bool} (ht:ofL bs s = .bool e) (he:e = b) (hn:a1g P dm T (ofL ((s,.bool b) :: bs)) h K):a1g P dm T (ofL bs) h K:=by
 subst he
 have:ofL ((s,.bool e) :: bs) = ofL bs:=b5e ht
 rw [this] at hn
 exact hn
theorem s_on {s:Nat} {b:Bool} {o:Option Nat} (ht:ofL bs s = .bool b) (hn:a1g P dm (.q ⟨o,none,op⟩ n) (ofL bs) h K):a1g P dm (.q ⟨o,some (s,b),op⟩ n) (ofL bs) h K:=by
 show b9u P dm _ _ h _
 unfold b9u
 simp only [ht]
 rw [if_pos trivial,b5e ht]
 exact hn
theorem f4k {s:Nat} {b:Bool} {o:Option Nat} (ht:ofL bs s = .bool b) (hn:a1g P dm (.l ⟨o,none,op⟩ re n other) (ofL bs) h K):a1g P dm (.l ⟨o,some (s,b),op⟩ re n other) (ofL bs) h K:=by
 refine ⟨?_,hn.2⟩
 unfold b9u
 simp only [ht]
 rw [if_pos trivial,b5e ht]
 exact hn.1
theorem e2s {s:Nat} {b b':Bool} (ht:ofL bs s = .bool b') (hb:(b' == b) = false) (hn:a1g P dm n (ofL ((d,.skip) :: bs)) h K):a1g P dm (.q ⟨some d,some (s,b),op⟩ n) (ofL bs) h K:=by
 show b9u P dm _ _ h _
 unfold b9u
 simp only [ht]
 have hne:¬ b' = b:=by simpa using hb
 have hx:(!b) = b':=by cases b <;> cases b' <;> simp_all
 rw [if_neg hne,hx,b5e ht]
 exact hn
theorem f3c {s:Nat} {b b':Bool} (ht:ofL bs s = .bool b') (hb:(b' == b) = false) (ho:a1g P dm other (ofL bs) h K) (hn:a1g P dm n (ofL ((d,.skip) :: bs)) h K):a1g P dm (.l ⟨some d,some (s,b),op⟩ re n other) (ofL bs) h K:=by
 refine ⟨?_,ho⟩
 unfold b9u
 simp only [ht]
 have hne:¬ b' = b:=by simpa using hb
 have hx:(!b) = b':=by cases b <;> cases b' <;> simp_all
 rw [if_neg hne,hx,b5e ht]
 exact ⟨c6r,hn⟩
theorem e0g {s:Nat} {b:Bool} (ht:ofL bs s = .skip) (hn:a1g P dm n (ofL ((d,.skip) :: bs)) h K):a1g P dm (.q ⟨some d,some (s,b),op⟩ n) (ofL bs) h K:=by
 show b9u P dm _ _ h _
 unfold b9u
 simp only [ht]
 exact hn
theorem f0q {s:Nat} {b:Bool} (ht:ofL bs s = .skip) (ho:a1g P dm other (ofL bs) h K) (hn:a1g P dm n (ofL ((d,.skip) :: bs)) h K):a1g P dm (.l ⟨some d,some (s,b),op⟩ re n other) (ofL bs) h K:=by
 refine ⟨?_,ho⟩
 unfold b9u
 simp only [ht]
 exact ⟨c6r,hn⟩
variable {m:Bool} {n0:Nat} {a b:a0w} {Q:AQ} {t:Nat → AV}
theorem a0t {T:a1m} (hn:a1g P dm T t h (kN Q)):awp P dm n0 (.reg T) t h Q:=hn
theorem a1a (hn:Q .norm t h):a1g P dm .done t h (kN Q):=hn
theorem a0v (hn:Q .norm t h):awp P dm n0 .skip t h Q:=hn
theorem a0i (hn:awp P dm n0 b t h Q):b7w (awp P dm n0 b) Q .norm t h:=hn
theorem f4l {s} (hn:b1w m n0 t h s):e0f m n0 s Q .norm t h:=hn
theorem a3w {id:Nat} (hn:Q .norm t h):a8r id Q .norm t h:=hn
theorem c3o {id:Nat} (hn:Q .norm t h):a8r id Q (.exit id) t h:=by simp only [a8r,if_pos]; exact hn
theorem c3p {F:(Nat → AV) → List l9 → AQ → Prop} {i:Nat} (hn:Q (.exit i) t h):b7w F Q (.exit i) t h:=hn
theorem c4v {X:Type} {S:X → List (Nat × AV) × List l9} {μ:X → Nat} {x:X} {i:Nat} (hn:Q (.exit i) t h):c4r m n0 S μ x Q (.exit i) t h:=hn
theorem a5p {X:Type} {S:X → List (Nat × AV) × List l9} {μ:X → Nat} {x:X} (y:X) (hy:μ y < μ x) (hn:b1w m n0 t h (S y)):c4r m n0 S μ x Q .norm t h:=⟨y,hy,hn⟩
theorem sr {T:a1m} (hn:a1g P dm T t h (kN (b7w (awp P dm n0 b) Q))):awp P dm n0 (.seq (.reg T) b) t h Q:=hn
theorem dk (hn:awp P dm n0 b t h Q):a1g P dm .done t h (kN (b7w (awp P dm n0 b) Q)):=hn
theorem c3q {i:Nat} (hn:Q (.exit i) t h):awp P dm n0 (.exit i) t h Q:=hn
theorem a2q (hn:Q .ret t h):awp P dm n0 .ret t h Q:=hn
theorem a3z {id:Nat} (hn:awp P dm n0 a t h (a8r id Q)):awp P dm n0 (.block id a) t h Q:=hn
theorem c9n {s:Nat} {e:Bool} (ht:ofL bs s = .bool e) (he:e = true) (hn:awp P dm n0 a (ofL ((s,.bool true) :: bs)) h Q):awp P dm n0 (.cond (.t s) a b) (ofL bs) h Q:=by
 subst he
 simp only [awp,AX.ev,ht,if_pos]
 exact hn
theorem c4w {s:Nat} {e:Bool} (ht:ofL bs s = .bool e) (he:e = false) (hn:awp P dm n0 b (ofL ((s,.bool false) :: bs)) h Q):awp P dm n0 (.cond (.t s) a b) (ofL bs) h Q:=by
 subst he
 simp only [awp,AX.ev,ht]
 exact hn
theorem a8s {os:List AOp} {r:AV} (hp:c1y m t h os) (hf:rflats (b9b t h os) = true) (hl:Le (pack (b9b t h os)) r):d7r m .flat os r .ret t h:=⟨hp,_,⟨hf,rfl⟩,hl⟩
theorem a4n {os:List AOp} {r:AV} {bs:List AV} {ks:List Nat} (hp:c1y m t h os) (ha:a1d true h (b9b t h os) = some (bs,ks)) (hn:ks.Nodup) (hl:Le (pack bs) r):d7r m .fresh os r .ret t h:=by
 refine ⟨hp,pack bs,?_,hl⟩
 simp only [Ret,ha]
 exact ⟨hn,trivial⟩
theorem b5y {os:List AOp} {r:AV} {hout:List l9} {n0:Nat} {t':Nat → AV} {h':List l9} (gs:List Gh) (js:List Nat) (hg:ghs m t h gs = some (t',h')) (hp:c1y m t' h' os) (hk:b3r n0 h'.length js = true) (hh:LeH (b1v h' js) hout) (hl:Le (ren (a7k js) (pack (b9b t' h' os))) r):e6u m n0 os r hout .ret t h :=
 ⟨gs,js,t',h',hg,hp,hk,hh,hl⟩
end
section
variable {P:Program} {dm:Md} {bs:List (Nat × AV)} {h:List l9} {α:Type} {enc:α → AV} {l:List α} {z:Nat} {x i:AX} {e:α} {k:IntKind}
theorem a4y {op:AOp} {e:AX → AV} {h:List l9} {k:AV → List l9 → Prop} (hq:op.quiet = true) (hm:mmT op e h) (h1:aqP op e h ∧ (aqF op e → k (aqV op e h) h)):a5s P dm op e h k:=by
 cases op <;> first | exact ⟨aqQ.of h1.1 hm,h1.2⟩ | cases hq
theorem o_q {op:AOp} (v:AV) (hq:op.quiet = true) (hp:aqQ dm.m op (AX.ev (ofL bs)) h) (hv:aqV op (AX.ev (ofL bs)) h = v):Opr P dm op bs h v h:=by
 intro k hk
 subst hv
 cases op <;> first | (exact ⟨hp,fun _ => hk⟩) | (cases hq)
theorem b9d (v:AV) (hv:x.ev (ofL bs) = v):Opr P dm (.mov x) bs h v h:=o_q v rfl (.of trivial trivial) hv
theorem d0w (hx:x.ev (ofL bs) = .lst z (l.map enc)):e6y P dm (.len x) bs h (.int .i64 l.length) h (l.length ≤ maxLen):=by
 intro k hk
 refine a4y rfl trivial ?_
 simp only [aqP,aqF,aqV,hx,List.length_map]
 exact ⟨trivial,hk⟩
theorem b5f {o lo m z:Nat} {l:List AV} (hx:x.ev (ofL bs) = .own o lo m) (ho:h[o]? = some (.row z l)):e6y P dm (.len x) bs h (.int .i64 m) h (m ≤ maxLen):=by
 intro k hk
 refine a4y rfl trivial ?_
 simp only [aqP,aqF,aqV,hx,ho]
 exact ⟨trivial,hk⟩
theorem f3d {s:List UInt8} (hx:x.ev (ofL bs) = .str s):e6y P dm (.lenS x) bs h (.int .i64 s.length) h (s.length ≤ maxLen):=by
 intro k hk
 refine a4y rfl trivial ?_
 simp only [aqP,aqF,aqV,hx]
 exact ⟨trivial,hk⟩
theorem c9o {n:Int} (hx:x.ev (ofL bs) = .lst z (l.map enc)) (hi:i.ev (ofL bs) = .int k n) (h0:0 ≤ n) (hl:l[n.toNat]? = some e):Opr P dm (.iaddr z x i) bs h (.iptr (enc e) 0) h:=by
 intro k hk
 have hlt:n.toNat < l.length:=(List.getElem?_eq_some_iff.1 hl).1
 have hg:(l.map enc).getD n.toNat .undef = enc e:=by simp [hl]
 refine a4y rfl trivial ?_
 simp only [aqP,aqF,aqV,hx,hi,List.length_map,hg]
 exact ⟨⟨⟨h0,by omega⟩,trivial⟩,fun _ => hk⟩
theorem b6v {j:Nat} (hx:x.ev (ofL bs) = .lst z (l.map enc)) (hi:i.ev (ofL bs) = .int k (j:Int)) (hl:l[j]? = some e):Opr P dm (.iaddr z x i) bs h (.iptr (enc e) 0) h :=
 c9o hx hi (by omega) (by simpa using hl)
theorem a2g {o lo m z':Nat} {l:List AV} {n:Int} (hx:x.ev (ofL bs) = .own o lo m) (hi:i.ev (ofL bs) = .int k n) (h0:0 ≤ n) (h1:n < m) (ho:h[o]? = some (.row z' l)) (hz:z' = z):Opr P dm (.iaddr z x i) bs h (.ptr o (lo + n.toNat) 0) h:=by
 intro k hk
 subst hz
 refine a4y rfl trivial ?_
 simp only [aqP,aqF,aqV,hx,hi,ho]
 exact ⟨⟨⟨h0,h1⟩,trivial⟩,fun _ => hk⟩
theorem b0k {o m z':Nat} {l:List AV} {j:Nat} (hx:x.ev (ofL bs) = .own o 0 m) (hi:i.ev (ofL bs) = .int k (j:Int)) (h1:j < m) (ho:h[o]? = some (.row z' l)) (hz:z' = z):Opr P dm (.iaddr z x i) bs h (.ptr o j 0) h:=by
 have:=a2g (P:=P) (dm:=dm) (z:=z) hx hi (by omega) (by omega) ho hz
 simpa using this
theorem e0h {s:List UInt8} {n:Int} {c:UInt8} (hx:x.ev (ofL bs) = .str s) (hi:i.ev (ofL bs) = .int k n) (h0:0 ≤ n) (hl:s[n.toNat]? = some c):Opr P dm (.idxs x i) bs h (.int .u8 c.toNat) h:=by
 intro k hk
 have hlt:n.toNat < s.length:=(List.getElem?_eq_some_iff.1 hl).1
 have hg:s.getD n.toNat 0 = c:=by simp [hl]
 refine a4y rfl trivial ?_
 simp only [aqP,aqF,aqV,hx,hi,hg]
 exact ⟨⟨h0,by omega⟩,fun _ => hk⟩
theorem c4x {s:List UInt8} {j:Nat} {c:UInt8} (hx:x.ev (ofL bs) = .str s) (hi:i.ev (ofL bs) = .int k (j:Int)) (hl:s[j]? = some c):Opr P dm (.idxs x i) bs h (.int .u8 c.toNat) h :=
 e0h hx hi (by omega) (by simpa using hl)
theorem nle {a b:Nat} (h:Nat.ble a b = true:=by rfl):a ≤ b:=Nat.le_of_ble_eq_true h
theorem b6w {c:AV} {sz j:Nat} (hv:x.ev (ofL bs) = c) (hs:a6f h c) (hl:c.cells.length = sz) (hj:h.length = j):Opr P dm (.box sz x) bs h (.ptr j 0 0) (h ++ [.box sz c]):=by
 intro k hk
 subst hj hv
 exact ⟨⟨hs,hl⟩,hk⟩
theorem a3y {a:AX} {o j f z sz:Nat} {y v y':AV} (ha:a.ev (ofL bs) = .ptr o j f) (ho:h[o]? = some (.box z y)) (hx:x.ev (ofL bs) = v) (hs:a6f h v) (hp:b1u y f sz v) (hl:c3j h v.cells) (hy:a4l y f v = y'):Opr P dm (.store sz a x) bs h .skip (h.set o (.box z y')):=by
 intro k hk
 subst hx hy
 simp only [a5s,ha,ho]
 exact ⟨⟨hs,hp,hl⟩,hk⟩
theorem a2d {a:AX} {o j f z sz:Nat} {v v0 v':AV} {e':α} {ks:List Nat} {h2:List l9} (ha:a.ev (ofL bs) = .ptr o j f) (ho:h[o]? = some (.row z (l.map enc))) (hl:l[j]? = some e) (hx:x.ev (ofL bs) = v) (hab:a2e dm.d h v = some (v0,ks)) (hv0:v0 = v') (hk:o ∉ ks) (hnd:dm.d = true → ks.Nodup) (hp:b1u (enc e) f sz v') (hy:Le (a4l (enc e) f v') (enc e')) (hh:kill h ks = h2) :
  Opr P dm (.store sz a x) bs h .skip (h2.set o (.row z ((l.set j e').map enc))):=by
 intro k hk'
 subst hx hh hv0
 have hg:(l.map enc)[j]? = some (enc e):=by simp [hl]
 simp only [a5s,ha,ho,hg,hab]
 refine ⟨⟨hk,hnd,hp⟩,_,hy,?_⟩
 rw [← List.map_set]
 exact hk'
theorem b4s {sz bytes j m:Nat} {zero:AV} {nx cx:AX} {k':IntKind} {c:Int} (e:α) (hz:Le zero (enc e)) (hn:nx.ev (ofL bs) = .int k (m:Int)) (hc:cx.ev (ofL bs) = .int k' c) (h1:(m:Int) ≤ c) (h2:c ≤ 2 ^ 30) (hj:h.length = j) :
  Opr P dm (.mkslice sz bytes zero nx cx) bs h (.own j 0 m) (h ++ [.row sz ((List.replicate m e).map enc)]):=by
 intro k hk
 subst hj
 simp only [a5s,hn,hc]
 refine ⟨⟨by omega,h1,h2⟩,(List.replicate m e).map enc,?_,by simpa using hk⟩
 rw [Int.toNat_natCast,List.map_replicate]
 exact LeL.rep hz m
theorem a5u {sz j m:Nat} {xs:List AX} {as as':List AV} {ks:List Nat} {h2:List l9} (ha:a1d dm.d h (xs.map (AX.ev (ofL bs))) = some (as,ks)) (hnd:dm.d = true → ks.Nodup) (hl:e3o sz as) (he:LeL as as') (hm:as'.length = m) (hh:kill h ks = h2) (hj:h.length = j) :
  Opr P dm (.bslice sz xs) bs h (.own j 0 m) (h2 ++ [.row sz as']):=by
 intro k hk
 subst hj hm hh
 simp only [a5s,ha]
 exact .inl ⟨⟨hnd,hl⟩,as',he,by rw [he.length]; exact hk⟩
theorem b3i (hdd:dm.d = true) {sz bytes j n m len:Nat} {s:AX} {l0 l1 L:List AV} {ks0 ks1:List Nat} {h2:List l9} (cons:Bool) (hd:c7m h sz (s.ev (ofL bs)) = some (l0,n,ks0)) (hs:b7l cons h sz (x.ev (ofL bs)) = some (l1,m,ks1)) (hf:cons = false → ∀ a ∈ l1,R.flat a = true) (hf2:∀ z l',x.ev (ofL bs) = .lst z l' → ∀ a ∈ l1,R.flat a = true) (hnd:(ks0 ++ ks1).Nodup) (hL:l0 ++ l1 = L) (hn:n + m = len) (hb:len ≤ 2 ^ 30) (hh:kill h (ks0 ++ ks1) = h2) (hj:h.length = j) :
  Opr P dm (.append sz bytes s x) bs h (.own j 0 len) (h2 ++ [.row sz L]):=by
 intro k hk
 subst hL hn hh hj
 simp only [a5s,hdd]
 refine .inl ⟨cons,?_⟩
 simp only [hd,hs]
 exact ⟨⟨hf,hf2,hnd,hb⟩,hk⟩
def Agn (m:Bool) (op:AOp) (bs:List (Nat × AV)) (h:List l9) (v:AV):Prop:=aqQ m op (AX.ev (ofL bs)) h ∧ v = aqV op (AX.ev (ofL bs)) h
theorem Agn.of {m:Bool} {op:AOp} (hq:op.quiet = true) {v:AV} (ho:∀ k:AV → List l9 → Prop,k v h → (aqP op (AX.ev (ofL bs)) h ∧ (aqF op (AX.ev (ofL bs)) → k (aqV op (AX.ev (ofL bs)) h) h))) (hf:aqF op (AX.ev (ofL bs))) (hm:mmT op (AX.ev (ofL bs)) h:=by trivial):Agn m op bs h v:=by
 obtain ⟨h1,h2⟩:=ho (fun r _ => v = r) rfl
 exact ⟨.of h1 hm,h2 hf⟩
theorem e6z {n:Int} (hx:x.ev (ofL bs) = .lst z (l.map enc)) (hi:i.ev (ofL bs) = .int k n) (h0:0 ≤ n) (hl:l[n.toNat]? = some e):Agn false (.iaddr z x i) bs h (.iptr (enc e) 0) :=
 Agn.of rfl (fun k hk => c9o (P:=default) (dm:=(false:Bool)) hx hi h0 hl k hk) (by trivial)
theorem e3y {j:Nat} (hx:x.ev (ofL bs) = .lst z (l.map enc)) (hi:i.ev (ofL bs) = .int k (j:Int)) (hl:l[j]? = some e):Agn false (.iaddr z x i) bs h (.iptr (enc e) 0) :=
 e6z hx hi (by omega) (by simpa using hl)
variable {f:Nat} {args:List AX} {r:AV} {cs cs':List AV}
theorem b7y {h:List l9} {p:Nat → Nat → Nat → Option AV} {a a':AV} {as as':List AV} (h1:a2x h p a = some a') (h2:a2o h p as = some as'):a2o h p (a :: as) = some (a' :: as'):=by simp only [a2o,h1,h2]
theorem e0i {h:List l9} {p:Nat → Nat → Nat → Option AV} {kf:Nat} {cf:List AV} (hcf:∀ h p,a2o h p cf = some cf):a2x h p (.fn kf cf) = some (.fn kf cf):=by simp only [a2x,hcf]; rfl
theorem b3c {bs':List AV} {v:AV} (hc:a0k P f .flat bs' r) (hb:closes h (args.map (AX.ev (ofL bs))) = some cs) (hl:LeL cs bs') (hv:r = v):Opr P dm (.call f args) bs h v h:=fun k hk => a2f.flat hc hb hl (by rw [hv]; exact hk)
theorem a2r {bs':List AV} {v:AV} {h':List l9} (hc:a0k P f .fresh bs' r) (hb:closes h (args.map (AX.ev (ofL bs))) = some cs) (hl:LeL cs bs') (hv:a1u h.length r = (v,h')):Opr P dm (.call f args) bs h v (h ++ h'):=fun k hk => a2f.fresh hc hb hl (by rw [hv]; exact hk)
def e7a (h:List l9) (fl:List Bool) (js:List Nat) (as:List AV):Option (List AV × List l9 × List Nat):=match c3i h fl as with
 | some (cs,ks) => match b3r 0 h.length js with
  | true => some (a6g (a7k js) cs,b1v (kill h ks) js,ks)
  | false => none
 | none => none
theorem c6s {h:List l9} {fl:List Bool} {js ks:List Nat} {as cs2:List AV} {hs:List l9} (hf:e7a h fl js as = some (cs2,hs,ks)):∃ cs,c3i h fl as = some (cs,ks) ∧ b3r 0 h.length js = true ∧ a6g (a7k js) cs = cs2 ∧ b1v (kill h ks) js = hs:=by
 unfold e7a at hf
 split at hf
 ·rename_i cs ks' e
  split at hf
  ·rename_i e2
   cases hf
   exact ⟨cs,e,e2,rfl,rfl⟩
  ·cases hf
 ·cases hf
theorem f0r {as' cs2:List AV} {ks:List Nat} {hi hout h2 hs:List l9} {v:AV} (fl:List Bool) (js:List Nat) (hm:dm.m = true → fl = []) (hc:a1l P dm.nz f as' hi r hout) (hf:e7a h fl js (args.map (AX.ev (ofL bs))) = some (cs2,hs,ks)) (hl:LeL cs2 as') (hh:LeH hs hi) (hv:ren (a7v h.length js) r = v) (h2e:b5d (kill h ks) js hout = h2):Opr P dm (.call f args) bs h v h2:=by
 obtain ⟨cs,hf2,hn,rfl,rfl⟩:=c6s hf
 obtain ⟨_,_,k1,k2⟩:=b6u hn
 exact fun k hk => a2f.heapf fl ks js hm hf2 hc k1 k2 hl hh (by rw [hv,h2e]; exact hk)
theorem b9x {as' cs2:List AV} {ks:List Nat} {hi hout h2 hs:List l9} {v:AV} (fl:List Bool) (js:List Nat) (hm:dm.m = true → fl = []) (hc:a1l P dm.nz f as' hi r hout) (hf:e7a h fl js (args.map (AX.ev (ofL bs))) = some (cs2,hs,ks)) (hl:LeL cs2 as') (hh:LeH hs hi) (hv:ren (a7v h.length js) r = v) (h2e:b5d (kill h ks) js hout = h2):e6y P dm (.call f args) bs h v h2 (c1j hi hout):=by
 obtain ⟨cs,hf2,hn,rfl,rfl⟩:=c6s hf
 obtain ⟨_,_,k1,k2⟩:=b6u hn
 exact fun k hk => a2f.heapfs fl ks js hm hf2 hc k1 k2 hl hh (fun hs => by rw [hv,h2e]; exact hk hs)
theorem f0s {g:Nat} {caps as as' cs2:List AV} {ks:List Nat} {hi hout h2 hs:List l9} {v:AV} (fl:List Bool) (js:List Nat) (hm:dm.m = true → fl = []) (hx:x.ev (ofL bs) = .fn g caps) (hok:c8y P g = true) (hc:a1l P dm.nz g as' hi r hout) (has:args.map (AX.ev (ofL bs)) ++ caps = as) (hf:e7a h fl js as = some (cs2,hs,ks)) (hl:LeL cs2 as') (hh:LeH hs hi) (hv:ren (a7v h.length js) r = v) (h2e:b5d (kill h ks) js hout = h2):Opr P dm (.calv x args) bs h v h2:=by
 obtain ⟨cs,hf2,hn,rfl,rfl⟩:=c6s hf
 obtain ⟨_,_,k1,k2⟩:=b6u hn
 intro k hk
 simp only [a5s,hx]
 rw [has]
 exact ⟨hok,a2f.heapf fl ks js hm hf2 hc k1 k2 hl hh (by rw [hv,h2e]; exact hk)⟩
theorem b9y {p:Nat → Nat → Nat → Option AV}:∀ {as bs as' bs':List AV},a2o h p as = some as' → a2o h p bs = some bs' → a2o h p (as ++ bs) = some (as' ++ bs')
 | [],bs,as',bs',h1,h2 => by simp only [a2o] at h1; cases h1; simpa using h2
 | a :: as,bs,as',bs',h1,h2 => by
  simp only [a2o,List.cons_append] at h1 ⊢
  split at h1
  ·rename_i x xs e1 e2
   cases h1
   rw [e1,b9y e2 h2]
   rfl
  ·cases h1
theorem LeL.append:∀ {as bs as' bs':List AV},LeL as as' → LeL bs bs' → LeL (as ++ bs) (as' ++ bs')
 | _,_,_,_,.nil,h => h
 | _,_,_,_,.cons a t,h => .cons a (LeL.append t h)
theorem c1n {g:Nat} {cf bs':List AV} {v:AV} (hx:x.ev (ofL bs) = .fn g cf) (hok:c8y P g = true) (hcf:∀ h p,a2o h p cf = some cf) (hc:a0k P g .flat (bs' ++ cf) r) (hb:closes h (args.map (AX.ev (ofL bs))) = some cs) (hl:LeL cs bs') (hv:r = v):Opr P dm (.calv x args) bs h v h:=by
 intro k hk
 simp only [a5s,hx]
 refine ⟨hok,a2f.flat hc (b9y hb (hcf _ _)) (LeL.append hl (.refl _)) ?_⟩
 rw [hv]; exact hk
end
section
variable {P:Program} {dm:Md} {bs:List (Nat × AV)} {h:List l9} {α:Type} {enc:α → AV} {l:List α} {z:Nat} {x:AX} {y:α} {zero:AV}
theorem LeO.tk (l:List α) (n:Nat):LeO (.row z ((l.map enc).take n)) (.row z ((l.take n).map enc)):=by rw [List.map_take]; exact .refl _
end
section
variable {P:Program} {dm:Md} {n0:Nat} {bs:List (Nat × AV)} {h:List l9} {α β:Type} {enc:α → AV} {enc':β → AV} {l:List α} {z:Nat} {x:α}
theorem c6t {i:Nat} {y:AV} (hx:l[i]? = some x):((l.map enc).set i y)[i]? = some y:=by
 have hlt:=(List.getElem?_eq_some_iff.1 hx).1
 simp [hlt]
theorem a2c {i:Nat} {y:α} (hx:l[i]? = some x):(l.set i y)[i]? = some y:=by
 have hlt:=(List.getElem?_eq_some_iff.1 hx).1
 simp [hlt]
theorem d7s {a:a0w} {t:Nat → AV} {Q:AQ} {o i f z':Nat} {l':List β} {el:AV} (ho:h[o]? = some (.row z (l.map enc))) (hx:l[i]? = some x) (he:enc x = el) (hf:el.cells[f]? = some (.lst z' (l'.map enc'))) (hn:∀ v,awp P dm n0 a t (h.set o (.row z ((l.map enc).set i (b6a el f (.hdr v z' (l'.map enc')))))) Q):awp P dm n0 (.rev a) t h Q:=by
 subst he
 exact .inl ⟨o,i,f,z,_,_,z',_,ho,by simp [hx],hf,hn⟩
theorem b7z {a:AX} {o i f z':Nat} {L l':List AV} {el:AV} {v:Value} (ha:a.ev (ofL bs) = .ptr o i f) (ho:h[o]? = some (.row z L)) (hl:L[i]? = some el) (hp:ldP el f 1 false) (hv:ldV el f 1 false = .hdr v z' l'):Opr P dm (.load 1 false a) bs h (.hdr v z' l') h:=by
 intro k hk
 have hg:L.getD i .undef = el:=by simp [hl]
 refine a4y rfl ?_ ?_
 ·simp only [mmT,ha,ho,hg,hv,c6i,c3a]
 ·simp only [aqP,aqF,aqV,ha,ho,hg,hv]
  exact ⟨hp,fun _ => hk⟩
theorem c4y {f:Nat} {args:List AX} {o i j z':Nat} {n n':Int} {v:Value} {l' l'':List β} {el:AV} {y:α} (hd:dm.d = true) (hm:dm.m = true) (hc:a1l P ⟨true,true,false⟩ f [.own 0 0 l'.length,.int .i64 n] [.row z' (l'.map enc')] (.int .i64 n') [.row z' (l''.map enc')])
  (ha:args.map (AX.ev (ofL bs)) = [.hdr v z' (l'.map enc'),.int .i64 n]) (ho:h[o]? = some (.row z ((l.map enc).set i el))) (hx:l[i]? = some x) (hf:el.cells[j]? = some (.hdr v z' (l'.map enc'))) (hz:0 < z') (hy:b6a el j (.lst z' (l''.map enc')) = enc y):Opr P dm (.call f args) bs h (.int .i64 n') (h.set o (.row z ((l.set i y).map enc))):=by
 intro k hk
 refine .inl (.inr (.inr (.inr (.inr (.inr ⟨hm,hd,o,i,j,z,z',_,_,l''.map enc',el,v,n,n',ha,ho,c6t hx,hf,hz,by simpa using hc,?_⟩)))))
 have e:((l.map enc).set i el).set i (b6a el j (.lst z' (l''.map enc'))) = (l.set i y).map enc:=by
  rw [List.set_set,hy,List.map_set]
 rw [e]
 exact hk
end
section
variable {α:Type} {enc:α → AV}
theorem e3z {o a b z:Nat} {l:List AV} (h:AV.own o a b = AV.lst z l):False:=by cases h
theorem e4a (a b:List α) (B:List AV) (h:B = b.map enc):((a.map enc).take a.length) ++ ((B.drop 0).take B.length) = (a ++ b).map enc:=by
 subst h
 rw [List.drop_zero,List.take_of_length_le (by simp),List.take_of_length_le (by simp),List.map_append]
theorem tko (a:List α):((a.map enc).drop 0).take a.length = a.map enc:=by
 rw [List.drop_zero,List.take_of_length_le (by simp)]
theorem f5u {β:Type} {enc2:β → AV} {a:List α} {b:List β} (h:(a.map enc).length = (b.map enc2).length):((a.map enc).drop 0).take b.length = a.map enc:=by
 rw [List.length_map,List.length_map] at h
 rw [← h]
 exact tko a
theorem tk (a:List α):(a.map enc).take a.length = a.map enc:=List.take_of_length_le (by simp)
theorem repm (n:Nat) (x:α):List.replicate n (enc x) = (List.replicate n x).map enc:=by simp
theorem flm (hf:∀ x,R.flat (enc x) = true) (l:List α):∀ a ∈ l.map enc,R.flat a = true:=by
 intro a ha
 obtain ⟨x,_,rfl⟩:=List.mem_map.1 ha
 exact hf x
end
end Go.R
end
section
set_option linter.all false
namespace Go.R
open Go
abbrev Str:=List UInt8
def encI (n:Int):AV:=.int .i64 n
def e7b (n:Int):AV:=.int .u8 n
def a0m {α:Type} (z:Nat) (f:α → AV) (l:List α):AV:=.lst z (l.map f)
def b8a:Nat → List AV → List (Nat × AV)
 | _,[] => []
 | k,a :: as => (k,a) :: b8a (k + 1) as
theorem d3w:∀ (as:List AV) (k n:Nat),ofL (b8a k as) n = if k ≤ n then as.getD (n - k) .undef else .undef
 | [],k,n => by simp [b8a,ofL]
 | a :: as,k,n => by
  simp only [b8a,ofL,d3w as (k + 1) n]
  by_cases h:n = k
  ·subst h; simp
  ·rw [if_neg h]
   by_cases h2:k ≤ n
   ·have h3:n - k = (n - (k + 1)) + 1:=by omega
    rw [if_pos h2,if_pos (by omega),h3,List.getD_cons_succ]
   ·rw [if_neg h2,if_neg (by omega)]
theorem c4z (as:List AV):d4x as = ofL (b8a 0 as):=by
 funext n
 rw [d3w]
 simp [d4x]
def gs (v b:Bool) (V:AV):AV:=if v = b then V else .skip
theorem a2u {v b:Bool} (h:v = b) {V:AV}:gs v b V = V:=if_pos h
theorem lenV {α:Type} (f:α → AV) (l:List α):AV.int .i64 ((l.map f).length:Int) = AV.int .i64 l.length:=by rw [List.length_map]
section
variable {P:Program} {dm:Md} {bs:List (Nat × AV)} {h:List l9} {n:a1m} {d:Nat} {K:(Nat → AV) → List l9 → Prop}
theorem s_g {op:AOp} {s:Nat} {b v:Bool} (V:AV) (ht:ofL bs s = .bool v) (hon:v = b → op.quiet = true ∧ aqQ dm.m op (AX.ev (ofL bs)) h ∧ aqV op (AX.ev (ofL bs)) h = V) (hn:a1g P dm n (ofL ((d,gs v b V) :: bs)) h K):a1g P dm (.q ⟨some d,some (s,b),op⟩ n) (ofL bs) h K:=by
 by_cases hv:v = b
 ·obtain ⟨h1,h2,h3⟩:=hon hv
  rw [a2u hv] at hn
  subst hv
  exact s_on ht (s_q V h1 h2 h3 hn)
 ·have e:gs v b V = .skip:=if_neg hv
  rw [e] at hn
  exact e2s ht (by cases v <;> cases b <;> simp_all) hn
theorem f4n {op:AOp} {s:Nat} {b1 b2 v1 v2:Bool} (V:AV) (ht:ofL bs s = gs v1 b1 (.bool v2)) (hon:v1 = b1 → v2 = b2 → op.quiet = true ∧ aqQ dm.m op (AX.ev (ofL bs)) h ∧ aqV op (AX.ev (ofL bs)) h = V) (hn:a1g P dm n (ofL ((d,gs v1 b1 (gs v2 b2 V)) :: bs)) h K):a1g P dm (.q ⟨some d,some (s,b2),op⟩ n) (ofL bs) h K:=by
 by_cases hv:v1 = b1
 ·rw [a2u hv] at hn ht
  exact s_g V ht (hon hv) hn
 ·have e:∀ W,gs v1 b1 W = .skip:=fun W => if_neg hv
  rw [e] at hn ht
  exact e0g ht hn
theorem f4o {c a b:AX} {s:Nat} {v1 b1 v2 x y:Bool} (ht:ofL bs s = .bool v1) (hc:v1 = b1 → c.ev (ofL bs) = .bool v2) (h1:v1 = b1 → v2 = true → a.ev (ofL bs) = .bool x) (h2:v1 = b1 → v2 = false → b.ev (ofL bs) = .bool y) (hn:a1g P dm n (ofL ((d,gs v1 b1 (.bool (bif v2 then x else y))) :: bs)) h K):a1g P dm (.q ⟨some d,some (s,b1),.pick c a b⟩ n) (ofL bs) h K:=by
 refine s_g _ ht (fun hv => ⟨rfl,.of ?_ trivial,?_⟩) hn
 ·simp only [aqP,hc hv]; cases v2 <;> trivial
 ·simp only [aqV,hc hv]
  cases v2 with
  | true => simpa using h1 hv rfl
  | false => simpa using h2 hv rfl
theorem b9z {c a b:AX} {v x y:Bool} (hc:c.ev (ofL bs) = .bool v) (h1:v = true → a.ev (ofL bs) = .bool x) (h2:v = false → b.ev (ofL bs) = .bool y) (hn:a1g P dm n (ofL ((d,.bool (bif v then x else y)) :: bs)) h K):a1g P dm (.q ⟨some d,none,.pick c a b⟩ n) (ofL bs) h K:=by
 refine s_q (.bool (bif v then x else y)) rfl (.of ?_ trivial) ?_ hn
 ·simp only [aqP,hc]; cases v <;> trivial
 ·simp only [aqV,hc]
  cases v with
  | true => simpa using h1 rfl
  | false => simpa using h2 rfl
end
abbrev tq (d:Nat) (o:AOp) (n:a1m):a1m:=.q ⟨some d,none,o⟩ n
abbrev tm (d:Nat) (x:AX) (n:a1m):a1m:=.q ⟨some d,none,.mov x⟩ n
abbrev tg (d s:Nat) (b:Bool) (o:AOp) (n:a1m):a1m:=.q ⟨some d,some (s,b),o⟩ n
def e0j (l:List Int):Str:=l.map fun n => UInt8.ofNat n.toNat
section
variable {P:Program} {dm:Md} {bs:List (Nat × AV)} {h:List l9} {x:AX}
theorem e4c {l:List Int} {o n:Nat} (hx:x.ev (ofL bs) = .own o 0 n) (ho:h[o]? = some (.row 1 (l.map e7b))) (hn:n = l.length):Opr P dm (.convBS x) bs h (.str (e0j l)) h:=fun k hk => by
 subst hn
 simp only [a5s,hx,b7l,ho,if_pos]
 exact ⟨l,by rw [List.drop_zero,List.take_of_length_le (by simp)]; rfl,hk⟩
end
@[irreducible] def FUEL:Nat:=2 ^ 100
theorem LeL.repm {α:Type} {enc:α → AV} {z:AV} {x:α} (h:Le z (enc x)) (n:Nat):LeL (List.replicate n z) ((List.replicate n x).map enc):=by
 rw [← R.repm]
 exact LeL.rep h n
section
variable {P:Program} {dm:Md} {n0:Nat} {bs:List (Nat × AV)} {h h2:List l9} {z:Nat} {α:Type} {l l':List α} {enc:α → AV}
end
section
variable {P:Program} {dm:Md} {n0:Nat} {bs:List (Nat × AV)} {h h2:List l9} {z:Nat} {α:Type} {l l':List α} {enc:α → AV}
end
section
variable {α:Type} {l:List α} {enc:α → AV} {z i:Nat} {el':AV}
end
section
variable {α:Type} {enc:α → AV}
end
def f4p {α β:Type} (o:Option α) (f:α → Option β) (g:Option β):Option β:=match o with
 | some x => f x
 | none => g
theorem oo {α β:Type} {o:Option α} {f:α → Option β} {g:Option β} {r:β} (h:f4p o f g = some r):(∃ x,o = some x ∧ f x = some r) ∨ (o = none ∧ g = some r):=by
 cases o with
 | some x => exact .inl ⟨x,rfl,h⟩
 | none => exact .inr ⟨rfl,h⟩
abbrev AV.I (n : Int) : AV := .int .i64 n
theorem tr : True := trivial
theorem Le.r {a : AV} : Le a a := .refl a
theorem LeL.r {a : List AV} : LeL a a := .refl a
theorem LeO.r {a : l9} : LeO a a := .refl a
theorem LeH.r {a : List l9} : LeH a a := .refl a
end Go.R
end
section
set_option linter.all false
namespace Go.R
open Go
theorem a1q {n:Int} (h:-9223372036854775808 ≤ n ∧ n < 9223372036854775808):w64 n = n:=e6w h.1 h.2
theorem a6w {α:Type} (l:List α) (i:Nat) (y:α) (ys:List α) (h:i < l.length):(l.set i y).take (i + 1) ++ ys = l.take i ++ y :: ys:=by
 rw [List.take_set,List.take_add_one,List.getElem?_eq_getElem h,List.set_append_right _ _ (by simp; omega)]
 have:i - (l.take i).length = 0:=by simp; omega
 rw [this]
 simp
theorem getElem?_replicate_some {α:Type} {n i:Nat} {x:α} (h:i < n):(List.replicate n x)[i]? = some x:=by simp [h]
theorem a4z {α:Type} (l:List α) (i:Nat):idx l (i:Int) = l[i]?:=by simp [idx]
theorem b5g {α:Type} {l:List α} {i:Nat} {x:α} {xs:List α} (h:l.drop i = x :: xs):idx l (i:Int) = some x:=by
 rw [a4z]
 have:=congrArg List.head? h
 rw [List.head?_drop] at this
 simpa using this
theorem a2j {α:Type} {l:List α} {i:Nat} {x:α} {xs:List α} (h:l.drop i = x :: xs):l.drop (i + 1) = xs:=by
 have:=congrArg List.tail h
 rw [List.tail_drop] at this
 simpa using this
theorem b1k {α:Type} {l:List α} {i:Nat} {x:α} {xs:List α} (h:l.drop i = x :: xs):i < l.length:=by
 rcases Nat.lt_or_ge i l.length with h1 | h1
 ·exact h1
 ·rw [List.drop_of_length_le h1] at h; cases h
end Go.R
end
section
set_option linter.all false
namespace Go.R
open Go
@[simp] def getB:List (Nat × AV) → Nat → AV
  | [],_ => .undef
  | (k,v) :: r,n => bif n == k then v else getB r n
theorem d4z (n:Nat):∀ bs:List (Nat × AV),getB bs n = ofL bs n
  | [] => rfl
  | (k,v) :: r => by
    simp only [getB,ofL,d4z n r]
    by_cases h:n = k
    · simp [h]
    · have h':(n == k) = false:=by simpa using h
      simp [h,h']
@[simp] def evB (bs:List (Nat × AV)):AX → AV
  | .t n => getB bs n
  | .c v => v
theorem d0z (bs:List (Nat × AV)) (x:AX):evB bs x = x.ev (ofL bs):=by
  cases x with
  | t n => exact d4z n bs
  | c v => rfl
@[simp] def hgB:List l9 → Nat → Option l9
  | [],_ => none
  | x :: r,n => bif n == 0 then some x else hgB r (n - 1)
theorem e0l:∀ (h:List l9) (n:Nat),hgB h n = h[n]?
  | [],n => by simp [hgB]
  | x :: r,0 => rfl
  | x :: r,n + 1 => by simp [hgB,e0l r n]
@[simp] def lgB:List AV → Nat → Option AV
  | [],_ => none
  | x :: r,n => bif n == 0 then some x else lgB r (n - 1)
theorem e0m:∀ (h:List AV) (n:Nat),lgB h n = h[n]?
  | [],n => by simp [lgB]
  | x :: r,0 => rfl
  | x :: r,n + 1 => by simp [lgB,e0m r n]
@[simp] def dpB:List AV → Nat → Option (List AV)
  | l,0 => some l
  | [],_ + 1 => none
  | _ :: l,n + 1 => dpB l n
theorem e7d:∀ (l:List AV) (n:Nat) {r:List AV},dpB l n = some r → n ≤ l.length ∧ l.drop n = r
  | [],0,r,h => by cases h; exact ⟨Nat.zero_le _,rfl⟩
  | x :: l,0,r,h => by cases h; exact ⟨Nat.zero_le _,rfl⟩
  | [],n + 1,r,h => by cases h
  | x :: l,n + 1,r,h => by
    obtain ⟨h1,h2⟩:=e7d l n (show dpB l n = some r from h)
    exact ⟨by simpa using h1,by simpa using h2⟩
@[simp] def tkB:List AV → Nat → Option (List AV)
  | _,0 => some []
  | [],_ + 1 => none
  | x :: l,n + 1 => match tkB l n with | some r => some (x :: r) | none => none
theorem e7e:∀ (l:List AV) (n:Nat) {r:List AV},tkB l n = some r → n ≤ l.length ∧ l.take n = r
  | [],0,r,h => by cases h; exact ⟨Nat.zero_le _,rfl⟩
  | x :: l,0,r,h => by cases h; exact ⟨Nat.zero_le _,rfl⟩
  | [],n + 1,r,h => by cases h
  | x :: l,n + 1,r,h => by
    simp only [tkB] at h
    cases ht:tkB l n with
    | none => rw [ht] at h; cases h
    | some q =>
      rw [ht] at h
      cases h
      obtain ⟨h1,h2⟩:=e7e l n ht
      exact ⟨by simpa using h1,by simpa using h2⟩
@[simp] def fl0 (f:Nat) (ag:Bool) (v:AV):Option AV:=match ag with
  | true => none
  | false => bif f == 0 then some v else none
theorem f3f {f:Nat} {ag:Bool} {v w:AV} (h:fl0 f ag v = some w):(ag = false ∧ f = 0) ∧ v = w:=by
  unfold fl0 at h
  cases ag with
  | true => cases h
  | false =>
    cases hf:(f == 0) with
    | false => simp only [hf] at h; cases h
    | true => simp only [hf] at h; cases h; exact ⟨⟨rfl,by simpa using hf⟩,rfl⟩
@[simp] def ldO (el:AV) (f sz:Nat) (ag:Bool):Option AV :=
  match el with
  | .agg cs => match ag with
    | true => match dpB cs f with
      | some r => match tkB r sz with | some q => some (.agg q) | none => none
      | none => none
    | false => lgB cs f
  | .int k n => fl0 f ag (.int k n)
  | .bool b => fl0 f ag (.bool b)
  | .str s => fl0 f ag (.str s)
  | .lst z l => fl0 f ag (.lst z l)
  | .nil => fl0 f ag .nil
  | .own o l n => fl0 f ag (.own o l n)
  | .ptr o l n => fl0 f ag (.ptr o l n)
  | .iptr o l => fl0 f ag (.iptr o l)
  | .fn o l => fl0 f ag (.fn o l)
  | _ => none
theorem e0n {el v:AV} {f sz:Nat} {ag:Bool} (h:ldO el f sz ag = some v):ldP el f sz ag ∧ ldV el f sz ag = v:=by
  unfold ldO at h
  split at h
  · rename_i cs
    split at h
    · split at h
      · rename_i r hr
        split at h
        · rename_i q hq
          cases h
          obtain ⟨h1,rfl⟩:=e7d _ _ hr
          obtain ⟨h3,rfl⟩:=e7e _ _ hq
          rw [List.length_drop] at h3
          exact ⟨by simp only [ldP]; omega,rfl⟩
        · cases h
      · cases h
    · rw [e0m] at h
      obtain ⟨h1,h2⟩:=List.getElem?_eq_some_iff.1 h
      exact ⟨h1,by simp only [ldV]; rw [List.getD_eq_getElem?_getD,h]; rfl⟩
  all_goals first
    | (obtain ⟨h1,rfl⟩:=f3f h; exact ⟨h1,rfl⟩)
    | cases h
@[simp] def binO (op:BinOp) (x y:AV):Option AV :=
  match op,x,y with
  | .add,.int .i64 a,.int .i64 b => some (.int .i64 (IntKind.i64.wrap (a + b)))
  | .sub,.int .i64 a,.int .i64 b => some (.int .i64 (IntKind.i64.wrap (a - b)))
  | .mul,.int .i64 a,.int .i64 b => some (.int .i64 (IntKind.i64.wrap (a * b)))
  | .eql,.int .i64 a,.int .i64 b => some (.bool (a == b))
  | .neq,.int .i64 a,.int .i64 b => some (.bool (a != b))
  | .lss,.int .i64 a,.int .i64 b => some (.bool (decide (a < b)))
  | .leq,.int .i64 a,.int .i64 b => some (.bool (decide (a ≤ b)))
  | .gtr,.int .i64 a,.int .i64 b => some (.bool (decide (a > b)))
  | .geq,.int .i64 a,.int .i64 b => some (.bool (decide (a ≥ b)))
  | .add,.int .u64 a,.int .u64 b => some (.int .u64 (IntKind.u64.wrap (a + b)))
  | .mul,.int .u64 a,.int .u64 b => some (.int .u64 (IntKind.u64.wrap (a * b)))
  | .eql,.int .u8 a,.int .u8 b => some (.bool (a == b))
  | .neq,.int .u8 a,.int .u8 b => some (.bool (a != b))
  | .lss,.int .u8 a,.int .u8 b => some (.bool (decide (a < b)))
  | .leq,.int .u8 a,.int .u8 b => some (.bool (decide (a ≤ b)))
  | .gtr,.int .u8 a,.int .u8 b => some (.bool (decide (a > b)))
  | .geq,.int .u8 a,.int .u8 b => some (.bool (decide (a ≥ b)))
  | .eql,.str a,.str b => some (.bool (a == b))
  | .neq,.str a,.str b => some (.bool !(a == b))
  | .lss,.str a,.str b => some (.bool (Op.bytesLess a b))
  | _,_,_ => none
theorem f0y {op:BinOp} {x y v:AV} (h:binO op x y = some v):d2k op x y ∧ c9r op x y = v:=by
  unfold binO at h
  split at h <;> first | (cases h; exact ⟨rfl,rfl⟩) | (cases h; exact ⟨trivial,rfl⟩) | cases h
@[simp] def qv (h:List l9) (bs:List (Nat × AV)):AOp → Option AV
  | .mov x => some (evB bs x)
  | .faddr off a => match evB bs a with
    | .iptr el f => some (.iptr el (f + off))
    | .ptr o i f => match hgB h o with
      | some (.box _ _) => some (.ptr o i (f + off))
      | some (.row _ _) => some (.ptr o i (f + off))
      | _ => none
    | _ => none
  | .load sz ag a => match evB bs a with
    | .iptr el f => ldO el f sz ag
    | .ptr o i f => match hgB h o with
      | some (.box _ v) => ldO v f sz ag
      | _ => none
    | _ => none
  | .field off sz ag x => match evB bs x with
    | .agg cs => ldO (.agg cs) off sz ag
    | _ => none
  | .bin op x y => binO op (evB bs x) (evB bs y)
  | .not x => match evB bs x with
    | .bool b => some (.bool !b)
    | _ => none
  | .eqB ng x y => match evB bs x,evB bs y with
    | .bool a,.bool b => match ng with
      | true => some (.bool !(a == b))
      | false => some (.bool (a == b))
    | _,_ => none
  | .extract i x => match evB bs x with
    | .tup vs => lgB vs i
    | _ => none
  | .mkfn f caps => some (.fn f (caps.map (evB bs)))
  | .convI k x => match evB bs x with
    | .int _ n => some (.int k (k.wrap n))
    | _ => none
  | .pick c a b => match evB bs c with
    | .bool true => some (evB bs a)
    | .bool false => some (evB bs b)
    | _ => none
  | _ => none
theorem e2u {P:Program} {dm:Md} {h:List l9} {bs:List (Nat × AV)} {op:AOp} {v:AV} (hq:qv h bs op = some v) {k:AV → List l9 → Prop} (hk:k v h):a5s P dm op (AX.ev (ofL bs)) h k:=by
  cases op <;> simp only [qv,d0z,e0l] at hq
  case mov x => cases hq; exact a4y rfl trivial ⟨trivial,fun _ => hk⟩
  case mkfn f caps =>
    cases hq
    refine a4y rfl trivial ⟨trivial,fun _ => ?_⟩
    have:caps.map (evB bs) = caps.map (AX.ev (ofL bs)):=List.map_congr_left (fun x _ => d0z bs x)
    simp only [aqV,← this]; exact hk
  case bin op x y =>
    obtain ⟨h1,rfl⟩:=f0y hq
    exact a4y rfl trivial ⟨h1,fun _ => hk⟩
  case faddr off a =>
    split at hq
    · rename_i e; cases hq
      exact a4y rfl (by simp only [mmT]) ⟨by simp only [aqP,e],fun _ => by simp only [aqV,e]; exact hk⟩
    · rename_i e
      split at hq
      · rename_i e2; cases hq
        exact a4y rfl (by simp only [mmT]) ⟨by simp only [aqP,e,e2],fun _ => by simp only [aqV,e]; exact hk⟩
      · rename_i e2; cases hq
        exact a4y rfl (by simp only [mmT]) ⟨by simp only [aqP,e,e2],fun _ => by simp only [aqV,e]; exact hk⟩
      · cases hq
    · cases hq
  case load sz ag a =>
    split at hq
    · rename_i e
      obtain ⟨h1,rfl⟩:=e0n hq
      exact a4y rfl (by simp only [mmT,e]) ⟨by simp only [aqP,e]; exact h1,fun _ => by simp only [aqV,e]; exact hk⟩
    · rename_i e
      split at hq
      · rename_i e2
        obtain ⟨h1,rfl⟩:=e0n hq
        exact a4y rfl (by simp only [mmT,e,e2]) ⟨by simp only [aqP,e,e2]; exact h1,fun _ => by simp only [aqV,e,e2]; exact hk⟩
      · cases hq
    · cases hq
  case field off sz ag x =>
    split at hq
    · rename_i e
      obtain ⟨h1,rfl⟩:=e0n hq
      exact a4y rfl trivial ⟨by simp only [aqP,e]; exact h1,fun _ => by simp only [aqV,e]; exact hk⟩
    · cases hq
  case not x =>
    split at hq
    · rename_i e; cases hq
      exact a4y rfl trivial ⟨by simp only [aqP,e],fun _ => by simp only [aqV,e]; exact hk⟩
    · cases hq
  case eqB ng x y =>
    split at hq
    · rename_i e1 e2
      cases ng <;> (cases hq; exact a4y rfl trivial ⟨by simp only [aqP,e1,e2],fun _ => by simp only [aqV,e1,e2]; exact hk⟩)
    · cases hq
  case extract i x =>
    split at hq
    · rename_i e
      rw [e0m] at hq
      obtain ⟨h1,h2⟩:=List.getElem?_eq_some_iff.1 hq
      exact a4y rfl trivial ⟨by simp only [aqP,e]; exact h1,fun _ => by simp only [aqV,e]; rw [List.getD_eq_getElem?_getD,hq]; exact hk⟩
    · cases hq
  case convI k x =>
    split at hq
    · rename_i e; cases hq
      exact a4y rfl trivial ⟨by simp only [aqP,e],fun _ => by simp only [aqV,e]; exact hk⟩
    · cases hq
  case pick c a b =>
    split at hq
    · rename_i e; cases hq
      exact a4y rfl trivial ⟨by simp only [aqP,e],fun _ => by simp only [aqV,e]; exact hk⟩
    · rename_i e; cases hq
      exact a4y rfl trivial ⟨by simp only [aqP,e],fun _ => by simp only [aqV,e]; exact hk⟩
    · cases hq
  all_goals cases hq
@[simp] def gval (h:List l9) (bs:List (Nat × AV)) (op:AOp):Option (Nat × Bool) → Option AV
  | none => qv h bs op
  | some (s,b) => match getB bs s with
    | .bool true => match b with
      | true => qv h bs op
      | false => some .skip
    | .bool false => match b with
      | false => qv h bs op
      | true => some .skip
    | .skip => some .skip
    | _ => none
@[simp] def stp (h:List l9):Option (a1m × List (Nat × AV)) → Option (a1m × List (Nat × AV))
  | some (.q ⟨some d,g,op⟩ n,bs) => match gval h bs op g with
    | some v => some (n,(d,v) :: bs)
    | none => none
  | _ => none
@[simp] def itr (h:List l9):Nat → Option (a1m × List (Nat × AV)) → Option (a1m × List (Nat × AV))
  | 0,x => x
  | k + 1,x => itr h k (stp h x)
theorem d1a (h:List l9):∀ k,itr h k none = none
  | 0 => rfl
  | k + 1 => d1a h k
section
variable {P:Program} {dm:Md} {h:List l9} {K:(Nat → AV) → List l9 → Prop} {n0:Nat} {b:a0w} {Q:AQ}
theorem c1o:∀ (k:Nat) (T:a1m) (bs:List (Nat × AV)) {T':a1m} {bs':List (Nat × AV)},itr h k (some (T,bs)) = some (T',bs') → a1g P dm T' (ofL bs') h K → a1g P dm T (ofL bs) h K
  | 0,T,bs,T',bs',hr,hx => by cases hr; exact hx
  | k + 1,T,bs,T',bs',hr,hx => by
    have hr:itr h k (stp h (some (T,bs))) = some (T',bs'):=hr
    unfold stp at hr
    split at hr
    · rename_i d g op n bs0 e
      cases e
      split at hr
      · rename_i v hv
        have ih:=fun (hq:a1g P dm n (ofL ((d,v) :: bs)) h K) => hq
        have hn:=c1o k n _ hr hx
        cases g with
        | none => exact a0x (h':=h) (v:=v) (fun k' hk => e2u hv hk) hn
        | some sb =>
          obtain ⟨s,b⟩:=sb
          simp only [gval,d4z] at hv
          split at hv
          · rename_i e
            cases b with
            | true => exact s_on e (a0x (h':=h) (v:=v) (fun k' hk => e2u hv hk) hn)
            | false => cases hv; exact e2s e rfl hn
          · rename_i e
            cases b with
            | false => exact s_on e (a0x (h':=h) (v:=v) (fun k' hk => e2u hv hk) hn)
            | true => cases hv; exact e2s e rfl hn
          · rename_i e; cases hv; exact e0g e hn
          · cases hv
      · rw [d1a] at hr; cases hr
    · rw [d1a] at hr; cases hr
theorem go {T T':a1m} {bs bs':List (Nat × AV)} (k:Nat) (hx:a1g P dm T' (ofL bs') h K) (hr:itr h k (some (T,bs)) = some (T',bs'):=by dsimp):a1g P dm T (ofL bs) h K:=c1o k T bs hr hx
theorem gd {T:a1m} {bs bs':List (Nat × AV)} (k:Nat) (hx:K (ofL bs') h) (hr:itr h k (some (T,bs)) = some (.done,bs'):=by dsimp):a1g P dm T (ofL bs) h K:=c1o k T bs hr hx
theorem gq {T:a1m} {bs bs':List (Nat × AV)} (k:Nat) (hx:awp P dm n0 b (ofL bs') h Q) (hr:itr h k (some (T,bs)) = some (.done,bs'):=by dsimp):a1g P dm T (ofL bs) h (kN (b7w (awp P dm n0 b) Q)):=c1o k T bs hr hx
end
end Go.R
end
section
set_option linter.all false
namespace Go.R
open Go
abbrev fa (d o a:Nat) (n:a1m):a1m:=tq d (.faddr o (.t a)) n
abbrev ld (d s a:Nat) (n:a1m):a1m:=tq d (.load s false (.t a)) n
abbrev la (d s a:Nat) (n:a1m):a1m:=tq d (.load s true (.t a)) n
abbrev fl (d e o a s:Nat) (n:a1m):a1m:=fa d o a (ld e s d n)
abbrev mv (d a:Nat) (n:a1m):a1m:=tm d (.t a) n
abbrev iad (d z a i:Nat) (n:a1m):a1m:=tq d (.iaddr z (.t a) (.t i)) n
abbrev bt (d:Nat) (o:BinOp) (a b:Nat) (n:a1m):a1m:=tq d (.bin o (.t a) (.t b)) n
abbrev bi (d:Nat) (o:BinOp) (a:Nat) (k:Int) (n:a1m):a1m:=tq d (.bin o (.t a) (.c (.int .i64 k))) n
abbrev im (d:Nat) (k:Int) (n:a1m):a1m:=tm d (.c (.int .i64 k)) n
abbrev lg (d a:Nat) (n:a1m):a1m:=tq d (.len (.t a)) n
@[simp] def ovB:List AV → List AV → List AV
  | cs,[] => cs
  | [],x :: new => x :: new
  | _ :: cs,x :: new => x :: ovB cs new
theorem e7f:∀ cs new:List AV,ovB cs new = new ++ cs.drop new.length
  | cs,[] => by cases cs <;> rfl
  | [],x :: new => by simp [ovB]
  | c :: cs,x :: new => by simp [ovB,e7f cs new]
@[simp] def ptB:List AV → Nat → List AV → List AV
  | cs,0,new => ovB cs new
  | [],_ + 1,new => new
  | x :: cs,n + 1,new => x :: ptB cs n new
theorem e7g:∀ (cs:List AV) (n:Nat) (new:List AV),putCells cs n new = ptB cs n new
  | cs,0,new => by simp [putCells,ptB,e7f]
  | [],n + 1,new => by simp [putCells,ptB]
  | x :: cs,n + 1,new => by
    have:=e7g cs n new
    simp only [putCells] at this
    simp only [putCells,ptB,← this]
    have e:n + 1 + new.length = n + new.length + 1:=by omega
    rw [e]; rfl
@[simp] def celB (y:AV) (f:Nat) (v:AV):AV:=match y with
  | .agg cs => .agg (ptB cs f v.cells)
  | _ => v
theorem f0z (y:AV) (f:Nat) (v:AV):a4l y f v = celB y f v:=by
  cases y <;> simp only [a4l,celB,e7g]
def pkT (rs:List a2t) (d:Nat):Option a2t:=bif Nat.blt d 1000 then rs.find? (fun r => r.dst == some d) else (rs.filter (fun r => r.dst == none))[d - 1000]?
def f3g (rs:List a2t):Nat → Nat → a1m → a1m
  | _,0,T => T
  | d,n + 1,T => match pkT rs d with
    | some r => .q r (f3g rs (d + 1) n T)
    | none => .fail
def e7h (rs:List a2t):List (List Nat) → a1m
  | [] => .done
  | [] :: l => e7h rs l
  | [d] :: l => f3g rs d 1 (e7h rs l)
  | (d :: 0 :: re) :: l => match pkT rs d with
    | some r => .l r (re.filterMap (pkT rs)) (e7h rs l) .non
    | none => .fail
  | (d :: e :: _) :: l => f3g rs d (e + 1 - d) (e7h rs l)
def c0e (sp:List (Nat × List (List Nat))) (P:Program) (N:Nat):Code → Nat → Option a0w × Nat
  | .region i ops draw,k => match ocs P ops N ops.toList with
    | none => (none,k + 1)
    | some rs => match draw with
      | false => (some (.reg (lin rs)),k + 1)
      | true => match sp.lookup k with
        | some o => (some (.reg (e7h rs o)),k + 1)
        | none => (a6n P N (.region i ops true),k + 1)
  | .seq a b,k => match c0e sp P N a k with
    | (some a,k) => match c0e sp P N b k with
      | (some b,k) => (some (.seq a b),k)
      | (none,k) => (none,k)
    | (none,k) => (none,k)
  | .cond c a b,k => match cx c with
    | some c => match c0e sp P N a k with
      | (some a,k) => match c0e sp P N b k with
        | (some b,k) => (some (.cond c a b),k)
        | (none,k) => (none,k)
      | (none,k) => (none,k)
    | none => (none,k)
  | .block id c,k => match c0e sp P N c k with
    | (some c,k) => (some (.block id c),k)
    | (none,k) => (none,k)
  | .loop c,k => match c0e sp P N c k with
    | (some c,k) => (some (.loop c),k)
    | (none,k) => (none,k)
  | .scope c,k => c0e sp P N c k
  | c,k => (a6n P N c,k)
def c3s (sp:List (Nat × List (List Nat))) (P:Program) (fn:Func):Option (a0w × List AOp × Nat):=match fn.body,d2n P fn.results.toList with
  | some c,some s => match (c0e sp P fn.ntmps c 0).1 with
    | some a => some (a,s,fn.ntmps)
    | none => none
  | _,_ => none
def wrC:List Nat → Nat → a0w → a0w
  | [],_,c => c
  | m :: ms,n,c => bif m / 2 == n then (bif m % 2 == 0 then .cut (wrC ms n c) else .rev (wrC ms n c)) else wrC ms n c
def d5a (ms:List Nat):a0w → Nat → a0w × Nat
  | .seq a b,n => match d5a ms a (n + 1) with
    | (a',n1) => match d5a ms b n1 with
      | (b',n2) => (wrC ms n (.seq a' b'),n2)
  | .cond x a b,n => match d5a ms a (n + 1) with
    | (a',n1) => match d5a ms b n1 with
      | (b',n2) => (wrC ms n (.cond x a' b'),n2)
  | .block i a,n => match d5a ms a (n + 1) with
    | (a',n1) => (wrC ms n (.block i a'),n1)
  | .loop a,n => match d5a ms a (n + 1) with
    | (a',n1) => (wrC ms n (.loop a'),n1)
  | c,n => (wrC ms n c,n + 1)
def cfr:a0w → Bool
  | .seq a b => cfr a && cfr b
  | .cond _ a b => cfr a && cfr b
  | .block _ a => cfr a
  | .loop a => cfr a
  | .cut _ => false
  | .rev _ => false
  | _ => true
theorem f2j (n:Nat) (c:a0w):∀ ms,(wrC ms n c).erase = c.erase
  | [] => rfl
  | m :: ms => by
    have ih:=f2j n c ms
    simp only [wrC]
    cases m / 2 == n <;> cases m % 2 == 0 <;> simpa [a0w.erase] using ih
theorem f3h (ms:List Nat):∀ (c:a0w) (n:Nat),cfr c = true → ((d5a ms c n).1).erase = c:=by
  intro c
  induction c <;> intro n h <;> simp only [cfr,Bool.and_eq_true,reduceCtorEq] at h <;> simp_all [d5a,f2j,a0w.erase]
def d5b (sp:List (Nat × List (List Nat))) (ms:List Nat) (P:Program) (fn:Func):Option (a0w × List AOp × Nat):=match c3s sp P fn with
  | some (c,s,N) => match cfr c with
    | true => some ((d5a ms c 0).1,s,N)
    | false => none
  | none => none
theorem d3x {sp:List (Nat × List (List Nat))} {ms:List Nat} {P:Program} {fn:Func} {ac:a0w} {s:List AOp} {N:Nat} (h0:b7m P fn = c3s sp P fn) (h:d5b sp ms P fn = some (ac,s,N)):b7m P fn = some (ac.erase,s,N):=by
  rw [h0]
  unfold d5b at h
  split at h
  · rename_i c s' N' e
    split at h
    · rename_i hc
      cases h
      rw [f3h ms c 0 hc]; exact e
    · cases h
  · cases h
section
variable {P:Program} {dm:Md} {n0:Nat} {m:Bool} {t:Nat → AV} {h:List l9} {Q:AQ} {X:Type} {S:X → List (Nat × AV) × List l9} {μ:X → Nat} {x:X}
theorem co {f:Nat} {cm:CM} {args:List AV} {r:AV} {fn:Func} {ac:a0w} {slots:List AOp} {N:Nat} {bs:List (Nat × AV)} {d:Bool} (ms:List Nat) (hf:P.funcs[f]? = some fn) (hk:awp P (d:Bool) 0 ac (ofL bs) [] (d7r false cm slots r)) (sp:List (Nat × List (List Nat)):=[]) (h0:b7m P fn = c3s sp P fn:=by kernel_rfl) (hc:d5b sp ms P fn = some (ac,slots,N):=by conv => lhs; cbv) (hm:P.follows .mixedOrders = true:=by exact mixed) (hl:args.length ≤ N:=by exact nle) (hb:b8a 0 args = bs:=by dsimp only [b8a]) (hd:cmD cm = d:=by dsimp only [cmD]):a0k P f cm args r:=by
  subst hb hd
  exact a0k.of_awp hm hf (d3x h0 hc) hl (by rw [c4z]; exact hk)
theorem cop {f:Nat} {cm:CM} {args:List AV} {r:AV} {fn:Func} {ac:a0w} {slots:List AOp} {N:Nat} {bs:List (Nat × AV)} {d:Bool} (hf:P.funcs[f]? = some fn) (hc:b7m P fn = some (ac.erase,slots,N)) (hk:awp P (d:Bool) 0 ac (ofL bs) [] (d7r false cm slots r)) (hm:P.follows .mixedOrders = true:=by exact mixed) (hl:args.length ≤ N:=by exact nle) (hb:b8a 0 args = bs:=by dsimp only [b8a]) (hd:cmD cm = d:=by dsimp only [cmD]):a0k P f cm args r:=by
  subst hb hd
  exact a0k.of_awp hm hf hc hl (by rw [c4z]; exact hk)
theorem coh {f:Nat} {args:List AV} {hin hout:List l9} {r:AV} {fn:Func} {ac:a0w} {slots:List AOp} {N:Nat} {bs:List (Nat × AV)} {k:Nat} (ms:List Nat) (hf:P.funcs[f]? = some fn) (hk:awp P dm k ac (ofL bs) hin (e6u dm.m k slots r hout)) (sp:List (Nat × List (List Nat)):=[]) (h0:b7m P fn = c3s sp P fn:=by kernel_rfl) (hc:d5b sp ms P fn = some (ac,slots,N):=by conv => lhs; cbv) (hm:P.follows .mixedOrders = true:=by exact mixed) (hl:args.length ≤ N:=by exact nle) (hb:b8a 0 args = bs:=by dsimp only [b8a]) (hz:dm.z = false:=by rfl) (hk0:hin.length = k:=by rfl):a1l P dm f args hin r hout:=by
  subst hb hk0
  exact a1l.of_awp hm hf (d3x h0 hc) hl (by rw [c4z]; exact hk) hz
theorem rf {os:List AOp} {r:AV} (hp:c1y m t h os:=by exact ⟨trivial,trivial⟩) (hf:rflats (b9b t h os) = true:=by rfl) (hl:Le (pack (b9b t h os)) r:=by exact .refl _):d7r m .flat os r .ret t h:=a8s hp hf hl
theorem ck {s:List (Nat × AV) × List l9} (js:List Nat) (hk:b3r n0 h.length js = true:=by rfl) (hf:d0u (a7k js) t s.1:=by repeat first | exact trivial | refine ⟨.refl _,?_⟩ | refine ⟨.of_eq (congrArg (AV.int _) (a5b (by assumption) (by assumption))),?_⟩) (hh:LeH (b1v h js) s.2:=by exact .refl _):b1w m n0 t h s:=⟨[],js,_,_,rfl,hk,hf,hh⟩
theorem kl (y:X) (js:List Nat) (hy:μ y < μ x:=by first | exact mul (by assumption) | exact Nat.lt_succ_self _) (hk:b3r n0 h.length js = true:=by rfl) (hf:d0u (a7k js) t (S y).1:=by repeat first | exact trivial | refine ⟨.refl _,?_⟩ | refine ⟨.of_eq (congrArg (AV.int _) (a5b (by assumption) (by assumption))),?_⟩) (hh:LeH (b1v h js) (S y).2:=by exact .refl _):c4r m n0 S μ x Q .norm t h:=⟨y,hy,ck js hk hf hh⟩
theorem kk (y:X) (js:List Nat) (hk:b3r n0 h.length js = true:=by rfl) (hf:d0u (a7k js) t (S y).1:=by repeat first | exact trivial | refine ⟨.refl _,?_⟩ | refine ⟨.of_eq (congrArg (AV.int _) (a5b (by assumption) (by assumption))),?_⟩) (hh:LeH (b1v h js) (S y).2:=by exact .refl _):d0v m n0 S Q .norm t h:=⟨y,ck js hk hf hh⟩
theorem al {body:a0w} {id:Nat} (S:X → List (Nat × AV) × List l9) (μ:X → Nat) (x0:X) (js:List Nat) (h1:∀ x,awp P dm n0 body (ofL (S x).1) (S x).2 (c4r dm.m n0 S μ x (a8r id Q))) (hk:b3r n0 h.length js = true:=by rfl) (hf:d0u (a7k js) t (S x0).1:=by repeat first | exact trivial | refine ⟨.refl _,?_⟩ | refine ⟨.of_eq (congrArg (AV.int _) (a5b (by assumption) (by assumption))),?_⟩) (hh:LeH (b1v h js) (S x0).2:=by exact .refl _):awp P dm n0 (.block id (.loop body)) t h Q:=a3s S μ x0 (ck js hk hf hh) h1
theorem wc {a:a0w} (s:List (Nat × AV) × List l9) (js:List Nat) (hn:awp P dm n0 a (ofL s.1) s.2 Q) (hk:b3r n0 h.length js = true:=by rfl) (hf:d0u (a7k js) t s.1:=by repeat first | exact trivial | refine ⟨.refl _,?_⟩ | refine ⟨.of_eq (congrArg (AV.int _) (a5b (by assumption) (by assumption))),?_⟩) (hh:LeH (b1v h js) s.2:=by exact .refl _):awp P dm n0 (.cut a) t h Q:=⟨s,ck js hk hf hh,hn⟩
end
section
variable {P:Program} {dm:Md} {n0:Nat} {bs:List (Nat × AV)} {h h2:List l9} {n other:a1m} {re:List a2t} {d:Nat} {K:(Nat → AV) → List l9 → Prop} {Q:AQ} {α:Type} {enc:α → AV} {l:List α} {e:α}
theorem sg {op:AOp} {s:Nat} {b v:Bool} (V:AV) (hn:a1g P dm n (ofL ((d,gs v b V) :: bs)) h K) (ht:ofL bs s = .bool v:=by rfl) (hon:v = b → op.quiet = true ∧ aqQ dm.m op (AX.ev (ofL bs)) h ∧ aqV op (AX.ev (ofL bs)) h = V:=by intro hv; (try simp only [a2u hv]); first | exact ⟨rfl,trivial,rfl⟩ | exact ⟨rfl,nle,rfl⟩ | exact ⟨rfl,rfl,rfl⟩):a1g P dm (.q ⟨some d,some (s,b),op⟩ n) (ofL bs) h K:=s_g V ht hon hn
theorem bx {x:AX} {c:AV} {sz j:Nat} (hn:a1g P dm n (ofL ((d,.ptr j 0 0) :: bs)) h2 K) (hv:evB bs x = c:=by dsimp) (hs:a6f h c:=by exact trivial) (hl:c.cells.length = sz:=by rfl) (hj:h.length = j:=by dsimp) (hh:h ++ [.box sz c] = h2:=by dsimp):a1g P dm (.q ⟨some d,none,.box sz x⟩ n) (ofL bs) h K:=by
  subst hh
  exact a0x (b6w ((d0z bs x).symm.trans hv) hs hl hj) hn
theorem sb {a x:AX} {o j f z sz:Nat} {y v:AV} (hn:a1g P dm n (ofL bs) h2 K) (ha:evB bs a = .ptr o j f:=by dsimp) (ho:hgB h o = some (.box z y):=by dsimp) (hx:evB bs x = v:=by dsimp) (hs:a6f h v:=by exact trivial) (hp:b1u y f sz v:=by first | exact ⟨rfl,nle⟩ | exact ⟨rfl,rfl,rfl⟩) (hl:c3j h v.cells:=by repeat first | exact trivial | refine ⟨⟨rfl,trivial⟩,?_⟩) (hh:h.set o (.box z (celB y f v)) = h2:=by dsimp [AV.cells]):a1g P dm (.q ⟨none,none,.store sz a x⟩ n) (ofL bs) h K:=by
  subst hh
  exact a7p (a3y ((d0z bs a).symm.trans ha) ((e0l h o).symm.trans ho) ((d0z bs x).symm.trans hx) hs hp hl (f0z y f v)) hn
theorem ln {z:Nat} {x:AX} (hn:l.length ≤ maxLen → a1g P dm n (ofL ((d,.int .i64 l.length) :: bs)) h K) (hx:x.ev (ofL bs) = .lst z (l.map enc):=by rfl):a1g P dm (.q ⟨some d,none,.len x⟩ n) (ofL bs) h K:=b1x (d0w hx) hn
theorem lnS {x:AX} {s:Str} (hn:s.length ≤ maxLen → a1g P dm n (ofL ((d,.int .i64 s.length) :: bs)) h K) (hx:x.ev (ofL bs) = .str s:=by rfl):a1g P dm (.q ⟨some d,none,.lenS x⟩ n) (ofL bs) h K:=b1x (f3d hx) hn
theorem ia {z j:Nat} {k:IntKind} {x i:AX} (hl:l[j]? = some e) (hn:a1g P dm n (ofL ((d,.iptr (enc e) 0) :: bs)) h K) (hx:x.ev (ofL bs) = .lst z (l.map enc):=by rfl) (hi:i.ev (ofL bs) = .int k (j:Int):=by rfl):a1g P dm (.q ⟨some d,none,.iaddr z x i⟩ n) (ofL bs) h K:=a0x (b6v hx hi hl) hn
theorem ix {z:Nat} {j:Int} {k:IntKind} {x i:AX} (hl:idx l j = some e) (hn:a1g P dm n (ofL ((d,.iptr (enc e) 0) :: bs)) h K) (hx:x.ev (ofL bs) = .lst z (l.map enc):=by rfl) (hi:i.ev (ofL bs) = .int k j:=by rfl):a1g P dm (.q ⟨some d,none,.iaddr z x i⟩ n) (ofL bs) h K:=a0x (c9o hx hi (f0o hl) (f0p hl)) hn
theorem cl {f:Nat} {args:List AX} {cs bs':List AV} {r:AV} (hc:a0k P f .flat bs' r) (hn:a1g P dm n (ofL ((d,r) :: bs)) h K) (hb:closes h (args.map (AX.ev (ofL bs))) = some cs:=by rfl) (hl:LeL cs bs':=by exact .refl _):a1g P dm (.q ⟨some d,none,.call f args⟩ n) (ofL bs) h K:=a0x (b3c hc hb hl rfl) hn
theorem cll {f:Nat} {args:List AX} {cs bs':List AV} {r:AV} (hc:a0k P f .flat bs' r) (hn:a1g P dm n (ofL ((d,r) :: bs)) h K) (ho:a1g P dm other (ofL bs) h K:=by exact trivial) (hb:closes h (args.map (AX.ev (ofL bs))) = some cs:=by rfl) (hl:LeL cs bs':=by exact .refl _):a1g P dm (.l ⟨some d,none,.call f args⟩ re n other) (ofL bs) h K:=a4s (b3c hc hb hl rfl) c6r ho hn
theorem cf {f:Nat} {args:List AX} {cs bs':List AV} {r:AV} (v:AV) (h':List l9) (hc:a0k P f .fresh bs' r) (hn:a1g P dm n (ofL ((d,v) :: bs)) (h ++ h') K) (hb:closes h (args.map (AX.ev (ofL bs))) = some cs:=by rfl) (hl:LeL cs bs':=by exact .refl _) (hv:a1u h.length r = (v,h'):=by simp only [a1u,a1w,a0m,List.length_map,List.nil_append,List.append_nil,List.cons_append]; rfl):a1g P dm (.q ⟨some d,none,.call f args⟩ n) (ofL bs) h K:=a0x (a2r hc hb hl hv) hn
theorem sl {T:a1m} (s:Nat) {e:Bool} (he:e = true) (hn:a1g P dm T (ofL ((s,.bool true) :: bs)) h K) (ht:ofL bs s = .bool e:=by rfl):a1g P dm T (ofL bs) h K:=e2r ht he hn
theorem sf {T:a1m} (s:Nat) {e:Bool} (he:¬ e = true) (hn:a1g P dm T (ofL ((s,.bool false) :: bs)) h K) (ht:ofL bs s = .bool e:=by rfl):a1g P dm T (ofL bs) h K:=e2r ht (bf he) hn
theorem wt {a b:a0w} {s:Nat} {e:Bool} (he:e = true) (hn:awp P dm n0 a (ofL ((s,.bool true) :: bs)) h Q) (ht:ofL bs s = .bool e:=by rfl):awp P dm n0 (.cond (.t s) a b) (ofL bs) h Q:=c9n ht he hn
theorem wf {a b:a0w} {s:Nat} {e:Bool} (he:¬ e = true) (hn:awp P dm n0 b (ofL ((s,.bool false) :: bs)) h Q) (ht:ofL bs s = .bool e:=by rfl):awp P dm n0 (.cond (.t s) a b) (ofL bs) h Q:=c4w ht (bf he) hn
theorem wg {a b:a0w} {s:Nat} {e:Bool} (he:e = false) (hn:awp P dm n0 b (ofL ((s,.bool false) :: bs)) h Q) (ht:ofL bs s = .bool e:=by rfl):awp P dm n0 (.cond (.t s) a b) (ofL bs) h Q:=c4w ht he hn
theorem le {m:Bool} {t:Nat → AV} {X:Type} {S:X → List (Nat × AV) × List l9} {μ:X → Nat} {x:X} {F:(Nat → AV) → List l9 → AQ → Prop} {id:Nat} (hn:Q .norm t h):awp P dm n0 (.exit id) t h (b7w F (c4r m n0 S μ x (a8r id Q))):=c3q<|c3p<|c4v<|c3o hn
end
@[simp] def kpB (bs:List (Nat × AV)):List Nat → List (Nat × AV)
  | [] => []
  | k :: ks => (k,getB bs k) :: kpB bs ks
section
variable {P:Program} {dm:Md} {n0:Nat} {bs L0:List (Nat × AV)} {h:List l9} {Q:AQ} {X:Type} {a b:a0w} {id:Nat}
theorem ah {body:a0w} (ks:List Nat) (V:X → List (Nat × AV)) (μ:X → Nat) (x0:X) (h1:∀ x,awp P dm n0 body (ofL (V x ++ L0)) h (c4r dm.m n0 (fun q => (V q ++ L0,h)) μ x (a8r id Q))) (hL:kpB bs ks = L0:=by dsimp) (hk:b3r n0 h.length (List.range h.length) = true:=by rfl) (hf:d0u (a7k (List.range h.length)) (ofL bs) (V x0 ++ L0):=by repeat first | exact trivial | refine ⟨.refl _,?_⟩ | refine ⟨.of_eq (congrArg (AV.int _) (a5b (by assumption) (by assumption))),?_⟩) (hh:LeH (b1v h (List.range h.length)) h:=by exact .refl _):awp P dm n0 (.block id (.loop body)) (ofL bs) h Q:=a3s (fun q => (V q ++ L0,h)) μ x0 (ck _ hk hf hh) h1
theorem ac (ks:List Nat) (V:List (Nat × AV)) (h1:awp P dm n0 a (ofL bs) h (e0f dm.m n0 (V ++ L0,h) Q)) (h2:awp P dm n0 b (ofL (V ++ L0)) h Q) (hL:kpB bs ks = L0:=by dsimp):awp P dm n0 a (ofL bs) h (b7w (awp P dm n0 (.cut b)) Q):=a1r (V ++ L0,h) h1 h2
theorem acb (ks:List Nat) (V:List (Nat × AV)) (h1:awp P dm n0 a (ofL bs) h (a8r id (e0f dm.m n0 (V ++ L0,h) Q))) (h2:awp P dm n0 b (ofL (V ++ L0)) h Q) (hL:kpB bs ks = L0:=by dsimp):awp P dm n0 a (ofL bs) h (a8r id (b7w (awp P dm n0 (.cut b)) Q)):=b7x (V ++ L0,h) h1 h2
theorem ax (ks:List Nat) (V:X → List (Nat × AV)) (h1:awp P dm n0 a (ofL bs) h (d0v dm.m n0 (fun q => (V q ++ L0,h)) Q)) (h2:∀ x,awp P dm n0 b (ofL (V x ++ L0)) h Q) (hL:kpB bs ks = L0:=by dsimp):awp P dm n0 a (ofL bs) h (b7w (awp P dm n0 (.cut b)) Q):=a8v (fun q => (V q ++ L0,h)) h1 h2
theorem axb (ks:List Nat) (V:X → List (Nat × AV)) (h1:awp P dm n0 a (ofL bs) h (a8r id (d0v dm.m n0 (fun q => (V q ++ L0,h)) Q))) (h2:∀ x,awp P dm n0 b (ofL (V x ++ L0)) h Q) (hL:kpB bs ks = L0:=by dsimp):awp P dm n0 a (ofL bs) h (a8r id (b7w (awp P dm n0 (.cut b)) Q)):=c6q (fun q => (V q ++ L0,h)) h1 h2
end
end Go.R
end
section
set_option linter.all false
namespace Go.R
open Go
structure An:Type 1 where
  δ:Type
  k:Nat
  ks:List Nat
  V:δ
  f:a0w → a0w
  e:∀ c,(f c).erase = c.erase
def aC (δ:Type) (k:Nat) (ks:List Nat) (V:δ):An:=⟨δ,k,ks,V,.cut,fun _ => rfl⟩
def aL (δ:Type) (k:Nat) (ks:List Nat) (V:δ):An:=⟨δ,k,ks,V,fun c => c,fun _ => rfl⟩
def cA {α:Type} (ks:List Nat) (V:α → List (Nat × AV)):An:=aC _ 0 ks V
def fA {α:Type} (ks:List Nat) (V:α → List (Nat × AV)):An:=aC _ 1 ks V
def lI (ks:List Nat) (V:Nat → List (Nat × AV)):An:=aL _ 2 ks V
def lN (ks:List Nat) (V:Nat → List (Nat × AV)):An:=aL _ 3 ks V
def lA {α:Type} (ks:List Nat) (V:Nat → α → List (Nat × AV)):An:=aL _ 4 ks V
def lIA {α:Type} (ks:List Nat) (V:Nat → α → List (Nat × AV)):An:=aL _ 5 ks V
def lAI {α:Type} (ks:List Nat) (V:Nat → α → List (Nat × AV)):An:=aL _ 6 ks V
def lk:List Nat → List An → Nat → An
  | n :: ns,a :: as,k => bif k == n then a else lk ns as k
  | _,_,_ => aL Unit 9 [] ()
def wrA (A:Nat → a0w → a0w) (ms:List Nat) (n:Nat) (c:a0w):a0w:=bif ms.elem n then A n c else c
def d5c (A:Nat → a0w → a0w) (ms:List Nat):a0w → Nat → a0w × Nat
  | .seq a b,n => match d5c A ms a (n + 1) with
    | (a',n1) => match d5c A ms b n1 with
      | (b',n2) => (wrA A ms n (.seq a' b'),n2)
  | .cond x a b,n => match d5c A ms a (n + 1) with
    | (a',n1) => match d5c A ms b n1 with
      | (b',n2) => (wrA A ms n (.cond x a' b'),n2)
  | .block i a,n => match d5c A ms a (n + 1) with
    | (a',n1) => (wrA A ms n (.block i a'),n1)
  | .loop a,n => match d5c A ms a (n + 1) with
    | (a',n1) => (wrA A ms n (.loop a'),n1)
  | c,n => (wrA A ms n c,n + 1)
theorem f3k {A:Nat → a0w → a0w} (hA:∀ n c,(A n c).erase = c.erase) (ms:List Nat):∀ (c:a0w) (n:Nat),cfr c = true → ((d5c A ms c n).1).erase = c:=by
  have hw:∀ n c,(wrA A ms n c).erase = c.erase:=by
    intro n c; unfold wrA; cases ms.elem n
    · rfl
    · exact hA n c
  intro c
  induction c <;> intro n h <;> simp only [cfr,Bool.and_eq_true,reduceCtorEq] at h <;> simp_all [d5c,a0w.erase]
def e0o (sp:List (Nat × List (List Nat))) (A:Nat → a0w → a0w) (ms:List Nat) (P:Program) (fn:Func):Option (a0w × List AOp × Nat):=match c3s sp P fn with
  | some (c,s,N) => match cfr c with
    | true => some ((d5c A ms c 0).1,s,N)
    | false => none
  | none => none
theorem e4e {sp:List (Nat × List (List Nat))} {A:Nat → a0w → a0w} (hA:∀ n c,(A n c).erase = c.erase) {ms:List Nat} {P:Program} {fn:Func} {ac:a0w} {s:List AOp} {N:Nat} (h0:b7m P fn = c3s sp P fn) (h:e0o sp A ms P fn = some (ac,s,N)):b7m P fn = some (ac.erase,s,N):=by
  rw [h0]
  unfold e0o at h
  split at h
  · rename_i c s' N' e
    split at h
    · rename_i hc
      cases h
      rw [f3k hA ms c 0 hc]; exact e
    · cases h
  · cases h
section
variable {P:Program} {dm:Md} {n0:Nat} {bs L0:List (Nat × AV)} {h:List l9} {Q:AQ} {a b:a0w} {id:Nat} {ks:List Nat} {α β ρ τ:Type} {r:β}
theorem coA {f:Nat} {cm:CM} {args:List AV} {r:AV} {fn:Func} {ac:(Nat → a0w → a0w) → a0w} {ac2:a0w} {slots:List AOp} {N:Nat} {d:Bool} (ms:List Nat) (as:List An) (hf:P.funcs[f]? = some fn) (hk:awp P (d:Bool) 0 ac2 (ofL bs) [] (d7r false cm slots r)) (sp:List (Nat × List (List Nat)):=[]) (h0:b7m P fn = c3s sp P fn:=by kernel_rfl) (hc:∀ A,e0o sp A ms P fn = some (ac A,slots,N):=by intro A; conv => lhs; cbv) (h2:ac (fun n c => (lk ms as n).f c) = ac2:=by dsimp [lk]) (hm:P.follows .mixedOrders = true:=by exact mixed) (hl:args.length ≤ N:=by exact nle) (hb:b8a 0 args = bs:=by dsimp only [b8a]) (hd:cmD cm = d:=by dsimp only [cmD]):a0k P f cm args r:=by
  subst hb hd h2
  exact a0k.of_awp hm hf (e4e (fun n c => (lk ms as n).e c) h0 (hc _)) hl (by rw [c4z]; exact hk)
@[simp] def itm (h:List l9):Nat → a1m → List (Nat × AV) → Option (a1m × List (Nat × AV)) → a1m × List (Nat × AV)
  | 0,T,bs,_ => (T,bs)
  | _ + 1,T,bs,none => (T,bs)
  | k + 1,_,_,some (T,bs) => itm h k T bs (stp h (some (T,bs)))
theorem e7j {K:(Nat → AV) → List l9 → Prop}:∀ (k:Nat) {T T':a1m} {bs bs':List (Nat × AV)},itm h k T bs (stp h (some (T,bs))) = (T',bs') → a1g P dm T' (ofL bs') h K → a1g P dm T (ofL bs) h K
  | 0,T,T',bs,bs',hr,hx => by simp only [itm] at hr; cases hr; exact hx
  | k + 1,T,T',bs,bs',hr,hx => by
    cases hs:stp h (some (T,bs)) with
    | none => rw [hs] at hr; simp only [itm] at hr; cases hr; exact hx
    | some q =>
      obtain ⟨T1,bs1⟩:=q
      rw [hs] at hr; simp only [itm] at hr
      exact c1o 1 T bs (show itr h 0 (stp h (some (T,bs))) = some (T1,bs1) from hs) (e7j k hr hx)
theorem gM {K:(Nat → AV) → List l9 → Prop} {T T1 T':a1m} {bs1 bs':List (Nat × AV)} (hx:a1g P dm T' (ofL bs') h K) (h1:stp h (some (T,bs)) = some (T1,bs1):=by dsimp) (h2:itm h 300 T1 bs1 (stp h (some (T1,bs1))) = (T',bs'):=by dsimp):a1g P dm T (ofL bs) h K :=
  c1o 1 T bs (show itr h 0 (stp h (some (T,bs))) = some (T1,bs1) from h1) (e7j _ h2 hx)
theorem wCu {r:ρ} {x:Option α} {f:α → Option ρ} {V:α → List (Nat × AV)} (hf:Option.bind x f = some r) (h1:∀ v,x = some v → awp P dm n0 a (ofL bs) h (e0f dm.m n0 (V v ++ L0,h) Q)) (h2:∀ v,f v = some r → awp P dm n0 b (ofL (V v ++ L0)) h Q) (hL:kpB bs ks = L0:=by dsimp):awp P dm n0 a (ofL bs) h (b7w (awp P dm n0 ((cA ks V).f b)) Q):=by
  obtain ⟨v,e,hf⟩:=ob hf
  exact a1r (V v ++ L0,h) (h1 v e) (h2 v hf)
theorem f5x {r:ρ} {x:Option α} {f:α → Option ρ} {V:α → List (Nat × AV)} (hf:Option.bind x f = some r) (h1:∀ v,x = some v → awp P dm n0 a (ofL bs) h (a8r id (e0f dm.m n0 (V v ++ L0,h) Q))) (h2:∀ v,f v = some r → awp P dm n0 b (ofL (V v ++ L0)) h Q) (hL:kpB bs ks = L0:=by dsimp):awp P dm n0 a (ofL bs) h (a8r id (b7w (awp P dm n0 ((cA ks V).f b)) Q)):=by
  obtain ⟨v,e,hf⟩:=ob hf
  exact b7x (V v ++ L0,h) (h1 v e) (h2 v hf)
theorem wFu {R:Type} {r:ρ} {x:Option (Fl R α)} {f:Fl R α → Option ρ} {V:α → List (Nat × AV)} (hf:Option.bind x f = some r) (h1:∀ p,x = some p → f p = some r → awp P dm n0 a (ofL bs) h (d0v dm.m n0 (fun q:{s:α // p = .go s} => (V q.1 ++ L0,h)) Q)) (h2:∀ s,f (.go s) = some r → awp P dm n0 b (ofL (V s ++ L0)) h Q) (hL:kpB bs ks = L0:=by dsimp):awp P dm n0 a (ofL bs) h (b7w (awp P dm n0 ((fA ks V).f b)) Q):=by
  obtain ⟨p,e,hf⟩:=ob hf
  exact a8v (fun q:{s:α // p = .go s} => (V q.1 ++ L0,h)) (h1 p e hf) (fun q => h2 q.1 (by rw [← q.2]; exact hf))
theorem f5y {R:Type} {r:ρ} {x:Option (Fl R α)} {f:Fl R α → Option ρ} {V:α → List (Nat × AV)} (hf:Option.bind x f = some r) (h1:∀ p,x = some p → f p = some r → awp P dm n0 a (ofL bs) h (a8r id (d0v dm.m n0 (fun q:{s:α // p = .go s} => (V q.1 ++ L0,h)) Q))) (h2:∀ s,f (.go s) = some r → awp P dm n0 b (ofL (V s ++ L0)) h Q) (hL:kpB bs ks = L0:=by dsimp):awp P dm n0 a (ofL bs) h (a8r id (b7w (awp P dm n0 ((fA ks V).f b)) Q)):=by
  obtain ⟨p,e,hf⟩:=ob hf
  exact c6q (fun q:{s:α // p = .go s} => (V q.1 ++ L0,h)) (h1 p e hf) (fun q => h2 q.1 (by rw [← q.2]; exact hf))
abbrev LI (J:List τ → Nat → α → Option ρ) (l:List τ) (p:ρ):={q:Nat × α // J (l.drop q.1) q.1 q.2 = some p}
abbrev KL (m:Bool) (n0:Nat) (J:List τ → Nat → α → Option ρ) (l:List τ) (p:ρ) (V:Nat → α → List (Nat × AV)) (L0:List (Nat × AV)) (h:List l9) (i:Nat) (v:α) (hq:J (l.drop i) i v = some p) (Q:AQ):AQ:=c4r m n0 (fun q:LI J l p => (V q.1.1 q.1.2 ++ L0,h)) (fun q => l.length - q.1.1) ⟨(i,v),hq⟩ Q
theorem ckr {m:Bool} {t:Nat → AV} {s:List (Nat × AV) × List l9} (hk:b3r n0 h.length (List.range s.2.length) = true:=by rfl) (hf:d0u (a7k (List.range s.2.length)) t s.1:=by repeat first | exact trivial | refine ⟨.refl _,?_⟩ | refine ⟨.of_eq (congrArg (AV.int _) (a5b (by assumption) (by assumption))),?_⟩) (hh:LeH (b1v h (List.range s.2.length)) s.2:=by exact .refl _):b1w m n0 t h s:=⟨[],List.range s.2.length,_,_,rfl,hk,hf,hh⟩
theorem kln {m:Bool} {t:Nat → AV} {h':List l9} {J:List τ → Nat → α → Option ρ} {l:List τ} {p:ρ} {V:Nat → α → List (Nat × AV)} {i j:Nat} {v w:α} {hq:J (l.drop i) i v = some p} (hf:J (l.drop j) j w = some p) (hj:j = i + 1) (hl:i < l.length) (hc:b1w m n0 t h' (V j w ++ L0,h)):KL m n0 J l p V L0 h i v hq Q .norm t h' :=
  ⟨⟨(j,w),hf⟩,by subst hj; exact mul hl,hc⟩
theorem wL0 {l:List τ} {J:List τ → Nat → α → Option ρ} {i0:Nat} {a0:α} {p:ρ} {V:Nat → α → List (Nat × AV)} (hf:J (l.drop i0) i0 a0 = some p)
    (h0:∀ i v (hq:J (l.drop i) i v = some p),l.length ≤ i → J [] i v = some p → awp P dm n0 a (ofL (V i v ++ L0)) h (KL dm.m n0 J l p V L0 h i v hq (a8r id Q)))
    (h1:∀ i v (hq:J (l.drop i) i v = some p) x,i < l.length → l[i]? = some x → J (x :: l.drop (i + 1)) i v = some p → awp P dm n0 a (ofL (V i v ++ L0)) h (KL dm.m n0 J l p V L0 h i v hq (a8r id Q)))
    (hc:b1w dm.m n0 (ofL bs) h (V i0 a0 ++ L0,h)):awp P dm n0 (.block id (.loop a)) (ofL bs) h Q:=by
  refine a3s (fun q:LI J l p => (V q.1.1 q.1.2 ++ L0,h)) (fun q => l.length - q.1.1) ⟨(i0,a0),hf⟩ hc ?_
  rintro ⟨⟨i,v⟩,hq⟩
  rcases a6v l i with ⟨hl,hd⟩ | ⟨hl,x,hx,hd⟩
  · exact h0 i v hq hl (by have:=hq; simp only [hd] at this; exact this)
  · exact h1 i v hq x hl hx (by have:=hq; simp only [hd] at this; exact this)
theorem wlI {l:List τ} {G:List τ → Nat → Option ρ} {p:ρ} {V:Nat → List (Nat × AV)} (hf:G l 0 = some p)
    (h0:∀ i hq,l.length ≤ i → G [] i = some p → awp P dm n0 a (ofL (V i ++ L0)) h (KL dm.m n0 (fun xs i (v:Unit) => G xs i) l p (fun i _ => V i) L0 h i () hq (a8r id Q)))
    (h1:∀ i hq x,i < l.length → l[i]? = some x → G (x :: l.drop (i + 1)) i = some p → awp P dm n0 a (ofL (V i ++ L0)) h (KL dm.m n0 (fun xs i (v:Unit) => G xs i) l p (fun i _ => V i) L0 h i () hq (a8r id Q)))
    (hL:kpB bs ks = L0:=by dsimp) (hc:b1w dm.m n0 (ofL bs) h (V 0 ++ L0,h):=by exact ckr):awp P dm n0 ((lI ks V).f (.block id (.loop a))) (ofL bs) h Q :=
  wL0 (J:=(fun xs i (v:Unit) => G xs i)) (V:=(fun i _ => V i)) (i0:=0) (a0:=()) hf (fun i v => h0 i) (fun i v => h1 i) hc
theorem wlN {l:List τ} {G:List τ → Option ρ} {p:ρ} {V:Nat → List (Nat × AV)} (hf:G l = some p)
    (h0:∀ i hq,l.length ≤ i → G [] = some p → awp P dm n0 a (ofL (V i ++ L0)) h (KL dm.m n0 (fun xs i (v:Unit) => G xs) l p (fun i _ => V i) L0 h i () hq (a8r id Q)))
    (h1:∀ i hq x,i < l.length → l[i]? = some x → G (x :: l.drop (i + 1)) = some p → awp P dm n0 a (ofL (V i ++ L0)) h (KL dm.m n0 (fun xs i (v:Unit) => G xs) l p (fun i _ => V i) L0 h i () hq (a8r id Q)))
    (hL:kpB bs ks = L0:=by dsimp) (hc:b1w dm.m n0 (ofL bs) h (V 0 ++ L0,h):=by exact ckr):awp P dm n0 ((lN ks V).f (.block id (.loop a))) (ofL bs) h Q :=
  wL0 (J:=(fun xs i (v:Unit) => G xs)) (V:=(fun i _ => V i)) (i0:=0) (a0:=()) hf (fun i v => h0 i) (fun i v => h1 i) hc
theorem wlA {l:List τ} {G:List τ → α → Option ρ} {p:ρ} {a0:α} {V:Nat → α → List (Nat × AV)} (hf:G l a0 = some p)
    (h0:∀ i v hq,l.length ≤ i → G [] v = some p → awp P dm n0 a (ofL (V i v ++ L0)) h (KL dm.m n0 (fun xs i (v:α) => G xs v) l p V L0 h i v hq (a8r id Q)))
    (h1:∀ i v hq x,i < l.length → l[i]? = some x → G (x :: l.drop (i + 1)) v = some p → awp P dm n0 a (ofL (V i v ++ L0)) h (KL dm.m n0 (fun xs i (v:α) => G xs v) l p V L0 h i v hq (a8r id Q)))
    (hL:kpB bs ks = L0:=by dsimp) (hc:b1w dm.m n0 (ofL bs) h (V 0 a0 ++ L0,h):=by exact ckr):awp P dm n0 ((lA ks V).f (.block id (.loop a))) (ofL bs) h Q :=
  wL0 (J:=(fun xs i (v:α) => G xs v)) (V:=V) (i0:=0) (a0:=a0) hf (fun i v => h0 i v) (fun i v => h1 i v) hc
theorem f5z {l:List τ} {G:List τ → Nat → α → Option ρ} {p:ρ} {a0:α} {V:Nat → α → List (Nat × AV)} (hf:G l 0 a0 = some p)
    (h0:∀ i v hq,l.length ≤ i → G [] i v = some p → awp P dm n0 a (ofL (V i v ++ L0)) h (KL dm.m n0 (fun xs i (v:α) => G xs i v) l p V L0 h i v hq (a8r id Q)))
    (h1:∀ i v hq x,i < l.length → l[i]? = some x → G (x :: l.drop (i + 1)) i v = some p → awp P dm n0 a (ofL (V i v ++ L0)) h (KL dm.m n0 (fun xs i (v:α) => G xs i v) l p V L0 h i v hq (a8r id Q)))
    (hL:kpB bs ks = L0:=by dsimp) (hc:b1w dm.m n0 (ofL bs) h (V 0 a0 ++ L0,h):=by exact ckr):awp P dm n0 ((lIA ks V).f (.block id (.loop a))) (ofL bs) h Q :=
  wL0 (J:=(fun xs i (v:α) => G xs i v)) (V:=V) (i0:=0) (a0:=a0) hf (fun i v => h0 i v) (fun i v => h1 i v) hc
theorem f6a {l:List τ} {G:List τ → α → Nat → Option ρ} {p:ρ} {a0:α} {V:Nat → α → List (Nat × AV)} (hf:G l a0 0 = some p)
    (h0:∀ i v hq,l.length ≤ i → G [] v i = some p → awp P dm n0 a (ofL (V i v ++ L0)) h (KL dm.m n0 (fun xs i (v:α) => G xs v i) l p V L0 h i v hq (a8r id Q)))
    (h1:∀ i v hq x,i < l.length → l[i]? = some x → G (x :: l.drop (i + 1)) v i = some p → awp P dm n0 a (ofL (V i v ++ L0)) h (KL dm.m n0 (fun xs i (v:α) => G xs v i) l p V L0 h i v hq (a8r id Q)))
    (hL:kpB bs ks = L0:=by dsimp) (hc:b1w dm.m n0 (ofL bs) h (V 0 a0 ++ L0,h):=by exact ckr):awp P dm n0 ((lAI ks V).f (.block id (.loop a))) (ofL bs) h Q :=
  wL0 (J:=(fun xs i (v:α) => G xs v i)) (V:=V) (i0:=0) (a0:=a0) hf (fun i v => h0 i v) (fun i v => h1 i v) hc
end
class Wk (P:Program) (H:Prop) (f:outParam Nat) (args:outParam (List AV)) (r:outParam AV):Prop where
  out:H → a0k P f .flat args r
instance {P:Program} {H:Prop} {f:Nat} {args:List AV} {r:AV}:CoeFun (Wk P H f args r) (fun _ => H → a0k P f .flat args r):=⟨fun w => w.out⟩
end Go.R
end
section
set_option linter.all false
namespace Go.R
open Go
section
variable {P:Program} {dm:Md} {n0:Nat} {bs:List (Nat × AV)} {h:List l9} {K:(Nat → AV) → List l9 → Prop} {Q:AQ}
theorem slq {o:Option Nat} {s:Nat} {b e:Bool} {op:AOp} {n:a1m} (he:e = true) (hn:a1g P dm (.q ⟨o,some (s,b),op⟩ n) (ofL ((s,.bool true) :: bs)) h K) (ht:ofL bs s = .bool e:=by rfl):a1g P dm (.q ⟨o,some (s,b),op⟩ n) (ofL bs) h K:=e2r ht he hn
theorem sfq {o:Option Nat} {s:Nat} {b e:Bool} {op:AOp} {n:a1m} (he:¬ e = true) (hn:a1g P dm (.q ⟨o,some (s,b),op⟩ n) (ofL ((s,.bool false) :: bs)) h K) (ht:ofL bs s = .bool e:=by rfl):a1g P dm (.q ⟨o,some (s,b),op⟩ n) (ofL bs) h K:=e2r ht (bf he) hn
theorem sgE {op:AOp} {n:a1m} {d s:Nat} {b v:Bool} {V:AV} (hn:a1g P dm n (ofL ((d,gs v b V) :: bs)) h K) (ht:ofL bs s = .bool v:=by rfl) (hon:v = b → qv h bs op = some V:=by intro hv; (try simp only [a2u hv]); dsimp):a1g P dm (.q ⟨some d,some (s,b),op⟩ n) (ofL bs) h K:=by
  cases hvb:(v == b) with
  | true =>
    have e:v = b:=by simpa using hvb
    rw [a2u e] at hn
    subst e
    exact s_on ht (a0x (h':=h) (v:=V) (fun k' hk => e2u (hon rfl) hk) hn)
  | false =>
    have e:¬ v = b:=by simpa using hvb
    rw [show gs v b V = .skip from if_neg e] at hn
    exact e2s ht hvb hn
theorem pkE {c a b:AX} {n:a1m} {d:Nat} {v x y:Bool} (hn:a1g P dm n (ofL ((d,.bool (bif v then x else y)) :: bs)) h K) (hc:c.ev (ofL bs) = .bool v:=by rfl) (h1:v = true → a.ev (ofL bs) = .bool x:=by intro hv; (try simp only [a2u hv]); rfl) (h2:v = false → b.ev (ofL bs) = .bool y:=by intro hv; (try simp only [a2u hv]); rfl):a1g P dm (.q ⟨some d,none,.pick c a b⟩ n) (ofL bs) h K:=b9z hc h1 h2 hn
theorem pgE {c a b:AX} {n:a1m} {d s:Nat} {v1 b1 v2 x y:Bool} (hn:a1g P dm n (ofL ((d,gs v1 b1 (.bool (bif v2 then x else y))) :: bs)) h K) (ht:ofL bs s = .bool v1:=by rfl) (hc:v1 = b1 → c.ev (ofL bs) = .bool v2:=by intro hv; (try simp only [a2u hv]); rfl) (h1:v1 = b1 → v2 = true → a.ev (ofL bs) = .bool x:=by intro hw hv; (try simp only [a2u hw,a2u hv]); rfl) (h2:v1 = b1 → v2 = false → b.ev (ofL bs) = .bool y:=by intro hw hv; (try simp only [a2u hw,a2u hv]); rfl):a1g P dm (.q ⟨some d,some (s,b1),.pick c a b⟩ n) (ofL bs) h K:=f4o ht hc h1 h2 hn
theorem ggE {op:AOp} {n:a1m} {d s:Nat} {b1 b2 v1 v2:Bool} {V:AV} (hn:a1g P dm n (ofL ((d,gs v1 b1 (gs v2 b2 V)) :: bs)) h K) (ht:ofL bs s = gs v1 b1 (.bool v2):=by rfl) (hon:v1 = b1 → v2 = b2 → qv h bs op = some V:=by intro hw hv; simp only [a2u hw,a2u hv]; dsimp):a1g P dm (.q ⟨some d,some (s,b2),op⟩ n) (ofL bs) h K:=by
  by_cases hw:v1 = b1
  · rw [a2u hw] at hn ht
    exact sgE hn ht (hon hw)
  · have e:∀ W,gs v1 b1 W = .skip:=fun W => if_neg hw
    rw [e] at hn ht
    exact e0g ht hn
theorem iaA {α:Type} {enc:α → AV} {l:List α} {e:α} {n:a1m} {d z j:Nat} {k:IntKind} {x i:AX} (hn:a1g P dm n (ofL ((d,.iptr (enc e) 0) :: bs)) h K) (hx:x.ev (ofL bs) = .lst z (l.map enc):=by rfl) (hi:i.ev (ofL bs) = .int k (j:Int):=by rfl) (hl:l[j]? = some e:=by assumption):a1g P dm (.q ⟨some d,none,.iaddr z x i⟩ n) (ofL bs) h K:=a0x (b6v hx hi hl) hn
theorem ixA {α:Type} {enc:α → AV} {l:List α} {e:α} {n:a1m} {d z:Nat} {j:Int} {k:IntKind} {x i:AX} (hn:a1g P dm n (ofL ((d,.iptr (enc e) 0) :: bs)) h K) (hx:x.ev (ofL bs) = .lst z (l.map enc):=by rfl) (hi:i.ev (ofL bs) = .int k j:=by rfl) (hl:idx l j = some e:=by assumption):a1g P dm (.q ⟨some d,none,.iaddr z x i⟩ n) (ofL bs) h K:=a0x (c9o hx hi (f0o hl) (f0p hl)) hn
theorem lgE {α:Type} {enc:α → AV} {l:List α} {n:a1m} {d s z:Nat} {b v:Bool} {x:AX} (hn:a1g P dm n (ofL ((d,gs v b (.int .i64 l.length)) :: bs)) h K) (ht:ofL bs s = .bool v:=by rfl) (hx:v = b → x.ev (ofL bs) = .lst z (l.map enc):=by intro hv; (try simp only [a2u hv]); rfl):a1g P dm (.q ⟨some d,some (s,b),.len x⟩ n) (ofL bs) h K:=s_g _ ht (fun hv => ⟨rfl,.of (by simp only [aqP,hx hv]) trivial,by simp only [aqV,hx hv]; exact lenV _ _⟩) hn
theorem eqE {op:AOp} {n:a1m} {d:Nat} {v:Bool} (hn:a1g P dm n (ofL ((d,.bool v) :: bs)) h K) (hv:aqV op (AX.ev (ofL bs)) h = .bool v:=by rfl) (hq:op.quiet = true:=by rfl) (hp:aqQ dm.m op (AX.ev (ofL bs)) h:=by repeat first | exact trivial | exact rfl | exact nle | refine ⟨?_,?_⟩):a1g P dm (.q ⟨some d,none,op⟩ n) (ofL bs) h K:=s_q _ hq hp hv hn
theorem isT {T:a1m} {t:Nat → AV} (hn:a1g P dm T t h K):a1g P dm T t h K:=hn
theorem isA {n0:Nat} {a:a0w} {t:Nat → AV} (hn:awp P dm n0 a t h Q):awp P dm n0 a t h Q:=hn
end
set_option maxRecDepth 10000
theorem W {p:Prop} (h:p:=by
  repeat' first
    | ((with_reducible refine isT ?_); first
        | refine go 3 ?_
        | refine go 1 ?_
        | with_reducible refine a1a ?_
        | (rcases oi hf with ⟨c,hf⟩ | ⟨c,hf⟩ <;> first | refine slq c ?_ | refine sfq c ?_)
        | refine bx ?_
        | refine sb ?_
        | refine sgE ?_
        | refine ggE ?_
        | refine pkE ?_
        | refine pgE ?_
        | refine s_on rfl ?_
        | refine f4k rfl ?_
        | refine f3c rfl rfl trivial ?_
        | refine f0q rfl trivial ?_
        | refine ln fun hl => ?_
        | refine lnS fun hl => ?_
        | refine ia hx ?_
        | refine iaA ?_
        | refine ixA ?_
        | refine a0x (c4x rfl rfl hx) ?_
        | refine lgE ?_
        | refine eqE ?_
        | (obtain ⟨x,ex,hf⟩:=ob hf; first | refine ix ex ?_ | refine cl (Wk.out ex) ?_ | refine cll (Wk.out ex) ?_ | refine a0x (e0h rfl rfl (f0o ex) (f0p ex)) ?_)
        | (obtain ⟨hg,hf⟩:=og hf))
    | ((with_reducible refine isA ?_); first
        | (refine wCu hf (fun v hf => ?_) (fun v hf => ?_) <;> (try dsimp only [List.cons_append,List.nil_append]))
        | (refine wFu hf (fun p hf hr => ?_) (fun v hf => ?_) <;> (try dsimp only [List.cons_append,List.nil_append]))
        | (refine wlI hf (fun i hq hle hf => ?_) (fun i hq x hlt hx hf => ?_) <;> (try dsimp only [List.cons_append,List.nil_append]))
        | (refine wlN hf (fun i hq hle hf => ?_) (fun i hq x hlt hx hf => ?_) <;> (try dsimp only [List.cons_append,List.nil_append]))
        | (refine wlA hf (fun i v hq hle hf => ?_) (fun i v hq x hlt hx hf => ?_) <;> (try dsimp only [List.cons_append,List.nil_append]))
        | (refine f5z hf (fun i v hq hle hf => ?_) (fun i v hq x hlt hx hf => ?_) <;> (try dsimp only [List.cons_append,List.nil_append]))
        | (refine f6a hf (fun i v hq hle hf => ?_) (fun i v hq x hlt hx hf => ?_) <;> (try dsimp only [List.cons_append,List.nil_append]))
        | (refine f5x hf (fun v hf => ?_) (fun v hf => ?_) <;> (try dsimp only [List.cons_append,List.nil_append]))
        | (refine f5y hf (fun p hf hr => ?_) (fun v hf => ?_) <;> (try dsimp only [List.cons_append,List.nil_append]))
        | with_reducible refine a0t ?_
        | with_reducible refine o8 ?_
        | with_reducible refine a0v ?_
        | with_reducible refine a3z ?_
        | with_reducible refine c3q ?_
        | refine wt (dlt hlt) ?_
        | refine wg (dlf hle) ?_
        | refine wt rfl ?_
        | refine wg rfl ?_
        | (rcases oi hf with ⟨c,hf⟩ | ⟨c,hf⟩ <;> first | refine wt c ?_ | refine wf c ?_)
        | (refine a2q ?_; cases hf; (repeat cases hr); first | exact rf | exact a8s ⟨nle,trivial⟩ rfl (.refl _) | exact a8s ⟨.of trivial trivial,trivial⟩ rfl (.refl _) | exact a8s ⟨trivial,⟨trivial,trivial⟩⟩ rfl (.refl _))
        | (obtain ⟨hg,hf⟩:=og hf))
    | with_reducible refine a0i ?_
    | with_reducible refine c3p ?_
    | with_reducible refine c3o ?_
    | with_reducible refine a3w ?_
    | with_reducible refine c4v ?_
    | (refine f4l ?_; cases hf; exact ckr)
    | (cases hf; exact ⟨⟨_,rfl⟩,ckr⟩)
    | exact kln hf rfl hlt ckr
    | exact kln (w:=()) hf rfl hlt ckr
 ):p:=h
end Go.R
end
section
set_option linter.all false
namespace Go.R
open Go Go.RowKit
theorem take_add {α:Type} {A B:List α} {a b:Nat} (h:A.length = a):(A ++ B).take (a + b) = A ++ B.take b:=by
 subst h
 rw [List.take_append,List.take_of_length_le (by omega),Nat.add_sub_cancel_left]
section
variable {P:Program} {C:Ctx} {σ:Sg} {φ:Nat → List Nat} {h:List l9} {w w':World}
theorem e4d (hr:o9 C σ φ h w) {o z:Nat} {l:List AV} (ho:h[o]? = some (.row z l)):Taken C σ φ h [o] (φ o) :=
 ⟨fun b hb => (hr.phi ho hb).1,fun b hb hl => absurd hl (hr.phi ho hb).2,fun hdm b hb => ⟨o,by simp,.inr ⟨hb,_,ho,rfl⟩⟩,fun hdm _ => (hr.deep hdm o _ l ho).1⟩
theorem f0t (hr:o9 C σ φ h w) {o z n:Nat} {l:List AV} {v:Value} (ho:h[o]? = some (.row z l)) (hv:RV C σ h w (.own o 0 n) v) (hn:n = l.length) :
  (v = .slice none 0 0 ∧ l = [] ∧ σ o = none ∧ φ o = []) ∨ ∃ g c cur e,σ o = some (g,c) ∧ v = .slice (some ⟨g,0,none⟩) n c ∧ n ≤ c ∧ c ≤ maxLen ∧ w.heap[g]? = some (.cells cur e (0,0)) ∧ cur.size = c * z ∧
   a0e C.dm w z l cur.toList (φ o):=by
 simp only [RV,ho] at hv
 obtain ⟨a,cap,rfl,g1,g2,g3,g4⟩:=hv
 obtain ⟨h0,hob⟩:=hr.obj o _ ho
 cases hs:σ o with
 | none =>
  rw [hs] at hob g4
  obtain ⟨rfl,rfl⟩:=g4
  obtain ⟨rfl,hp⟩:=hob
  subst hn
  exact .inl ⟨rfl,rfl,rfl,hp⟩
 | some p =>
  obtain ⟨g,c⟩:=p
  rw [hs] at hob g4
  obtain ⟨rfl,rfl⟩:=g4.2 rfl
  obtain ⟨h1,cur,e,h2,h3,h4,h5⟩:=hob
  exact .inr ⟨g,cap,cur,e,rfl,rfl,g2,g3,h2,h3,h4⟩
theorem b9f (hr:o9 C σ φ h w) {o o' z:Nat} {l:List AV} {y:l9} {g c b:Nat} (ho:h[o]? = some (.row z l)) (hb:b ∈ φ o) (ho':h[o']? = some y) (hy:y.isLive = true) (hs:σ o' = some (g,c)):b ≠ g:=by
 rintro rfl
 exact (hr.phi ho hb).2 ⟨o',y,c,ho',hy,hs⟩
theorem f0u {z:Nat} {l l':List AV} (hr:o9 C σ φ [.row z l] w) (hsize:w.heap.size ≤ w'.heap.size) {g c:Nat} (hσ:σ 0 = some (g,c)) (hc:c ≤ maxLen)
  (hblk:∀ b,b < w.heap.size → b ≠ g → w'.heap[b]? = w.heap[b]?) {cur':Array Value} {e':TypeId} (hg':w'.heap[g]? = some (.cells cur' e' (0,0))) (hcs':cur'.size = c * z)
  {f cs:List _} (hsub:List.Sublist f (φ 0)) (hrep:a0e C.dm w z l' cs f) (hcell:cur'.toList.take (l'.length * z) = cs.take (l'.length * z)) :
  ∃ σ' φ',o9 C σ' φ' [.dead,.row z l'] w' ∧ Ev σ [.row z l] w σ' [.dead,.row z l'] w' ∧ σ' 1 = some (g,c):=by
 have ho:([.row z l]:List l9)[0]? = some (.row z l):=rfl
 obtain ⟨h0,_⟩:=hr.obj 0 _ ho
 have hgb:C.mine g:=hr.base 0 _ g c ho rfl hσ
 have hlt:∀ b ∈ f,b < w.heap.size:=a0e.lt _ _ _ hrep
 have hne:∀ b ∈ f,b ≠ g:=fun b hb => b9f hr ho (hsub.subset hb) ho rfl hσ
 have key:=c4e (w':=w') (ks:=[0]) (as:=l') (fp:=f) hr hsize (g:=g) (c:=c) (sz:=z) ⟨hgb,.inr ⟨0,by simp,_,c,ho,rfl,hσ⟩⟩ hblk hg' h0 hc hcs'
  (a0e.congr hcell (a0e.world _ _ _ (fun b hb => hblk b (hlt b hb) (hne b hb)) hrep)) ((e4d hr ho).sub hsub) hlt (fun b hb => (hr.phi ho (hsub.subset hb)).2) (fun _ => by simp)
 exact ⟨_,_,key.1,key.2,by simp [upd]⟩
end
section
variable {P:Program}
theorem c0c (w:World) (dT ty elem:TypeId) (i:TypeInfo) (zv:Value) (g o n cap:Nat) (cur:Array Value) (t:TypeId)
  (hu:P.underlying dT = some (.slice elem)) (hs:P.info? elem = some i) (hzv:i.zero = some zv) (hzs:zv.cells.size = i.size) (h1:∀ v ∈ zv.cells.toList,v.oneCell' = true)
  (hg:w.heap[g]? = some (.cells cur t (0,0))) (hn:0 < n) (hfit:o + n * i.size ≤ cur.size) :
  (Builtin.clear_ #[dT] ty #[.slice (some ⟨g,o,none⟩) n cap]).run P w =
   .ok (.tuple #[]) (w.setRow g (cur.toList.take o ++ (Builtin.zeroCells zv.cells n).toList ++ cur.toList.drop (o + n * i.size)).toArray):=by
 have hl:(Builtin.zeroCells zv.cells n).toList.length = n * i.size:=by rw [Array.length_toList,size_zeroCells,hzs]
 have hst:=run_storeCells_at P g o t (Builtin.zeroCells zv.cells n).toList 0 cur w hg (by rw [hl]; simpa using hfit) (by
  intro v hv
  simp only [Builtin.zeroCells] at hv
  simp at hv
  obtain ⟨k,hk,rfl⟩:=hv
  have hp:0 < zv.cells.size:=by
   rcases Nat.eq_zero_or_pos zv.cells.size with h | h
   ·rw [h] at hk; omega
   ·exact h
  have hm:=Nat.mod_lt k hp
  rw [getElem!_pos zv.cells (k % zv.cells.size) hm]
  exact h1 _ (by simp))
 rw [hl] at hst
 obtain ⟨m,rfl⟩:∃ m,n = m + 1:=⟨n - 1,by omega⟩
 have hz0:(zeroValue elem).run P w = .ok zv w:=by simp [zeroValue,typeInfo,hs,hzv]
 simp [Builtin.clear_,run_underlying hu,hz0,hst]
end
end Go.R
end
section
set_option linter.all false
namespace Go.R
open Go Go.RowKit
def f5v (h:List l9):AV → Option (AV × List Nat)
 | .own o 0 n => match h[o]? with
  | some (.row z l) => some (.lst z (l.take n),[o])
  | _ => none
 | a => if R.rflat a = true then some (a,[]) else none
def f2h (h:List l9):List AV → Option (List AV × List Nat)
 | [] => some ([],[])
 | a :: as => match f5v h a,f2h h as with
  | some (b,k),some (bs,ks) => some (b :: bs,k ++ ks)
  | _,_ => none
def e7c (h:List l9):List Nat → Prop
 | [] => True
 | o :: os => (∃ z l,h[o]? = some (.row z l) ∧ ∀ a ∈ l,R.flat a = true) ∧ e7c h os
section
variable {P:Program} {C:Ctx} {σ:Sg} {φ:Nat → List Nat} {h:List l9} {w w':World}
end
def f2i (os:List AOp) (t:Nat → AV) (h:List l9) (r:AV):Prop:=c1y false t h os ∧ ∃ bs ks,f2h h (b9b t h os) = some (bs,ks) ∧ ks.Nodup ∧ e7c h ks ∧ Le (R.pack bs) r
def retQF (os:List AOp) (r:AV):c4q → (Nat → AV) → List l9 → Prop
 | .exit _,_,_ => False
 | .norm,t,h => f2i os t h r
 | .ret,t,h => f2i os t h r
end Go.R
end
