/- What each operation yields, over typed data. -/
import Derived.Test.YthneidgpgfgecaaD1
set_option linter.all false
namespace Go.R
open Go Go.RowKit
set_option linter.unusedVariables false
set_option linter.unusedSimpArgs false

/-- an operation yields a value and a heap -/
def Opr (P : Program) (dm : Md) (op : AOp) (bs : List (Nat × AV)) (h : List AObj) (v : AV) (h' : List AObj) : Prop := ∀ k : AV → List AObj → Prop, k v h' → awpL P dm op (AX.ev (ofL bs)) h k
/-- the same, with what becomes known -/
def OprF (P : Program) (dm : Md) (op : AOp) (bs : List (Nat × AV)) (h : List AObj) (v : AV) (h' : List AObj) (F : Prop) : Prop := ∀ k : AV → List AObj → Prop, (F → k v h') → awpL P dm op (AX.ev (ofL bs)) h k

section
variable {P : Program} {dm : Md} {bs : List (Nat × AV)} {h h' : List AObj} {n other : ATree} {re : List AOper} {K : (Nat → AV) → List AObj → Prop} {d : Nat} {op : AOp} {v : AV} {F : Prop}

theorem s_do (hop : Opr P dm op bs h v h') (hn : awpT P dm n (ofL ((d, v) :: bs)) h' K) : awpT P dm (.q ⟨some d, none, op⟩ n) (ofL bs) h K := hop _ hn
theorem s_dof (hop : OprF P dm op bs h v h' F) (hn : F → awpT P dm n (ofL ((d, v) :: bs)) h' K) : awpT P dm (.q ⟨some d, none, op⟩ n) (ofL bs) h K := hop _ hn
theorem s_do0 (hop : Opr P dm op bs h v h') (hn : awpT P dm n (ofL bs) h' K) : awpT P dm (.q ⟨none, none, op⟩ n) (ofL bs) h K := hop _ hn
theorem s_dol (hop : Opr P dm op bs h v h') (ha : agains dm.m re (ofL ((d, v) :: bs)) h h') (ho : awpT P dm other (ofL bs) h K) (hn : awpT P dm n (ofL ((d, v) :: bs)) h' K) : awpT P dm (.l ⟨some d, none, op⟩ re n other) (ofL bs) h K := ⟨hop _ ⟨ha, hn⟩, ho⟩
theorem s_dolf (hop : OprF P dm op bs h v h' F) (ha : F → agains dm.m re (ofL ((d, v) :: bs)) h h') (ho : awpT P dm other (ofL bs) h K) (hn : F → awpT P dm n (ofL ((d, v) :: bs)) h' K) : awpT P dm (.l ⟨some d, none, op⟩ re n other) (ofL bs) h K := ⟨hop _ fun f => ⟨ha f, hn f⟩, ho⟩
theorem s_dol0 (hop : Opr P dm op bs h v h') (ha : agains dm.m re (ofL bs) h h') (ho : awpT P dm other (ofL bs) h K) (hn : awpT P dm n (ofL bs) h' K) : awpT P dm (.l ⟨none, none, op⟩ re n other) (ofL bs) h K := ⟨hop _ ⟨ha, hn⟩, ho⟩
theorem s_isn {ng : Bool} {x : AX} {z : Nat} {l : List AV} {d : Nat} (hx : x.ev (ofL bs) = .lst z l) (hn : ∀ b, (b = true → l = []) → awpT P dm n (ofL ((d, .bool (b != ng)) :: bs)) h K) : awpT P dm (.q ⟨some d, none, .isnil ng x⟩ n) (ofL bs) h K := by
  show awpL P dm (.isnil ng x) (AX.ev (ofL bs)) h _
  simp only [awpL, hx]
  exact hn
theorem s_isno {ng : Bool} {x : AX} {o lo m z : Nat} {l : List AV} {d : Nat} (hx : x.ev (ofL bs) = .own o lo m) (ho : h[o]? = some (.row z l)) (hn : ∀ b, (b = true → m = 0) → awpT P dm n (ofL ((d, .bool (b != ng)) :: bs)) h K) : awpT P dm (.q ⟨some d, none, .isnil ng x⟩ n) (ofL bs) h K := by
  show awpL P dm (.isnil ng x) (AX.ev (ofL bs)) h _
  simp only [awpL, hx, ho]
  exact hn
theorem mapnil {α : Type} {enc : α → AV} {l : List α} (h : l.map enc = []) : l = [] := by simpa using h
theorem a_same {m : Bool} {re : List AOper} {t : Nat → AV} : agains m re t h h := by
  cases re with
  | nil => trivial
  | cons a b => exact .inl rfl

/-! guards -/
theorem s_lit {T : ATree} {s : Nat} {b e : Bool} (ht : ofL bs s = .bool e) (he : e = b) (hn : awpT P dm T (ofL ((s, .bool b) :: bs)) h K) : awpT P dm T (ofL bs) h K := by
  subst he
  have : ofL ((s, .bool e) :: bs) = ofL bs := upd_self ht
  rw [this] at hn
  exact hn
theorem s_on {s : Nat} {b : Bool} {o : Option Nat} (ht : ofL bs s = .bool b) (hn : awpT P dm (.q ⟨o, none, op⟩ n) (ofL bs) h K) : awpT P dm (.q ⟨o, some (s, b), op⟩ n) (ofL bs) h K := by
  show awpO P dm _ _ h _
  unfold awpO
  simp only [ht]
  rw [if_pos trivial, upd_self ht]
  exact hn
theorem s_onl {s : Nat} {b : Bool} {o : Option Nat} (ht : ofL bs s = .bool b) (hn : awpT P dm (.l ⟨o, none, op⟩ re n other) (ofL bs) h K) : awpT P dm (.l ⟨o, some (s, b), op⟩ re n other) (ofL bs) h K := by
  refine ⟨?_, hn.2⟩
  unfold awpO
  simp only [ht]
  rw [if_pos trivial, upd_self ht]
  exact hn.1
theorem s_off {s : Nat} {b b' : Bool} (ht : ofL bs s = .bool b') (hb : (b' == b) = false) (hn : awpT P dm n (ofL ((d, .skip) :: bs)) h K) : awpT P dm (.q ⟨some d, some (s, b), op⟩ n) (ofL bs) h K := by
  show awpO P dm _ _ h _
  unfold awpO
  simp only [ht]
  have hne : ¬ b' = b := by simpa using hb
  have hx : (!b) = b' := by cases b <;> cases b' <;> simp_all
  rw [if_neg hne, hx, upd_self ht]
  exact hn
theorem s_off0 {s : Nat} {b b' : Bool} (ht : ofL bs s = .bool b') (hb : (b' == b) = false) (hn : awpT P dm n (ofL bs) h K) : awpT P dm (.q ⟨none, some (s, b), op⟩ n) (ofL bs) h K := by
  show awpO P dm _ _ h _
  unfold awpO
  simp only [ht]
  have hne : ¬ b' = b := by simpa using hb
  have hx : (!b) = b' := by cases b <;> cases b' <;> simp_all
  rw [if_neg hne, hx, upd_self ht]
  exact hn
theorem s_offl {s : Nat} {b b' : Bool} (ht : ofL bs s = .bool b') (hb : (b' == b) = false) (ho : awpT P dm other (ofL bs) h K) (hn : awpT P dm n (ofL ((d, .skip) :: bs)) h K) : awpT P dm (.l ⟨some d, some (s, b), op⟩ re n other) (ofL bs) h K := by
  refine ⟨?_, ho⟩
  unfold awpO
  simp only [ht]
  have hne : ¬ b' = b := by simpa using hb
  have hx : (!b) = b' := by cases b <;> cases b' <;> simp_all
  rw [if_neg hne, hx, upd_self ht]
  exact ⟨a_same, hn⟩
theorem s_offs {s : Nat} {b : Bool} (ht : ofL bs s = .skip) (hn : awpT P dm n (ofL ((d, .skip) :: bs)) h K) : awpT P dm (.q ⟨some d, some (s, b), op⟩ n) (ofL bs) h K := by
  show awpO P dm _ _ h _
  unfold awpO
  simp only [ht]
  exact hn
theorem s_offs0 {s : Nat} {b : Bool} (ht : ofL bs s = .skip) (hn : awpT P dm n (ofL bs) h K) : awpT P dm (.q ⟨none, some (s, b), op⟩ n) (ofL bs) h K := by
  show awpO P dm _ _ h _
  unfold awpO
  simp only [ht]
  exact hn
theorem s_offsl {s : Nat} {b : Bool} (ht : ofL bs s = .skip) (ho : awpT P dm other (ofL bs) h K) (hn : awpT P dm n (ofL ((d, .skip) :: bs)) h K) : awpT P dm (.l ⟨some d, some (s, b), op⟩ re n other) (ofL bs) h K := by
  refine ⟨?_, ho⟩
  unfold awpO
  simp only [ht]
  exact ⟨a_same, hn⟩

/-! code -/
variable {m : Bool} {n0 : Nat} {a b : ACode} {Q : AQ} {t : Nat → AV}
theorem w_reg {T : ATree} (hn : awpT P dm T t h (kN Q)) : awp P dm n0 (.reg T) t h Q := hn
theorem w_done (hn : Q .norm t h) : awpT P dm .done t h (kN Q) := hn
theorem w_skip (hn : Q .norm t h) : awp P dm n0 .skip t h Q := hn
theorem k_seq (hn : awp P dm n0 b t h Q) : kSeq (awp P dm n0 b) Q .norm t h := hn
theorem k_cut {s} (hn : CutTo m n0 t h s) : kCut m n0 s Q .norm t h := hn
theorem k_cutn {X : Type} {S : X → List (Nat × AV) × List AObj} (y : X) (hn : CutTo m n0 t h (S y)) : kCutx m n0 S Q .norm t h := ⟨y, hn⟩
theorem k_cutxx {X : Type} {S : X → List (Nat × AV) × List AObj} {i : Nat} (hn : Q (.exit i) t h) : kCutx m n0 S Q (.exit i) t h := hn
theorem k_blk {id : Nat} (hn : Q .norm t h) : kBlk id Q .norm t h := hn
theorem k_blkx {id : Nat} (hn : Q .norm t h) : kBlk id Q (.exit id) t h := by simp only [kBlk, if_pos]; exact hn
theorem k_blky {id i : Nat} (hi : (i == id) = false) (hn : Q (.exit i) t h) : kBlk id Q (.exit i) t h := by
  have : ¬ i = id := by simpa using hi
  simp only [kBlk, if_neg this]; exact hn
theorem k_seqx {F : (Nat → AV) → List AObj → AQ → Prop} {i : Nat} (hn : Q (.exit i) t h) : kSeq F Q (.exit i) t h := hn
theorem k_cutx {s} {i : Nat} (hn : Q (.exit i) t h) : kCut m n0 s Q (.exit i) t h := hn
theorem k_loopx {X : Type} {S : X → List (Nat × AV) × List AObj} {μ : X → Nat} {x : X} {i : Nat} (hn : Q (.exit i) t h) : kLoop m n0 S μ x Q (.exit i) t h := hn
theorem k_loopn {X : Type} {S : X → List (Nat × AV) × List AObj} {μ : X → Nat} {x : X} (y : X) (hy : μ y < μ x) (hn : CutTo m n0 t h (S y)) : kLoop m n0 S μ x Q .norm t h := ⟨y, hy, hn⟩
/-- two steps in one -/
theorem sr {T : ATree} (hn : awpT P dm T t h (kN (kSeq (awp P dm n0 b) Q))) : awp P dm n0 (.seq (.reg T) b) t h Q := hn
theorem dk (hn : awp P dm n0 b t h Q) : awpT P dm .done t h (kN (kSeq (awp P dm n0 b) Q)) := hn
theorem w_cut (s : List (Nat × AV) × List AObj) (hc : CutTo dm.m n0 t h s) (hn : awp P dm n0 a (ofL s.1) s.2 Q) : awp P dm n0 (.cut a) t h Q := ⟨s, hc, hn⟩
theorem w_exit {i : Nat} (hn : Q (.exit i) t h) : awp P dm n0 (.exit i) t h Q := hn
theorem w_ret (hn : Q .ret t h) : awp P dm n0 .ret t h Q := hn
theorem w_blk {id : Nat} (hn : awp P dm n0 a t h (kBlk id Q)) : awp P dm n0 (.block id a) t h Q := hn
theorem w_condt {s : Nat} {e : Bool} (ht : ofL bs s = .bool e) (he : e = true) (hn : awp P dm n0 a (ofL ((s, .bool true) :: bs)) h Q) : awp P dm n0 (.cond (.t s) a b) (ofL bs) h Q := by
  subst he
  simp only [awp, AX.ev, ht, if_pos]
  exact hn
theorem w_condf {s : Nat} {e : Bool} (ht : ofL bs s = .bool e) (he : e = false) (hn : awp P dm n0 b (ofL ((s, .bool false) :: bs)) h Q) : awp P dm n0 (.cond (.t s) a b) (ofL bs) h Q := by
  subst he
  simp only [awp, AX.ev, ht]
  exact hn
theorem w_condct (hn : awp P dm n0 a t h Q) : awp P dm n0 (.cond (.c (.bool true)) a b) t h Q := hn
theorem w_condcf (hn : awp P dm n0 b t h Q) : awp P dm n0 (.cond (.c (.bool false)) a b) t h Q := hn
theorem r_flat {os : List AOp} {r : AV} (hp : retPs m t h os) (hf : rflats (retVs t h os) = true) (hl : Le (pack (retVs t h os)) r) : retQ m .flat os r .ret t h := ⟨hp, _, ⟨hf, rfl⟩, hl⟩
theorem r_fresh {os : List AOp} {r : AV} {bs : List AV} {ks : List Nat} (hp : retPs m t h os) (ha : absorbs true h (retVs t h os) = some (bs, ks)) (hn : ks.Nodup) (hl : Le (pack bs) r) : retQ m .fresh os r .ret t h := by
  refine ⟨hp, pack bs, ?_, hl⟩
  simp only [Ret, ha]
  exact ⟨hn, trivial⟩
theorem r_heap {os : List AOp} {r : AV} {hout : List AObj} {n0 : Nat} {t' : Nat → AV} {h' : List AObj} (gs : List Gh) (js : List Nat) (hg : ghs m t h gs = some (t', h')) (hp : retPs m t' h' os) (hk : keepOK n0 h'.length js = true) (hh : LeH (subH h' js) hout) (hl : Le (ren (subF js) (pack (retVs t' h' os))) r) : retQH m n0 os r hout .ret t h :=
  ⟨gs, js, t', h', hg, hp, hk, hh, hl⟩
theorem r_weak {os : List AOp} {r : AV} {bs : List AV} {ks : List Nat} (hp : retPs m t h os) (ha : absorbs false h (retVs t h os) = some (bs, ks)) (hl : Le (pack bs) r) : retQ m .weak os r .ret t h := by
  refine ⟨hp, pack bs, ?_, hl⟩
  simp only [Ret, ha]
end

section
variable {P : Program} {dm : Md} {bs : List (Nat × AV)} {h : List AObj} {α : Type} {enc : α → AV} {l : List α} {z : Nat} {x i : AX} {e : α} {k : IntKind}

theorem awpL_of {op : AOp} {e : AX → AV} {h : List AObj} {k : AV → List AObj → Prop} (hq : op.quiet = true) (hm : mmT op e h) (h1 : aqP op e h ∧ (aqF op e → k (aqV op e h) h)) : awpL P dm op e h k := by
  cases op <;> first | exact ⟨aqQ.of h1.1 hm, h1.2⟩ | cases hq
theorem o_q {op : AOp} (v : AV) (hq : op.quiet = true) (hp : aqQ dm.m op (AX.ev (ofL bs)) h) (hv : aqV op (AX.ev (ofL bs)) h = v) : Opr P dm op bs h v h := by
  intro k hk
  subst hv
  cases op <;> first | (exact ⟨hp, fun _ => hk⟩) | (cases hq)
theorem o_mov (v : AV) (hv : x.ev (ofL bs) = v) : Opr P dm (.mov x) bs h v h := o_q v rfl (.of trivial trivial) hv
theorem o_len (hx : x.ev (ofL bs) = .lst z (l.map enc)) : OprF P dm (.len x) bs h (.int .i64 l.length) h (l.length ≤ maxLen) := by
  intro k hk
  refine awpL_of rfl trivial ?_
  simp only [aqP, aqF, aqV, hx, List.length_map]
  exact ⟨trivial, hk⟩
theorem o_lenown {o lo m z : Nat} {l : List AV} (hx : x.ev (ofL bs) = .own o lo m) (ho : h[o]? = some (.row z l)) : OprF P dm (.len x) bs h (.int .i64 m) h (m ≤ maxLen) := by
  intro k hk
  refine awpL_of rfl trivial ?_
  simp only [aqP, aqF, aqV, hx, ho]
  exact ⟨trivial, hk⟩
theorem o_lennil (hx : x.ev (ofL bs) = .nil) : Opr P dm (.len x) bs h (.int .i64 0) h := by
  intro k hk
  refine awpL_of rfl trivial ?_
  simp only [aqP, aqF, aqV, hx]
  exact ⟨trivial, fun _ => hk⟩
theorem o_lenS {s : List UInt8} (hx : x.ev (ofL bs) = .str s) : OprF P dm (.lenS x) bs h (.int .i64 s.length) h (s.length ≤ maxLen) := by
  intro k hk
  refine awpL_of rfl trivial ?_
  simp only [aqP, aqF, aqV, hx]
  exact ⟨trivial, hk⟩
theorem o_iaddr {n : Int} (hx : x.ev (ofL bs) = .lst z (l.map enc)) (hi : i.ev (ofL bs) = .int k n) (h0 : 0 ≤ n) (hl : l[n.toNat]? = some e) : Opr P dm (.iaddr z x i) bs h (.iptr (enc e) 0) h := by
  intro k hk
  have hlt : n.toNat < l.length := (List.getElem?_eq_some_iff.1 hl).1
  have hg : (l.map enc).getD n.toNat .undef = enc e := by simp [hl]
  refine awpL_of rfl trivial ?_
  simp only [aqP, aqF, aqV, hx, hi, List.length_map, hg]
  exact ⟨⟨⟨h0, by omega⟩, trivial⟩, fun _ => hk⟩
theorem o_iaddrn {j : Nat} (hx : x.ev (ofL bs) = .lst z (l.map enc)) (hi : i.ev (ofL bs) = .int k (j : Int)) (hl : l[j]? = some e) : Opr P dm (.iaddr z x i) bs h (.iptr (enc e) 0) h :=
  o_iaddr hx hi (by omega) (by simpa using hl)
theorem o_iaddrown {o lo m z' : Nat} {l : List AV} {n : Int} (hx : x.ev (ofL bs) = .own o lo m) (hi : i.ev (ofL bs) = .int k n) (h0 : 0 ≤ n) (h1 : n < m) (ho : h[o]? = some (.row z' l)) (hz : z' = z) : Opr P dm (.iaddr z x i) bs h (.ptr o (lo + n.toNat) 0) h := by
  intro k hk
  subst hz
  refine awpL_of rfl trivial ?_
  simp only [aqP, aqF, aqV, hx, hi, ho]
  exact ⟨⟨⟨h0, h1⟩, trivial⟩, fun _ => hk⟩
theorem o_iaddrownn {o m z' : Nat} {l : List AV} {j : Nat} (hx : x.ev (ofL bs) = .own o 0 m) (hi : i.ev (ofL bs) = .int k (j : Int)) (h1 : j < m) (ho : h[o]? = some (.row z' l)) (hz : z' = z) : Opr P dm (.iaddr z x i) bs h (.ptr o j 0) h := by
  have := o_iaddrown (P := P) (dm := dm) (z := z) hx hi (by omega) (by omega) ho hz
  simpa using this
theorem o_idxs {s : List UInt8} {n : Int} {c : UInt8} (hx : x.ev (ofL bs) = .str s) (hi : i.ev (ofL bs) = .int k n) (h0 : 0 ≤ n) (hl : s[n.toNat]? = some c) : Opr P dm (.idxs x i) bs h (.int .u8 c.toNat) h := by
  intro k hk
  have hlt : n.toNat < s.length := (List.getElem?_eq_some_iff.1 hl).1
  have hg : s.getD n.toNat 0 = c := by simp [hl]
  refine awpL_of rfl trivial ?_
  simp only [aqP, aqF, aqV, hx, hi, hg]
  exact ⟨⟨h0, by omega⟩, fun _ => hk⟩
theorem o_idxsn {s : List UInt8} {j : Nat} {c : UInt8} (hx : x.ev (ofL bs) = .str s) (hi : i.ev (ofL bs) = .int k (j : Int)) (hl : s[j]? = some c) : Opr P dm (.idxs x i) bs h (.int .u8 c.toNat) h :=
  o_idxs hx hi (by omega) (by simpa using hl)
/-- a load of a row's element -/
theorem o_loadrow {dm : Bool} {a : AX} {o j f sz z : Nat} {ag : Bool} {v : AV} (hx : a.ev (ofL bs) = .ptr o j f) (ho : h[o]? = some (.row z (l.map enc))) (hl : l[j]? = some e) (hp : ldP (enc e) f sz ag) (hv : ldV (enc e) f sz ag = v) : Opr P (dm : Bool) (.load sz ag a) bs h v h := by
  intro k hk
  have hg : (l.map enc).getD j .undef = enc e := by simp [hl]
  have key : aqP (.load sz ag a) (AX.ev (ofL bs)) h := by
    simp only [aqP, hx, ho, hg]
    exact hp
  refine ⟨key, fun _ => ?_⟩
  simp only [aqV, hx, ho, hg, hv]
  exact hk
theorem o_loadeq {a : AX} {f sz : Nat} {ag : Bool} {el c v : AV} (hx : a.ev (ofL bs) = .iptr el f) (he : el = c) (hp : ldP c f sz ag) (hv : ldV c f sz ag = v) : Opr P dm (.load sz ag a) bs h v h := by
  intro k hk
  subst he
  refine awpL_of rfl (by simp only [mmT, hx]) ?_
  simp only [aqP, aqF, aqV, hx, hv]
  exact ⟨hp, fun _ => hk⟩
theorem nle {a b : Nat} (h : Nat.ble a b = true := by rfl) : a ≤ b := Nat.le_of_ble_eq_true h
theorem o_loadroweq {dm : Bool} {a : AX} {o j f sz z : Nat} {ag : Bool} {c v : AV} (hx : a.ev (ofL bs) = .ptr o j f) (ho : h[o]? = some (.row z (l.map enc))) (hl : l[j]? = some e) (he : enc e = c) (hp : ldP c f sz ag) (hv : ldV c f sz ag = v) : Opr P (dm : Bool) (.load sz ag a) bs h v h := by
  subst he
  exact o_loadrow hx ho hl hp hv
theorem o_fieldeq {off sz : Nat} {ag : Bool} {el v : AV} {c : List AV} (hx : x.ev (ofL bs) = el) (he : el = .agg c) (hp : ldP (.agg c) off sz ag) (hv : ldV (.agg c) off sz ag = v) : Opr P dm (.field off sz ag x) bs h v h := by
  intro k hk
  subst he
  refine awpL_of rfl trivial ?_
  simp only [aqP, aqF, aqV, hx, hv]
  exact ⟨hp, fun _ => hk⟩
theorem o_slt {n : Int} {hi : AX} (hx : x.ev (ofL bs) = .lst z (l.map enc)) (hh : hi.ev (ofL bs) = .int k n) (h0 : 0 ≤ n) (h1 : n ≤ l.length) : Opr P dm (.slice z x none (some hi)) bs h (.lst z ((l.take n.toNat).map enc)) h := by
  intro k hk
  refine awpL_of rfl trivial ?_
  simp only [aqP, aqF, aqV, hx, hh, slcP, slcV, szIs, bndP, Option.map_some, Option.map_none, Option.getD_some, Option.getD_none, List.length_map, ← List.map_take]
  exact ⟨⟨⟨by omega, h0, h1⟩, trivial⟩, fun _ => hk⟩
theorem o_sld {n : Int} {lo : AX} (hx : x.ev (ofL bs) = .lst z (l.map enc)) (hh : lo.ev (ofL bs) = .int k n) (h0 : 0 ≤ n) (h1 : n ≤ l.length) : Opr P dm (.slice z x (some lo) none) bs h (.lst z ((l.drop n.toNat).map enc)) h := by
  intro k hk
  refine awpL_of rfl trivial ?_
  simp only [aqP, aqF, aqV, hx, hh, slcP, slcV, szIs, bndP, Option.map_some, Option.map_none, Option.getD_some, Option.getD_none, List.length_map, ← List.map_drop]
  exact ⟨⟨⟨h0, h1, by omega⟩, trivial⟩, fun _ => hk⟩
theorem o_slb {m n : Int} {lo hi : AX} {k' : IntKind} (hx : x.ev (ofL bs) = .lst z (l.map enc)) (hlo : lo.ev (ofL bs) = .int k' m) (hh : hi.ev (ofL bs) = .int k n) (h0 : 0 ≤ m) (h1 : m ≤ n) (h2 : n ≤ l.length) : Opr P dm (.slice z x (some lo) (some hi)) bs h (.lst z (((l.drop m.toNat).take (n.toNat - m.toNat)).map enc)) h := by
  intro k hk
  refine awpL_of rfl trivial ?_
  simp only [aqP, aqF, aqV, hx, hlo, hh, slcP, slcV, szIs, bndP, Option.map_some, Option.map_none, Option.getD_some, Option.getD_none, List.length_map, ← List.map_drop, ← List.map_take]
  exact ⟨⟨⟨h0, h1, h2⟩, trivial⟩, fun _ => hk⟩
theorem o_slto {o m : Nat} {l : List AV} {n : Int} {hi : AX} (hx : x.ev (ofL bs) = .own o 0 m) (ho : h[o]? = some (.row z l)) (hh : hi.ev (ofL bs) = .int k n) (h0 : 0 ≤ n) (h1 : n ≤ m) : Opr P dm (.slice z x none (some hi)) bs h (.own o 0 n.toNat) h := by
  intro k hk
  refine awpL_of rfl trivial ?_
  simp only [aqP, aqF, aqV, hx, ho, hh, slcP, slcV, szIs, bndP, Option.map_some, Option.map_none, Option.getD_some, Option.getD_none]
  exact ⟨⟨⟨by omega, h0, h1⟩, trivial⟩, fun _ => hk⟩
theorem o_sldo {o m : Nat} {l : List AV} {n : Int} {lo : AX} (hx : x.ev (ofL bs) = .own o 0 m) (ho : h[o]? = some (.row z l)) (hh : lo.ev (ofL bs) = .int k n) (h0 : 0 ≤ n) (h1 : n ≤ m) : Opr P dm (.slice z x (some lo) none) bs h (.own o n.toNat (m - n.toNat)) h := by
  intro k hk
  refine awpL_of rfl trivial ?_
  simp only [aqP, aqF, aqV, hx, ho, hh, slcP, slcV, szIs, bndP, Option.map_some, Option.map_none, Option.getD_some, Option.getD_none, Nat.zero_add]
  exact ⟨⟨⟨h0, h1, by omega⟩, trivial⟩, fun _ => hk⟩
theorem o_slbo {o m : Nat} {l : List AV} {a n : Int} {lo hi : AX} {k' : IntKind} (hx : x.ev (ofL bs) = .own o 0 m) (ho : h[o]? = some (.row z l)) (hl : lo.ev (ofL bs) = .int k' a) (hh : hi.ev (ofL bs) = .int k n) (h0 : 0 ≤ a) (h1 : a ≤ n) (h2 : n ≤ m) : Opr P dm (.slice z x (some lo) (some hi)) bs h (.own o a.toNat (n.toNat - a.toNat)) h := by
  intro k hk
  refine awpL_of rfl trivial ?_
  simp only [aqP, aqF, aqV, hx, ho, hl, hh, slcP, slcV, szIs, bndP, Option.map_some, Option.map_none, Option.getD_some, Option.getD_none, Nat.zero_add]
  exact ⟨⟨⟨h0, h1, h2⟩, trivial⟩, fun _ => hk⟩
theorem o_box {c : AV} {sz j : Nat} (hv : x.ev (ofL bs) = c) (hs : solid h c) (hl : c.cells.length = sz) (hj : h.length = j) : Opr P dm (.box sz x) bs h (.ptr j 0 0) (h ++ [.box sz c]) := by
  intro k hk
  subst hj hv
  exact ⟨⟨hs, hl⟩, hk⟩
theorem o_boxeq {c c' : AV} {sz j : Nat} (hv : x.ev (ofL bs) = c') (he : c' = c) (hs : solid h c) (hl : c.cells.length = sz) (hj : h.length = j) : Opr P dm (.box sz x) bs h (.ptr j 0 0) (h ++ [.box sz c]) := o_box (hv.trans he) hs hl hj
theorem o_storebox {a : AX} {o j f z sz : Nat} {y v y' : AV} (ha : a.ev (ofL bs) = .ptr o j f) (ho : h[o]? = some (.box z y)) (hx : x.ev (ofL bs) = v) (hs : solid h v) (hp : cellPutP y f sz v) (hl : solidL h v.cells) (hy : cellPut y f v = y') : Opr P dm (.store sz a x) bs h .skip (h.set o (.box z y')) := by
  intro k hk
  subst hx hy
  simp only [awpL, ha, ho]
  exact ⟨⟨hs, hp, hl⟩, hk⟩
theorem o_storerow {a : AX} {o j f z sz : Nat} {v v0 v' : AV} {e' : α} {ks : List Nat} {h2 : List AObj} (ha : a.ev (ofL bs) = .ptr o j f) (ho : h[o]? = some (.row z (l.map enc))) (hl : l[j]? = some e) (hx : x.ev (ofL bs) = v) (hab : absorb dm.d h v = some (v0, ks)) (hv0 : v0 = v') (hk : o ∉ ks) (hnd : dm.d = true → ks.Nodup) (hp : cellPutP (enc e) f sz v') (hy : Le (cellPut (enc e) f v') (enc e')) (hh : kill h ks = h2) :
    Opr P dm (.store sz a x) bs h .skip (h2.set o (.row z ((l.set j e').map enc))) := by
  intro k hk'
  subst hx hh hv0
  have hg : (l.map enc)[j]? = some (enc e) := by simp [hl]
  simp only [awpL, ha, ho, hg, hab]
  refine ⟨⟨hk, hnd, hp⟩, _, hy, ?_⟩
  rw [← List.map_set]
  exact hk'
theorem o_storeroweq {a : AX} {o j f z sz : Nat} {v v0 v' c : AV} {e' : α} {ks : List Nat} {h2 : List AObj} (ha : a.ev (ofL bs) = .ptr o j f) (ho : h[o]? = some (.row z (l.map enc))) (hl : l[j]? = some e) (he : enc e = c) (hx : x.ev (ofL bs) = v) (hab : absorb dm.d h v = some (v0, ks)) (hv0 : v0 = v') (hk : o ∉ ks) (hnd : dm.d = true → ks.Nodup) (hp : cellPutP c f sz v') (hy : Le (cellPut c f v') (enc e')) (hh : kill h ks = h2) :
    Opr P dm (.store sz a x) bs h .skip (h2.set o (.row z ((l.set j e').map enc))) := by
  subst he
  exact o_storerow ha ho hl hx hab hv0 hk hnd hp hy hh
theorem o_mkslice {sz bytes j m : Nat} {zero : AV} {nx cx : AX} {k' : IntKind} {c : Int} (e : α) (hz : Le zero (enc e)) (hn : nx.ev (ofL bs) = .int k (m : Int)) (hc : cx.ev (ofL bs) = .int k' c) (h1 : (m : Int) ≤ c) (h2 : c ≤ 2 ^ 30) (hj : h.length = j) :
    Opr P dm (.mkslice sz bytes zero nx cx) bs h (.own j 0 m) (h ++ [.row sz ((List.replicate m e).map enc)]) := by
  intro k hk
  subst hj
  simp only [awpL, hn, hc]
  refine ⟨⟨by omega, h1, h2⟩, (List.replicate m e).map enc, ?_, by simpa using hk⟩
  rw [Int.toNat_natCast, List.map_replicate]
  exact LeL.rep hz m
theorem o_bslice {sz j m : Nat} {xs : List AX} {as as' : List AV} {ks : List Nat} {h2 : List AObj} (ha : absorbs dm.d h (xs.map (AX.ev (ofL bs))) = some (as, ks)) (hnd : dm.d = true → ks.Nodup) (hl : lenL sz as) (he : LeL as as') (hm : as'.length = m) (hh : kill h ks = h2) (hj : h.length = j) :
    Opr P dm (.bslice sz xs) bs h (.own j 0 m) (h2 ++ [.row sz as']) := by
  intro k hk
  subst hj hm hh
  simp only [awpL, ha]
  exact ⟨⟨hnd, hl⟩, as', he, by rw [he.length]; exact hk⟩
theorem o_appendw {sz bytes j n m len : Nat} {s : AX} {l0 l1 L : List AV} {ks0 ks1 : List Nat} {h2 : List AObj} (hd : dstOf h sz (s.ev (ofL bs)) = some (l0, n, ks0)) (hs : srcOf false h sz (x.ev (ofL bs)) = some (l1, m, ks1)) (hL : l0 ++ l1 = L) (hn : n + m = len) (hb : len ≤ 2 ^ 30) (hh : kill h (ks0 ++ ks1) = h2) (hj : h.length = j) :
    Opr P (false : Bool) (.append sz bytes s x) bs h (.own j 0 len) (h2 ++ [.row sz L]) := by
  intro k hk
  subst hL hn hh hj
  simp only [awpL, hd, hs]
  exact ⟨hb, hk⟩
theorem o_appendd (hdd : dm.d = true) {sz bytes j n m len : Nat} {s : AX} {l0 l1 L : List AV} {ks0 ks1 : List Nat} {h2 : List AObj} (cons : Bool) (hd : dstOf h sz (s.ev (ofL bs)) = some (l0, n, ks0)) (hs : srcOf cons h sz (x.ev (ofL bs)) = some (l1, m, ks1)) (hf : cons = false → ∀ a ∈ l1, R.flat a = true) (hf2 : ∀ z l', x.ev (ofL bs) = .lst z l' → ∀ a ∈ l1, R.flat a = true) (hnd : (ks0 ++ ks1).Nodup) (hL : l0 ++ l1 = L) (hn : n + m = len) (hb : len ≤ 2 ^ 30) (hh : kill h (ks0 ++ ks1) = h2) (hj : h.length = j) :
    Opr P dm (.append sz bytes s x) bs h (.own j 0 len) (h2 ++ [.row sz L]) := by
  intro k hk
  subst hL hn hh hj
  simp only [awpL, hdd]
  refine .inl ⟨cons, ?_⟩
  simp only [hd, hs]
  exact ⟨⟨hf, hf2, hnd, hb⟩, hk⟩
/-- the end of an own row is laid over its middle -/
theorem o_shift (hdd : dm.d = true) {sz bytes j o n lo m len : Nat} {s : AX} {l L : List AV} (hs : s.ev (ofL bs) = .own o 0 n) (hx : x.ev (ofL bs) = .own o lo m) (hle : n ≤ lo) (ho : h[o]? = some (.row sz l)) (hL : l.take n ++ (l.drop lo).take m = L) (hn : n + m = len) (hj : h.length = j) :
    Opr P dm (.append sz bytes s x) bs h (.own j 0 len) (kill h [o] ++ [.row sz L]) := by
  intro k hk
  subst hL hn hj
  simp only [awpL, hdd]
  exact .inr ⟨o, n, lo, m, l, ⟨hs, hx, hle, ho⟩, hk⟩
/-! open rows -/
theorem o_lenx {o lo m z i : Nat} {l : List AV} {el : AV} (hx : x.ev (ofL bs) = .own o lo m) (ho : h[o]? = some (.rowx z l i el)) : OprF P dm (.len x) bs h (.int .i64 m) h (m ≤ maxLen) := by
  intro k hk
  refine awpL_of rfl trivial ?_
  simp only [aqP, aqF, aqV, hx, ho]
  exact ⟨trivial, hk⟩
theorem o_iaddrx {o lo m z' j : Nat} {l : List AV} {el : AV} {n : Int} {i : AX} {z : Nat} {kk : IntKind} (hx : x.ev (ofL bs) = .own o lo m) (hi : i.ev (ofL bs) = .int kk n) (h0 : 0 ≤ n) (h1 : n < m) (ho : h[o]? = some (.rowx z' l j el)) (hz : z' = z) : Opr P dm (.iaddr z x i) bs h (.ptr o (lo + n.toNat) 0) h := by
  intro k hk
  subst hz
  refine awpL_of rfl trivial ?_
  simp only [aqP, aqF, aqV, hx, hi, ho]
  exact ⟨⟨⟨h0, h1⟩, trivial⟩, fun _ => hk⟩
theorem o_iaddrxn {o m z' j' : Nat} {l : List AV} {el : AV} {j : Nat} {i : AX} {z : Nat} {kk : IntKind} (hx : x.ev (ofL bs) = .own o 0 m) (hi : i.ev (ofL bs) = .int kk (j : Int)) (h1 : j < m) (ho : h[o]? = some (.rowx z' l j' el)) (hz : z' = z) : Opr P dm (.iaddr z x i) bs h (.ptr o j 0) h := by
  have := o_iaddrx (P := P) (dm := dm) (z := z) hx hi (by omega) (by omega) ho hz
  simpa using this
theorem o_loadx {a : AX} {o j f sz z : Nat} {ag : Bool} {l : List AV} {el v : AV} (hx : a.ev (ofL bs) = .ptr o j f) (ho : h[o]? = some (.rowx z l j el)) (hp : ldP el f sz ag) (hv : ldV el f sz ag = v) : Opr P dm (.load sz ag a) bs h v h := by
  intro k hk
  refine awpL_of rfl ?_ ?_
  · simp only [mmT, hx, ho]
  · simp only [aqP, aqF, aqV, hx, ho, hv]
    exact ⟨⟨trivial, hp⟩, fun _ => hk⟩
theorem o_storex {a : AX} {o j f z sz : Nat} {l : List AV} {y v y' : AV} (ha : a.ev (ofL bs) = .ptr o j f) (ho : h[o]? = some (.rowx z l j y)) (hx : x.ev (ofL bs) = v) (hs : solid h v) (hp : cellPutP y f sz v) (hl : solidL h v.cells) (hy : cellPut y f v = y') : Opr P dm (.store sz a x) bs h .skip (h.set o (.rowx z l j y')) := by
  intro k hk
  subst hx hy
  simp only [awpL, ha, ho]
  exact ⟨⟨trivial, hs, hp, hl⟩, hk⟩
theorem o_faddrx {a : AX} {o j f off z : Nat} {l : List AV} {i : Nat} {el : AV} (hx : a.ev (ofL bs) = .ptr o j f) (ho : h[o]? = some (.rowx z l i el)) : Opr P dm (.faddr off a) bs h (.ptr o j (f + off)) h := by
  intro k hk
  refine awpL_of rfl trivial ?_
  simp only [aqP, aqF, aqV, hx, ho]
  exact ⟨trivial, fun _ => hk⟩

/-! the same, looked at again -/
def Agn (m : Bool) (op : AOp) (bs : List (Nat × AV)) (h : List AObj) (v : AV) : Prop := aqQ m op (AX.ev (ofL bs)) h ∧ v = aqV op (AX.ev (ofL bs)) h
theorem Agn.of {m : Bool} {op : AOp} (hq : op.quiet = true) {v : AV} (ho : ∀ k : AV → List AObj → Prop, k v h → (aqP op (AX.ev (ofL bs)) h ∧ (aqF op (AX.ev (ofL bs)) → k (aqV op (AX.ev (ofL bs)) h) h))) (hf : aqF op (AX.ev (ofL bs))) (hm : mmT op (AX.ev (ofL bs)) h := by trivial) : Agn m op bs h v := by
  obtain ⟨h1, h2⟩ := ho (fun r _ => v = r) rfl
  exact ⟨.of h1 hm, h2 hf⟩
theorem ag_len (hx : x.ev (ofL bs) = .lst z (l.map enc)) : Agn false (.len x) bs h (.int .i64 l.length) := by
  simp only [Agn, aqQ, aqP, aqV, hx, List.length_map, and_self]
theorem ag_lenown {o lo m z : Nat} {l : List AV} (hx : x.ev (ofL bs) = .own o lo m) (ho : h[o]? = some (.row z l)) : Agn false (.len x) bs h (.int .i64 m) := by
  simp only [Agn, aqQ, aqP, aqV, hx, ho, and_self]
theorem ag_lennil (hx : x.ev (ofL bs) = .nil) : Agn false (.len x) bs h (.int .i64 0) := by
  simp only [Agn, aqQ, aqP, aqV, hx, and_self]
theorem ag_iaddr {n : Int} (hx : x.ev (ofL bs) = .lst z (l.map enc)) (hi : i.ev (ofL bs) = .int k n) (h0 : 0 ≤ n) (hl : l[n.toNat]? = some e) : Agn false (.iaddr z x i) bs h (.iptr (enc e) 0) :=
  Agn.of rfl (fun k hk => o_iaddr (P := default) (dm := (false : Bool)) hx hi h0 hl k hk) (by trivial)
theorem ag_iaddrn {j : Nat} (hx : x.ev (ofL bs) = .lst z (l.map enc)) (hi : i.ev (ofL bs) = .int k (j : Int)) (hl : l[j]? = some e) : Agn false (.iaddr z x i) bs h (.iptr (enc e) 0) :=
  ag_iaddr hx hi (by omega) (by simpa using hl)
theorem ag_iaddrownn {o m z' : Nat} {l : List AV} {j : Nat} (hx : x.ev (ofL bs) = .own o 0 m) (hi : i.ev (ofL bs) = .int k (j : Int)) (h1 : j < m) (ho : h[o]? = some (.row z' l)) (hz : z' = z) : Agn false (.iaddr z x i) bs h (.ptr o j 0) :=
  Agn.of rfl (fun k hk => o_iaddrownn (P := default) (dm := (false : Bool)) hx hi h1 ho hz k hk) trivial
theorem ag_slt {n : Int} {hi : AX} (hx : x.ev (ofL bs) = .lst z (l.map enc)) (hh : hi.ev (ofL bs) = .int k n) (h0 : 0 ≤ n) (h1 : n ≤ l.length) : Agn false (.slice z x none (some hi)) bs h (.lst z ((l.take n.toNat).map enc)) :=
  Agn.of rfl (fun k hk => o_slt (P := default) (dm := (false : Bool)) hx hh h0 h1 k hk) trivial
theorem ag_sld {n : Int} {lo : AX} (hx : x.ev (ofL bs) = .lst z (l.map enc)) (hh : lo.ev (ofL bs) = .int k n) (h0 : 0 ≤ n) (h1 : n ≤ l.length) : Agn false (.slice z x (some lo) none) bs h (.lst z ((l.drop n.toNat).map enc)) :=
  Agn.of rfl (fun k hk => o_sld (P := default) (dm := (false : Bool)) hx hh h0 h1 k hk) trivial
theorem ag_slto {o m : Nat} {l : List AV} {n : Int} {hi : AX} (hx : x.ev (ofL bs) = .own o 0 m) (ho : h[o]? = some (.row z l)) (hh : hi.ev (ofL bs) = .int k n) (h0 : 0 ≤ n) (h1 : n ≤ m) : Agn false (.slice z x none (some hi)) bs h (.own o 0 n.toNat) :=
  Agn.of rfl (fun k hk => o_slto (P := default) (dm := (false : Bool)) hx ho hh h0 h1 k hk) trivial
theorem ag_sldo {o m : Nat} {l : List AV} {n : Int} {lo : AX} (hx : x.ev (ofL bs) = .own o 0 m) (ho : h[o]? = some (.row z l)) (hh : lo.ev (ofL bs) = .int k n) (h0 : 0 ≤ n) (h1 : n ≤ m) : Agn false (.slice z x (some lo) none) bs h (.own o n.toNat (m - n.toNat)) :=
  Agn.of rfl (fun k hk => o_sldo (P := default) (dm := (false : Bool)) hx ho hh h0 h1 k hk) trivial
theorem ag_slbo {o m : Nat} {l : List AV} {a n : Int} {lo hi : AX} {k' : IntKind} (hx : x.ev (ofL bs) = .own o 0 m) (ho : h[o]? = some (.row z l)) (hl : lo.ev (ofL bs) = .int k' a) (hh : hi.ev (ofL bs) = .int k n) (h0 : 0 ≤ a) (h1 : a ≤ n) (h2 : n ≤ m) : Agn false (.slice z x (some lo) (some hi)) bs h (.own o a.toNat (n.toNat - a.toNat)) :=
  Agn.of rfl (fun k hk => o_slbo (P := default) (dm := (false : Bool)) hx ho hl hh h0 h1 h2 k hk) trivial
theorem ag_iaddrown {o lo m z' : Nat} {l : List AV} {n : Int} (hx : x.ev (ofL bs) = .own o lo m) (hi : i.ev (ofL bs) = .int k n) (h0 : 0 ≤ n) (h1 : n < m) (ho : h[o]? = some (.row z' l)) (hz : z' = z) : Agn false (.iaddr z x i) bs h (.ptr o (lo + n.toNat) 0) :=
  Agn.of rfl (fun k hk => o_iaddrown (P := default) (dm := (false : Bool)) hx hi h0 h1 ho hz k hk) trivial
theorem ag_loadrow {a : AX} {o j f sz z : Nat} {ag : Bool} {v : AV} (hx : a.ev (ofL bs) = .ptr o j f) (ho : h[o]? = some (.row z (l.map enc))) (hl : l[j]? = some e) (hp : ldP (enc e) f sz ag) (hv : ldV (enc e) f sz ag = v) : Agn false (.load sz ag a) bs h v := by
  have hg : (l.map enc).getD j .undef = enc e := by simp [hl]
  refine ⟨?_, ?_⟩
  · show aqP (.load sz ag a) (AX.ev (ofL bs)) h
    simp only [aqP, hx, ho, hg]
    exact hp
  · simp only [aqV, hx, ho, hg, hv]
theorem ag_loadroweq {a : AX} {o j f sz z : Nat} {ag : Bool} {c v : AV} (hx : a.ev (ofL bs) = .ptr o j f) (ho : h[o]? = some (.row z (l.map enc))) (hl : l[j]? = some e) (he : enc e = c) (hp : ldP c f sz ag) (hv : ldV c f sz ag = v) : Agn false (.load sz ag a) bs h v := by
  subst he
  exact ag_loadrow hx ho hl hp hv
theorem ag_idxs {s : List UInt8} {n : Int} {c : UInt8} (hx : x.ev (ofL bs) = .str s) (hi : i.ev (ofL bs) = .int k n) (h0 : 0 ≤ n) (hl : s[n.toNat]? = some c) : Agn false (.idxs x i) bs h (.int .u8 c.toNat) :=
  Agn.of rfl (fun k hk => o_idxs (P := default) (dm := (false : Bool)) hx hi h0 hl k hk) trivial
theorem ag_idxsn {s : List UInt8} {j : Nat} {c : UInt8} (hx : x.ev (ofL bs) = .str s) (hi : i.ev (ofL bs) = .int k (j : Int)) (hl : s[j]? = some c) : Agn false (.idxs x i) bs h (.int .u8 c.toNat) :=
  ag_idxs hx hi (by omega) (by simpa using hl)
theorem ag_lenS {s : List UInt8} (hx : x.ev (ofL bs) = .str s) : Agn false (.lenS x) bs h (.int .i64 s.length) := by
  simp only [Agn, aqQ, aqP, aqV, hx, and_self]
theorem ag_loadeq {a : AX} {f sz : Nat} {ag : Bool} {el c v : AV} (hx : a.ev (ofL bs) = .iptr el f) (he : el = c) (hp : ldP c f sz ag) (hv : ldV c f sz ag = v) : Agn false (.load sz ag a) bs h v :=
  Agn.of rfl (fun k hk => o_loadeq (P := default) (dm := (false : Bool)) hx he hp hv k hk) trivial (by simp only [mmT, hx])

/-! calls -/
variable {f : Nat} {args : List AX} {r : AV} {cs cs' : List AV}
theorem cls_cons {h : List AObj} {p : Nat → Nat → Nat → Option AV} {a a' : AV} {as as' : List AV} (h1 : closeW h p a = some a') (h2 : closeWs h p as = some as') : closeWs h p (a :: as) = some (a' :: as') := by simp only [closeWs, h1, h2]
theorem cls_fn {h : List AObj} {p : Nat → Nat → Nat → Option AV} {kf : Nat} {cf : List AV} (hcf : ∀ h p, closeWs h p cf = some cf) : closeW h p (.fn kf cf) = some (.fn kf cf) := by simp only [closeW, hcf]; rfl
theorem o_call {bs' : List AV} {v : AV} (hc : CallOK P f .flat bs' r) (hb : closes h (args.map (AX.ev (ofL bs))) = some cs) (hl : LeL cs bs') (hv : r = v) : Opr P dm (.call f args) bs h v h := fun k hk => CallStep.flat hc hb hl (by rw [hv]; exact hk)
theorem o_callf {bs' : List AV} {v : AV} {h' : List AObj} (hc : CallOK P f .fresh bs' r) (hb : closes h (args.map (AX.ev (ofL bs))) = some cs) (hl : LeL cs bs') (hv : openV h.length r = (v, h')) : Opr P dm (.call f args) bs h v (h ++ h') := fun k hk => CallStep.fresh hc hb hl (by rw [hv]; exact hk)
theorem o_callc (hm : dm.m = false) {bs' : List AV} {v : AV} (hc : CallOK P f .fresh bs' r) (hb : closes h (args.map (AX.ev (ofL bs))) = some cs) (hl : LeL cs bs') (hv : r = v) : Opr P dm (.call f args) bs h v h := fun k hk => CallStep.freshc hm hc hb hl (by rw [hv]; exact hk)
theorem o_callw (hm : dm.m = false) {bs' : List AV} {ks : List Nat} {h2 : List AObj} {v : AV} (hc : CallOK P f .weak bs' r) (hb : absorbs false h (args.map (AX.ev (ofL bs))) = some (cs, ks)) (hl : LeL cs bs') (hv : r = v) (hh : kill h ks = h2) : Opr P dm (.call f args) bs h v h2 := fun k hk => CallStep.weak hm hc hb hl (by rw [hh, hv]; exact hk)
theorem o_callz (hz : dm.z = true) (hd : dm.d = true) {bs' : List AV} {ks : List Nat} {h2 : List AObj} {v : AV} (hc : CallOK P f .weak bs' r) (hb : absorbs true h (args.map (AX.ev (ofL bs))) = some (cs, ks)) (hl : LeL cs bs') (hv : r = v) (hh : kill h ks = h2) : Opr P dm (.call f args) bs h v h2 := fun k hk => CallStep.weakz hz hd hc hb hl (by rw [hh, hv]; exact hk)
def lend (h : List AObj) (fl : List Bool) (js : List Nat) (as : List AV) : Option (List AV × List AObj × List Nat) := match frzA h fl as with
  | some (cs, ks) => match keepOK 0 h.length js with
    | true => some (rens (subF js) cs, subH (kill h ks) js, ks)
    | false => none
  | none => none
theorem lend_some {h : List AObj} {fl : List Bool} {js ks : List Nat} {as cs2 : List AV} {hs : List AObj} (hf : lend h fl js as = some (cs2, hs, ks)) : ∃ cs, frzA h fl as = some (cs, ks) ∧ keepOK 0 h.length js = true ∧ rens (subF js) cs = cs2 ∧ subH (kill h ks) js = hs := by
  unfold lend at hf
  split at hf
  · rename_i cs ks' e
    split at hf
    · rename_i e2
      cases hf
      exact ⟨cs, e, e2, rfl, rfl⟩
    · cases hf
  · cases hf
theorem o_callh {as' cs2 : List AV} {ks : List Nat} {hi hout h2 hs : List AObj} {v : AV} (fl : List Bool) (js : List Nat) (hm : dm.m = true → fl = []) (hc : CallHeap P dm.nz f as' hi r hout) (hf : lend h fl js (args.map (AX.ev (ofL bs))) = some (cs2, hs, ks)) (hl : LeL cs2 as') (hh : LeH hs hi) (hv : ren (backF h.length js) r = v) (h2e : putH (kill h ks) js hout = h2) : Opr P dm (.call f args) bs h v h2 := by
  obtain ⟨cs, hf2, hn, rfl, rfl⟩ := lend_some hf
  obtain ⟨_, _, k1, k2⟩ := keepOK_iff hn
  exact fun k hk => CallStep.heapf fl ks js hm hf2 hc k1 k2 hl hh (by rw [hv, h2e]; exact hk)
theorem o_callhs {as' cs2 : List AV} {ks : List Nat} {hi hout h2 hs : List AObj} {v : AV} (fl : List Bool) (js : List Nat) (hm : dm.m = true → fl = []) (hc : CallHeap P dm.nz f as' hi r hout) (hf : lend h fl js (args.map (AX.ev (ofL bs))) = some (cs2, hs, ks)) (hl : LeL cs2 as') (hh : LeH hs hi) (hv : ren (backF h.length js) r = v) (h2e : putH (kill h ks) js hout = h2) : OprF P dm (.call f args) bs h v h2 (shapesL hi hout) := by
  obtain ⟨cs, hf2, hn, rfl, rfl⟩ := lend_some hf
  obtain ⟨_, _, k1, k2⟩ := keepOK_iff hn
  exact fun k hk => CallStep.heapfs fl ks js hm hf2 hc k1 k2 hl hh (fun hs => by rw [hv, h2e]; exact hk hs)
theorem o_calvh {g : Nat} {caps as as' cs2 : List AV} {ks : List Nat} {hi hout h2 hs : List AObj} {v : AV} (fl : List Bool) (js : List Nat) (hm : dm.m = true → fl = []) (hx : x.ev (ofL bs) = .fn g caps) (hok : okFn P g = true) (hc : CallHeap P dm.nz g as' hi r hout) (has : args.map (AX.ev (ofL bs)) ++ caps = as) (hf : lend h fl js as = some (cs2, hs, ks)) (hl : LeL cs2 as') (hh : LeH hs hi) (hv : ren (backF h.length js) r = v) (h2e : putH (kill h ks) js hout = h2) : Opr P dm (.calv x args) bs h v h2 := by
  obtain ⟨cs, hf2, hn, rfl, rfl⟩ := lend_some hf
  obtain ⟨_, _, k1, k2⟩ := keepOK_iff hn
  intro k hk
  simp only [awpL, hx]
  rw [has]
  exact ⟨hok, CallStep.heapf fl ks js hm hf2 hc k1 k2 hl hh (by rw [hv, h2e]; exact hk)⟩
theorem closeWs_append {p : Nat → Nat → Nat → Option AV} : ∀ {as bs as' bs' : List AV}, closeWs h p as = some as' → closeWs h p bs = some bs' → closeWs h p (as ++ bs) = some (as' ++ bs')
  | [], bs, as', bs', h1, h2 => by simp only [closeWs] at h1; cases h1; simpa using h2
  | a :: as, bs, as', bs', h1, h2 => by
    simp only [closeWs, List.cons_append] at h1 ⊢
    split at h1
    · rename_i x xs e1 e2
      cases h1
      rw [e1, closeWs_append e2 h2]
      rfl
    · cases h1
theorem LeL.append : ∀ {as bs as' bs' : List AV}, LeL as as' → LeL bs bs' → LeL (as ++ bs) (as' ++ bs')
  | _, _, _, _, .nil, h => h
  | _, _, _, _, .cons a t, h => .cons a (LeL.append t h)
/-- a call of a function value that came in -/
theorem o_calvp {g : Nat} {cf bs' : List AV} {v : AV} (hx : x.ev (ofL bs) = .fn g cf) (hok : okFn P g = true) (hcf : ∀ h p, closeWs h p cf = some cf) (hc : CallOK P g .flat (bs' ++ cf) r) (hb : closes h (args.map (AX.ev (ofL bs))) = some cs) (hl : LeL cs bs') (hv : r = v) : Opr P dm (.calv x args) bs h v h := by
  intro k hk
  simp only [awpL, hx]
  refine ⟨hok, CallStep.flat hc (closeWs_append hb (hcf _ _)) (LeL.append hl (.refl _)) ?_⟩
  rw [hv]; exact hk
theorem o_calvk {g : Nat} {caps as bs' : List AV} {v : AV} (hx : x.ev (ofL bs) = .fn g caps) (hok : okFn P g = true) (hc : CallOK P g .flat bs' r) (has : args.map (AX.ev (ofL bs)) ++ caps = as) (hb : closes h as = some cs) (hl : LeL cs bs') (hv : r = v) : Opr P dm (.calv x args) bs h v h := by
  intro k hk
  subst has
  simp only [awpL, hx]
  refine ⟨hok, CallStep.flat hc hb hl ?_⟩
  rw [hv]; exact hk
theorem o_calv {g : Nat} {caps as : List AV} {h' : List AObj} {v : AV} (hx : x.ev (ofL bs) = .fn g caps) (hok : okFn P g = true) (has : args.map (AX.ev (ofL bs)) ++ caps = as) (hc : ∀ k : AV → List AObj → Prop, k v h' → CallStep P dm g as h k) : Opr P dm (.calv x args) bs h v h' := by
  intro k hk
  subst has
  simp only [awpL, hx]
  exact ⟨hok, hc k hk⟩
end

/-! clear -/
section
variable {P : Program} {dm : Md} {bs : List (Nat × AV)} {h : List AObj} {α : Type} {enc : α → AV} {l : List α} {z : Nat} {x : AX} {y : α} {zero : AV}
theorem LeL.repz {n : Nat} (hz : Le zero (enc y)) : LeL (List.replicate n zero) ((List.replicate n y).map enc) := by
  rw [List.map_replicate]
  induction n with
  | zero => exact .nil
  | succ n ih => exact .cons hz ih
theorem o_clr {o lo n : Nat} {L : List α} (hx : x.ev (ofL bs) = .own o lo n) (ho : h[o]? = some (.row z (l.map enc))) (hz : Le zero (enc y)) (hL : l.take lo ++ List.replicate n y ++ l.drop (lo + n) = L) : Opr P dm (.clr z zero x) bs h (.tup []) (h.set o (.row z (L.map enc))) := by
  intro k hk
  subst hL
  simp only [awpL, hx, ho]
  refine ⟨trivial, _, LeL.repz hz, ?_⟩
  rw [← List.map_take, ← List.map_drop, ← List.map_append, ← List.map_append]
  exact hk
theorem o_sl3o {o lo n z : Nat} {l : List AV} {i j m : AX} {ka kb kc : IntKind} {a b c : Int} (hx : x.ev (ofL bs) = .own o lo n) (ha : i.ev (ofL bs) = .int ka a) (hb : j.ev (ofL bs) = .int kb b) (hc : m.ev (ofL bs) = .int kc c) (ho : h[o]? = some (.row z l)) (hg : 0 ≤ a ∧ a ≤ b ∧ b ≤ c ∧ c ≤ (n : Int)) : Opr P dm (.sl3 x i j m) bs h .undef h := by
  intro k hk
  simp only [awpL, hx, ha, hb, hc]
  exact ⟨⟨hg.1, hg.2.1, hg.2.2.1, hg.2.2.2, _, _, ho⟩, hk⟩
theorem o_sl3l {i j m : AX} {ka kb kc : IntKind} {a b c : Int} (hx : x.ev (ofL bs) = .lst z (l.map enc)) (ha : i.ev (ofL bs) = .int ka a) (hb : j.ev (ofL bs) = .int kb b) (hc : m.ev (ofL bs) = .int kc c) (hg : 0 ≤ a ∧ a ≤ b ∧ b ≤ c ∧ c ≤ (l.length : Int)) : Opr P dm (.sl3 x i j m) bs h .undef h := by
  intro k hk
  simp only [awpL, hx, ha, hb, hc, List.length_map]
  exact ⟨hg, hk⟩
theorem LeO.tk (l : List α) (n : Nat) : LeO (.row z ((l.map enc).take n)) (.row z ((l.take n).map enc)) := by rw [List.map_take]; exact .refl _
theorem o_cap (hx : x.ev (ofL bs) = .nil) : Opr P dm (.cap x) bs h (.int .i64 0) h := by
  intro k hk
  simp only [awpL, hx]
  exact hk
theorem o_appz {sz bytes j : Nat} {nx : AX} {k' : IntKind} {n : Int} (hx : x.ev (ofL bs) = .nil) (hn : nx.ev (ofL bs) = .int k' n) (hz : Le zero (enc y)) (h1 : 0 < n ∧ n ≤ 2 ^ 30) (hj : h.length = j) : Opr P dm (.appz sz bytes zero x nx) bs h (.own j 0 n.toNat) (h ++ [.row sz ((List.replicate n.toNat y).map enc)]) := by
  intro k hk
  subst hj
  simp only [awpL, hx, hn]
  exact ⟨h1, _, LeL.repz hz, hk⟩
theorem o_clrnil (hx : x.ev (ofL bs) = .nil) : Opr P dm (.clr z zero x) bs h (.tup []) h := by
  intro k hk
  simp only [awpL, hx]
  exact hk
end

/-! writing in place -/
section
variable {P : Program} {dm : Md} {n0 : Nat} {bs : List (Nat × AV)} {h : List AObj} {α β : Type} {enc : α → AV} {enc' : β → AV} {l : List α} {z : Nat} {x : α}
theorem getset {i : Nat} {y : AV} (hx : l[i]? = some x) : ((l.map enc).set i y)[i]? = some y := by
  have hlt := (List.getElem?_eq_some_iff.1 hx).1
  simp [hlt]
theorem setget {i : Nat} {y : α} (hx : l[i]? = some x) : (l.set i y)[i]? = some y := by
  have hlt := (List.getElem?_eq_some_iff.1 hx).1
  simp [hlt]
theorem w_rev {a : ACode} {t : Nat → AV} {Q : AQ} {o i f z' : Nat} {l' : List β} {el : AV} (ho : h[o]? = some (.row z (l.map enc))) (hx : l[i]? = some x) (he : enc x = el) (hf : el.cells[f]? = some (.lst z' (l'.map enc'))) (hn : ∀ v, awp P dm n0 a t (h.set o (.row z ((l.map enc).set i (elSet el f (.hdr v z' (l'.map enc')))))) Q) : awp P dm n0 (.rev a) t h Q := by
  subst he
  exact .inl ⟨o, i, f, z, _, _, z', _, ho, by simp [hx], hf, hn⟩
/-- an element is opened -/
theorem w_opn {a : ACode} {t : Nat → AV} {Q : AQ} {o i : Nat} {el el2 : AV} {xs : List AObj} (hm : dm.m = true) (hd : dm.d = true) (ho : h[o]? = some (.row z (l.map enc))) (hx : l[i]? = some x) (he : enc x = el) (hb : openVs h.length el.cells = (el2.cells, xs)) (hn : awp P dm n0 a t (h.set o (.rowx z (l.map enc) i el2) ++ xs) Q) : awp P dm n0 (.rev a) t h Q := by
  subst he
  exact .inr (.inl ⟨⟨hm, hd⟩, o, i, z, _, _, el2, xs, ho, by simp [hx], hb, hn⟩)
/-- and closed -/
theorem ghs_cls {m : Bool} {t : Nat → AV} {h : List AObj} {o z i : Nat} {L : List AV} {el el' : AV} {ks : List Nat} (ho : h[o]? = some (.rowx z L i el)) (hab : absorb true h el = some (el', ks)) (hc : (nin o ks && ndn ks && el'.isElem) = true) : ghs m t h [.cls o] = some (t, (kill h ks).set o (.row z (L.set i el'))) := by
  have e : gh1 t h (.cls o) = some (t, (kill h ks).set o (.row z (L.set i el'))) := by simp only [gh1, ho, hab, hc]
  cases m <;> simp only [ghs, gh1m, Gh.frzs, e]
theorem w_cls {a : ACode} {t : Nat → AV} {Q : AQ} {o i : Nat} {el el' : AV} {ks : List Nat} {h2 : List AObj} {y : α} (ho : h[o]? = some (.rowx z (l.map enc) i el)) (hab : absorb true h el = some (el', ks)) (hc : (nin o ks && ndn ks && el'.isElem) = true) (hy : Le el' (enc y)) (hh : kill h ks = h2) (hn : awp P dm n0 a t (h2.set o (.row z ((l.set i y).map enc))) Q) : awp P dm n0 (.rev a) t h Q := by
  subst hh
  refine .inr (.inr ⟨[.cls o], t, _, _, ghs_cls ho hab hc, ?_, hn⟩)
  rw [List.map_set]
  exact LeH.setr (LeL.set hy)
theorem set_same {i : Nat} (hx : l[i]? = some x) : l.set i x = l := by
  apply List.ext_getElem?
  intro n
  rw [List.getElem?_set]
  by_cases h : i = n
  · subst h
    have hlt := (List.getElem?_eq_some_iff.1 hx).1
    rw [if_pos rfl, if_pos hlt, hx]
  · rw [if_neg h]
theorem w_cls0 {a : ACode} {t : Nat → AV} {Q : AQ} {o i : Nat} {el el' : AV} {ks : List Nat} {h2 : List AObj} (hx : l[i]? = some x) (ho : h[o]? = some (.rowx z (l.map enc) i el)) (hab : absorb true h el = some (el', ks)) (hc : (nin o ks && ndn ks && el'.isElem) = true) (hy : Le el' (enc x)) (hh : kill h ks = h2) (hn : awp P dm n0 a t (h2.set o (.row z (l.map enc))) Q) : awp P dm n0 (.rev a) t h Q := by
  refine w_cls ho hab hc hy hh ?_
  rw [set_same hx]
  exact hn
/-- in mark mode: of an own row's element what leads nowhere -/
theorem o_loadrowm {a : AX} {o j f sz : Nat} {ag : Bool} {v : AV} (ha : a.ev (ofL bs) = .ptr o j f) (ho : h[o]? = some (.row z (l.map enc))) (hl : l[j]? = some x) (hp : ldP (enc x) f sz ag) (hv : ldV (enc x) f sz ag = v) (hf : plainL ag v = true) : Opr P dm (.load sz ag a) bs h v h := by
  intro k hk
  have hg : (l.map enc).getD j .undef = enc x := by simp [hl]
  refine awpL_of rfl ?_ ?_
  · simp only [mmT, ha, ho, hg, hv, hf]
  · simp only [aqP, aqF, aqV, ha, ho, hg, hv]
    exact ⟨hp, fun _ => hk⟩
theorem o_loadhdr {a : AX} {o i f z' : Nat} {L l' : List AV} {el : AV} {v : Value} (ha : a.ev (ofL bs) = .ptr o i f) (ho : h[o]? = some (.row z L)) (hl : L[i]? = some el) (hp : ldP el f 1 false) (hv : ldV el f 1 false = .hdr v z' l') : Opr P dm (.load 1 false a) bs h (.hdr v z' l') h := by
  intro k hk
  have hg : L.getD i .undef = el := by simp [hl]
  refine awpL_of rfl ?_ ?_
  · simp only [mmT, ha, ho, hg, hv, plainL, plainC]
  · simp only [aqP, aqF, aqV, ha, ho, hg, hv]
    exact ⟨hp, fun _ => hk⟩
theorem elSet_set {el a b : AV} {f : Nat} (hc : b.isCell = true) : elSet (elSet el f b) f a = elSet el f a := by
  cases el with
  | agg cs => simp [elSet]
  | _ => cases b <;> first | rfl | (simp [AV.isCell] at hc)
theorem o_callm {f : Nat} {args : List AX} {o i j z' : Nat} {n n' : Int} {v : Value} {l' l'' : List β} {el : AV} {y : α} (hd : dm.d = true) (hm : dm.m = true) (hc : CallHeap P ⟨true, true, false⟩ f [.own 0 0 l'.length, .int .i64 n] [.row z' (l'.map enc')] (.int .i64 n') [.row z' (l''.map enc')])
    (ha : args.map (AX.ev (ofL bs)) = [.hdr v z' (l'.map enc'), .int .i64 n]) (ho : h[o]? = some (.row z ((l.map enc).set i el))) (hx : l[i]? = some x) (hf : el.cells[j]? = some (.hdr v z' (l'.map enc'))) (hz : 0 < z') (hy : elSet el j (.lst z' (l''.map enc')) = enc y) : Opr P dm (.call f args) bs h (.int .i64 n') (h.set o (.row z ((l.set i y).map enc))) := by
  intro k hk
  refine .inl (.inr (.inr (.inr (.inr (.inr ⟨hm, hd, o, i, j, z, z', _, _, l''.map enc', el, v, n, n', ha, ho, getset hx, hf, hz, by simpa using hc, ?_⟩)))))
  have e : ((l.map enc).set i el).set i (elSet el j (.lst z' (l''.map enc'))) = (l.set i y).map enc := by
    rw [List.set_set, hy, List.map_set]
  rw [e]
  exact hk
end

/-! lists -/
section
variable {α : Type} {enc : α → AV}
theorem ownl {o a b z : Nat} {l : List AV} (h : AV.own o a b = AV.lst z l) : False := by cases h
theorem nill {z : Nat} {l : List AV} (h : AV.nil = AV.lst z l) : False := by cases h
theorem flnil : ∀ a ∈ ([] : List AV), R.flat a = true := by simp
theorem flw (hf : ∀ x, R.flat (enc x) = true) (l : List α) (n m : Nat) : ∀ a ∈ ((l.map enc).drop n).take m, R.flat a = true := by
  intro a ha
  obtain ⟨x, _, rfl⟩ := List.mem_map.1 (List.mem_of_mem_drop (List.mem_of_mem_take ha))
  exact hf x
theorem tkw (l : List α) (n m : Nat) : ((l.map enc).drop n).take m = ((l.drop n).take m).map enc := by rw [List.map_take, List.map_drop]
theorem tkw0 (l : List α) (m : Nat) : ((l.map enc).drop 0).take m = (l.take m).map enc := by rw [List.drop_zero, List.map_take]
theorem flo (hf : ∀ x, R.flat (enc x) = true) (l : List α) (n : Nat) : ∀ a ∈ ((l.map enc).drop 0).take n, R.flat a = true := by
  intro a ha
  obtain ⟨x, _, rfl⟩ := List.mem_map.1 (List.mem_of_mem_take ha)
  exact hf x
theorem apo (a b : List α) : ((a.map enc).take a.length) ++ (((b.map enc).drop 0).take b.length) = (a ++ b).map enc := by
  rw [List.drop_zero, List.take_of_length_le (by simp), List.take_of_length_le (by simp), List.map_append]
theorem apoc (a b : List α) (B : List AV) (h : B = b.map enc) : ((a.map enc).take a.length) ++ ((B.drop 0).take B.length) = (a ++ b).map enc := by
  subst h
  rw [List.drop_zero, List.take_of_length_le (by simp), List.take_of_length_le (by simp), List.map_append]
theorem apg (a b : List α) {B : List AV} (h : B = b.map enc) : ((a.map enc).take a.length) ++ B = (a ++ b).map enc := by
  rw [h, List.take_of_length_le (by simp), List.map_append]
theorem apl (a b : List α) : ((a.map enc).take a.length) ++ b.map enc = (a ++ b).map enc := by
  rw [List.take_of_length_le (by simp), List.map_append]
theorem apno (b : List α) : [] ++ (((b.map enc).drop 0).take b.length) = b.map enc := by
  rw [List.drop_zero, List.take_of_length_le (by simp), List.nil_append]
theorem tko (a : List α) : ((a.map enc).drop 0).take a.length = a.map enc := by
  rw [List.drop_zero, List.take_of_length_le (by simp)]
theorem tkon {a : List α} {n : Nat} (h : n = a.length) : ((a.map enc).drop 0).take n = a.map enc := by rw [h]; exact tko a
theorem tkol {β : Type} {enc2 : β → AV} {a : List α} {b : List β} (h : (a.map enc).length = (b.map enc2).length) : ((a.map enc).drop 0).take b.length = a.map enc := by
  rw [List.length_map, List.length_map] at h
  rw [← h]
  exact tko a
theorem tk (a : List α) : (a.map enc).take a.length = a.map enc := List.take_of_length_le (by simp)
theorem repm (n : Nat) (x : α) : List.replicate n (enc x) = (List.replicate n x).map enc := by simp
theorem flm (hf : ∀ x, R.flat (enc x) = true) (l : List α) : ∀ a ∈ l.map enc, R.flat a = true := by
  intro a ha
  obtain ⟨x, _, rfl⟩ := List.mem_map.1 ha
  exact hf x
end
end Go.R
