import Derived.Test.YtldahjcikmpifaaGreatCM
import Derived.Lib.AppendZeros
set_option linter.all false
namespace Go.R
open Go Go.RowKit
def d8j (sz:Nat):List AV → Prop
 | [] => True
 | a :: as => a.cells.length = sz ∧ d8j sz as
theorem c6k {sz:Nat}:∀ {as:List AV},d8j sz as → ∀ a ∈ as,a.cells.length = sz
 | [],_,a,ha => by simp at ha
 | x :: as,h,a,ha => by
  simp only [d8j] at h
  rcases List.mem_cons.1 ha with rfl | ha
  ·exact h.1
  ·exact c6k h.2 a ha
def c3b (h:List y9):List AV → Prop
 | [] => True
 | a :: as => (a.isCell = true ∧ a7h h a) ∧ c3b h as
theorem b9x {h:List y9}:∀ {as:List AV},c3b h as → ∀ a ∈ as,a.isCell = true ∧ a7h h a
 | [],_,a,ha => by simp at ha
 | x :: as,hs,a,ha => by
  simp only [c3b] at hs
  rcases List.mem_cons.1 ha with rfl | ha
  ·exact hs.1
  ·exact b9x hs.2 a ha
def d3c (P:Program) (f:Nat):Bool:=match P.funcs[f]? with
 | some fn => fn.body.isSome && fn.name != "runtime.NumGoroutine"
 | none => false
section
variable {P:Program} {C:Ctx} {σ:Sg} {φ:Nat → List Nat} {h:List y9} {w w':World} {t:Nat → AV} {ρ:Operand → Value}
theorem d3d (hmf:C.mm = false) (hr:a0b C σ φ h w) (hok:∀ b,C.mine b → C.ok b) (hb:∀ b,w.heap.size ≤ b → C.mine b) {ty e:TypeId} {i:TypeInfo} {n:Nat} {parts:Array (Nat × Operand)} {xs:List AX} (ht:P.underlying ty = some (.slice e)) (hi:P.info? e = some i)
  (hz:i.zero.isSome = true) (hz0:0 < (i.zero.getD undef).cells.size) (h0:0 < i.size) (hle:n * i.size ≤ 2 ^ 24) (hn:n = xs.length) (hx:b3z 0 parts.toList = some xs) (he:a7b C σ h w t ρ)
  {as:List AV} {ks:List Nat} (ha:a1n false h (xs.map (AX.ev t)) = some (as,ks)) (hl:∀ a ∈ as,a.cells.length = i.size) :
  ∃ u w',(Instr.buildSlice ty n (parts.map fun (i,x) => (i,ρ x))).run P w = .ok u w' ∧ a0b C σ φ (kill h ks) w' ∧ Ev σ h w σ (kill h ks) w' ∧
   RV C σ (kill h ks) w' (.lst i.size as) u ∧ Below C.base w w':=by
 have hrv:=c2y he parts.toList 0 xs hx
 obtain ⟨fp,r1,r2,r3,r4⟩:=a1n.repS (C:={ C with dm:=false }) (hr.weak hmf) hok _ as ks _ ha (RVs.ctx (C:=C) (C':={ C with dm:=false }) (fun _ h => h) _ _ hrv) hl
 have hlt:=a0n.lt _ _ _ r1
 have hasl:as.length = n:=by
  have:∀ (l:List AV) (bs:List AV) (k:List Nat),a1n false h l = some (bs,k) → bs.length = l.length:=by
   intro l
   induction l with
   | nil => intro bs k hc; simp only [a1n] at hc; cases hc; rfl
   | cons a l ih =>
    intro bs k hc
    simp only [a1n] at hc
    split at hc
    ·rename_i b k1 bs' k2 g1 g2
     cases hc
     simp [ih _ _ g2]
    ·cases hc
  rw [this _ _ _ ha,List.length_map,hn]
 obtain ⟨z,hzz⟩:=Option.isSome_iff_exists.1 hz
 rw [hzz] at hz0
 simp only [Option.getD_some] at hz0
 have hm:n ≤ maxLen:=by
  have:n ≤ n * i.size:=Nat.le_mul_of_pos_right n h0
  simp only [maxLen]
  omega
 have hcur:((parts.toList.map fun p => ρ p.2).flatMap fun v => v.cells.toList).toArray.size = n * i.size:=by simpa [hasl] using r2
 have hmine:C.mine w.heap.size:=hb _ (Nat.le_refl _)
 refine ⟨.slice (some ⟨w.heap.size,0,none⟩) n n,w.alloc (.cells ((parts.toList.map fun p => ρ p.2).flatMap fun v => v.cells.toList).toArray e),?_,?_,?_,?_,Below.push _ _ _ hmine.1⟩
 ·have hplen:(parts.toList.map fun p => ρ p.2).length = n:=by
   rw [hrv.length,List.length_map,hn]
  have hfill:∀ z':Array Value,z'.size = n * i.size → Instr.fill (fun j => some (j * i.size,i.size)) z' (parts.toList.map fun p => (p.1,ρ p.2)) = some ((parts.toList.map fun p => ρ p.2).flatMap fun v => v.cells.toList).toArray:=by
   intro z' hz'
   rw [b9t parts.toList 0 xs hx,b9s i.size _ 0 z' r3 (by rw [Nat.zero_add,hplen,hz']; exact Nat.le_refl _)]
   simp only [Nat.zero_mul,List.take_zero,List.nil_append,Nat.zero_add,hplen]
   rw [List.drop_of_length_le (by simp [hz'])]
   simp
  have hmk:∀ z':Array Value,((Array.range (n * i.size)).map (fun x => z'[x % z'.size]!)).size = n * i.size:=by intro z'; simp
  simp only [Instr.buildSlice,Sem.run_bind,run_underlying ht,Result.andThen_ok,sizeOf,typeInfo,run_program,hi,Sem.run_pure]
  rw [if_neg (by omega)]
  by_cases hnz:n * i.size = 0
  ·simp only [hnz,if_true,Sem.run_bind,Sem.run_pure,Result.andThen_ok]
   have hf:=hfill ((Array.range 0).map (fun x => (#[]:Array Value)[x % (#[]:Array Value).size]!)) (by simp [hnz])
   simp only [Array.toList_map]
   rw [hf]
   simp [newRow]
  ·rw [if_neg hnz]
   have hf:=hfill _ (hmk z.cells)
   simp only [Sem.run_bind,zeroValue,typeInfo,run_program,hi,Result.andThen_ok,hzz,Sem.run_pure,Array.toList_map]
   rw [hf]
   simp [newRow]
 ·have key:=a0b.puts (σ':=σ) (φ':=φ) (w':=w.alloc (.cells ((parts.toList.map fun p => ρ p.2).flatMap fun v => v.cells.toList).toArray e)) (ks:=ks) (xs:=[]) hr (fun o ho => ⟨rfl,rfl⟩) (by simp) (by simp) (fun b hb' _ => Below.heap_alloc _ _ _ hb') (by simp) (by simp) (by simp)
  simp only [List.append_nil] at key
  exact key.1
 ·have key:=a0b.puts (σ':=σ) (φ':=φ) (w':=w.alloc (.cells ((parts.toList.map fun p => ρ p.2).flatMap fun v => v.cells.toList).toArray e)) (ks:=ks) (xs:=[]) hr (fun o ho => ⟨rfl,rfl⟩) (by simp) (by simp) (fun b hb' _ => Below.heap_alloc _ _ _ hb') (by simp) (by simp) (by simp)
  simp only [List.append_nil] at key
  exact key.2
 ·have r1':=a0n.world (w':=w.alloc (.cells ((parts.toList.map fun p => ρ p.2).flatMap fun v => v.cells.toList).toArray e)) _ _ _ (fun b hb' => Below.heap_alloc _ _ _ (hlt b hb')) r1
  have hnew:(w.alloc (.cells ((parts.toList.map fun p => ρ p.2).flatMap fun v => v.cells.toList).toArray e)).heap[w.heap.size]? = _:=heap_alloc_new w _
  refine Rep.rv (.lst i.size as) [.slice (some ⟨w.heap.size,0,none⟩) n n] (w.heap.size :: fp) ?_ ?_
  ·rw [Rep]
   exact .inr ⟨w.heap.size,0,n,_,e,(0,0),fp,by rw [hasl],by omega,hm,hnew,fun h => by simp at h,rfl,h0,by simpa using r1'⟩
  ·intro b hb'
   rcases List.mem_cons.1 hb' with rfl | hin
   ·refine ⟨⟨hok _ hmine,fun hm' => by rw [hmf] at hm'; cases hm'⟩,fun hl' => ?_⟩
    have:=hr.liveLt (b7e hl')
    omega
   ·refine ⟨⟨r4.ok b hin,fun hm' => by rw [hmf] at hm'; cases hm'⟩,?_⟩
    rintro ⟨o,x,c,e1,e2,e3⟩
    obtain ⟨m1,m2⟩:=a7g e1 e2
    obtain ⟨kk,q1,q2⟩:=r4.live b hin ⟨o,x,c,m1,e2,e3⟩
    rcases q2 with ⟨y,c',y1,y2,y3⟩ | ⟨y1,y,y2,y3⟩
    ·have:=hr.inj o kk x y b c c' m1 e2 y1 y2 e3 y3
     subst this
     exact m2 q1
    ·exact (hr.phix y2 y3 y1).2 ⟨o,x,c,m1,e2,e3⟩
end
def a4s (P:Program) (dm:Md) (o:AOp) (e:AX → AV) (h:List y9) (k:AV → List y9 → Prop):Prop :=
 match o with
 | .box sz x => (a7h h (e x) ∧ (e x).cells.length = sz) ∧ k (.ptr h.length 0 0) (h ++ [.box sz (e x)])
 | .mkslice sz bytes zero n c => match e n,e c with
  | .int _ a,.int _ b => (0 ≤ a ∧ a ≤ b ∧ b ≤ 2 ^ 30) ∧ ∃ l',LeL (List.replicate a.toNat zero) l' ∧ k (.own h.length 0 a.toNat) (h ++ [.row sz l'])
  | _,_ => False
 | .bslice sz xs => (match a1n dm.d h (xs.map e) with
  | some (as,ks) => ((dm.d = true → ks.Nodup) ∧ d8j sz as) ∧ ∃ as',LeL as as' ∧ k (.own h.length 0 as.length) (kill h ks ++ [.row sz as'])
  | none => False) ∨ (dm.m = false ∧ ∃ as ks,a1n false h (xs.map e) = some (as,ks) ∧ d8j sz as ∧ k (.lst sz as) (kill h ks))
 | .append sz bytes s x => match dm.d with
  | false => match c0q h sz (e s),b4b false h sz (e x) with
   | some (l0,n,ks0),some (l1,m,ks1) => n + m ≤ 2 ^ 30 ∧ k (.own h.length 0 (n + m)) (kill h (ks0 ++ ks1) ++ [.row sz (l0 ++ l1)])
   | _,_ => False
  | true => (∃ cons:Bool,match c0q h sz (e s),b4b cons h sz (e x) with
   | some (l0,n,ks0),some (l1,m,ks1) => ((cons = false → ∀ a ∈ l1,R.flat a = true) ∧ (∀ z l',e x = .lst z l' → ∀ a ∈ l1,R.flat a = true) ∧ (ks0 ++ ks1).Nodup ∧ n + m ≤ 2 ^ 30) ∧
     k (.own h.length 0 (n + m)) (kill h (ks0 ++ ks1) ++ [.row sz (l0 ++ l1)])
   | _,_ => False) ∨ ∃ o n lo m l,(e s = .own o 0 n ∧ e x = .own o lo m ∧ n ≤ lo ∧ h[o]? = some (.row sz l)) ∧ k (.own h.length 0 (n + m)) (kill h [o] ++ [.row sz (l.take n ++ (l.drop lo).take m)])
 | .store sz a x => match e a with
  | .ptr o i f => match h[o]? with
   | some (.box z y) => (a7h h (e x) ∧ b0h y f sz (e x) ∧ c3b h (e x).cells) ∧ k .skip (h.set o (.box z (a5u y f (e x))))
   | some (.row z l) => match l[i]?,a2w dm.d h (e x) with
    | some el,some (v',ks) => (o ∉ ks ∧ (dm.d = true → ks.Nodup) ∧ b0h el f sz v') ∧ ∃ el',Le (a5u el f v') el' ∧ k .skip ((kill h ks).set o (.row z (l.set i el')))
    | _,_ => False
   | some (.rowx z l j y) => (i = j ∧ a7h h (e x) ∧ b0h y f sz (e x) ∧ c3b h (e x).cells) ∧ k .skip (h.set o (.rowx z l j (a5u y f (e x))))
   | _ => False
  | _ => False
 | .call f args => a2p P dm f (args.map e) h k
 | .calv x args => match e x with
  | .fn f caps => d3c P f = true ∧ a2p P dm f (args.map e ++ caps) h k
  | _ => False
 | .convBS x => match b4b false h 1 (e x) with
  | some (l1,_,_) => ∃ l:List Int,l1 = l.map (AV.int .u8) ∧ k (.str (l.map fun n => UInt8.ofNat n.toNat)) h
  | none => False
 | .isnil ng x => match e x with
  | .nil => k (.bool !ng) h
  | .lst _ l => ∀ b,(b = true → l = []) → k (.bool (b != ng)) h
  | .own o _ n => match h[o]? with
   | some (.row _ _) => ∀ b,(b = true → n = 0) → k (.bool (b != ng)) h
   | _ => False
  | _ => False
 | .mkmap => k (.ptr h.length 0 0) (h ++ [.map []])
 | .mapset m kk x => match e m,e kk with
  | .ptr o _ _,.str s => match h[o]? with
   | some (.map l) => k .skip (h.set o (.map (a9b l s (e x))))
   | _ => False
  | _,_ => False
 | .mapget z m kk => match e m,e kk with
  | .ptr o _ _,.str s => match h[o]? with
   | some (.map l) => k ((b0e l s).getD z) h
   | _ => False
  | _,_ => False
 | .isnilp ng x => match e x with
  | .hdr (.pointer none) _ _ => k (.bool !ng) h
  | .ptr o _ _ => match h[o]? with
   | some (.box _ _) => k (.bool ng) h
   | _ => False
  | _ => False
 | .never => False
 | .cap x => match e x with
  | .nil => k (.int .i64 0) h
  | _ => False
 | .appz sz bytes zero s n => match e s,e n with
  | .nil,.int _ a => (0 < a ∧ a ≤ 2 ^ 30) ∧ ∃ l',LeL (List.replicate a.toNat zero) l' ∧ k (.own h.length 0 a.toNat) (h ++ [.row sz l'])
  | _,_ => False
 | .sl3 x lo hi mx => match e x,e lo,e hi,e mx with
  | .own o _ n,.int _ a,.int _ b,.int _ c => (0 ≤ a ∧ a ≤ b ∧ b ≤ c ∧ c ≤ n ∧ ∃ z l,h[o]? = some (.row z l)) ∧ k .undef h
  | .lst _ l,.int _ a,.int _ b,.int _ c => (0 ≤ a ∧ a ≤ b ∧ b ≤ c ∧ c ≤ l.length) ∧ k .undef h
  | _,_,_,_ => False
 | .clr sz zero x => match e x with
  | .nil => k (.tup []) h
  | .own o lo n => match h[o]? with
   | some (.row z l) => z = sz ∧ ∃ zl,LeL (List.replicate n zero) zl ∧ k (.tup []) (h.set o (.row z (l.take lo ++ zl ++ l.drop (lo + n))))
   | _ => False
  | _ => False
 | o => aqQ dm.m o e h ∧ (aqF o e → k (aqV o e h) h)
theorem LeL.app:∀ {as bs as' bs':List AV},LeL as as' → LeL bs bs' → LeL (as ++ bs) (as' ++ bs')
 | _,_,_,_,.nil,h => h
 | _,_,_,_,.cons a t,h => .cons a (LeL.app t h)
section ops
variable {P:Program} {C:Ctx} {σ:Sg} {φ:Nat → List Nat} {h:List y9} {w w':World} {t:Nat → AV} {ρ:Operand → Value}
theorem c6l {o:AOp} (hq:o.quiet = true) {dm:Md} {e:AX → AV} {k:AV → List y9 → Prop} (ha:a4s P dm o e h k):aqQ dm.m o e h ∧ (aqF o e → k (aqV o e h) h):=by
 cases o <;> first | exact ha | simp [AOp.quiet] at hq
theorem c1c {f : Nat} {fn : Func} (hf : P.funcs[f]? = some fn) (hn : (fn.name != "runtime.NumGoroutine") = true) (hb : fn.body.isSome = true) (args : Array Value) : (callFunc f args).run P w = .ok (.enter f args) w := by
 have hn' : (fn.name == "runtime.NumGoroutine") = false := by simpa [bne] using hn
 have hb':fn.body.isNone = false:=by cases h:fn.body <;> simp_all
 have hn2 : ¬ fn.name = "runtime.NumGoroutine" := by simpa using hn'
 have hb2:¬ fn.body = none:=by intro h; rw [h] at hb'; simp at hb'
 simp [callFunc,hf,hn2,hb2]
def Behind (C:Ctx) (σ:Sg) (h:List y9) (w:World) (k:AV → List y9 → Prop) (K:Value → World → Prop):Prop :=
 ∀ r h' v w' σ' φ',a0b C σ' φ' h' w' → EvX C σ h w σ' h' w' → RV C σ' h' w' r v → Below C.base w w' → k r h' → K v w'
def c1d (C:Ctx) (σ:Sg) (h:List y9) (w:World) (k:AV → List y9 → Prop) (K:Value → World → Prop):Prop :=
 ∀ F r h' v w' σ' φ',FrX C w' F → a0b (C.frz F) σ' φ' h' w' → EvX C σ h w σ' h' w' → RV (C.frz F) σ' h' w' r v → Below C.base w w' → k r h' → K v w'
theorem c1d.b {k:AV → List y9 → Prop} {K:Value → World → Prop} (hk:c1d C σ h w k K):Behind C σ h w k K:=fun r h' v w' σ' φ' g1 g2 g3 g4 g5 => hk C.fr r h' v w' σ' φ' (FrX.refl C w') g1 g2 g3 g4 g5
theorem c9v (hmd:C.mm = true → C.dm = true) (hr:a0b C σ φ h w) (hok:∀ b,C.mine b → C.ok b) (hb:∀ b,w.heap.size ≤ b → C.mine b) {f:Nat} {as:List AV} {vs:List Value} (hv:RVs C σ h w as vs) {k:AV → List y9 → Prop} (hs:a2p P C.md f as h k)
  {o:Oper} {a:Act} {next:Act → World → Prop} {Q:Exit → Act → World → Prop} (hk:c1d C σ h w k fun v w' => next (a.put o.dst v) w'):o.upon P a next Q (.ok (.enter f vs.toArray) w):=by
 rw [Oper.upon_enter]
 refine (a2p.sound hmd hr hok hb hv hs).mono ?_
 intro e w' he
 cases e with
 | returned v =>
  obtain ⟨F,r,h',σ',φ',h0,h1,h2,h3,h4,h5⟩:=he
  exact hk F r h' v w' σ' φ' h0 h1 h2 h3 h4 h5
 | panicked _ => exact he.elim
 | outgrown => exact he.elim
theorem d8k {x:AV} {a:Option Addr} {m c:Nat} (hv:RV C σ h w x (.slice a m c)) {cons:Bool} {sz:Nat} {r:List AV × Nat × List Nat} (hs:b4b cons h sz x = some r):m ≤ maxLen:=by
 cases x with
 | nil => simp only [RV,Value.slice.injEq] at hv; rw [hv.2.1]; exact Nat.zero_le _
 | lst z l =>
  simp only [RV,b2o,Rep] at hv
  obtain ⟨fp,⟨cs,e3,h3⟩,_⟩:=hv
  rcases h3 with ⟨rfl,_,a,cap,rfl,_,_⟩ | ⟨b,off,cap,cur,el,fz,fps,rfl,h4,h5,_⟩
  ·simp only [mkV,Value.slice.injEq,List.headD_cons] at e3
   rw [e3.2.1]; exact Nat.zero_le _
  ·simp only [mkV,Value.slice.injEq,List.headD_cons] at e3
   rw [e3.2.1]; omega
 | own o lo n =>
  simp only [RV] at hv
  simp only [b4b] at hs
  split at hs
  ·rename_i z l eo
   simp only [eo] at hv
   obtain ⟨a',cap,e3,h4,h5,h6,_⟩:=hv
   simp only [Value.slice.injEq] at e3
   omega
  ·cases hs
 | _ => simp [b4b] at hs
theorem a0n.bytes {m:Bool}:∀ (l:List Int) (cs:List Value) (fp:List Nat),a0n m w 1 (l.map (AV.int .u8)) cs fp → cs.take l.length = l.map (Value.int .u8)
 | [],cs,fp,_ => by simp
 | n :: l,cs,fp,hr => by
  simp only [List.map_cons,a0n,Rep] at hr
  obtain ⟨f1,f2,h0,⟨h1,_⟩,h2,_⟩:=hr
  have ih:=a0n.bytes l _ _ h2
  cases cs with
  | nil => simp at h1
  | cons c cs =>
   simp only [List.take_succ_cons,List.take_zero,List.cons.injEq,and_true] at h1
   simp only [List.drop_succ_cons,List.drop_zero] at ih
   simp only [List.length_cons,List.take_succ_cons,List.map_cons,h1,ih]
theorem c6m (f:Value → ByteArray → Sem (ForInStep ByteArray)) (hf:∀ n s,f (.int .u8 n) s = pure (ForInStep.yield (s.push (UInt8.ofNat n.toNat)))):∀ (l:List Int) (s:ByteArray),(forIn (l.map (Value.int .u8)) s f).run P w = .ok (⟨s.data ++ (l.map fun n => UInt8.ofNat n.toNat).toArray⟩:ByteArray) w
 | [],s => by simp [Sem.run_pure]
 | n :: l,s => by
  rw [List.map_cons,List.forIn_cons,hf]
  simp only [Sem.run_bind,Sem.run_pure,Result.andThen_ok]
  rw [c6m f hf l]
  simp [ByteArray.push]
theorem d8l {a:Option Addr} {m c:Nat} {l:List Int} (hl:l.length = m) (hg:m = 0 ∨ ∃ g off cur e fz,a = some ⟨g,off,none⟩ ∧ w.heap[g]? = some (.cells cur e fz) ∧ off + m ≤ cur.size ∧ (cur.toList.drop off).take m = l.map (Value.int .u8)):(Conv.bytesToString (.slice a m c)).run P w = .ok (.string ⟨(l.map fun n => UInt8.ofNat n.toNat).toArray⟩) w:=by
 cases a with
 | none =>
  rcases hg with rfl | ⟨g,off,cur,e,fz,h1,_⟩
  ·have:l = []:=by simpa using hl
   subst this
   simp [Conv.bytesToString]; rfl
  ·cases h1
 | some ad =>
  have hc:(loadCells ad m).run P w = .ok ((l.map (Value.int .u8)).toArray) w:=by
   rcases hg with rfl | ⟨g,off,cur,e,fz,h1,h2,h3,h4⟩
   ·have:l = []:=by simpa using hl
    subst this
    unfold loadCells
    simp [loadCellsFrom]
   ·cases h1
    rw [run_loadCells h2 h3,h4]
  unfold Conv.bytesToString
  simp only [Sem.run_bind,hc,Result.andThen_ok,List.forIn_toArray]
  rw [c6m _ (fun _ _ => rfl)]
  simp only [Result.andThen_ok,Sem.run_pure]
  congr 3
  simp
theorem d9w (hmd:C.mm = true → C.dm = true) (hr:a0b C σ φ h w) (hok:∀ b,C.mine b → C.ok b) (hb:∀ b,w.heap.size ≤ b → C.mine b) (o:Oper) {ao:AOp} (ho:oc P o.op = some ao) (he:a7b C σ h w t ρ) {k:AV → List y9 → Prop} (hs:a4s P C.md ao (AX.ev t) h k)
    {a:Act} {next:Act → World → Prop} {Q:Exit → Act → World → Prop} (hkX:c1d C σ h w k fun v w' => next (a.put o.dst v) w'):o.upon P a next Q ((execOp ρ o).run P w):=by
  have hk:=hkX.b
  by_cases hq:ao.quiet = true
  · obtain ⟨h1,h2⟩:=c6l hq hs
    obtain ⟨v,g1,g2,g3⟩:=d0v hr o ho hq he h1.p h1.m
    rw [g1,Oper.upon_value]
    exact hk _ h v w σ φ hr (EvX.refl σ h w) g2 (Below.refl _ _) (h2 g3)
  obtain ⟨dst,op,ty,pos,after,guard⟩:=o
  simp only at ho hk hkX
  cases op with
  | box ty' x =>
    simp only [oc] at ho
    split at ho
    · rename_i n x' h1 h2
      cases ho
      obtain ⟨⟨s1,s2⟩,s3⟩:=hs
      obtain ⟨u,w',σ',φ',g1,g2,g3,g4,g5⟩:=c9n (P:=P) hr hb ty' (he _ _ h2) s1 s2
      simp only [execOp,Sem.run_bind,g1,Result.andThen_ok,Sem.run_pure,Oper.upon_value]
      exact hk _ _ u w' σ' φ' g2 g3.x g4 g5 s3
    · cases ho
  | alloc ty' =>
    simp only [oc] at ho
    split at ho
    · rename_i n z h1 h2
      split at ho
      · rename_i hl
        cases ho
        obtain ⟨⟨s1,s2⟩,s3⟩:=hs
        simp only [AX.ev] at s1 s2 s3
        obtain ⟨i,hi,hz⟩:∃ zv,(P.info? ty').bind (·.zero) = some zv ∧ a5t zv = some z:=by
          simpa [Option.bind_eq_some_iff] using h2
        obtain ⟨inf,hinf,hzz⟩:∃ inf,P.info? ty' = some inf ∧ inf.zero = some i:=by
          simpa [Option.bind_eq_some_iff] using hi
        obtain ⟨u,w',σ',φ',g1,g2,g3,g4,g5⟩:=c9n (P:=P) hr hb ty' (a5t.rv hz) s1 s2
        have hrun:(Instr.alloc ty' true (.tuple #[])).run P w = .ok u w':=by
          simpa [Instr.alloc,zeroValue,typeInfo,hinf,hzz,Instr.box] using g1
        simp only [execOp,Sem.run_bind,hrun,Result.andThen_ok,Sem.run_pure,Oper.upon_value]
        exact hk _ _ u w' σ' φ' g2 g3.x g4 g5 s3
      · cases ho
    · cases ho
  | makeSlice ty' n c =>
    simp only [oc] at ho
    split at ho
    · rename_i e n' c' h1 h2 h3
      split at ho
      · rename_i i z h4 h5
        split at ho
        · rename_i hc
          cases ho
          simp only [Bool.and_eq_true,decide_eq_true_eq] at hc
          obtain ⟨zv,hz,hzc⟩:∃ zv,i.zero = some zv ∧ a5t zv = some z:=by
            simpa [h4,Option.bind_eq_some_iff] using h5
          simp only [a4s] at hs
          have hvn:=he _ _ h2
          have hvc:=he _ _ h3
          split at hs
          · rename_i ka a1 kb b1 ea eb
            obtain ⟨⟨s1,s2,s3⟩,l',sl,s4⟩:=hs
            rw [ea] at hvn
            rw [eb] at hvc
            simp only [RV] at hvn hvc
            obtain ⟨u,w',σ',φ',g1,g2,g3,g4,g5⟩:=c8k (P:=P) hr hb h1 h4 hz hzc hc.1.1 hc.1.2 hc.2 s1 s2 s3 (kn:=ka) (kc:=kb)
            simp only [execOp,hvn,hvc,Sem.run_bind,g1,Result.andThen_ok,Sem.run_pure,Oper.upon_value]
            have hh:=LeH.last (.row (z:=i.size) sl) (h:=h)
            exact hk _ _ u w' σ' φ' (hh.heap g2) (g3.trans hh.ev).x (hh.ev.rv _ _ g4) g5 s4
          · exact hs.elim
        · cases ho
      · cases ho
    · cases ho
  | buildSlice ty' n parts =>
    simp only [oc] at ho
    split at ho
    · rename_i e xs h1 h2
      split at ho
      · rename_i i h3
        split at ho
        · rename_i hc
          cases ho
          simp only [Bool.and_eq_true,decide_eq_true_eq] at hc
          simp only [a4s] at hs
          rcases hs with hs | ⟨hm0,as,ks,ha,s2,s3⟩
          case inr =>
            obtain ⟨u,w',g1,g2,g3,g4,g5⟩:=d3d (P:=P) hm0 hr hok hb h1 h3 hc.1.1.1.1 hc.1.1.1.2 hc.1.1.2 hc.1.2 hc.2 h2 he ha (c6k s2)
            simp only [execOp,Sem.run_bind,g1,Result.andThen_ok,Sem.run_pure,Oper.upon_value]
            exact hk _ _ u w' σ φ g2 g3.x g4 g5 s3
          split at hs
          · rename_i as ks ha
            obtain ⟨⟨s1,s2⟩,l',sl,s3⟩:=hs
            obtain ⟨u,w',σ',φ',g1,g2,g3,g4,g5⟩:=d0x (P:=P) hr hok hb h1 h3 hc.1.1.1.1 hc.1.1.1.2 hc.1.1.2 hc.1.2 hc.2 h2 he ha s1 (c6k s2)
            simp only [execOp,Sem.run_bind,g1,Result.andThen_ok,Sem.run_pure,Oper.upon_value]
            have hh:=LeH.last (.row (z:=i.size) sl) (h:=kill h ks)
            exact hk _ _ u w' σ' φ' (hh.heap g2) (g3.trans hh.ev).x (hh.ev.rv _ _ g4) g5 s3
          · exact hs.elim
        · cases ho
      · cases ho
    · cases ho
  | store ty' x y =>
    simp only [oc] at ho
    split at ho
    · rename_i sz x' y' h1 h2 h3
      cases ho
      simp only [a4s] at hs
      have hvx:=he _ _ h2
      have hvy:=he _ _ h3
      split at hs
      · rename_i o i f ea
        rw [ea] at hvx
        split at hs
        · rename_i z y0 eo
          obtain ⟨⟨s1,s2,s3⟩,s4⟩:=hs
          have hvx':RV C σ h w (.ptr o 0 f) (ρ x):=by
            simp only [RV,eo] at hvx ⊢
            exact ⟨trivial,hvx.2⟩
          obtain ⟨w',φ',g1,g2,g3,g4⟩:=c5z (P:=P) hr h1 eo hvx' hvy s1 s2 (b9x s3)
          simp only [execOp,Sem.run_bind,g1,Result.andThen_ok,Sem.run_pure,Oper.upon_skip]
          exact hk _ _ undef w' σ φ' g2 g3.x (by simp [RV]) g4 s4
        · rename_i z l eo
          split at hs
          · rename_i el v' ks e1 e2
            obtain ⟨⟨s1,s2,s3⟩,l',sl,s4⟩:=hs
            obtain ⟨w',φ',g1,g2,g3,g4⟩:=c6a (P:=P) hr hok h1 eo e1 hvx hvy e2 s1 s2 s3
            simp only [execOp,Sem.run_bind,g1,Result.andThen_ok,Sem.run_pure,Oper.upon_skip]
            have hh:=LeH.setr (h:=kill h ks) (o:=o) (z:=z) (LeL.set (l:=l) (i:=i) sl)
            exact hk _ _ undef w' σ φ' (hh.heap g2) (g3.trans hh.ev).x (by simp [RV]) g4 s4
          · exact hs.elim
        · rename_i z l j y0 eo
          obtain ⟨⟨rfl,s1,s2,s3⟩,s4⟩:=hs
          obtain ⟨w',φ',g1,g2,g3,g4⟩:=c4x (P:=P) hr h1 eo hvx hvy s1 s2 (b9x s3)
          simp only [execOp,Sem.run_bind,g1,Result.andThen_ok,Sem.run_pure,Oper.upon_skip]
          exact hk _ _ undef w' σ φ' g2 g3.x (by simp [RV]) g4 s4
        · exact hs.elim
      · exact hs.elim
    · cases ho
  | call c =>
    obtain ⟨callee,args,argTypes⟩:=c
    obtain ⟨args⟩:=args
    obtain ⟨argTypes⟩:=argTypes
    cases callee with
    | invoke _ _ => simp [oc] at ho
    | value x =>
      cases x with
      | const _ => simp [oc] at ho
      | global _ => simp [oc] at ho
      | func f =>
        simp only [oc] at ho
        split at ho
        · rename_i fn hf
          split at ho
          · rename_i hc
            simp only [Bool.and_eq_true] at hc
            simp only [Option.map_eq_some_iff] at ho
            obtain ⟨xs,hx,rfl⟩:=ho
            simp only [a4s] at hs
            have hv:=he.list hx
            have hrun:(execOp ρ { dst,op:=.call { callee:=.value (.func f),args:=args.toArray,argTypes:=argTypes.toArray },type:=ty,pos,after,guard }).run P w = .ok (.enter f (args.map ρ).toArray) w:=by
              have hρ:ρ (.func f) = .func (.func f) #[] #[]:=by
                have:=he (.func f) _ rfl
                simp only [AX.ev,RV] at this
                obtain ⟨vs,e,h0⟩:=this
                simp only [RVs] at h0
                rw [e]
                congr 1
                exact Array.toList_inj.1 (by simpa using h0)
              simp [execOp,resolve,hρ,Deferred.ofValue,invoke,c1c hf hc.2 hc.1]
            rw [hrun]
            exact c9v hmd hr hok hb hv hs hkX
          · cases ho
        · cases ho
      | tmp n =>
        simp only [oc,Option.map_eq_some_iff] at ho
        obtain ⟨xs,hx,rfl⟩:=ho
        simp only [a4s,AX.ev] at hs
        have hvn:=he (.tmp n) _ rfl
        simp only [AX.ev] at hvn
        split at hs
        · rename_i f caps ef
          rw [ef] at hvn
          simp only [RV] at hvn
          obtain ⟨vs,e,hcaps⟩:=hvn
          obtain ⟨hfn,hs⟩:=hs
          unfold d3c at hfn
          split at hfn
          · rename_i fn hf
            simp only [Bool.and_eq_true] at hfn
            have hv:=(he.list hx).append hcaps
            have hrun:(execOp ρ { dst,op:=.call { callee:=.value (.tmp n),args:=args.toArray,argTypes:=argTypes.toArray },type:=ty,pos,after,guard }).run P w = .ok (.enter f (args.map ρ ++ vs.toList).toArray) w:=by
              have hargs:(args.map ρ ++ vs.toList).toArray = #[] ++ args.toArray.map ρ ++ vs:=by
                apply Array.toList_inj.1
                simp
              rw [hargs]
              simp [execOp,resolve,e,Deferred.ofValue,invoke,c1c hf hfn.2 hfn.1]
            rw [hrun]
            exact c9v hmd hr hok hb hv hs hkX
          · cases hfn
        · exact hs.elim
    | builtin b =>
      cases b with
      | len =>
        match args,argTypes,ho with
        | [x],[ty'],ho =>
          simp only [oc] at ho
          split at ho
          · simp only [Option.map_eq_some_iff] at ho
            obtain ⟨x',h2,rfl⟩:=ho
            simp [AOp.quiet] at hq
          · simp only [Option.map_eq_some_iff] at ho
            obtain ⟨x',h2,rfl⟩:=ho
            simp [AOp.quiet] at hq
          · cases ho
        | [],_,ho => simp [oc] at ho
        | _ :: _ :: _,_,ho => simp [oc] at ho
        | [_],[],ho => simp [oc] at ho
        | [_],_ :: _ :: _,ho => simp [oc] at ho
      | append =>
        match args,argTypes,ho with
        | [s,x],[ty',u],ho =>
          simp only [oc] at ho
          split at ho
          · rename_i e e' s' x' h1 h2 h3 h4
            split at ho
            · rename_i i h5
              split at ho
              · rename_i hc
                cases ho
                simp only [Bool.and_eq_true,decide_eq_true_eq] at hc
                obtain ⟨⟨⟨⟨rfl,c1⟩,c2⟩,c3⟩,c4⟩:=hc
                obtain ⟨z,hz⟩:=Option.isSome_iff_exists.1 c1
                rw [hz] at c3
                simp only [Option.getD_some] at c3
                have hvs:=he _ _ h3
                have hvx:=he _ _ h4
                have fin:∀ u w',(Builtin.append_ #[ty',ty'] ty #[ρ s,ρ x]).run P w = .ok u w' →
                    (execOp ρ { dst,op:=.call { callee:=.builtin .append,args:=[s,x].toArray,argTypes:=[ty',ty'].toArray },type:=ty,pos,after,guard }).run P w = .ok (.value u) w':=by
                  intro u w' hrun
                  simp [execOp,resolve,invoke,builtin,hrun]
                cases hdm:C.dm with
                | false =>
                  simp only [a4s,Ctx.md,hdm] at hs
                  split at hs
                  · rename_i l0 n ks0 l1 m ks1 e1 e2
                    obtain ⟨s1,s2⟩:=hs
                    obtain ⟨u,w',σ',φ',g1,g2,g3,g4,g5⟩:=c0s (P:=P) hr hb (ty':=ty) h1 h5 hz c3 c2 c4 hvs hvx e1 e2 (by simp [hdm]) (by simp [hdm]) (by simp [hdm]) s1
                    rw [fin _ _ g1,Oper.upon_value]
                    exact hk _ _ u w' σ' φ' g2 g3.x g4 g5 s2
                  · exact hs.elim
                | true =>
                  simp only [a4s,Ctx.md,hdm] at hs
                  rcases hs with ⟨cons,hs⟩ | ⟨o,n,lo,m,l,⟨q1,q2,q3,q4⟩,q5⟩
                  · split at hs
                    · rename_i l0 n ks0 l1 m ks1 e1 e2
                      obtain ⟨⟨s1,s2,s3,s4⟩,s5⟩:=hs
                      obtain ⟨u,w',σ',φ',g1,g2,g3,g4,g5⟩:=c0s (P:=P) hr hb (ty':=ty) h1 h5 hz c3 c2 c4 hvs hvx e1 e2 (fun _ => s1) (fun _ => s2) (fun _ => s3) s4
                      rw [fin _ _ g1,Oper.upon_value]
                      exact hk _ _ u w' σ' φ' g2 g3.x g4 g5 s5
                    · exact hs.elim
                  · rw [q1] at hvs
                    rw [q2] at hvx
                    obtain ⟨u,w',σ',φ',g1,g2,g3,g4,g5⟩:=d2s (P:=P) hr hb (ty':=ty) h1 h5 c2 q4 hvs hvx q3
                    rw [fin _ _ g1,Oper.upon_value]
                    exact hk _ _ u w' σ' φ' g2 g3.x g4 g5 q5
              · cases ho
            · cases ho
          · cases ho
        | [],_,ho => simp [oc] at ho
        | [_],_,ho => simp [oc] at ho
        | _ :: _ :: _ :: _,_,ho => simp [oc] at ho
        | [_,_],[],ho => simp [oc] at ho
        | [_,_],[_],ho => simp [oc] at ho
        | [_,_],_ :: _ :: _ :: _,ho => simp [oc] at ho
      | max =>
        match args,ho with
        | [x,y],ho =>
          simp only [oc] at ho
          split at ho
          · cases ho; simp [AOp.quiet] at hq
          · cases ho
        | [],ho => simp [oc] at ho
        | [_],ho => simp [oc] at ho
        | _ :: _ :: _ :: _,ho => simp [oc] at ho
      | min =>
        match args,ho with
        | [x,y],ho =>
          simp only [oc] at ho
          split at ho
          · cases ho; simp [AOp.quiet] at hq
          · cases ho
        | [],ho => simp [oc] at ho
        | [_],ho => simp [oc] at ho
        | _ :: _ :: _ :: _,ho => simp [oc] at ho
      | _ => simp [oc] at ho
  | binOp bop xt x y yt =>
    simp only [oc] at ho
    split at ho
    · rename_i x' y' h1 h2
      split at ho
      · cases ho; simp [AOp.quiet] at hq
      · cases ho; simp [AOp.quiet] at hq
      · split at ho <;> first | (cases ho; simp [AOp.quiet] at hq; done) | cases ho
      · split at ho
        · split at ho
          · split at ho <;> first | (cases ho; simp [AOp.quiet] at hq; done) | cases ho
          · cases ho
        · cases ho
      · rename_i e hu
        have hy:=he _ _ h2
        have hx:=he _ _ h1
        have key:∀ (ng:Bool) (p:Option Addr) (n c:Nat),ρ x = .slice p n c → ρ y = .slice none 0 0 →
            (execOp ρ { dst,op:=.binOp (match ng with | true => .neq | false => .eql) xt x y yt,type:=ty,pos,after,guard }).run P w = .ok (.value (.bool (p.isNone != ng))) w:=by
          intro ng p n c e1 e2
          have hq2:(Op.equal xt (.slice p n c) (.slice none 0 0)).run P w = .ok p.isNone w:=by
            have hd:∀ d,(Op.equalIn (d + 1) xt (.slice p n c) (.slice none 0 0)).run P w = .ok p.isNone w:=by
              intro d
              cases p <;> simp [Op.equalIn,run_underlying hu]
            exact hd 9999
          cases ng with
          | true => simp [execOp,e1,e2,eqGuard,binOp,hq2]
          | false => simp [execOp,e1,e2,eqGuard,binOp,hq2]
        have main:∀ ng:Bool,a4s P C.dm (.isnil ng x') (AX.ev t) h k → ρ y = .slice none 0 0 → ∃ p n c,ρ x = .slice p n c ∧ k (.bool (p.isNone != ng)) h:=by
          intro ng hs e2
          simp only [a4s] at hs
          split at hs
          · rename_i ex
            rw [ex] at hx
            simp only [RV] at hx
            exact ⟨none,0,0,hx,by simpa using hs⟩
          · rename_i z l ex
            rw [ex] at hx
            simp only [RV,b2o,Rep] at hx
            obtain ⟨fp,⟨cs,e3,h3⟩,_⟩:=hx
            rcases h3 with ⟨rfl,_,a,cap,rfl,_,_⟩ | ⟨b,off,cap,cur,el,fz,fps,rfl,_⟩
            · exact ⟨a,0,cap,by simpa [mkV] using e3,hs _ (fun _ => rfl)⟩
            · refine ⟨some ⟨b,off,none⟩,l.length,cap,by simpa [mkV] using e3,hs _ (fun hh => ?_)⟩
              simp at hh
          · rename_i o lo n ex
            rw [ex] at hx
            split at hs
            · rename_i z l eo
              simp only [RV,eo] at hx
              obtain ⟨a,cap,e3,h4,h5,h6,h7⟩:=hx
              refine ⟨a,n,cap,e3,hs _ (fun hh => ?_)⟩
              split at h7
              · omega
              · rcases h7.1 with h8 | h8
                · exact h8
                · rw [h8] at hh; simp at hh
            · exact hs.elim
          · exact hs.elim
        split at ho
        · cases ho
          have hy2:ρ y = .slice none 0 0:=by simpa only [AX.ev,RV] using hy
          obtain ⟨p,n,c,e1,hk2⟩:=main false hs hy2
          rw [show (_:Sem Next).run P w = _ from key false p n c e1 hy2,Oper.upon_value]
          exact hk _ h _ w σ φ hr (EvX.refl σ h w) (by simp [RV]) (Below.refl _ _) hk2
        · cases ho
          have hy2:ρ y = .slice none 0 0:=by simpa only [AX.ev,RV] using hy
          obtain ⟨p,n,c,e1,hk2⟩:=main true hs hy2
          rw [show (_:Sem Next).run P w = _ from key true p n c e1 hy2,Oper.upon_value]
          exact hk _ h _ w σ φ hr (EvX.refl σ h w) (by simp [RV]) (Below.refl _ _) hk2
        · cases ho
      · cases ho
    · cases ho
  | convert s' d x =>
    simp only [oc] at ho
    split at ho
    · cases ho; simp [AOp.quiet] at hq
    · rename_i u1 u2 u3
      split at ho
      · rename_i u4
        cases ho
        have hv:=he _ _ u3
        simp only [a4s] at hs
        split at hs
        · rename_i l1 m ks es
          obtain ⟨l,rfl,hs⟩:=hs
          have hfl:∀ a ∈ l.map (AV.int .u8),R.flat a = true:=by
            intro a ha
            obtain ⟨n,_,rfl⟩:=List.mem_map.1 ha
            rfl
          obtain ⟨g1,_,fp,a,c,g2,_,_,g3⟩:=d2r hr hv es (fun _ _ => hfl) (fun _ _ _ _ => hfl)
          rw [g2] at hv
          have hm:=d8k hv es
          have hlen:l.length ≤ maxLen:=by rw [← g1,List.length_map] at hm; exact hm
          have hrun:(convert s' d (ρ x)).run P w = .ok (.string ⟨(l.map fun n => UInt8.ofNat n.toNat).toArray⟩) w:=by
            rw [g2]
            unfold convert
            simp only [Sem.run_bind,run_underlying u1,run_underlying u2,Result.andThen_ok,run_underlying u4]
            refine d8l (by rw [← g1,List.length_map]) ?_
            rcases g3 with ⟨h0,_⟩ | ⟨g,off,cur,el,fz,h0,g4,g5⟩
            · exact .inl h0
            · by_cases hm0:m = 0
              · exact .inl hm0
              · have q1:=a0n.length g5
                have q2:=a0n.bytes _ _ _ g5
                have q3:l.length = m:=by rw [← g1,List.length_map]
                rw [q3] at q2
                simp only [List.length_map,List.length_drop,Nat.mul_one,Array.length_toList] at q1
                exact .inr ⟨g,off,cur,el,fz,h0,g4,by omega,q2⟩
          simp only [execOp,Sem.run_bind,hrun,Result.andThen_ok,Sem.run_pure,Oper.upon_value]
          exact hk _ h _ w σ φ hr (EvX.refl σ h w) (by simp [RV,hlen]) (Below.refl _ _) hs
        · exact hs.elim
      · cases ho
    · cases ho
  | _ =>
    exfalso
    simp only [oc] at ho
    first
      | (cases ho; done)
      | (simp only [Option.map_eq_some_iff] at ho; obtain ⟨_,_,rfl⟩:=ho; simp [AOp.quiet] at hq; done)
      | (repeat' split at ho
         all_goals first
           | contradiction
           | (cases ho; done)
           | (cases ho; simp [AOp.quiet] at hq; done)
           | (simp only [Option.map_eq_some_iff] at ho; obtain ⟨_,_,rfl⟩:=ho; simp [AOp.quiet] at hq; done))
def c3c (z:Value):Option AV:=match z with
 | .pointer none => some (.hdr (.pointer none) 0 [])
 | z => a5t z
theorem c3c.rv {z:Value} {a:AV} (hz:c3c z = some a):RV C σ h w a z:=by
 unfold c3c at hz
 split at hz
 ·cases hz; simp only [RV]
 ·exact a5t.rv hz
def ocY (P:Program) (o:Op):Option AOp:=match o with
 | .call c => match c.callee,c.args.toList,c.argTypes.toList with
  | .builtin .clear,[x],[t] => match P.underlying t,cx x with
   | some (.slice e),some x => match P.info? e,((P.info? e).bind (·.zero)).bind a5t with
    | some i,some z => if z.cells.length = i.size then some (.clr i.size z x) else none
    | _,_ => none
   | _,_ => none
  | .builtin .cap,[x],[t] => match P.underlying t,cx x with
   | some (.slice _),some x => some (.cap x)
   | _,_ => none
  | .builtin .append,[s,x],[t,u] => match P.underlying t,P.underlying u,cx s,cx x with
   | some (.slice e),some (.int _),some s,some x => match P.info? e,((P.info? e).bind (·.zero)).bind a5t with
    | some i,some z => if z.cells.length = i.size && 0 < i.size && i.bytes ≤ 65536 then some (.appz i.size i.bytes z s x) else none
    | _,_ => none
   | _,_,_,_ => none
  | _,_,_ => none
 | .makeMap t r => match P.underlying t,r.isNone with
  | some (.map kt _),true => match P.underlying kt with
   | some .string => some .mkmap
   | _ => none
  | _,_ => none
 | .mapUpdate t m k x => match P.underlying t,cx m,cx k,cx x with
  | some (.map kt _),some m,some k,some x => match P.underlying kt with
   | some .string => some (.mapset m k x)
   | _ => none
  | _,_,_,_ => none
 | .insert t m k x => match P.underlying t,cx m,cx k,cx x with
  | some (.map kt _),some m,some k,some x => match P.underlying kt with
   | some .string => some (.mapset m k x)
   | _ => none
  | _,_,_,_ => none
 | .lookup t m k false => match P.underlying t,cx m,cx k with
  | some (.map kt e),some m,some k => match P.underlying kt,((P.info? e).bind (·.zero)).bind c3c with
   | some .string,some z => some (.mapget z m k)
   | _,_ => none
  | _,_,_ => none
 | .binOp .eql xt x (.const (.pointer none)) _ => match P.underlying xt,cx x with
  | some (.pointer _),some x => some (.isnilp false x)
  | _,_ => none
 | .binOp .neq xt x (.const (.pointer none)) _ => match P.underlying xt,cx x with
  | some (.pointer _),some x => some (.isnilp true x)
  | _,_ => none
 | .slice t x (some lo) (some hi) (some mx) => match P.underlying t,cx x,cx lo,cx hi,cx mx with
  | some (.slice e),some x,some lo,some hi,some mx => (isz P e).map fun _ => .sl3 x lo hi mx
  | _,_,_,_,_ => none
 | _ => none
def ocX (P:Program) (o:Op):Option AOp:=match o with
 | .select _ _ => none
 | _ => match ocY P o with
  | some a => some a
  | none => some .never
def oc2 (P:Program) (o:Op):Option AOp:=match oc P o with
 | some a => some a
 | none => ocX P o
theorem d9x {o:Op} {ao:AOp} (ho:ocY P o = some ao):ao.quiet = false:=by
 unfold ocY at ho
 split at ho
 ·split at ho
  ·split at ho
   ·split at ho
    ·split at ho
     ·cases ho; rfl
     ·cases ho
    ·cases ho
   ·cases ho
  ·split at ho
   ·cases ho; rfl
   ·cases ho
  ·split at ho
   ·split at ho
    ·split at ho
     ·cases ho; rfl
     ·cases ho
    ·cases ho
   ·cases ho
  ·cases ho
 ·split at ho
  ·split at ho <;> first | (cases ho; rfl) | cases ho
  ·cases ho
 ·split at ho
  ·split at ho <;> first | (cases ho; rfl) | cases ho
  ·cases ho
 ·split at ho
  ·split at ho <;> first | (cases ho; rfl) | cases ho
  ·cases ho
 ·split at ho
  ·split at ho <;> first | (cases ho; rfl) | cases ho
  ·cases ho
 ·split at ho <;> first | (cases ho; rfl) | cases ho
 ·split at ho <;> first | (cases ho; rfl) | cases ho
 ·split at ho
  ·simp only [Option.map_eq_some_iff] at ho
   obtain ⟨_,_,rfl⟩:=ho
   rfl
  ·cases ho
 ·cases ho
theorem d9y {o:Op} {ao:AOp} (ho:ocX P o = some ao):ao.quiet = false:=by
 unfold ocX at ho
 split at ho
 ·cases ho
 ·split at ho
  ·rename_i a e; cases ho; exact d9x e
  ·cases ho; rfl
theorem d5n (hr:a0b C σ φ h w) (hb:∀ b,w.heap.size ≤ b → C.mine b) {ty u e rt:TypeId} {kn:IntKind} {i:TypeInfo} (ht:P.underlying ty = some (.slice e)) (hu:P.underlying u = some (.int kn)) (hi:P.info? e = some i)
  {z:Value} (hz:i.zero = some z) {za:AV} (hza:a5t z = some za) (hzs:za.cells.length = i.size) (h0:0 < i.size) (hby:i.bytes ≤ 65536) {k:IntKind} {n:Int} (hn:0 < n) (hc:n ≤ 2 ^ 30) :
  ∃ v w' σ' φ',(Builtin.append_ #[ty,u] rt #[.slice none 0 0,.int k n]).run P w = .ok v w' ∧ a0b C σ' φ' (h ++ [.row i.size (List.replicate n.toNat za)]) w' ∧
   Ev σ h w σ' (h ++ [.row i.size (List.replicate n.toNat za)]) w' ∧ RV C σ' (h ++ [.row i.size (List.replicate n.toNat za)]) w' (.own h.length 0 n.toNat) v ∧ Below C.base w w':=by
 obtain ⟨m,rfl⟩:∃ m:Nat,n = (m:Int):=⟨n.toNat,by omega⟩
 rw [Int.toNat_natCast]
 have hm0:0 < m:=by omega
 have hf:=a5t.flat hza
 have hzc:z.cells.size = i.size:=by
  have hrv:=(a5t.rv (C:=C) (σ:=σ) (h:=h) (w:=w) hza).cells (by cases za <;> simp_all [R.flat,a7h])
  have:=hrv.length
  rw [hzs] at this
  simpa using this
 have h48:m * i.bytes ≤ 281474976710656:=by
  have:m * i.bytes ≤ 2 ^ 30 * 65536:=Nat.mul_le_mul (by omega) hby
  omega
 have hrun:=Lib.run_append_nil_zeros (P:=P) w ty u rt e i z k kn ht hu hi hz m hm0 h0 (by omega) h48
 obtain ⟨g,hg⟩:∃ g,g = grownCap w m 0 e:=⟨_,rfl⟩
 have hge:m ≤ g ∧ g ≤ maxLen:=by
  rw [hg]
  exact ⟨grownCap_ge w m 0 e,grownCap_le_maxLen w m 0 e (by simp only [maxLen]; omega)⟩
 rw [← hg] at hrun
 have hd:a0b C σ φ h w.drew:=(b2p.drew w).heap hr
 have hrep:a0n C.dm w.drew i.size (List.replicate m za) (Builtin.zeroCells z.cells m ++ Builtin.zeroCells z.cells (g - m)).toList []:=by
  have hl:z.cells.toList.length = i.size:=by simpa using hzc
  rw [← hl]
  refine b1c hf.2.1 (hf.2.2 _ _) _ _ (fun j hj => ?_)
  rw [hl,← hzc,Array.toList_append,a9k]
  have h1:(j + 1) * z.cells.size ≤ m * z.cells.size:=Nat.mul_le_mul_right _ (by omega)
  have h2:(madeCells z.cells (m * z.cells.size)).toList.length = m * z.cells.size:=by simp [size_madeCells]
  rw [Nat.add_mul,Nat.one_mul] at h1
  rw [List.drop_append_of_le_length (by omega),List.take_append_of_le_length (by rw [List.length_drop]; omega)]
  exact c5y _ (by omega) _ _ (by rw [Nat.add_mul,Nat.one_mul]; exact h1)
 have hsize:(Builtin.zeroCells z.cells m ++ Builtin.zeroCells z.cells (g - m)).size = g * i.size:=by
  rw [Array.size_append,a9k,a9k,size_madeCells,size_madeCells,hzc,← Nat.add_mul]
  congr 1; omega
 obtain ⟨σ',φ',k1,k2,k3⟩:=d0w hd hb e (ks:=[]) h0 hge.2 hsize hrep Taken.nil (fun _ => by simp)
 simp only [kill] at k1 k2
 refine ⟨_,_,σ',φ',hrun,k1,(b2p.drew w).ev.trans k2,?_,?_⟩
 ·simp only [RV,List.getElem?_append_right (Nat.le_refl _),Nat.sub_self,List.getElem?_cons_zero]
  exact ⟨_,g,rfl,by simp,hge.1,hge.2,by rw [k3]; exact ⟨.inr (by simp),fun _ => ⟨rfl,rfl⟩⟩⟩
 ·exact ⟨rfl,rfl,rfl,by simp,fun k hk => heap_alloc_old w.drew _ (by have:=(hb _ (Nat.le_refl _)).1; simp; omega)⟩
theorem d6s {ty e:TypeId} {sz:Nat} (ht:P.underlying ty = some (.slice e)) (hs:isz P e = some sz) {ad:Option Addr} {n cap:Nat} (hnc:n ≤ cap) {ka kb kc:IntKind} {a b c:Int} (h0:0 ≤ a) (h1:a ≤ b) (h2:b ≤ c) (h3:c ≤ n) :
  ∃ u,(Instr.slice ty (.slice ad n cap) (some (.int ka a)) (some (.int kb b)) (some (.int kc c))).run P w = .ok u w:=by
 have e1:∀ q:BoundsCode,(Instr.sliceBound (.int kc c) cap q).run P w = .ok c.toNat w:=fun q => run_sliceBound (by omega) (by omega)
 have e2:∀ q:BoundsCode,(Instr.sliceBound (.int kb b) c.toNat q).run P w = .ok b.toNat w:=fun q => run_sliceBound (by omega) (by omega)
 have e3:∀ q:BoundsCode,(Instr.sliceBound (.int ka a) b.toNat q).run P w = .ok a.toNat w:=fun q => run_sliceBound (by omega) (by omega)
 refine ⟨.slice (if c.toNat = a.toNat then ad else ad.map (·.add (a.toNat * sz))) (b.toNat - a.toNat) (c.toNat - a.toNat),?_⟩
 simp [Instr.slice,Instr.sliceBounds,run_underlying ht,e1,e2,e3,run_sizeOf hs]
theorem c1e (hr:a0b C σ φ h w) (he:a7b C σ h w t ρ) {xt e0:TypeId} {x:Operand} {x':AX} (h1:P.underlying xt = some (.pointer e0)) (h2:cx x = some x') (ng:Bool) {k:AV → List y9 → Prop} (hs:a4s P C.md (.isnilp ng x') (AX.ev t) h k)
  {dst:Option Nat} {ty yt:TypeId} {pos:String} {after:Array Edge} {guard:Option (Nat × Bool)} {a:Act} {next:Act → World → Prop} {Q:Exit → Act → World → Prop} (hk:Behind C σ h w k fun v w' => next (a.put dst v) w') :
  (Oper.mk dst (.binOp (match ng with | true => .neq | false => .eql) xt x (.const (.pointer none)) yt) ty pos after guard).upon P a next Q ((execOp ρ (Oper.mk dst (.binOp (match ng with | true => .neq | false => .eql) xt x (.const (.pointer none)) yt) ty pos after guard)).run P w):=by
 have vx:=he _ _ h2
 have vy:ρ (.const (.pointer none)) = .pointer none:=by
  have:=he (.const (.pointer none)) _ rfl
  simpa only [AX.ev,RV] using this
 have key:∀ p:Option Addr,ρ x = .pointer p →
   (execOp ρ (Oper.mk dst (.binOp (match ng with | true => .neq | false => .eql) xt x (.const (.pointer none)) yt) ty pos after guard)).run P w = .ok (.value (.bool (p.isNone != ng))) w:=by
  intro p e1
  have hq2:(Op.equal xt (.pointer p) (.pointer none)).run P w = .ok p.isNone w:=by
   have hd:∀ d,(Op.equalIn (d + 1) xt (.pointer p) (.pointer none)).run P w = .ok p.isNone w:=by
    intro d
    cases p <;> simp [Op.equalIn,run_underlying h1]
   exact hd 9999
  cases ng with
  | true => simp [execOp,e1,vy,eqGuard,binOp,hq2]
  | false => simp [execOp,e1,vy,eqGuard,binOp,hq2]
 simp only [a4s] at hs
 split at hs
 ·rename_i u1 u2 ex
  rw [ex] at vx
  simp only [RV] at vx
  have vx:ρ x = .pointer none:=vx
  rw [key none vx,Oper.upon_value]
  exact hk (.bool !ng) h _ w σ φ hr (EvX.refl σ h w) (by simp [RV]) (Below.refl _ _) hs
 ·rename_i o i f ex
  rw [ex] at vx
  split at hs
  ·rename_i z y eo
   simp only [RV,eo] at vx
   obtain ⟨_,g,c,_,e2⟩:=vx
   rw [key _ e2,Oper.upon_value]
   exact hk (.bool ng) h _ w σ φ hr (EvX.refl σ h w) (by simp [RV]) (Below.refl _ _) hs
  ·exact hs.elim
 ·exact hs.elim
theorem d8m (hr:a0b C σ φ h w) (hb:∀ b,w.heap.size ≤ b → C.mine b) (o:Oper) {ao:AOp} (ho:ocY P o.op = some ao) (he:a7b C σ h w t ρ) {k:AV → List y9 → Prop} (hs:a4s P C.md ao (AX.ev t) h k)
  {a:Act} {next:Act → World → Prop} {Q:Exit → Act → World → Prop} (hk:Behind C σ h w k fun v w' => next (a.put o.dst v) w'):o.upon P a next Q ((execOp ρ o).run P w):=by
 obtain ⟨dst,op,ty,pos,after,guard⟩:=o
 simp only at ho hk
 unfold ocY at ho
 split at ho
 ·rename_i cl
  obtain ⟨callee,args,argTypes⟩:=cl
  obtain ⟨args⟩:=args
  obtain ⟨argTypes⟩:=argTypes
  simp only at ho
  split at ho
  ·rename_i x ty'
   split at ho
   ·rename_i e x' h1 h2
    split at ho
    ·rename_i i z h4 h5
     split at ho
     ·rename_i hc
      cases ho
      obtain ⟨zv,hz,hzc⟩:∃ zv,i.zero = some zv ∧ a5t zv = some z:=by
       simpa [h4,Option.bind_eq_some_iff] using h5
      have hvx:=he _ _ h2
      have fin:∀ u w',(Builtin.clear_ #[ty'] ty #[ρ x]).run P w = .ok u w' →
        (execOp ρ { dst,op:=.call { callee:=.builtin .clear,args:=[x].toArray,argTypes:=[ty'].toArray },type:=ty,pos,after,guard }).run P w = .ok (.value u) w':=by
       intro u w' hrun
       simp [execOp,resolve,invoke,builtin,hrun]
      simp only [a4s] at hs
      split at hs
      ·rename_i ex
       rw [ex] at hvx
       simp only [RV] at hvx
       have hrun:(Builtin.clear_ #[ty'] ty #[ρ x]).run P w = .ok (.tuple #[]) w:=by
        rw [hvx]
        simp [Builtin.clear_,run_underlying h1]
       rw [fin _ _ hrun,Oper.upon_value]
       exact hk _ h _ w σ φ hr (EvX.refl σ h w) (by simp [RV,RVs]) (Below.refl _ _) hs
      ·rename_i o lo n ex
       split at hs
       ·rename_i z0 l eo
        obtain ⟨rfl,zl,sl,s4⟩:=hs
        rw [ex] at hvx
        obtain ⟨w',φ',g1,g2,g3,g4⟩:=d2u (P:=P) (rt:=ty) hr h1 h4 hz hzc hc eo hvx
        rw [fin _ _ g1,Oper.upon_value]
        have hl:LeL (l.take lo ++ List.replicate n z ++ l.drop (lo + n)) (l.take lo ++ zl ++ l.drop (lo + n)):=LeL.app (LeL.app (.refl _) sl) (.refl _)
        have hh:=LeH.setr (h:=h) (o:=o) (z:=i.size) hl
        exact hk _ _ _ w' σ φ' (hh.heap g2) (g3.trans hh.ev).x (by simp [RV,RVs]) g4 s4
       ·exact hs.elim
      ·exact hs.elim
     ·cases ho
    ·cases ho
   ·cases ho
  ·rename_i x ty'
   split at ho
   ·rename_i e x' h1 h2
    cases ho
    have hvx:=he _ _ h2
    simp only [a4s] at hs
    split at hs
    ·rename_i ex
     rw [ex] at hvx
     simp only [RV] at hvx
     have hrun:(execOp ρ { dst,op:=.call { callee:=.builtin .cap,args:=[x].toArray,argTypes:=[ty'].toArray },type:=ty,pos,after,guard }).run P w = .ok (.value (.int .i64 0)) w:=by
      have:(Builtin.cap_ #[ty'] ty #[ρ x]).run P w = .ok (.int .i64 0) w:=by
       rw [hvx]
       simp [Builtin.cap_,run_underlying h1,goInt]
      simp [execOp,resolve,invoke,builtin,this]
     rw [hrun,Oper.upon_value]
     exact hk _ h _ w σ φ hr (EvX.refl σ h w) (by simp only [RV]) (Below.refl _ _) hs
    ·exact hs.elim
   ·cases ho
  ·rename_i s x ty' u
   split at ho
   ·rename_i e kn s' x' h1 h2 h3 h4
    split at ho
    ·rename_i i z h5 h6
     split at ho
     ·rename_i hc
      cases ho
      simp only [Bool.and_eq_true,decide_eq_true_eq] at hc
      obtain ⟨zv,hz,hzc⟩:∃ zv,i.zero = some zv ∧ a5t zv = some z:=by
       simpa [h5,Option.bind_eq_some_iff] using h6
      have hvs:=he _ _ h3
      have hvx:=he _ _ h4
      simp only [a4s] at hs
      split at hs
      ·rename_i kk a1 es ex
       obtain ⟨⟨s1,s2⟩,l',sl,s3⟩:=hs
       rw [es] at hvs
       rw [ex] at hvx
       simp only [RV] at hvs hvx
       obtain ⟨u1,w',σ',φ',g1,g2,g3,g4,g5⟩:=d5n (P:=P) (rt:=ty) hr hb h1 h2 h5 hz hzc hc.1.1 hc.1.2 hc.2 (k:=kk) s1 s2
       have hrun:(execOp ρ { dst,op:=.call { callee:=.builtin .append,args:=[s,x].toArray,argTypes:=[ty',u].toArray },type:=ty,pos,after,guard }).run P w = .ok (.value u1) w':=by
        rw [← hvs,← hvx] at g1
        simp [execOp,resolve,invoke,builtin,g1]
       rw [hrun,Oper.upon_value]
       have hh:=LeH.last (.row (z:=i.size) sl) (h:=h)
       exact hk _ _ u1 w' σ' φ' (hh.heap g2) (g3.trans hh.ev).x (hh.ev.rv _ _ g4) g5 s3
      ·exact hs.elim
     ·cases ho
    ·cases ho
   ·cases ho
  ·cases ho
 ·rename_i ty' r
  split at ho
  ·rename_i kt e0 h1 hr0
   split at ho
   ·rename_i hkt
    cases ho
    obtain ⟨u,w',σ',φ',g1,g2,g3,g4,g5⟩:=d3b (P:=P) hr hb ty'
    have hr1:r = none:=by cases r with | none => rfl | some _ => simp at hr0
    subst hr1
    have hrun:(execOp ρ { dst,op:=.makeMap ty' none,type:=ty,pos,after,guard }).run P w = .ok (.value u) w':=by
     simp [execOp,g1]
    rw [hrun,Oper.upon_value]
    exact hk _ _ u w' σ' φ' g2 g3.x g4 g5 hs
   ·cases ho
  ·cases ho
 ·rename_i ty' m kk x
  split at ho
  ·rename_i kt e0 m' k' x' h1 h2 h3 h4
   split at ho
   ·rename_i hkt
    cases ho
    simp only [a4s] at hs
    have vm:=he _ _ h2
    have vk:=he _ _ h3
    have vx:=he _ _ h4
    split at hs
    ·rename_i o i f s em ek
     rw [em] at vm
     rw [ek] at vk
     split at hs
     ·rename_i l eo
      obtain ⟨w',φ',g1,g2,g3,g4⟩:=c1b (P:=P) hr h1 hkt eo vm vk vx
      have hrun:(execOp ρ { dst,op:=.mapUpdate ty' m kk x,type:=ty,pos,after,guard }).run P w = .ok .skip w':=by
       simp [execOp,g1]
      rw [hrun,Oper.upon_skip]
      exact hk _ _ undef w' σ φ' g2 g3.x (by simp [RV]) g4 hs
     ·exact hs.elim
    ·exact hs.elim
   ·cases ho
  ·cases ho
 ·rename_i ty' m kk x
  split at ho
  ·rename_i kt e0 m' k' x' h1 h2 h3 h4
   split at ho
   ·rename_i hkt
    cases ho
    simp only [a4s] at hs
    have vm:=he _ _ h2
    have vk:=he _ _ h3
    have vx:=he _ _ h4
    split at hs
    ·rename_i o i f s em ek
     rw [em] at vm
     rw [ek] at vk
     split at hs
     ·rename_i l eo
      obtain ⟨w',φ',g1,g2,g3,g4⟩:=c1b (P:=P) hr h1 hkt eo vm vk vx
      have hrun:(execOp ρ { dst,op:=.insert ty' m kk x,type:=ty,pos,after,guard }).run P w = .ok .skip w':=by
       simp [execOp,g1]
      rw [hrun,Oper.upon_skip]
      exact hk _ _ undef w' σ φ' g2 g3.x (by simp [RV]) g4 hs
     ·exact hs.elim
    ·exact hs.elim
   ·cases ho
  ·cases ho
 ·rename_i ty' m kk
  split at ho
  ·rename_i kt e0 m' k' h1 h2 h3
   split at ho
   ·rename_i z hkt hz
    cases ho
    simp only [a4s] at hs
    obtain ⟨zv,hzi,hza⟩:∃ zv,(P.info? e0).bind (·.zero) = some zv ∧ c3c zv = some z:=by
     simpa [Option.bind_eq_some_iff] using hz
    obtain ⟨inf,hinf,hzz⟩:∃ inf,P.info? e0 = some inf ∧ inf.zero = some zv:=by
     simpa [Option.bind_eq_some_iff] using hzi
    have hzr:(zeroValue e0).run P w = .ok zv w:=by simp [zeroValue,typeInfo,hinf,hzz]
    have vm:=he _ _ h2
    have vk:=he _ _ h3
    split at hs
    ·rename_i o i f s em ek
     rw [em] at vm
     rw [ek] at vk
     split at hs
     ·rename_i l eo
      obtain ⟨u,g1,g2⟩:=d1e (P:=P) hr h1 hkt eo vm vk hzr (c3c.rv hza)
      have hrun:(execOp ρ { dst,op:=.lookup ty' m kk false,type:=ty,pos,after,guard }).run P w = .ok (.value u) w:=by
       simp [execOp,g1]
      rw [hrun,Oper.upon_value]
      exact hk _ h u w σ φ hr (EvX.refl σ h w) g2 (Below.refl _ _) hs
     ·exact hs.elim
    ·exact hs.elim
   ·cases ho
  ·cases ho
 ·rename_i xt x yt
  split at ho
  ·rename_i e0 x' h1 h2
   cases ho
   exact c1e hr he h1 h2 false hs hk
  ·cases ho
 ·rename_i xt x yt
  split at ho
  ·rename_i e0 x' h1 h2
   cases ho
   exact c1e hr he h1 h2 true hs hk
  ·cases ho
 ·rename_i ty' x lo hi mx
  split at ho
  ·rename_i e x' lo' hi' mx' h1 h2 h3 h4 h5
   simp only [Option.map_eq_some_iff] at ho
   obtain ⟨sz,hsz,rfl⟩:=ho
   have vx:=he _ _ h2
   have va:=he _ _ h3
   have vb:=he _ _ h4
   have vc:=he _ _ h5
   simp only [a4s] at hs
   have fin:∀ u,(Instr.slice ty' (ρ x) (some (ρ lo)) (some (ρ hi)) (some (ρ mx))).run P w = .ok u w →
     (execOp ρ { dst,op:=.slice ty' x (some lo) (some hi) (some mx),type:=ty,pos,after,guard }).run P w = .ok (.value u) w:=by
    intro u hrun
    simp [execOp,Instr.sliceAt,run_underlying h1,hrun]
   split at hs
   ·rename_i o l0 n ka a1 kb b1 kc c1 ex ea eb ec
    obtain ⟨⟨s0,s1,s2,s3,z,l,eo⟩,s4⟩:=hs
    rw [ex] at vx
    rw [ea] at va
    rw [eb] at vb
    rw [ec] at vc
    simp only [RV,eo] at vx
    simp only [RV] at va vb vc
    obtain ⟨ad,cap,hv,_,g2,_,_⟩:=vx
    obtain ⟨u,hu⟩:=d6s (P:=P) (w:=w) h1 hsz (ad:=ad) g2 (ka:=ka) (kb:=kb) (kc:=kc) s0 s1 s2 s3
    rw [← va,← vb,← vc,← hv] at hu
    rw [fin u hu,Oper.upon_value]
    exact hk _ h u w σ φ hr (EvX.refl σ h w) (by simp [RV]) (Below.refl _ _) s4
   ·rename_i z l ka a1 kb b1 kc c1 ex ea eb ec
    obtain ⟨⟨s0,s1,s2,s3⟩,s4⟩:=hs
    rw [ex] at vx
    rw [ea] at va
    rw [eb] at vb
    rw [ec] at vc
    simp only [RV,b2o,Rep] at vx
    simp only [RV] at va vb vc
    obtain ⟨ad,cap,hv,g2⟩:∃ ad cap,ρ x = .slice ad l.length cap ∧ l.length ≤ cap:=by
     obtain ⟨fp,⟨cs,e3,h3⟩,_⟩:=vx
     rcases h3 with ⟨rfl,_,a,cap,rfl,_,_⟩ | ⟨b,off,cap,cur,el,fz,fps,rfl,h4,h5,_⟩
     ·exact ⟨a,cap,by simpa [mkV] using e3,by simp⟩
     ·exact ⟨_,cap,by simpa [mkV] using e3,h4⟩
    obtain ⟨u,hu⟩:=d6s (P:=P) (w:=w) h1 hsz (ad:=ad) g2 (ka:=ka) (kb:=kb) (kc:=kc) s0 s1 s2 s3
    rw [← va,← vb,← vc,← hv] at hu
    rw [fin u hu,Oper.upon_value]
    exact hk _ h u w σ φ hr (EvX.refl σ h w) (by simp [RV]) (Below.refl _ _) s4
   ·exact hs.elim
  ·cases ho
 ·cases ho
theorem d8n (hr:a0b C σ φ h w) (hb:∀ b,w.heap.size ≤ b → C.mine b) (o:Oper) {ao:AOp} (ho:ocX P o.op = some ao) (he:a7b C σ h w t ρ) {k:AV → List y9 → Prop} (hs:a4s P C.md ao (AX.ev t) h k)
  {a:Act} {next:Act → World → Prop} {Q:Exit → Act → World → Prop} (hk:Behind C σ h w k fun v w' => next (a.put o.dst v) w'):o.upon P a next Q ((execOp ρ o).run P w):=by
 unfold ocX at ho
 split at ho
 ·cases ho
 ·split at ho
  ·rename_i a1 e; cases ho; exact d8m hr hb o e he hs hk
  ·cases ho; exact hs.elim
theorem d8o (hmd:C.mm = true → C.dm = true) (hr:a0b C σ φ h w) (hok:∀ b,C.mine b → C.ok b) (hb:∀ b,w.heap.size ≤ b → C.mine b) (o:Oper) {ao:AOp} (ho:oc2 P o.op = some ao) (he:a7b C σ h w t ρ) {k:AV → List y9 → Prop} (hs:a4s P C.md ao (AX.ev t) h k)
  {a:Act} {next:Act → World → Prop} {Q:Exit → Act → World → Prop} (hk:c1d C σ h w k fun v w' => next (a.put o.dst v) w'):o.upon P a next Q ((execOp ρ o).run P w):=by
 unfold oc2 at ho
 cases e:oc P o.op with
 | some a1 => rw [e] at ho; cases ho; exact d9w hmd hr hok hb o e he hs hk
 | none => rw [e] at ho; exact d8n hr hb o ho he hs hk.b
theorem d3e (hr:a0b C σ φ h w) (o:Oper) {ao:AOp} (ho:oc2 P o.op = some ao) (hq:ao.quiet = true) (he:a7b C σ h w t ρ) (hp:aqP ao (AX.ev t) h) (hmm:mmP C.mm ao (AX.ev t) h) :
  ∃ v,(execOp ρ o).run P w = .ok (.value v) w ∧ RV C σ h w (aqV ao (AX.ev t) h) v ∧ aqF ao (AX.ev t):=by
 unfold oc2 at ho
 cases e:oc P o.op with
 | some a1 => rw [e] at ho; cases ho; exact d0v hr o e hq he hp hmm
 | none => rw [e] at ho; rw [d9y ho] at hq; cases hq
end ops
end Go.R
