import Derived.Test.YtldahjcikmpifaaGreatC3
set_option linter.all false
namespace Go.R
open Go
def isz (P:Program) (t:TypeId):Option Nat:=(P.info? t).map (·.size)
def iag (P:Program) (t:TypeId):Option Bool:=(P.underlying t).map fun d => match d with
 | .struct _ => true
 | .array _ _ => true
 | _ => false
def b0p:Value → Option AV
 | .int k n => some (.int k n)
 | .bool b => some (.bool b)
 | .string s => if s.size ≤ 65536 then some (.str s.data.toList) else none
 | .slice none 0 0 => some .nil
 | _ => none
def a6n:List Value → Option (List AV)
 | [] => some []
 | v :: vs => match b0p v,a6n vs with
  | some a,some as => some (a :: as)
  | _,_ => none
def a5t (v:Value):Option AV :=
 match v with
 | .agg cs => (a6n cs.toList).map .agg
 | v => b0p v
def cx:Operand → Option AX
 | .tmp n => some (.t n)
 | .const (.pointer none) => some (.c (.hdr (.pointer none) 0 []))
 | .const v => (a5t v).map .c
 | .func f => some (.c (.fn f []))
 | .global _ => none
def cxs:List Operand → Option (List AX)
 | [] => some []
 | x :: xs => match cx x,cxs xs with
  | some a,some as => some (a :: as)
  | _,_ => none
def cxo:Option Operand → Option (Option AX)
 | none => some none
 | some x => (cx x).map some
def fld (P:Program) (s:TypeId) (f:Nat):Option (Nat × Nat × Bool) :=
 match P.underlying s with
 | some (.struct fs) => match fs[f]? with
  | some fl => match isz P fl.type,iag P fl.type with
   | some (n + 1),some ag => some (fl.offset,n + 1,ag)
   | _,_ => none
  | none => none
 | _ => none
def c2u (P:Program) (t:TypeId):Option Nat :=
 match P.underlying t with
 | some .bool => some 1
 | some (.int _) => some 0
 | some .string => some 2
 | _ => none
def b5v (P:Program):Nat → List Field → Option (List Nat)
 | _,[] => some []
 | n,f :: fs => match c2u P f.type,b5v P (n + 1) fs with
  | some k, some ks => if f.name != "_" && f.offset == n then some (k :: ks) else none
  | _,_ => none
def b9q (P:Program) (fs:Array Field):List (Nat × Operand) → Option (List (Nat × Nat × AX))
 | [] => some []
 | (i,x) :: rest => match fs[i]?,cx x,b9q P fs rest with
  | some f,some a,some l => match isz P f.type with
   | some n => some ((f.offset,n,a) :: l)
   | none => none
  | _,_,_ => none
def b3z:Nat → List (Nat × Operand) → Option (List AX)
 | _,[] => some []
 | k,(i,x) :: rest => match cx x,b3z (k + 1) rest with
  | some a,some l => if i = k then some (a :: l) else none
  | _,_ => none
def sized (P:Program) (fs:List Field):Bool:=fs.all fun f => (isz P f.type).isSome
def oc (P:Program) (o:Op):Option AOp :=
 match o with
 | .move x => (cx x).map .mov
 | .assign x => (cx x).map .mov
 | .pick c a b => match cx c,cx a,cx b with
  | some c,some a,some b => some (.pick c a b)
  | _,_,_ => none
 | .load t a => match isz P t,iag P t,cx a with
  | some (n + 1),some ag,some a => some (.load (n + 1) ag a)
  | _,_,_ => none
 | .fieldAddr s a f => match fld P s f,cx a with
  | some (off,_,_),some a => some (.faddr off a)
  | _,_ => none
 | .field s x f => match fld P s f,cx x with
  | some (off,sz,ag),some x => some (.field off sz ag x)
  | _,_ => none
 | .indexAddr t x i => match P.underlying t,cx x,cx i with
  | some (.slice e),some x,some i => (isz P e).map fun sz => .iaddr sz x i
  | _,_,_ => none
 | .index t x i => match P.underlying t,cx x,cx i with
  | some .string,some x,some i => some (.idxs x i)
  | _,_,_ => none
 | .slice t x lo hi none => match P.underlying t,cx x,cxo lo,cxo hi with
  | some .string,some x,some lo,some hi => some (.sliceS x lo hi)
  | some (.slice e),some x,some lo,some hi => (isz P e).map fun sz => .slice sz x lo hi
  | _,_,_,_ => none
 | .binOp op xt x y _ => match cx x,cx y with
  | some x,some y => match P.underlying xt with
   | some (.int _) => some (.bin op x y)
   | some .string => some (.bin op x y)
   | some .bool => match op with
    | .eql => some (.eqB false x y)
    | .neq => some (.eqB true x y)
    | _ => none
   | some (.struct fs) => match b5v P 0 fs.toList with
    | some ks =>
     if !P.stoodInHeld xt && !P.eqGuardType P.depth xt then
      match op with
      | .eql => some (.eqs false ks x y)
      | .neq => some (.eqs true ks x y)
      | _ => none
     else none
    | none => none
   | some (.slice _) => match op,y with
    | .eql,.c .nil => some (.isnil false x)
    | .neq,.c .nil => some (.isnil true x)
    | _,_ => none
   | _ => none
  | _,_ => none
 | .unOp .not _ x => (cx x).map .not
 | .unOp .neg _ x => (cx x).map .neg
 | .makeFunc (.func f) first caps => if first.size = 0 then (cxs caps.toList).map (.mkfn f) else none
 | .extract x i => (cx x).map (.extract i)
 | .nilCheck x => (cx x).map .nilck
 | .convert s d x => match P.underlying s,P.underlying d,cx x with
  | some (.int _),some (.int k),some x => some (.convI k x)
  | some (.slice e),some .string,some x => match P.underlying e with
   | some (.int .u8) => some (.convBS x)
   | _ => none
  | _,_,_ => none
 | .build t parts => match P.underlying t,(P.info? t).bind (·.zero) with
  | some (.struct fs),some (.agg z) => match a6n z.toList,b9q P fs parts.toList with
   | some zero,some parts => if sized P fs.toList then some (.build zero parts) else none
   | _,_ => none
  | _,_ => none
 | .box t x => match isz P t,cx x with
  | some (n + 1),some x => some (.box (n + 1) x)
  | _,_ => none
 | .alloc t => match isz P t,((P.info? t).bind (·.zero)).bind a5t with
  | some (n + 1),some z => if z.cells.length = n + 1 then some (.box (n + 1) (.c z)) else none
  | _,_ => none
 | .makeSlice t n c => match P.underlying t,cx n,cx c with
  | some (.slice e),some n,some c => match P.info? e,((P.info? e).bind (·.zero)).bind a5t with
   | some i,some z => if z.cells.length = i.size && 0 < i.size && i.bytes ≤ 65536 then some (.mkslice i.size i.bytes z n c) else none
   | _,_ => none
  | _,_,_ => none
 | .buildSlice t n parts => match P.underlying t,b3z 0 parts.toList with
  | some (.slice e),some xs => match P.info? e with
   | some i => if i.zero.isSome && 0 < (i.zero.getD undef).cells.size && 0 < i.size && n * i.size ≤ 2 ^ 24 && n = xs.length then some (.bslice i.size xs) else none
   | none => none
  | _,_ => none
 | .store t a x => match isz P t,cx a,cx x with
  | some sz,some a,some x => some (.store sz a x)
  | _,_,_ => none
 | .call c => match c.callee,c.args.toList,c.argTypes.toList with
  | .builtin .len,[x],[t] => match P.underlying t with
   | some (.slice _) => (cx x).map .len
   | some .string => (cx x).map .lenS
   | _ => none
  | .builtin .max,[x,y],_ => match cx x,cx y with
   | some x,some y => some (.mnmx true x y)
   | _,_ => none
  | .builtin .min,[x,y],_ => match cx x,cx y with
   | some x,some y => some (.mnmx false x y)
   | _,_ => none
  | .builtin .append,[s,x],[t,u] => match P.underlying t,P.underlying u,cx s,cx x with
   | some (.slice e),some (.slice _),some s,some x => match P.info? e with
    | some i => if t = u && i.zero.isSome && 0 < i.size && (i.zero.getD undef).cells.size = i.size && i.bytes ≤ 65536 then some (.append i.size i.bytes s x) else none
    | none => none
   | _,_,_,_ => none
  | .value (.func f),args,_ => match P.funcs[f]? with
   | some fn => if fn.body.isSome && fn.name != "runtime.NumGoroutine" then (cxs args).map (.call f) else none
   | none => none
  | .value (.tmp n),args,_ => (cxs args).map (.calv (.t n))
  | _,_,_ => none
 | _ => none
section sound
variable {P:Program} {C:Ctx} {σ:Sg} {φ:Nat → List Nat} {h:List y9} {w:World}
theorem b0p.rv {v:Value} {a:AV} (hc:b0p v = some a):RV C σ h w a v ∧ a.isCell = true:=by
 unfold b0p at hc
 split at hc <;> try (cases hc; done)
 ·cases hc; simp [RV,AV.isCell]
 ·cases hc; simp [RV,AV.isCell]
 ·rename_i s
  split at hc
  ·cases hc
   rename_i hs
   obtain ⟨⟨l⟩⟩:=s
   have:l.length ≤ 65536:=hs
   simp only [RV,AV.isCell,maxLen]
   exact ⟨⟨by simp,by omega⟩,by simp⟩
  ·cases hc
 ·cases hc; simp [RV,AV.isCell]
theorem a6n.rvs:∀ {vs:List Value} {as:List AV},a6n vs = some as → RVs C σ h w as vs
 | [],as,hc => by simp only [a6n] at hc; cases hc; simp [RVs]
 | v :: vs,as,hc => by
  simp only [a6n] at hc
  cases h1:b0p v with
  | none => simp [h1] at hc
  | some a =>
   cases h2:a6n vs with
   | none => simp [h1,h2] at hc
   | some as' =>
    simp only [h1,h2,Option.some.injEq] at hc
    subst hc
    simp only [RVs]
    exact ⟨v,vs,rfl,(b0p.rv h1).1,a6n.rvs h2⟩
theorem a5t.rv {v:Value} {a:AV} (hc:a5t v = some a):RV C σ h w a v:=by
 unfold a5t at hc
 split at hc
 ·rename_i cs
  simp only [Option.map_eq_some_iff] at hc
  obtain ⟨as,h1,rfl⟩:=hc
  simp only [RV]
  exact ⟨cs,rfl,a6n.rvs h1⟩
 ·exact (b0p.rv hc).1
def a7b (C:Ctx) (σ:Sg) (h:List y9) (w:World) (t:Nat → AV) (ρ:Operand → Value):Prop:=∀ op x,cx op = some x → RV C σ h w (x.ev t) (ρ op)
theorem a7b.of_act {t:Nat → AV} {a:Act} (ht:∀ n,RV C σ h w (t n) (a.tmps.getD n Go.undef)):a7b C σ h w t a.eval:=by
 intro op x hx
 cases op with
 | tmp n => simp only [cx,Option.some.injEq] at hx; subst hx; exact ht n
 | const v =>
  by_cases hp:v = .pointer none
  ·subst hp
   simp only [cx,Option.some.injEq] at hx
   subst hx
   simp only [AX.ev,RV,Act.eval]
  rw [cx.eq_3 _ (fun h => hp h)] at hx
  simp only [Option.map_eq_some_iff] at hx
  obtain ⟨a',h1,rfl⟩:=hx
  exact a5t.rv h1
 | func f =>
  simp only [cx,Option.some.injEq] at hx
  subst hx
  simp only [AX.ev,RV,Act.eval]
  exact ⟨#[],rfl,by simp [RVs]⟩
 | global g => simp [cx] at hx
theorem a7b.list {t:Nat → AV} {ρ:Operand → Value} (he:a7b C σ h w t ρ):∀ {ops:List Operand} {xs:List AX},cxs ops = some xs → RVs C σ h w (xs.map (AX.ev t)) (ops.map ρ)
 | [],xs,hx => by simp only [cxs] at hx; cases hx; simp [RVs]
 | o :: ops,xs,hx => by
  simp only [cxs] at hx
  cases h1:cx o with
  | none => simp [h1] at hx
  | some a =>
   cases h2:cxs ops with
   | none => simp [h1,h2] at hx
   | some as =>
    simp only [h1,h2,Option.some.injEq] at hx
    subst hx
    simp only [List.map_cons,RVs]
    exact ⟨_,_,rfl,he o a h1,a7b.list he h2⟩
theorem b5w {b o:Nat} {cur:Array Value} {e:TypeId} {fz:Nat × Nat} (hg:w.heap[b]? = some (.cells cur e fz)):w.cell? ⟨b,o,none⟩ = cur[o]?:=by
 simp [World.cell?,hg]
theorem run_loadCellsFrom {b off:Nat} {cur:Array Value} {e:TypeId} {fz:Nat × Nat} (hg:w.heap[b]? = some (.cells cur e fz)) :
  ∀ (n i:Nat) (acc:Array Value),off + i + n ≤ cur.size → (loadCellsFrom ⟨b,off,none⟩ i n acc).run P w = .ok (acc ++ ((cur.toList.drop (off + i)).take n).toArray) w
 | 0,i,acc,_ => by simp [loadCellsFrom]
 | n + 1,i,acc,hl => by
  have hlt:off + i < cur.size:=by omega
  have hadd:(⟨b,off,none⟩:Addr).add i = ⟨b,off + i,none⟩:=by unfold Addr.add; split <;> simp_all
  have hc:w.cell? ((⟨b,off,none⟩:Addr).add i) = some cur[off + i]:=by rw [hadd,b5w hg]; simp [hlt]
  simp only [loadCellsFrom,Sem.run_bind,run_load,hc,Result.andThen_ok]
  rw [run_loadCellsFrom hg n (i + 1) _ (by omega)]
  congr 1
  rw [show off + (i + 1) = off + i + 1 by omega]
  rw [List.drop_eq_getElem_cons (show off + i < cur.toList.length by simpa using hlt),List.take_succ_cons]
  apply Array.toList_inj.1
  simp
theorem run_loadCells {b off n:Nat} {cur:Array Value} {e:TypeId} {fz:Nat × Nat} (hg:w.heap[b]? = some (.cells cur e fz)) (hl:off + n ≤ cur.size) :
  (loadCells ⟨b,off,none⟩ n).run P w = .ok ((cur.toList.drop off).take n).toArray w:=by
 unfold loadCells
 rw [run_loadCellsFrom hg n 0 #[] (by omega)]
 simp
theorem b3w {t:TypeId} {ag:Bool} (hd:iag P t = some ag):(isAgg t).run P w = .ok ag w:=by
 unfold iag at hd
 simp only [Option.map_eq_some_iff] at hd
 obtain ⟨d,h1,h2⟩:=hd
 subst h2
 cases d <;> simp [isAgg,run_underlying h1]
theorem run_sizeOf {t:TypeId} {sz:Nat} (hs:isz P t = some sz):(sizeOf t).run P w = .ok sz w:=by
 unfold isz at hs
 simp only [Option.map_eq_some_iff] at hs
 obtain ⟨i,h1,h2⟩:=hs
 subst h2
 simp [sizeOf,typeInfo,h1]
theorem d2d {t:TypeId} {ag:Bool} {sz b off:Nat} {cur:Array Value} {e:TypeId} {fz:Nat × Nat} (hs:isz P t = some sz) (hd:iag P t = some ag)
  (hg:w.heap[b]? = some (.cells cur e fz)) (hl:ag = true → off + sz ≤ cur.size) (h1:ag = false → off < cur.size) :
  (loadVar t ⟨b,off,none⟩).run P w = .ok (match ag with | true => .agg ((cur.toList.drop off).take sz).toArray | false => cur.toList.getD off Go.undef) w:=by
 cases ag with
 | true => simp [loadVar,b3w hd,run_sizeOf hs,run_loadCells hg (hl rfl)]
 | false =>
  have hlt:=h1 rfl
  simp [loadVar,b3w hd,b5w hg,hlt]
theorem RVs.get:∀ {as:List AV} {vs:List Value} {i:Nat},RVs C σ h w as vs → i < as.length → RV C σ h w (as.getD i .undef) (vs.getD i Go.undef) ∧ i < vs.length
 | [],_,_,_,h => by simp at h
 | a :: as,vs,0,hr,_ => by
  simp only [RVs] at hr
  obtain ⟨v,vs',rfl,h1,_⟩:=hr
  simpa using h1
 | a :: as,vs,i + 1,hr,hi => by
  simp only [RVs] at hr
  obtain ⟨v,vs',rfl,_,h2⟩:=hr
  have:=RVs.get h2 (i:=i) (by simpa using hi)
  simpa using this
theorem RVs.length:∀ {as:List AV} {vs:List Value},RVs C σ h w as vs → vs.length = as.length
 | [],_,hr => by simp only [RVs] at hr; simp [hr]
 | a :: as,vs,hr => by
  simp only [RVs] at hr
  obtain ⟨v,vs',rfl,_,h2⟩:=hr
  simp [RVs.length h2]
theorem RVs.take:∀ {as:List AV} {vs:List Value} (n:Nat),RVs C σ h w as vs → RVs C σ h w (as.take n) (vs.take n)
 | [],_,n,hr => by simp only [RVs] at hr; simp [hr,RVs]
 | a :: as,vs,0,hr => by simp [RVs]
 | a :: as,vs,n + 1,hr => by
  simp only [RVs] at hr
  obtain ⟨v,vs',rfl,h1,h2⟩:=hr
  simp only [List.take_succ_cons,RVs]
  exact ⟨v,_,rfl,h1,RVs.take n h2⟩
theorem RVs.drop:∀ {as:List AV} {vs:List Value} (n:Nat),RVs C σ h w as vs → RVs C σ h w (as.drop n) (vs.drop n)
 | [],_,n,hr => by simp only [RVs] at hr; simp [hr,RVs]
 | a :: as,vs,0,hr => by simpa using hr
 | a :: as,vs,n + 1,hr => by
  simp only [RVs] at hr
  obtain ⟨v,vs',rfl,h1,h2⟩:=hr
  simpa using RVs.drop n h2
theorem RVs.append:∀ {as bs:List AV} {vs us:List Value},RVs C σ h w as vs → RVs C σ h w bs us → RVs C σ h w (as ++ bs) (vs ++ us)
 | [],_,_,_,hr,h' => by simp only [RVs] at hr; subst hr; simpa using h'
 | a :: as,bs,vs,us,hr,h' => by
  simp only [RVs] at hr
  obtain ⟨v,vs',rfl,h1,h2⟩:=hr
  simp only [List.cons_append,RVs]
  exact ⟨v,_,rfl,h1,RVs.append h2 h'⟩
theorem RV.cells {a:AV} {v:Value} (hr:RV C σ h w a v) (hs:a7h h a):RVs C σ h w a.cells v.cells.toList:=by
 cases a with
 | undef => simp [a7h] at hs
 | skip => simp [a7h] at hs
 | hdr _ _ _ => simp [a7h] at hs
 | tup as => simp [a7h] at hs
 | agg as =>
  simp only [RV] at hr
  obtain ⟨vs,rfl,hr⟩:=hr
  simpa [AV.cells,Value.cells] using hr
 | int k n => have h0:=hr; simp only [RV] at hr; subst hr; simp only [AV.cells,RVs]; exact ⟨_,[],rfl,h0,rfl⟩
 | bool n => have h0:=hr; simp only [RV] at hr; subst hr; simp only [AV.cells,RVs]; exact ⟨_,[],rfl,h0,rfl⟩
 | str n => have h0:=hr; simp only [RV] at hr; obtain ⟨rfl,_⟩:=hr; simp only [AV.cells,RVs]; exact ⟨_,[],rfl,h0,rfl⟩
 | nil => have h0:=hr; simp only [RV] at hr; subst hr; simp only [AV.cells,RVs]; exact ⟨_,[],rfl,h0,rfl⟩
 | lst z l =>
  have h0:=hr
  simp only [RV] at hr
  obtain ⟨fp,⟨cs,rfl,hr⟩,_⟩:=hr
  obtain ⟨c,rfl,e⟩:=hr.cell rfl
  simp only [Rep] at hr
  have hv:(mkV (.lst z l) [c]).cells.toList = [mkV (.lst z l) [c]]:=by
   rcases hr with ⟨_,_,x,cap,h3,_⟩ | ⟨b,off,cap,cur,e,fz,fps,h1,_⟩
   ·cases h3; rfl
   ·cases h1; rfl
  rw [hv]
  simp only [AV.cells,RVs]
  exact ⟨_,[],rfl,h0,rfl⟩
 | iptr l f =>
  have h0:=hr
  simp only [RV] at hr
  obtain ⟨fp,⟨cs,rfl,hr⟩,_⟩:=hr
  simp only [Rep] at hr
  obtain ⟨b,off,sz,cur,el,fz,fps,h1,_⟩:=hr
  subst h1
  simp only [AV.cells,RVs]
  exact ⟨_,[],rfl,h0,rfl⟩
 | fn f caps =>
  have h0:=hr
  simp only [RV] at hr
  obtain ⟨vs,rfl,hr⟩:=hr
  simp only [AV.cells,RVs]
  exact ⟨_,[],rfl,h0,rfl⟩
 | own o lo n =>
  have h0:=hr
  simp only [RV] at hr
  simp only [a7h] at hs
  cases ho:h[o]? with
  | none => simp [ho] at hs
  | some x =>
   cases x with
   | dead => simp [ho] at hs
   | map _ => simp [ho] at hs
   | box sz y => simp [ho] at hs
   | rowx sz l i el => simp [ho] at hs
   | row sz l =>
    simp only [ho] at hr
    obtain ⟨a,cap,rfl,_⟩:=hr
    simp only [AV.cells,RVs]
    exact ⟨_,[],rfl,h0,rfl⟩
 | ptr o i f =>
  have h0:=hr
  simp only [RV] at hr
  simp only [a7h] at hs
  cases ho:h[o]? with
  | none => simp [ho] at hs
  | some x =>
   cases x with
   | dead => simp [ho] at hs
   | map _ => simp [ho] at hs
   | box sz y =>
    simp only [ho] at hr
    obtain ⟨_,g,c,_,rfl⟩:=hr
    simp only [AV.cells,RVs]
    exact ⟨_,[],rfl,h0,rfl⟩
   | rowx sz l j el => simp [ho] at hs
   | row sz l =>
    simp only [ho] at hr
    obtain ⟨_,g,c,_,rfl⟩:=hr
    simp only [AV.cells,RVs]
    exact ⟨_,[],rfl,h0,rfl⟩
theorem d2e {el:AV} {f sz:Nat} {ag:Bool} {cs:List Value} (hr:RVs C σ h w el.cells cs) (hp:ldP el f sz ag) :
  (ag = true → f + sz ≤ cs.length) ∧ (ag = false → f < cs.length) ∧
  RV C σ h w (ldV el f sz ag) (match ag with | true => .agg ((cs.drop f).take sz).toArray | false => cs.getD f Go.undef):=by
 have hlen:=RVs.length hr
 cases el with
 | agg as =>
  simp only [AV.cells] at hr hlen
  cases ag with
  | true =>
   simp only [ldP] at hp
   simp only [ldV,RV]
   exact ⟨fun _ => by omega,by simp,_,rfl,by simpa using (hr.drop f).take sz⟩
  | false =>
   simp only [ldP] at hp
   simp only [ldV]
   have:=hr.get hp
   exact ⟨by simp,fun _ => this.2,this.1⟩
 | undef => simp [ldP] at hp
 | skip => simp [ldP] at hp
 | tup as => simp [ldP] at hp
 | _ =>
  obtain ⟨rfl,rfl⟩:=hp
  simp only [AV.cells,RVs] at hr
  obtain ⟨v,vs',rfl,h1,rfl⟩:=hr
  exact ⟨by simp,by simp,by simpa [ldV] using h1⟩
theorem Rep.rvCells {a:AV} {cs:List Value} {fp:List Nat} (hr:Rep false w a cs fp) (hf:∀ b ∈ fp,C.imm b ∧ ¬ liveAt h σ b) (ht:∀ as,a ≠ AV.tup as):RVs C σ h w a.cells cs:=by
 by_cases hc:a.isCell = true
 ·obtain ⟨c,rfl,e⟩:=hr.cell hc
  have:=Rep.rv (C:=C) (σ:=σ) (h:=h) a _ fp hr hf
  rw [e] at this
  have hcells:a.cells = [a]:=by cases a <;> simp_all [AV.cells,AV.isCell]
  rw [hcells]
  simp only [RVs]
  exact ⟨c,[],rfl,this,rfl⟩
 ·cases a with
  | agg as => simp only [Rep] at hr; exact a0o.rvs as cs fp hr hf
  | tup as => exact absurd rfl (ht as)
  | _ => simp [AV.isCell] at hc
end sound
end Go.R
