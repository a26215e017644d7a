/- Part of the proof. -/
import Derived.Test.YtldahjcikmpifaaGreatG2
import Derived.Test.YtldahjcikmpifaaGreatG3
import Derived.Test.YtldahjcikmpifaaGreatG4
import Derived.Deep.LoopGhost
import Derived.Shelf.Small.Strs
import Derived.Test.YtldahjcikmpifaaGreatRows
section
set_option linter.all false
namespace Go.R
open Go Go.Proofs
set_option maxHeartbeats 8000000
theorem mixed:Tryz.prog.follows .mixedOrders = true:=by kernel_rfl
structure x8 where
  Name:Str
  Kind:Int
  Min:Int
  Max:Int
  Low:Int
  High:Int
  Ref:Str
  Strong:Bool
deriving Inhabited,DecidableEq
def a0f (x:x8):AV:=.agg [(.str x.Name),(.int .i64 x.Kind),(.int .i64 x.Min),(.int .i64 x.Max),(.int .i64 x.Low),(.int .i64 x.High),(.str x.Ref),(.bool x.Strong)]
theorem encGColumn_eq (x:x8):a0f x = .agg [(.str x.Name),(.int .i64 x.Kind),(.int .i64 x.Min),(.int .i64 x.Max),(.int .i64 x.Low),(.int .i64 x.High),(.str x.Ref),(.bool x.Strong)]:=rfl
structure a0a where
  Name:Str
  Columns:(List x8)
  Unique:(List Int)
  Root:Bool
deriving Inhabited,DecidableEq
def y9 (x:a0a):AV:=.agg [(.str x.Name),(.lst 8 (x.Columns.map a0f)),(.lst 1 (x.Unique.map encI)),(.bool x.Root)]
theorem d5h (x:a0a):y9 x = .agg [(.str x.Name),(.lst 8 (x.Columns.map a0f)),(.lst 1 (x.Unique.map encI)),(.bool x.Root)]:=rfl
structure a0b where
  Tables:(List a0a)
deriving Inhabited,DecidableEq
def a1h (x:a0b):AV:=.agg [(.lst 4 (x.Tables.map y9))]
theorem a9v (x:a0b):a1h x = .agg [(.lst 4 (x.Tables.map y9))]:=rfl
structure y7 where
  Kind:Int
  N:Int
  T:Str
deriving Inhabited,DecidableEq
def y8 (x:y7):AV:=.agg [(.int .i64 x.Kind),(.int .i64 x.N),(.str x.T)]
theorem encGAtom_eq (x:y7):y8 x = .agg [(.int .i64 x.Kind),(.int .i64 x.N),(.str x.T)]:=rfl
structure a0c where
  Id:Int
  Cells:(List (List y7))
deriving Inhabited,DecidableEq
def l7 (x:a0c):AV:=.agg [(.int .i64 x.Id),(.lst 1 (x.Cells.map (a0m 3 y8)))]
theorem c3v (x:a0c):l7 x = .agg [(.int .i64 x.Id),(.lst 1 (x.Cells.map (a0m 3 y8)))]:=rfl
structure a0h where
  Tables:(List (List a0c))
  Next:Int
deriving Inhabited,DecidableEq
def a1j (x:a0h):AV:=.agg [(.lst 1 (x.Tables.map (a0m 2 l7))),(.int .i64 x.Next)]
theorem a1x (x:a0h):a1j x = .agg [(.lst 1 (x.Tables.map (a0m 2 l7))),(.int .i64 x.Next)]:=rfl
def b1l (x:x8):Prop:=okS x.Name ∧ (okI .i64) x.Kind ∧ (okI .i64) x.Min ∧ (okI .i64) x.Max ∧ (okI .i64) x.Low ∧ (okI .i64) x.High ∧ okS x.Ref ∧ ((fun _ => True)) x.Strong
def b3t (x:a0a):Prop:=okS x.Name ∧ (okL (b1l)) x.Columns ∧ (okL (okI .i64)) x.Unique ∧ ((fun _ => True)) x.Root
def c1p (x:a0b):Prop:=(okL (b3t)) x.Tables
def b0f (x:y7):Prop:=(okI .i64) x.Kind ∧ (okI .i64) x.N ∧ okS x.T
def b3e (x:a0c):Prop:=(okI .i64) x.Id ∧ (okL (okL (b0f))) x.Cells
def c0i (x:a0h):Prop:=(okL (okL (b3e))) x.Tables ∧ (okI .i64) x.Next
end Go.R
end
section
set_option linter.all false
namespace Go.R
open Go Go.Proofs
attribute [simp] a0m encI e7b a0f y9 a1h y8 l7 a1j
set_option maxRecDepth 100000
set_option maxHeartbeats 8000000
def b1z (B:x8) (A:Int):Option Int :=
    if (decide (w64 (A - (B.Name.length:Int)) < 0)) then
    some (-1)
    else
    if (decide (w64 ((w64 (A - (B.Name.length:Int))) - (B.Ref.length:Int)) < 0)) then
    some (-1)
    else
    some (w64 ((w64 (A - (B.Name.length:Int))) - (B.Ref.length:Int)))
instance w_laws_szColumn (B:x8) (A:Int) (r:Int):Wk Tryz.prog (b1z B A = some r) 346 [(a0f B),(.I A)] (.I r):=⟨fun hf => by
 unfold b1z at hf;refine coA [] [] Tryz.func346 ?_;exact W⟩
def a6y :List x8 → Int → Option (Fl Int Int)
  | [],B =>
    some (.go B)
  | G :: xs,B =>
    (b1z G B).bind fun F =>
    if (decide (F < 0)) then
    some (.ret (-1))
    else
    a6y xs F 
def b0m (D:(List x8)) (A:Int):Option Int :=
    if (decide (w64 (A - (D.length:Int)) < 0)) then
    some (-1)
    else
    (a6y D (w64 (A - (D.length:Int)))).bind fun q => (match q with
    | .ret r => some r
    | .go E =>
    some E)
instance w_laws_szColumnS (D:(List x8)) (A:Int) (r:Int):Wk Tryz.prog (b0m D A = some r) 290 [(.lst 8 (D.map a0f)),(.I A)] (.I r):=⟨fun hf => by
 unfold b0m at hf;refine coA [15,35] [lA [0] fun i (a:Int) => [(1,(.I a)),(5,(.I (i:Int)))],fA [] fun q:Int => [(1,(.I q))]] Tryz.func290 ?_;exact W⟩
def b5h (B:(List Int)) (A:Int):Option Int :=
    if (decide (w64 (A - (B.length:Int)) < 0)) then
    some (-1)
    else
    some (w64 (A - (B.length:Int)))
instance w_laws_szIntS (B:(List Int)) (A:Int) (r:Int):Wk Tryz.prog (b5h B A = some r) 291 [(.lst 1 (B.map encI)),(.I A)] (.I r):=⟨fun hf => by
 unfold b5h at hf;refine coA [] [] Tryz.func291 ?_;exact W⟩
def b3u (B:a0a) (A:Int):Option Int :=
    if (decide (w64 (A - (B.Name.length:Int)) < 0)) then
    some (-1)
    else
    (b0m B.Columns (w64 (A - (B.Name.length:Int)))).bind fun D =>
    if (decide (D < 0)) then
    some (-1)
    else
    (b5h B.Unique D).bind fun E =>
    if (decide (E < 0)) then
    some (-1)
    else
    some E
instance w_laws_szTable (B:a0a) (A:Int) (r:Int):Wk Tryz.prog (b3u B A = some r) 203 [(y9 B),(.I A)] (.I r):=⟨fun hf => by
 unfold b3u at hf;refine coA [] [] Tryz.func203 ?_;exact W⟩
def a7w :List a0a → Int → Option (Fl Int Int)
  | [],B =>
    some (.go B)
  | G :: xs,B =>
    (b3u G B).bind fun F =>
    if (decide (F < 0)) then
    some (.ret (-1))
    else
    a7w xs F 
def b2a (D:(List a0a)) (A:Int):Option Int :=
    if (decide (w64 (A - (D.length:Int)) < 0)) then
    some (-1)
    else
    (a7w D (w64 (A - (D.length:Int)))).bind fun q => (match q with
    | .ret r => some r
    | .go E =>
    some E)
instance w_laws_szTableS (D:(List a0a)) (A:Int) (r:Int):Wk Tryz.prog (b2a D A = some r) 106 [(.lst 4 (D.map y9)),(.I A)] (.I r):=⟨fun hf => by
 unfold b2a at hf;refine coA [15,35] [lA [0] fun i (a:Int) => [(1,(.I a)),(5,(.I (i:Int)))],fA [] fun q:Int => [(1,(.I q))]] Tryz.func106 ?_;exact W⟩
def b2b (B:a0b) (A:Int):Option Int :=
    (b2a B.Tables A).bind fun D =>
    if (decide (D < 0)) then
    some (-1)
    else
    some D
instance w_laws_szSchema (B:a0b) (A:Int) (r:Int):Wk Tryz.prog (b2b B A = some r) 30 [(a1h B),(.I A)] (.I r):=⟨fun hf => by
 unfold b2b at hf;refine coA [] [] Tryz.func30 ?_;exact W⟩
def b5i (B:y7) (A:Int):Option Int :=
    if (decide (w64 (A - (B.T.length:Int)) < 0)) then
    some (-1)
    else
    some (w64 (A - (B.T.length:Int)))
instance w_laws_szAtom (B:y7) (A:Int) (r:Int):Wk Tryz.prog (b5i B A = some r) 281 [(y8 B),(.I A)] (.I r):=⟨fun hf => by
 unfold b5i at hf;refine coA [] [] Tryz.func281 ?_;exact W⟩
def a8w :List y7 → Int → Option (Fl Int Int)
  | [],B =>
    some (.go B)
  | G :: xs,B =>
    (b5i G B).bind fun F =>
    if (decide (F < 0)) then
    some (.ret (-1))
    else
    a8w xs F 
def b3v (D:(List y7)) (A:Int):Option Int :=
    if (decide (w64 (A - (D.length:Int)) < 0)) then
    some (-1)
    else
    (a8w D (w64 (A - (D.length:Int)))).bind fun q => (match q with
    | .ret r => some r
    | .go E =>
    some E)
instance w_laws_szAtomS (D:(List y7)) (A:Int) (r:Int):Wk Tryz.prog (b3v D A = some r) 190 [(.lst 3 (D.map y8)),(.I A)] (.I r):=⟨fun hf => by
 unfold b3v at hf;refine coA [15,35] [lA [0] fun i (a:Int) => [(1,(.I a)),(5,(.I (i:Int)))],fA [] fun q:Int => [(1,(.I q))]] Tryz.func190 ?_;exact W⟩
def a7x :List (List y7) → Int → Option (Fl Int Int)
  | [],B =>
    some (.go B)
  | G :: xs,B =>
    (b3v G B).bind fun F =>
    if (decide (F < 0)) then
    some (.ret (-1))
    else
    a7x xs F 
def b2c (D:(List (List y7))) (A:Int):Option Int :=
    if (decide (w64 (A - (D.length:Int)) < 0)) then
    some (-1)
    else
    (a7x D (w64 (A - (D.length:Int)))).bind fun q => (match q with
    | .ret r => some r
    | .go E =>
    some E)
instance w_laws_szAtomSS (D:(List (List y7))) (A:Int) (r:Int):Wk Tryz.prog (b2c D A = some r) 91 [(.lst 1 (D.map (a0m 3 y8))),(.I A)] (.I r):=⟨fun hf => by
 unfold b2c at hf;refine coA [15,35] [lA [0] fun i (a:Int) => [(1,(.I a)),(5,(.I (i:Int)))],fA [] fun q:Int => [(1,(.I q))]] Tryz.func91 ?_;exact W⟩
def b7a (B:a0c) (A:Int):Option Int :=
    (b2c B.Cells A).bind fun D =>
    if (decide (D < 0)) then
    some (-1)
    else
    some D
instance w_laws_szRow (B:a0c) (A:Int) (r:Int):Wk Tryz.prog (b7a B A = some r) 18 [(l7 B),(.I A)] (.I r):=⟨fun hf => by
 unfold b7a at hf;refine coA [] [] Tryz.func18 ?_;exact W⟩
def b0n :List a0c → Int → Option (Fl Int Int)
  | [],B =>
    some (.go B)
  | G :: xs,B =>
    (b7a G B).bind fun F =>
    if (decide (F < 0)) then
    some (.ret (-1))
    else
    b0n xs F 
def b5j (D:(List a0c)) (A:Int):Option Int :=
    if (decide (w64 (A - (D.length:Int)) < 0)) then
    some (-1)
    else
    (b0n D (w64 (A - (D.length:Int)))).bind fun q => (match q with
    | .ret r => some r
    | .go E =>
    some E)
instance w_laws_szRowS (D:(List a0c)) (A:Int) (r:Int):Wk Tryz.prog (b5j D A = some r) 117 [(.lst 2 (D.map l7)),(.I A)] (.I r):=⟨fun hf => by
 unfold b5j at hf;refine coA [15,35] [lA [0] fun i (a:Int) => [(1,(.I a)),(5,(.I (i:Int)))],fA [] fun q:Int => [(1,(.I q))]] Tryz.func117 ?_;exact W⟩
def a8x :List (List a0c) → Int → Option (Fl Int Int)
  | [],B =>
    some (.go B)
  | G :: xs,B =>
    (b5j G B).bind fun F =>
    if (decide (F < 0)) then
    some (.ret (-1))
    else
    a8x xs F 
def b3w (D:(List (List a0c))) (A:Int):Option Int :=
    if (decide (w64 (A - (D.length:Int)) < 0)) then
    some (-1)
    else
    (a8x D (w64 (A - (D.length:Int)))).bind fun q => (match q with
    | .ret r => some r
    | .go E =>
    some E)
instance w_laws_szRowSS (D:(List (List a0c))) (A:Int) (r:Int):Wk Tryz.prog (b3w D A = some r) 107 [(.lst 1 (D.map (a0m 2 l7))),(.I A)] (.I r):=⟨fun hf => by
 unfold b3w at hf;refine coA [15,35] [lA [0] fun i (a:Int) => [(1,(.I a)),(5,(.I (i:Int)))],fA [] fun q:Int => [(1,(.I q))]] Tryz.func107 ?_;exact W⟩
def b3x (B:a0h) (A:Int):Option Int :=
    (b3w B.Tables A).bind fun D =>
    if (decide (D < 0)) then
    some (-1)
    else
    some D
instance w_laws_szStore (B:a0h) (A:Int) (r:Int):Wk Tryz.prog (b3x B A = some r) 31 [(a1j B),(.I A)] (.I r):=⟨fun hf => by
 unfold b3x at hf;refine coA [] [] Tryz.func31 ?_;exact W⟩
def b2d (A:x8):Option x8 :=
    some A
instance w_laws_toColumn (A:x8) (r:x8):Wk Tryz.prog (b2d A = some r) 347 [(a0f A)] (a0f r):=⟨fun hf => by
 unfold b2d at hf;refine coA [] [] Tryz.func347 ?_;exact W⟩
def a3i :List x8 → Nat → (List x8) → Option (List x8)
  | [],D,A =>
    some A
  | G :: xs,D,A =>
    (b2d G).bind fun F =>
    if D < A.length then
    (A[D]?).bind fun H =>
    a3i xs (D + 1) (A.set D F)
    else none
def b0o (E:(List x8)):Option (List x8) :=
    if (E.length:Int) ≤ 2 ^ 30 then
    (a3i E 0 (List.replicate E.length (⟨[],0,0,0,0,0,[],false⟩:x8))).bind fun B =>
    some B
    else none
theorem c6w (E:(List x8)) (r:(List x8)) (hf:b0o E = some r):a0k Tryz.prog 292 .fresh [(.lst 8 (E.map a0f))] (.lst 8 (r.map a0f)):=by
 unfold b0o at hf;refine co [38] Tryz.func292 ?_;refine gq 1 ?_;refine o8<|a0t ?_
 obtain ⟨g3,hf⟩:=og hf
 refine go 1 ?_;refine ln fun hl2 => ?_;refine a0x (b4s (j:=0) (enc:=a0f) (m:=E.length) (⟨[],0,0,0,0,0,[],false⟩:x8) .r rfl rfl (Int.le_refl _) g3 rfl) ?_;refine gq 1 ?_;refine gq 1 ?_
 obtain ⟨B,hb1,hf⟩:=ob hf
 refine a1r ([(3,(.own 0 0 B.length))],[.row 8 (B.map a0f)]) ?_ ?_
 ·refine a3s (X:={q:(Nat × (List x8)) // a3i (E.drop q.1) q.1 q.2 = some B}) (fun q => ([(0,(.lst 8 (E.map a0f))),(3,(.own 0 0 q.1.2.length)),(4,(.I (q.1.1:Int)))],[.row 8 (q.1.2.map a0f)])) (fun q => E.length - q.1.1) ⟨(0,List.replicate E.length (⟨[],0,0,0,0,0,[],false⟩:x8)),hb1⟩ ⟨[],[0],_,_,rfl,rfl,⟨.r,⟨.of_eq (congrArg (AV.own _ 0) (by simp)),⟨.r,tr⟩⟩⟩,.r⟩ ?_
  rintro ⟨⟨D,A⟩,hc1⟩
  dsimp only at hc1 ⊢
  rcases a6v E D with ⟨hie40,hd43⟩ | ⟨hlt38,G,hx39,hd43⟩
  ·rw [hd43,a3i.eq_1] at hc1
   refine go 2 ?_;refine ln fun hl45 => ?_;refine gq 1 ?_;refine wg (dlf hie40)<|le ?_;obtain rfl:=os hc1;exact ck [0]
  ·rw [hd43,a3i.eq_2] at hc1
   refine go 2 ?_;refine ln fun hl46 => ?_;refine gq 1 ?_;refine wt (dlt hlt38)<|a0v<|a0i<|o8<|a3z<|a0t ?_
   obtain ⟨F,er48,hc1⟩:=ob hc1
   obtain ⟨g49,hc1⟩:=og hc1
   obtain ⟨H,ex51,hc1⟩:=ob hc1
   refine go 4 ?_;refine ia hx39 ?_;refine go 1 ?_;refine cl (w_laws_toColumn _ _ er48)<|a0x (b0k rfl rfl g49 rfl rfl) ?_;refine a7p (a2d (v':=(a0f F)) (e':=F) rfl rfl ex51 rfl rfl rfl (by decide) (fun _ => by decide) ⟨rfl,nle⟩ .r rfl) ?_;refine a1a<|a3w<|a0i ?_;refine gd 3 ?_;exact a5p ⟨((D + 1),A.set D F),hc1⟩ (mul hlt38) ⟨[],[0],_,_,rfl,rfl,⟨.r,⟨.of_eq (congrArg (AV.own _ 0) (by simp)),⟨.of_eq (congrArg (AV.int _) (a5b hlt38 hl46)),tr⟩⟩⟩,.r⟩
 ·refine gq 2 ?_;refine a2q ?_;obtain rfl:=os hf;exact a4n ⟨tr,tr⟩ rfl (by decide) (.of_eq (congrArg (AV.lst _) (tk (enc:=a0f) B)))
def a5i :List Int → Nat → (List Int) → Option (List Int)
  | [],D,A =>
    some A
  | F :: xs,D,A =>
    if D < A.length then
    (A[D]?).bind fun G =>
    a5i xs (D + 1) (A.set D F)
    else none
def b5k (E:(List Int)):Option (List Int) :=
    if (E.length:Int) ≤ 2 ^ 30 then
    (a5i E 0 (List.replicate E.length 0)).bind fun B =>
    some B
    else none
theorem d2r (E:(List Int)) (r:(List Int)) (hf:b5k E = some r):a0k Tryz.prog 293 .fresh [(.lst 1 (E.map encI))] (.lst 1 (r.map encI)):=by
 unfold b5k at hf;refine co [38] Tryz.func293 ?_;refine gq 1 ?_;refine o8<|a0t ?_
 obtain ⟨g3,hf⟩:=og hf
 refine go 1 ?_;refine ln fun hl2 => ?_;refine a0x (b4s (j:=0) (enc:=encI) (m:=E.length) 0 .r rfl rfl (Int.le_refl _) g3 rfl) ?_;refine gq 1 ?_;refine gq 1 ?_
 obtain ⟨B,hb1,hf⟩:=ob hf
 refine a1r ([(3,(.own 0 0 B.length))],[.row 1 (B.map encI)]) ?_ ?_
 ·refine a3s (X:={q:(Nat × (List Int)) // a5i (E.drop q.1) q.1 q.2 = some B}) (fun q => ([(0,(.lst 1 (E.map encI))),(3,(.own 0 0 q.1.2.length)),(4,(.I (q.1.1:Int)))],[.row 1 (q.1.2.map encI)])) (fun q => E.length - q.1.1) ⟨(0,List.replicate E.length 0),hb1⟩ ⟨[],[0],_,_,rfl,rfl,⟨.r,⟨.of_eq (congrArg (AV.own _ 0) (by simp)),⟨.r,tr⟩⟩⟩,.r⟩ ?_
  rintro ⟨⟨D,A⟩,hc1⟩
  dsimp only at hc1 ⊢
  rcases a6v E D with ⟨hie34,hd37⟩ | ⟨hlt32,F,hx33,hd37⟩
  ·rw [hd37,a5i.eq_1] at hc1
   refine go 2 ?_;refine ln fun hl39 => ?_;refine gq 1 ?_;refine wg (dlf hie34)<|le ?_;obtain rfl:=os hc1;exact ck [0]
  ·rw [hd37,a5i.eq_2] at hc1
   refine go 2 ?_;refine ln fun hl40 => ?_;refine gq 1 ?_;refine wt (dlt hlt32)<|a0v<|a0i<|o8<|a3z<|a0t ?_
   obtain ⟨g41,hc1⟩:=og hc1
   obtain ⟨G,ex43,hc1⟩:=ob hc1
   refine go 4 ?_;refine ia hx33 ?_;refine go 1 ?_;refine a0x (b0k rfl rfl g41 rfl rfl) ?_;refine a7p (a2d (v':=(.I F)) (e':=F) rfl rfl ex43 rfl rfl rfl (by decide) (fun _ => by decide) ⟨rfl,rfl,rfl⟩ .r rfl) ?_;refine a1a<|a3w<|a0i ?_;refine gd 3 ?_;exact a5p ⟨((D + 1),A.set D F),hc1⟩ (mul hlt32) ⟨[],[0],_,_,rfl,rfl,⟨.r,⟨.of_eq (congrArg (AV.own _ 0) (by simp)),⟨.of_eq (congrArg (AV.int _) (a5b hlt32 hl40)),tr⟩⟩⟩,.r⟩
 ·refine gq 2 ?_;refine a2q ?_;obtain rfl:=os hf;exact a4n ⟨tr,tr⟩ rfl (by decide) (.of_eq (congrArg (AV.lst _) (tk (enc:=encI) B)))
def b3y (A:a0a):Option a0a :=
    (b0o A.Columns).bind fun B =>
    (b5k A.Unique).bind fun D =>
    some (⟨A.Name,B,D,A.Root⟩:a0a)
theorem d1i (A:a0a) (r:a0a) (hf:b3y A = some r):a0k Tryz.prog 205 .fresh [(y9 A)] (y9 r):=by
 unfold b3y at hf;refine co [] Tryz.func205 ?_;refine sr<|bx ?_;refine bx ?_;refine dk<|sr<|bx ?_;refine a1a<|a0i ?_;refine go 3 ?_
 refine sb ?_;refine dk<|o8<|a0t ?_
 obtain ⟨B,er3,hf⟩:=ob hf
 refine go 2 ?_;refine cf (.own 3 0 B.length) [.row 8 (B.map a0f)] (c6w _ _ er3) ?_;refine go 1 ?_;refine sb ?_;refine dk<|o8<|a0t ?_
 obtain ⟨D,er5,hf⟩:=ob hf
 refine go 2 ?_;refine cf (.own 4 0 D.length) [.row 1 (D.map encI)] (d2r _ _ er5) ?_;refine go 1 ?_;refine sb ?_;refine a1a<|a0i ?_;refine go 3 ?_;refine sb ?_
 refine a1a<|a0i ?_;refine go 1 ?_;refine sb ?_;refine dk<|a2q ?_;cases hf;exact a4n ⟨nle,tr⟩ rfl (by decide) (.agg (.cons .r (.cons (.of_eq (congrArg (AV.lst _) (tk (enc:=a0f) B))) (.cons (.of_eq (congrArg (AV.lst _) (tk (enc:=encI) D))) (.cons .r .nil)))))
def a4a :List a0a → Nat → (List a0a) → Option (List a0a)
  | [],E,B =>
    some B
  | G :: xs,E,B =>
    (b3y G).bind fun A =>
    if E < B.length then
    (B[E]?).bind fun H =>
    a4a xs (E + 1) (B.set E A)
    else none
def b2e (F:(List a0a)):Option (List a0a) :=
    if (F.length:Int) ≤ 2 ^ 30 then
    (a4a F 0 (List.replicate F.length (⟨[],[],[],false⟩:a0a))).bind fun D =>
    some D
    else none
theorem c9a (F:(List a0a)) (r:(List a0a)) (hf:b2e F = some r):a0k Tryz.prog 109 .fresh [(.lst 4 (F.map y9))] (.lst 4 (r.map y9)):=by
 unfold b2e at hf;refine co [38] Tryz.func109 ?_;refine gq 1 ?_;refine o8<|a0t ?_
 obtain ⟨g3,hf⟩:=og hf
 refine go 1 ?_;refine ln fun hl2 => ?_;refine a0x (b4s (j:=0) (enc:=y9) (m:=F.length) (⟨[],[],[],false⟩:a0a) (.agg (.cons .r (.cons (.nil _) (.cons (.nil _) (.cons .r .nil))))) rfl rfl (Int.le_refl _) g3 rfl) ?_;refine gq 1 ?_;refine gq 1 ?_
 obtain ⟨D,hb1,hf⟩:=ob hf
 refine a1r ([(3,(.own 0 0 D.length))],[.row 4 (D.map y9)]) ?_ ?_
 ·refine a3s (X:={q:(Nat × (List a0a)) // a4a (F.drop q.1) q.1 q.2 = some D}) (fun q => ([(0,(.lst 4 (F.map y9))),(3,(.own 0 0 q.1.2.length)),(4,(.I (q.1.1:Int)))],[.row 4 (q.1.2.map y9)])) (fun q => F.length - q.1.1) ⟨(0,List.replicate F.length (⟨[],[],[],false⟩:a0a)),hb1⟩ ⟨[],[0],_,_,rfl,rfl,⟨.r,⟨.of_eq (congrArg (AV.own _ 0) (by simp)),⟨.r,tr⟩⟩⟩,.r⟩ ?_
  rintro ⟨⟨E,B⟩,hc1⟩
  dsimp only at hc1 ⊢
  rcases a6v F E with ⟨hie40,hd43⟩ | ⟨hlt38,G,hx39,hd43⟩
  ·rw [hd43,a4a.eq_1] at hc1
   refine go 2 ?_;refine ln fun hl45 => ?_;refine gq 1 ?_;refine wg (dlf hie40)<|le ?_;obtain rfl:=os hc1;exact ck [0]
  ·rw [hd43,a4a.eq_2] at hc1
   refine go 2 ?_;refine ln fun hl46 => ?_;refine gq 1 ?_;refine wt (dlt hlt38)<|a0v<|a0i<|o8<|a3z<|a0t ?_
   obtain ⟨A,er48,hc1⟩:=ob hc1
   obtain ⟨g49,hc1⟩:=og hc1
   obtain ⟨H,ex51,hc1⟩:=ob hc1
   refine go 4 ?_;refine ia hx39 ?_;refine go 1 ?_;refine a0x (a2r (v:=(.agg [(.str A.Name),(.own 1 0 A.Columns.length),(.own 2 0 A.Unique.length),(.bool A.Root)])) (h':=[.row 8 (A.Columns.map a0f),.row 1 (A.Unique.map encI)]) (d1i _ _ er48) rfl .r (by simp only [a1u,a1w,List.length_map,d5h,List.nil_append,List.append_nil,List.cons_append];rfl))<|a0x (b0k rfl rfl g49 rfl rfl) ?_
   refine a7p (a2d (v':=(.agg [(.str A.Name),(.lst 8 (A.Columns.map a0f)),(.lst 1 (A.Unique.map encI)),(.bool A.Root)])) (e':=A) rfl rfl ex51 rfl rfl (by first | (simp only [tk,tko,List.take_length];done) | rfl | simp) (by decide) (fun _ => by decide) ⟨rfl,nle⟩ .r rfl) ?_
   refine a1a<|a3w<|a0i ?_;refine gd 3 ?_;exact a5p ⟨((E + 1),B.set E A),hc1⟩ (mul hlt38) ⟨[],[0],_,_,rfl,rfl,⟨.r,⟨.of_eq (congrArg (AV.own _ 0) (by simp)),⟨.of_eq (congrArg (AV.int _) (a5b hlt38 hl46)),tr⟩⟩⟩,.r⟩
 ·refine gq 2 ?_;refine a2q ?_;obtain rfl:=os hf;exact a4n ⟨tr,tr⟩ rfl (by decide) (.of_eq (congrArg (AV.lst _) (tk (enc:=y9) D)))
def a6d (B:a0b):Option a0b :=
    (b2e B.Tables).bind fun A =>
    some (⟨A⟩:a0b)
theorem a6r (B:a0b) (r:a0b) (hf:a6d B = some r):a0k Tryz.prog 33 .fresh [(a1h B)] (a1h r):=by
 unfold a6d at hf;refine co [] Tryz.func33 ?_;refine sr<|bx ?_;refine bx ?_;refine dk<|sr<|bx ?_;refine dk<|o8<|a0t ?_
 obtain ⟨A,er3,hf⟩:=ob hf
 refine go 2 ?_;refine cf (.own 3 0 A.length) [.row 4 (A.map y9)] (c9a _ _ er3) ?_;refine go 1 ?_;refine sb ?_;refine a1a<|a0i ?_;refine go 1 ?_;refine sb ?_
 refine dk<|a2q ?_;cases hf;exact a4n ⟨nle,tr⟩ rfl (by decide) (.agg (.cons (.of_eq (congrArg (AV.lst _) (tk (enc:=y9) A))) .nil))
def b5l (A:y7):Option y7 :=
    some A
instance w_laws_toAtom (A:y7) (r:y7):Wk Tryz.prog (b5l A = some r) 283 [(y8 A)] (y8 r):=⟨fun hf => by
 unfold b5l at hf;refine coA [] [] Tryz.func283 ?_;exact W⟩
def a4t :List y7 → Nat → (List y7) → Option (List y7)
  | [],D,A =>
    some A
  | G :: xs,D,A =>
    (b5l G).bind fun F =>
    if D < A.length then
    (A[D]?).bind fun H =>
    a4t xs (D + 1) (A.set D F)
    else none
def b3z (E:(List y7)):Option (List y7) :=
    if (E.length:Int) ≤ 2 ^ 30 then
    (a4t E 0 (List.replicate E.length (⟨0,0,[]⟩:y7))).bind fun B =>
    some B
    else none
theorem d1j (E:(List y7)) (r:(List y7)) (hf:b3z E = some r):a0k Tryz.prog 193 .fresh [(.lst 3 (E.map y8))] (.lst 3 (r.map y8)):=by
 unfold b3z at hf;refine co [38] Tryz.func193 ?_;refine gq 1 ?_;refine o8<|a0t ?_
 obtain ⟨g3,hf⟩:=og hf
 refine go 1 ?_;refine ln fun hl2 => ?_;refine a0x (b4s (j:=0) (enc:=y8) (m:=E.length) (⟨0,0,[]⟩:y7) .r rfl rfl (Int.le_refl _) g3 rfl) ?_;refine gq 1 ?_;refine gq 1 ?_
 obtain ⟨B,hb1,hf⟩:=ob hf
 refine a1r ([(3,(.own 0 0 B.length))],[.row 3 (B.map y8)]) ?_ ?_
 ·refine a3s (X:={q:(Nat × (List y7)) // a4t (E.drop q.1) q.1 q.2 = some B}) (fun q => ([(0,(.lst 3 (E.map y8))),(3,(.own 0 0 q.1.2.length)),(4,(.I (q.1.1:Int)))],[.row 3 (q.1.2.map y8)])) (fun q => E.length - q.1.1) ⟨(0,List.replicate E.length (⟨0,0,[]⟩:y7)),hb1⟩ ⟨[],[0],_,_,rfl,rfl,⟨.r,⟨.of_eq (congrArg (AV.own _ 0) (by simp)),⟨.r,tr⟩⟩⟩,.r⟩ ?_
  rintro ⟨⟨D,A⟩,hc1⟩
  dsimp only at hc1 ⊢
  rcases a6v E D with ⟨hie40,hd43⟩ | ⟨hlt38,G,hx39,hd43⟩
  ·rw [hd43,a4t.eq_1] at hc1
   refine go 2 ?_;refine ln fun hl45 => ?_;refine gq 1 ?_;refine wg (dlf hie40)<|le ?_;obtain rfl:=os hc1;exact ck [0]
  ·rw [hd43,a4t.eq_2] at hc1
   refine go 2 ?_;refine ln fun hl46 => ?_;refine gq 1 ?_;refine wt (dlt hlt38)<|a0v<|a0i<|o8<|a3z<|a0t ?_
   obtain ⟨F,er48,hc1⟩:=ob hc1
   obtain ⟨g49,hc1⟩:=og hc1
   obtain ⟨H,ex51,hc1⟩:=ob hc1
   refine go 4 ?_;refine ia hx39 ?_;refine go 1 ?_;refine cl (w_laws_toAtom _ _ er48)<|a0x (b0k rfl rfl g49 rfl rfl) ?_;refine a7p (a2d (v':=(y8 F)) (e':=F) rfl rfl ex51 rfl rfl rfl (by decide) (fun _ => by decide) ⟨rfl,nle⟩ .r rfl) ?_;refine a1a<|a3w<|a0i ?_;refine gd 3 ?_;exact a5p ⟨((D + 1),A.set D F),hc1⟩ (mul hlt38) ⟨[],[0],_,_,rfl,rfl,⟨.r,⟨.of_eq (congrArg (AV.own _ 0) (by simp)),⟨.of_eq (congrArg (AV.int _) (a5b hlt38 hl46)),tr⟩⟩⟩,.r⟩
 ·refine gq 2 ?_;refine a2q ?_;obtain rfl:=os hf;exact a4n ⟨tr,tr⟩ rfl (by decide) (.of_eq (congrArg (AV.lst _) (tk (enc:=y8) B)))
def a4b :List (List y7) → Nat → (List (List y7)) → Option (List (List y7))
  | [],D,A =>
    some A
  | G :: xs,D,A =>
    (b3z G).bind fun F =>
    if D < A.length then
    (A[D]?).bind fun H =>
    a4b xs (D + 1) (A.set D F)
    else none
def b2f (E:(List (List y7))):Option (List (List y7)) :=
    if (E.length:Int) ≤ 2 ^ 30 then
    (a4b E 0 (List.replicate E.length [])).bind fun B =>
    some B
    else none
theorem c9c (E:(List (List y7))) (r:(List (List y7))) (hf:b2f E = some r):a0k Tryz.prog 95 .fresh [(.lst 1 (E.map (a0m 3 y8)))] (.lst 1 (r.map (a0m 3 y8))):=by
 unfold b2f at hf;refine co [38] Tryz.func95 ?_;refine gq 1 ?_;refine o8<|a0t ?_
 obtain ⟨g3,hf⟩:=og hf
 refine go 1 ?_;refine ln fun hl2 => ?_;refine a0x (b4s (j:=0) (enc:=(a0m 3 y8)) (m:=E.length) [] (.nil _) rfl rfl (Int.le_refl _) g3 rfl) ?_;refine gq 1 ?_;refine gq 1 ?_
 obtain ⟨B,hb1,hf⟩:=ob hf
 refine a1r ([(3,(.own 0 0 B.length))],[.row 1 (B.map (a0m 3 y8))]) ?_ ?_
 ·refine a3s (X:={q:(Nat × (List (List y7))) // a4b (E.drop q.1) q.1 q.2 = some B}) (fun q => ([(0,(.lst 1 (E.map (a0m 3 y8)))),(3,(.own 0 0 q.1.2.length)),(4,(.I (q.1.1:Int)))],[.row 1 (q.1.2.map (a0m 3 y8))])) (fun q => E.length - q.1.1) ⟨(0,List.replicate E.length []),hb1⟩ ⟨[],[0],_,_,rfl,rfl,⟨.r,⟨.of_eq (congrArg (AV.own _ 0) (by simp)),⟨.r,tr⟩⟩⟩,.r⟩ ?_
  rintro ⟨⟨D,A⟩,hc1⟩
  dsimp only at hc1 ⊢
  rcases a6v E D with ⟨hie40,hd43⟩ | ⟨hlt38,G,hx39,hd43⟩
  ·rw [hd43,a4b.eq_1] at hc1
   refine go 2 ?_;refine ln fun hl45 => ?_;refine gq 1 ?_;refine wg (dlf hie40)<|le ?_;obtain rfl:=os hc1;exact ck [0]
  ·rw [hd43,a4b.eq_2] at hc1
   refine go 2 ?_;refine ln fun hl46 => ?_;refine gq 1 ?_;refine wt (dlt hlt38)<|a0v<|a0i<|o8<|a3z<|a0t ?_
   obtain ⟨F,er48,hc1⟩:=ob hc1
   obtain ⟨g49,hc1⟩:=og hc1
   obtain ⟨H,ex51,hc1⟩:=ob hc1
   refine go 4 ?_;refine ia hx39 ?_;refine go 1 ?_;refine cf (.own 1 0 F.length) [.row 3 (F.map y8)] (d1j _ _ er48)<|a0x (b0k rfl rfl g49 rfl rfl) ?_
   refine a7p (a2d (v':=(.lst 3 (F.map y8))) (e':=F) rfl rfl ex51 rfl rfl (by first | (simp only [tk,tko,List.take_length];done) | rfl | simp) (by decide) (fun _ => by decide) ⟨rfl,rfl,rfl⟩ .r rfl) ?_
   refine a1a<|a3w<|a0i ?_;refine gd 3 ?_;exact a5p ⟨((D + 1),A.set D F),hc1⟩ (mul hlt38) ⟨[],[0],_,_,rfl,rfl,⟨.r,⟨.of_eq (congrArg (AV.own _ 0) (by simp)),⟨.of_eq (congrArg (AV.int _) (a5b hlt38 hl46)),tr⟩⟩⟩,.r⟩
 ·refine gq 2 ?_;refine a2q ?_;obtain rfl:=os hf;exact a4n ⟨tr,tr⟩ rfl (by decide) (.of_eq (congrArg (AV.lst _) (tk (enc:=(a0m 3 y8)) B)))
def b7b (A:a0c):Option a0c :=
    (b2f A.Cells).bind fun B =>
    some (⟨A.Id,B⟩:a0c)
theorem d5i (A:a0c) (r:a0c) (hf:b7b A = some r):a0k Tryz.prog 21 .fresh [(l7 A)] (l7 r):=by
 unfold b7b at hf;refine co [] Tryz.func21 ?_;refine sr<|bx ?_;refine bx ?_;refine dk<|sr<|bx ?_;refine a1a<|a0i ?_;refine go 3 ?_;refine sb ?_
 refine dk<|o8<|a0t ?_
 obtain ⟨B,er3,hf⟩:=ob hf
 refine go 2 ?_;refine cf (.own 3 0 B.length) [.row 1 (B.map (a0m 3 y8))] (c9c _ _ er3) ?_;refine go 1 ?_;refine sb ?_;refine a1a<|a0i ?_;refine go 1 ?_;refine sb ?_
 refine dk<|a2q ?_;cases hf;exact a4n ⟨nle,tr⟩ rfl (by decide) (.agg (.cons .r (.cons (.of_eq (congrArg (AV.lst _) (tk (enc:=(a0m 3 y8)) B))) .nil)))
def a5j :List a0c → Nat → (List a0c) → Option (List a0c)
  | [],D,A =>
    some A
  | G :: xs,D,A =>
    (b7b G).bind fun E =>
    if D < A.length then
    (A[D]?).bind fun H =>
    a5j xs (D + 1) (A.set D E)
    else none
def b5m (F:(List a0c)):Option (List a0c) :=
    if (F.length:Int) ≤ 2 ^ 30 then
    (a5j F 0 (List.replicate F.length (⟨0,[]⟩:a0c))).bind fun B =>
    some B
    else none
theorem d2s (F:(List a0c)) (r:(List a0c)) (hf:b5m F = some r):a0k Tryz.prog 121 .fresh [(.lst 2 (F.map l7))] (.lst 2 (r.map l7)):=by
 unfold b5m at hf;refine co [38] Tryz.func121 ?_;refine gq 1 ?_;refine o8<|a0t ?_
 obtain ⟨g3,hf⟩:=og hf
 refine go 1 ?_;refine ln fun hl2 => ?_;refine a0x (b4s (j:=0) (enc:=l7) (m:=F.length) (⟨0,[]⟩:a0c) (.agg (.cons .r (.cons (.nil _) .nil))) rfl rfl (Int.le_refl _) g3 rfl) ?_;refine gq 1 ?_;refine gq 1 ?_
 obtain ⟨B,hb1,hf⟩:=ob hf
 refine a1r ([(3,(.own 0 0 B.length))],[.row 2 (B.map l7)]) ?_ ?_
 ·refine a3s (X:={q:(Nat × (List a0c)) // a5j (F.drop q.1) q.1 q.2 = some B}) (fun q => ([(0,(.lst 2 (F.map l7))),(3,(.own 0 0 q.1.2.length)),(4,(.I (q.1.1:Int)))],[.row 2 (q.1.2.map l7)])) (fun q => F.length - q.1.1) ⟨(0,List.replicate F.length (⟨0,[]⟩:a0c)),hb1⟩ ⟨[],[0],_,_,rfl,rfl,⟨.r,⟨.of_eq (congrArg (AV.own _ 0) (by simp)),⟨.r,tr⟩⟩⟩,.r⟩ ?_
  rintro ⟨⟨D,A⟩,hc1⟩
  dsimp only at hc1 ⊢
  rcases a6v F D with ⟨hie40,hd43⟩ | ⟨hlt38,G,hx39,hd43⟩
  ·rw [hd43,a5j.eq_1] at hc1
   refine go 2 ?_;refine ln fun hl45 => ?_;refine gq 1 ?_;refine wg (dlf hie40)<|le ?_;obtain rfl:=os hc1;exact ck [0]
  ·rw [hd43,a5j.eq_2] at hc1
   refine go 2 ?_;refine ln fun hl46 => ?_;refine gq 1 ?_;refine wt (dlt hlt38)<|a0v<|a0i<|o8<|a3z<|a0t ?_
   obtain ⟨E,er48,hc1⟩:=ob hc1
   obtain ⟨g49,hc1⟩:=og hc1
   obtain ⟨H,ex51,hc1⟩:=ob hc1
   refine go 4 ?_;refine ia hx39 ?_;refine go 1 ?_;refine a0x (a2r (v:=(.agg [(.I E.Id),(.own 1 0 E.Cells.length)])) (h':=[.row 1 (E.Cells.map (a0m 3 y8))]) (d5i _ _ er48) rfl .r (by simp only [a1u,a1w,List.length_map,c3v,List.nil_append,List.append_nil,List.cons_append];rfl))<|a0x (b0k rfl rfl g49 rfl rfl) ?_
   refine a7p (a2d (v':=(.agg [(.I E.Id),(.lst 1 (E.Cells.map (a0m 3 y8)))])) (e':=E) rfl rfl ex51 rfl rfl (by first | (simp only [tk,tko,List.take_length];done) | rfl | simp) (by decide) (fun _ => by decide) ⟨rfl,nle⟩ .r rfl) ?_
   refine a1a<|a3w<|a0i ?_;refine gd 3 ?_;exact a5p ⟨((D + 1),A.set D E),hc1⟩ (mul hlt38) ⟨[],[0],_,_,rfl,rfl,⟨.r,⟨.of_eq (congrArg (AV.own _ 0) (by simp)),⟨.of_eq (congrArg (AV.int _) (a5b hlt38 hl46)),tr⟩⟩⟩,.r⟩
 ·refine gq 2 ?_;refine a2q ?_;obtain rfl:=os hf;exact a4n ⟨tr,tr⟩ rfl (by decide) (.of_eq (congrArg (AV.lst _) (tk (enc:=l7) B)))
def a4u :List (List a0c) → Nat → (List (List a0c)) → Option (List (List a0c))
  | [],D,A =>
    some A
  | G :: xs,D,A =>
    (b5m G).bind fun F =>
    if D < A.length then
    (A[D]?).bind fun H =>
    a4u xs (D + 1) (A.set D F)
    else none
def b4a (E:(List (List a0c))):Option (List (List a0c)) :=
    if (E.length:Int) ≤ 2 ^ 30 then
    (a4u E 0 (List.replicate E.length [])).bind fun B =>
    some B
    else none
theorem d1k (E:(List (List a0c))) (r:(List (List a0c))) (hf:b4a E = some r):a0k Tryz.prog 110 .fresh [(.lst 1 (E.map (a0m 2 l7)))] (.lst 1 (r.map (a0m 2 l7))):=by
 unfold b4a at hf;refine co [38] Tryz.func110 ?_;refine gq 1 ?_;refine o8<|a0t ?_
 obtain ⟨g3,hf⟩:=og hf
 refine go 1 ?_;refine ln fun hl2 => ?_;refine a0x (b4s (j:=0) (enc:=(a0m 2 l7)) (m:=E.length) [] (.nil _) rfl rfl (Int.le_refl _) g3 rfl) ?_;refine gq 1 ?_;refine gq 1 ?_
 obtain ⟨B,hb1,hf⟩:=ob hf
 refine a1r ([(3,(.own 0 0 B.length))],[.row 1 (B.map (a0m 2 l7))]) ?_ ?_
 ·refine a3s (X:={q:(Nat × (List (List a0c))) // a4u (E.drop q.1) q.1 q.2 = some B}) (fun q => ([(0,(.lst 1 (E.map (a0m 2 l7)))),(3,(.own 0 0 q.1.2.length)),(4,(.I (q.1.1:Int)))],[.row 1 (q.1.2.map (a0m 2 l7))])) (fun q => E.length - q.1.1) ⟨(0,List.replicate E.length []),hb1⟩ ⟨[],[0],_,_,rfl,rfl,⟨.r,⟨.of_eq (congrArg (AV.own _ 0) (by simp)),⟨.r,tr⟩⟩⟩,.r⟩ ?_
  rintro ⟨⟨D,A⟩,hc1⟩
  dsimp only at hc1 ⊢
  rcases a6v E D with ⟨hie40,hd43⟩ | ⟨hlt38,G,hx39,hd43⟩
  ·rw [hd43,a4u.eq_1] at hc1
   refine go 2 ?_;refine ln fun hl45 => ?_;refine gq 1 ?_;refine wg (dlf hie40)<|le ?_;obtain rfl:=os hc1;exact ck [0]
  ·rw [hd43,a4u.eq_2] at hc1
   refine go 2 ?_;refine ln fun hl46 => ?_;refine gq 1 ?_;refine wt (dlt hlt38)<|a0v<|a0i<|o8<|a3z<|a0t ?_
   obtain ⟨F,er48,hc1⟩:=ob hc1
   obtain ⟨g49,hc1⟩:=og hc1
   obtain ⟨H,ex51,hc1⟩:=ob hc1
   refine go 4 ?_;refine ia hx39 ?_;refine go 1 ?_;refine cf (.own 1 0 F.length) [.row 2 (F.map l7)] (d2s _ _ er48)<|a0x (b0k rfl rfl g49 rfl rfl) ?_
   refine a7p (a2d (v':=(.lst 2 (F.map l7))) (e':=F) rfl rfl ex51 rfl rfl (by first | (simp only [tk,tko,List.take_length];done) | rfl | simp) (by decide) (fun _ => by decide) ⟨rfl,rfl,rfl⟩ .r rfl) ?_
   refine a1a<|a3w<|a0i ?_;refine gd 3 ?_;exact a5p ⟨((D + 1),A.set D F),hc1⟩ (mul hlt38) ⟨[],[0],_,_,rfl,rfl,⟨.r,⟨.of_eq (congrArg (AV.own _ 0) (by simp)),⟨.of_eq (congrArg (AV.int _) (a5b hlt38 hl46)),tr⟩⟩⟩,.r⟩
 ·refine gq 2 ?_;refine a2q ?_;obtain rfl:=os hf;exact a4n ⟨tr,tr⟩ rfl (by decide) (.of_eq (congrArg (AV.lst _) (tk (enc:=(a0m 2 l7)) B)))
def a6z (A:a0h):Option a0h :=
    (b4a A.Tables).bind fun B =>
    some (⟨B,A.Next⟩:a0h)
theorem a5k (A:a0h) (r:a0h) (hf:a6z A = some r):a0k Tryz.prog 34 .fresh [(a1j A)] (a1j r):=by
 unfold a6z at hf;refine co [] Tryz.func34 ?_;refine sr<|bx ?_;refine bx ?_;refine dk<|sr<|bx ?_;refine dk<|o8<|a0t ?_
 obtain ⟨B,er3,hf⟩:=ob hf
 refine go 2 ?_;refine cf (.own 3 0 B.length) [.row 1 (B.map (a0m 2 l7))] (d1k _ _ er3) ?_;refine go 1 ?_;refine sb ?_;refine a1a<|a0i ?_;refine go 3 ?_;refine sb ?_
 refine a1a<|a0i ?_;refine go 1 ?_;refine sb ?_;refine dk<|a2q ?_;cases hf;exact a4n ⟨nle,tr⟩ rfl (by decide) (.agg (.cons (.of_eq (congrArg (AV.lst _) (tk (enc:=(a0m 2 l7)) B))) (.cons .r .nil)))
def a2k (D:Int) (B:Int) (A:Int):Option Bool :=
    if (decide (B ≤ D)) then
    some (decide (D ≤ A))
    else
    some false
instance w_spec_l01In (D:Int) (B:Int) (A:Int) (r:Bool):Wk Tryz.prog (a2k D B A = some r) 85 [(.I D),(.I B),(.I A)] (.bool r):=⟨fun hf => by
 unfold a2k at hf;refine coA [] [] Tryz.func85 ?_;exact W⟩
def a7y (A:Int):Option Bool :=
    some (bif (bif (bif (decide (A ≥ 97)) then (decide (A ≤ 122)) else false) then true else (bif (decide (A ≥ 65)) then (decide (A ≤ 90)) else false)) then true else (A == 95))
instance w_spec_l00Letter (A:Int) (r:Bool):Wk Tryz.prog (a7y A = some r) 332 [(.int .u8 A)] (.bool r):=⟨fun hf => by
 unfold a7y at hf;refine coA [] [] Tryz.func332 ?_;exact W⟩
def b2g (A:Int):Option Bool :=
    if (decide (A ≥ 48)) then
    some (decide (A ≤ 57))
    else
    some false
instance w_spec_l00Digit (A:Int) (r:Bool):Wk Tryz.prog (b2g A = some r) 333 [(.int .u8 A)] (.bool r):=⟨fun hf => by
 unfold b2g at hf;refine coA [] [] Tryz.func333 ?_;exact W⟩
def a4v :List UInt8 → Option (Fl Bool Unit)
  | [] =>
    some (.go ())
  | E :: xs =>
    (((a7y (E.toNat:Int)).bind fun G =>
    if (!G) then
    (b2g (E.toNat:Int)).bind fun H =>
    some (!H)
    else
    some false:Option Bool)).bind fun B =>
    if B then
    some (.ret false)
    else
    a4v xs 
def b4b (A:Str):Option Bool :=
    ((if (bif (decide ((A.length:Int) < 1)) then true else (decide ((A.length:Int) > 40))) then
    some true
    else
    (idx A 0).bind fun J =>
    (a7y (J.toNat:Int)).bind fun K =>
    some (!K):Option Bool)).bind fun D =>
    if D then
    some false
    else
    (a4v (A.drop 1) ).bind fun q => (match q with
    | .ret r => some r
    | .go _ =>
    some true)
instance w_spec_l00Word (A:Str) (r:Bool):Wk Tryz.prog (b4b A = some r) 282 [(.str A)] (.bool r):=⟨fun hf => by
 unfold b4b at hf;refine co [10,50,62] Tryz.func282 ?_;refine gq 1 ?_;refine o8<|o8 ?_
 obtain ⟨D,hb1,hf⟩:=ob hf
 refine a1r ([(0,(.str A)),(17,(.bool D))],[]) ?_ ?_
 ·refine go 1 ?_;refine lnS fun hl11 => ?_;refine go 1 ?_;refine go 1 ?_;refine sg (.str A) ?_;refine sg (.I (A.length:Int)) ?_;refine sg (.bool (decide ((A.length:Int) > 40))) ?_;refine b9z (x:=true) (y:=(decide ((A.length:Int) > 40))) rfl (fun hv => by (try simp only [a2u hv]);rfl) (fun hv => by (try simp only [a2u hv]);rfl) ?_
  refine go 1 ?_
  rcases oi hb1 with ⟨c13,hb1⟩ | ⟨c13,hb1⟩
  ·refine sl 12 c13 ?_;refine gd 5 ?_;cases hb1;exact ck []
  ·refine sf 12 c13 ?_;refine go 1 ?_;refine s_on rfl ?_
   obtain ⟨J,eb15,hb1⟩:=ob hb1
   refine a0x (e0h rfl rfl (f0o eb15) (f0p eb15))<|s_on rfl ?_
   obtain ⟨K,er17,hb1⟩:=ob hb1
   refine cl (w_spec_l00Letter _ _ er17) ?_;refine gd 2 ?_;cases hb1;exact ck []
 ·rcases oi hf with ⟨c18,hf⟩ | ⟨c18,hf⟩
  ·refine wt c18 ?_;refine gq 1 ?_;cases hf;exact rf
  ·refine wf c18<|a0v<|a0i ?_;refine gq 1 ?_
   obtain ⟨p91,hb1,hf⟩:=ob hf
   refine a8v (X:={q:Unit // p91 = .go q}) (fun q => ([],[])) ?_ ?_
   ·refine al (X:={q:Nat // a4v (A.drop q)  = some p91}) (fun q => ([(0,(.str A)),(3,(.I (q.1:Int)))],[])) (fun q => A.length - q.1) ⟨1,hb1⟩ [] ?_
    rintro ⟨F,hc1⟩
    dsimp only at hc1 ⊢
    rcases a6v A F with ⟨hie94,hd97⟩ | ⟨hlt92,E,hx93,hd97⟩
    ·rw [hd97,a4v.eq_1] at hc1
     refine go 2 ?_;refine lnS fun hl99 => ?_;refine gq 1 ?_;refine wg (dlf hie94)<|le ?_;cases hc1;exact kk ⟨_,rfl⟩ []
    ·rw [hd97,a4v.eq_2] at hc1
     refine go 2 ?_;refine lnS fun hl100 => ?_;refine gq 1 ?_;refine wt (dlt hlt92)<|a0v<|a0i<|o8<|a3z<|o8 ?_
     obtain ⟨B,hb2,hc1⟩:=ob hc1
     refine a1r ([(0,(.str A)),(3,(.I (F:Int))),(35,(.bool B))],[]) ?_ ?_
     ·refine a0t ?_
      obtain ⟨G,er109,hb2⟩:=ob hb2
      rcases oi hb2 with ⟨c110,hb2⟩ | ⟨c110,hb2⟩
      ·obtain ⟨H,er112,hb2⟩:=ob hb2
       refine go 2 ?_;refine a0x (c4x rfl rfl hx93)<|cl (w_spec_l00Letter _ _ er109) ?_;refine go 2 ?_;refine sl 29 c110 ?_;refine go 2 ?_;refine s_on rfl<|a0x (c4x rfl rfl hx93)<|s_on rfl<|cl (w_spec_l00Digit _ _ er112) ?_;refine gd 2 ?_;cases hb2;exact ck []
      ·refine go 2 ?_;refine a0x (c4x rfl rfl hx93)<|cl (w_spec_l00Letter _ _ er109) ?_;refine go 2 ?_;refine sf 29 c110 ?_;refine gd 6 ?_;cases hb2;exact ck []
     ·rcases oi hc1 with ⟨c113,hc1⟩ | ⟨c113,hc1⟩
      ·refine wt c113 ?_;refine gq 1 ?_;cases hc1;cases hf;exact rf
      ·refine wf c113<|a0v<|a3w<|a0i ?_;refine gd 3 ?_;exact kl ⟨(F + 1),hc1⟩ []
   ·rintro ⟨_,rfl⟩
    refine gq 1 ?_;cases hf;exact rf⟩
def b0p (A:Str):Option Bool :=
    (b4b A).bind fun B =>
    some B
instance w_spec_NameOK (A:Str) (r:Bool):Wk Tryz.prog (b0p A = some r) 191 [(.str A)] (.bool r):=⟨fun hf => by
 unfold b0p at hf;refine coA [] [] Tryz.func191 ?_;exact W⟩
def b2h (A:x8):Option Bool :=
    (((b0p A.Name).bind fun E =>
    if (!E) then
    some true
    else
    (a2k A.Kind 1 4).bind fun F =>
    if (!F) then
    some true
    else
    (a2k A.Min 0 1).bind fun G =>
    if (!G) then
    some true
    else
    (a2k A.Max 1 8).bind fun H =>
    some (!H):Option Bool)).bind fun B =>
    if B then
    some false
    else
    if (A.Kind == 1) then
    (a2k A.Low (-1000000000) A.High).bind fun I =>
    if I then
    (a2k A.High A.Low 1000000000).bind fun J =>
    some (bif (bif J then (A.Ref == []) else false) then (!A.Strong) else false)
    else
    some false
    else
    ((if (A.Low != 0) then
    some true
    else
    some (A.High != 0):Option Bool)).bind fun D =>
    if D then
    some false
    else
    if (A.Kind == 4) then
    (b0p A.Ref).bind fun K =>
    if K then
    some (A.Min == 0)
    else
    some false
    else
    if (A.Ref == []) then
    some (!A.Strong)
    else
    some false
instance w_spec_ColumnOK (A:x8) (r:Bool):Wk Tryz.prog (b2h A = some r) 276 [(a0f A)] (.bool r):=⟨fun hf => by
 unfold b2h at hf;refine coA [5,21] [cA [1] fun v:Bool => [(24,(.bool v))],cA [1] fun v:Bool => [(57,(.bool v))]] Tryz.func276 ?_;exact W⟩
def a3d (B:Nat) (A:a0a) (E:x8):Nat → Int → Option (Fl Bool Unit)
  | 0,_ => none
  | k + 1,F =>
    if (decide (F < (B:Int))) then
    (idx A.Columns F).bind fun L =>
    if (L.Name == E.Name) then
    some (.ret false)
    else
    a3d B A E k (w64 (F + 1))
    else
    some (.go ())
def a4c (A:a0a):List x8 → Nat → Option (Fl Bool Unit)
  | [],B =>
    some (.go ())
  | E :: xs,B =>
    (b2h E).bind fun M =>
    if (!M) then
    some (.ret false)
    else
    (a3d B A E FUEL 0).bind fun q => (match q with
    | .ret r => some (.ret r)
    | .go _ =>
    a4c A xs (B + 1))
def a4d (A:a0a):List Int → Nat → Option (Fl Bool Unit)
  | [],D =>
    some (.go ())
  | J :: xs,D =>
    (((a2k J 0 (w64 ((A.Columns.length:Int) - 1))).bind fun N =>
    if (!N) then
    some true
    else
    if (decide ((D:Int) > 0)) then
    (idx A.Unique (w64 ((D:Int) - 1))).bind fun O =>
    some (decide (O ≥ J))
    else
    some false:Option Bool)).bind fun G =>
    if G then
    some (.ret false)
    else
    a4d A xs (D + 1)
def a9w (A:a0a):Option Bool :=
    (((b0p A.Name).bind fun P =>
    if (!P) then
    some true
    else
    (a2k (A.Columns.length:Int) 1 6).bind fun K =>
    some (bif (!K) then true else (decide ((A.Unique.length:Int) > 6))):Option Bool)).bind fun H =>
    if H then
    some false
    else
    (a4c A A.Columns 0).bind fun q => (match q with
    | .ret r => some r
    | .go _ =>
    (a4d A A.Unique 0).bind fun q => (match q with
    | .ret r => some r
    | .go _ =>
    some true))
instance w_spec_l04Table (A:a0a) (r:Bool):Wk Tryz.prog (a9w A = some r) 181 [(y9 A)] (.bool r):=⟨fun hf => by
 unfold a9w at hf;refine co [10,102,104,134,146] Tryz.func181 ?_ (sp:=[(1,[[6,22]]),(5,[[30,36]]),(9,[[42,54]]),(15,[[62,70],[71,0],[72,90]])]);refine sr<|bx ?_;refine gq 1 ?_;refine o8<|o8 ?_
 obtain ⟨H,hb1,hf⟩:=ob hf
 refine a1r ([(1,(.ptr 0 0 0)),(22,(.bool H))],[.box 4 (.agg [(.str A.Name),(.lst 8 (A.Columns.map a0f)),(.lst 1 (A.Unique.map encI)),(.bool A.Root)])]) ?_ ?_
 ·refine go 2 ?_
  obtain ⟨P,er13,hb1⟩:=ob hb1
  refine cl (w_spec_NameOK _ _ er13) ?_;refine go 2 ?_
  rcases oi hb1 with ⟨c15,hb1⟩ | ⟨c15,hb1⟩
  ·refine sl 10 c15 ?_;refine gd 12 ?_;cases hb1;exact ck [0]
  ·refine sf 10 c15 ?_;refine go 2 ?_;refine s_on rfl<|ln fun hl16 => ?_;refine s_on rfl ?_
   obtain ⟨K,er18,hb1⟩:=ob hb1
   refine cl (w_spec_l01In _ _ _ _ er18) ?_;refine go 3 ?_;refine sg (.ptr 0 0 2) ?_;refine sg (.lst 1 (A.Unique.map encI)) ?_;refine s_g (v:=(!K)) (.I (A.Unique.length:Int)) rfl (fun hv => by (try simp only [a2u hv]);exact ⟨rfl,tr,lenV _ _⟩) ?_;refine sg (.bool (decide ((A.Unique.length:Int) > 6))) ?_
   refine b9z (x:=true) (y:=(decide ((A.Unique.length:Int) > 6))) rfl (fun hv => by (try simp only [a2u hv]);rfl) (fun hv => by (try simp only [a2u hv]);rfl) ?_;refine a1a ?_;cases hb1;exact ck [0]
 ·rcases oi hf with ⟨c20,hf⟩ | ⟨c20,hf⟩
  ·refine wt c20 ?_;refine gq 1 ?_;cases hf;exact rf
  ·refine wf c20<|a0v<|a0i ?_;refine gq 1 ?_
   obtain ⟨p140,hb1,hf⟩:=ob hf
   refine a8v (X:={q:Unit // p140 = .go q}) (fun q => ([(1,(.ptr 0 0 0))],[.box 4 (.agg [(.str A.Name),(.lst 8 (A.Columns.map a0f)),(.lst 1 (A.Unique.map encI)),(.bool A.Root)])])) ?_ ?_
   ·refine al (X:={q:Nat // a4c A (A.Columns.drop q) q = some p140}) (fun q => ([(1,(.ptr 0 0 0)),(3,(.I (q.1:Int)))],[.box 4 (.agg [(.str A.Name),(.lst 8 (A.Columns.map a0f)),(.lst 1 (A.Unique.map encI)),(.bool A.Root)])])) (fun q => A.Columns.length - q.1) ⟨0,hb1⟩ [0] ?_
    rintro ⟨B,hc1⟩
    dsimp only at hc1 ⊢
    rcases a6v A.Columns B with ⟨hie143,hd146⟩ | ⟨hlt141,E,hx142,hd146⟩
    ·rw [hd146,a4c.eq_1] at hc1
     refine go 3 ?_;refine ln fun hl148 => ?_;refine gq 1 ?_;refine wg (dlf hie143)<|le ?_;cases hc1;exact kk ⟨_,rfl⟩ [0]
    ·rw [hd146,a4c.eq_2] at hc1
     refine go 3 ?_;refine ln fun hl149 => ?_;refine gq 1 ?_;refine wt (dlt hlt141)<|a0v<|a0i<|o8<|a3z<|o8<|o8<|a0t ?_
     obtain ⟨M,er151,hc1⟩:=ob hc1
     refine go 3 ?_;refine ia hx142 ?_;refine go 1 ?_;refine cl (w_spec_ColumnOK _ _ er151) ?_;refine gq 1 ?_
     rcases oi hc1 with ⟨c152,hc1⟩ | ⟨c152,hc1⟩
     ·refine wt c152 ?_;refine gq 1 ?_;cases hc1;cases hf;exact rf
     ·refine wf c152<|a0v<|a0i ?_;refine gq 1 ?_
      obtain ⟨p181,hb2,hc1⟩:=ob hc1
      refine c6q (X:={q:Unit // p181 = .go q}) (fun q => ([(1,(.ptr 0 0 0)),(3,(.I (B:Int)))],[.box 4 (.agg [(.str A.Name),(.lst 8 (A.Columns.map a0f)),(.lst 1 (A.Unique.map encI)),(.bool A.Root)])])) ?_ ?_
      ·refine al (X:={q:(Nat × Int) // a3d B A E q.1 q.2 = some p181}) (fun q => ([(1,(.ptr 0 0 0)),(3,(.I (B:Int))),(4,(.I q.1.2))],[.box 4 (.agg [(.str A.Name),(.lst 8 (A.Columns.map a0f)),(.lst 1 (A.Unique.map encI)),(.bool A.Root)])])) (fun q => q.1.1) ⟨(FUEL,0),hb2⟩ [0] ?_
       rintro ⟨⟨k,F⟩,hc2⟩
       dsimp only at hc2 ⊢
       rcases k with _ | k
       ·rw [a3d.eq_1] at hc2
        cases hc2
       ·rw [a3d.eq_2] at hc2;refine gq 3 ?_
        rcases oi hc2 with ⟨c182,hc2⟩ | ⟨c182,hc2⟩
        ·refine wt c182<|a0v<|a0i<|o8<|a3z ?_;refine go 3 ?_
         obtain ⟨L,ex184,hc2⟩:=ob hc2
         refine ix ex184 ?_;refine go 5 ?_;refine ia hx142 ?_;refine gq 3 ?_
         rcases oi hc2 with ⟨c185,hc2⟩ | ⟨c185,hc2⟩
         ·refine wt c185 ?_;refine gq 1 ?_;cases hc2;cases hc1;cases hf;exact rf
         ·refine wf c185<|a0v<|a3w<|a0i ?_;refine gd 3 ?_;exact kl ⟨(k,w64 (F + 1)),hc2⟩ [0]
        ·refine wf c182<|le ?_;refine a3w ?_;cases hc2;exact kk ⟨_,rfl⟩ [0]
      ·rintro ⟨_,rfl⟩
       refine gd 3 ?_;exact kl ⟨(B + 1),hc1⟩ [0]
   ·rintro ⟨_,rfl⟩
    refine gq 1 ?_
    obtain ⟨p260,hb1,hf⟩:=ob hf
    refine a8v (X:={q:Unit // p260 = .go q}) (fun q => ([],[])) ?_ ?_
    ·refine al (X:={q:Nat // a4d A (A.Unique.drop q) q = some p260}) (fun q => ([(1,(.ptr 0 0 0)),(5,(.I (q.1:Int)))],[.box 4 (.agg [(.str A.Name),(.lst 8 (A.Columns.map a0f)),(.lst 1 (A.Unique.map encI)),(.bool A.Root)])])) (fun q => A.Unique.length - q.1) ⟨0,hb1⟩ [0] ?_
     rintro ⟨D,hc1⟩
     dsimp only at hc1 ⊢
     rcases a6v A.Unique D with ⟨hie263,hd266⟩ | ⟨hlt261,J,hx262,hd266⟩
     ·rw [hd266,a4d.eq_1] at hc1
      refine go 3 ?_;refine ln fun hl268 => ?_;refine gq 1 ?_;refine wg (dlf hie263)<|le ?_;cases hc1;exact kk ⟨_,rfl⟩ []
     ·rw [hd266,a4d.eq_2] at hc1
      refine go 3 ?_;refine ln fun hl269 => ?_;refine gq 1 ?_;refine wt (dlt hlt261)<|a0v<|a0i<|o8<|a3z<|o8 ?_
      obtain ⟨G,hb2,hc1⟩:=ob hc1
      refine a1r ([(1,(.ptr 0 0 0)),(5,(.I (D:Int))),(90,(.bool G))],[.box 4 (.agg [(.str A.Name),(.lst 8 (A.Columns.map a0f)),(.lst 1 (A.Unique.map encI)),(.bool A.Root)])]) ?_ ?_
      ·refine go 3 ?_;refine ia hx262 ?_;refine go 3 ?_;refine ln fun hl279 => ?_;refine go 1 ?_
       obtain ⟨N,er281,hb2⟩:=ob hb2
       refine cll (w_spec_l01In _ _ _ _ er281) ?_;refine go 2 ?_
       rcases oi hb2 with ⟨c282,hb2⟩ | ⟨c282,hb2⟩
       ·refine sl 73 c282 ?_;refine gd 17 ?_;cases hb2;exact ck [0]
       ·refine sf 73 c282 ?_;refine go 3 ?_
        rcases oi hb2 with ⟨c283,hb2⟩ | ⟨c283,hb2⟩
        ·refine sl 76 c283 ?_;refine go 4 ?_;refine s_on rfl ?_
         obtain ⟨O,ex285,hb2⟩:=ob hb2
         refine ix ex285 ?_;refine go 4 ?_;refine s_on rfl<|ia hx262 ?_;refine gd 4 ?_;cases hb2;exact ck [0]
        ·refine sf 76 c283 ?_;refine gd 14 ?_;cases hb2;exact ck [0]
      ·rcases oi hc1 with ⟨c286,hc1⟩ | ⟨c286,hc1⟩
       ·refine wt c286 ?_;refine gq 1 ?_;cases hc1;cases hf;exact rf
       ·refine wf c286<|a0v<|a3w<|a0i ?_;refine gd 3 ?_;exact kl ⟨(D + 1),hc1⟩ [0]
    ·rintro ⟨_,rfl⟩
     refine gq 1 ?_;cases hf;exact rf⟩
def a8y (A:Str):List a0a → Nat → Option (Fl Int Unit)
  | [],B =>
    some (.go ())
  | E :: xs,B =>
    if (E.Name == A) then
    some (.ret (B:Int))
    else
    a8y A xs (B + 1)
def a6b (D:a0b) (A:Str):Option Int :=
    (a8y A D.Tables 0).bind fun q => (match q with
    | .ret r => some r
    | .go _ =>
    some (-1))
instance w_spec_l04Find (D:a0b) (A:Str) (r:Int):Wk Tryz.prog (a6b D A = some r) 182 [(a1h D),(.str A)] (.I r):=⟨fun hf => by
 unfold a6b at hf;refine coA [5,23] [lI [1,2] fun i => [(5,(.I (i:Int)))],fA [] fun q:Unit => []] Tryz.func182 ?_;exact W⟩
end Go.R
end
