/- Part of the proof. -/
import Derived.Test.YtldahjcikmpifaaGreatS6
import Derived.Shelf.Small.Strs
import Derived.Test.YtldahjcikmpifaaGreatRows
section
set_option linter.all false
namespace Go.R
open Go Go.Proofs
set_option maxHeartbeats 8000000
theorem mixed:Tryz.prog.follows .mixedOrders = true:=by kernel_rfl
structure y7 where
  Name:Str
  Kind:Int
  Min:Int
  Max:Int
  Low:Int
  High:Int
  Ref:Str
  Strong:Bool
deriving Inhabited,DecidableEq
def a0n (x:y7):AV:=.agg [(.str x.Name),(.int .i64 x.Kind),(.int .i64 x.Min),(.int .i64 x.Max),(.int .i64 x.Low),(.int .i64 x.High),(.str x.Ref),(.bool x.Strong)]
theorem encGColumn_eq (x:y7):a0n x = .agg [(.str x.Name),(.int .i64 x.Kind),(.int .i64 x.Min),(.int .i64 x.Max),(.int .i64 x.Low),(.int .i64 x.High),(.str x.Ref),(.bool x.Strong)]:=rfl
structure o6 where
  Name:Str
  Columns:(List y7)
  Unique:(List Int)
  Root:Bool
deriving Inhabited,DecidableEq
def a0c (x:o6):AV:=.agg [(.str x.Name),(.lst 8 (x.Columns.map a0n)),(.lst 1 (x.Unique.map encI)),(.bool x.Root)]
theorem encGTable_eq (x:o6):a0c x = .agg [(.str x.Name),(.lst 8 (x.Columns.map a0n)),(.lst 1 (x.Unique.map encI)),(.bool x.Root)]:=rfl
structure o7 where
  Tables:(List o6)
deriving Inhabited,DecidableEq
def a0s (x:o7):AV:=.agg [(.lst 4 (x.Tables.map a0c))]
theorem d2v (x:o7):a0s x = .agg [(.lst 4 (x.Tables.map a0c))]:=rfl
structure o5 where
  Kind:Int
  N:Int
  T:Str
deriving Inhabited,DecidableEq
def l9 (x:o5):AV:=.agg [(.int .i64 x.Kind),(.int .i64 x.N),(.str x.T)]
theorem encGAtom_eq (x:o5):l9 x = .agg [(.int .i64 x.Kind),(.int .i64 x.N),(.str x.T)]:=rfl
structure o8 where
  Id:Int
  Cells:(List (List o5))
deriving Inhabited,DecidableEq
def y8 (x:o8):AV:=.agg [(.int .i64 x.Id),(.lst 1 (x.Cells.map (a2m 3 l9)))]
theorem e1q (x:o8):y8 x = .agg [(.int .i64 x.Id),(.lst 1 (x.Cells.map (a2m 3 l9)))]:=rfl
structure x9 where
  Tables:(List (List o8))
  Next:Int
deriving Inhabited,DecidableEq
def a0o (x:x9):AV:=.agg [(.lst 1 (x.Tables.map (a2m 2 y8))),(.int .i64 x.Next)]
theorem d5v (x:x9):a0o x = .agg [(.lst 1 (x.Tables.map (a2m 2 y8))),(.int .i64 x.Next)]:=rfl
structure x8 where
  Code:(List Int)
  At:Int
  Seed:Int
deriving Inhabited,DecidableEq
def c4e (x:x8):AV:=.agg [(.lst 1 (x.Code.map a0p)),(.int .i64 x.At),(.int .i64 x.Seed)]
theorem encGL00Src_eq (x:x8):c4e x = .agg [(.lst 1 (x.Code.map a0p)),(.int .i64 x.At),(.int .i64 x.Seed)]:=rfl
structure a3p where
  Column:Str
  Func:Int
  Value:(List o5)
deriving Inhabited,DecidableEq
def a3o (x:a3p):AV:=.agg [(.str x.Column),(.int .i64 x.Func),(.lst 3 (x.Value.map l9))]
theorem encGCond_eq (x:a3p):a3o x = .agg [(.str x.Column),(.int .i64 x.Func),(.lst 3 (x.Value.map l9))]:=rfl
structure a2c where
  Column:Str
  Value:(List o5)
  Names:(List Str)
deriving Inhabited,DecidableEq
def a2f (x:a2c):AV:=.agg [(.str x.Column),(.lst 3 (x.Value.map l9)),(.lst 1 (x.Names.map AV.str))]
theorem encGSet_eq (x:a2c):a2f x = .agg [(.str x.Column),(.lst 3 (x.Value.map l9)),(.lst 1 (x.Names.map AV.str))]:=rfl
structure b1v where
  Column:Str
  Func:Int
  Value:(List o5)
deriving Inhabited,DecidableEq
def a6h (x:b1v):AV:=.agg [(.str x.Column),(.int .i64 x.Func),(.lst 3 (x.Value.map l9))]
theorem encGMut_eq (x:b1v):a6h x = .agg [(.str x.Column),(.int .i64 x.Func),(.lst 3 (x.Value.map l9))]:=rfl
structure GOp where
  Kind:Int
  Table:Str
  Name:Str
  Where:(List a3p)
  Row:(List a2c)
  Muts:(List b1v)
  Columns:(List Str)
  Until:Bool
deriving Inhabited,DecidableEq
def a1h (x:GOp):AV:=.agg [(.int .i64 x.Kind),(.str x.Table),(.str x.Name),(.lst 3 (x.Where.map a3o)),(.lst 3 (x.Row.map a2f)),(.lst 3 (x.Muts.map a6h)),(.lst 1 (x.Columns.map AV.str)),(.bool x.Until)]
theorem encGOp_eq (x:GOp):a1h x = .agg [(.int .i64 x.Kind),(.str x.Table),(.str x.Name),(.lst 3 (x.Where.map a3o)),(.lst 3 (x.Row.map a2f)),(.lst 3 (x.Muts.map a6h)),(.lst 1 (x.Columns.map AV.str)),(.bool x.Until)]:=rfl
structure a1l where
  Code:Int
  Count:Int
  Id:Int
  Columns:(List Str)
  Rows:(List o8)
deriving Inhabited,DecidableEq
def b5f (x:a1l):AV:=.agg [(.int .i64 x.Code),(.int .i64 x.Count),(.int .i64 x.Id),(.lst 1 (x.Columns.map AV.str)),(.lst 2 (x.Rows.map y8))]
theorem encGResult_eq (x:a1l):b5f x = .agg [(.int .i64 x.Code),(.int .i64 x.Count),(.int .i64 x.Id),(.lst 1 (x.Columns.map AV.str)),(.lst 2 (x.Rows.map y8))]:=rfl
structure a0g where
  S:o7
  X:x9
  Ops:(List GOp)
  Ids:(List Int)
  Owned:(List Str)
deriving Inhabited,DecidableEq
def c0n (x:a0g):AV:=.agg [(.lst 4 (x.S.Tables.map a0c)),(.lst 1 (x.X.Tables.map (a2m 2 y8))),(.int .i64 x.X.Next),(.lst 8 (x.Ops.map a1h)),(.lst 1 (x.Ids.map encI)),(.lst 1 (x.Owned.map AV.str))]
theorem encGL09Work_eq (x:a0g):c0n x = .agg [(.lst 4 (x.S.Tables.map a0c)),(.lst 1 (x.X.Tables.map (a2m 2 y8))),(.int .i64 x.X.Next),(.lst 8 (x.Ops.map a1h)),(.lst 1 (x.Ids.map encI)),(.lst 1 (x.Owned.map AV.str))]:=rfl
end Go.R
end
section
set_option linter.all false
namespace Go.R
open Go Go.Proofs
set_option maxHeartbeats 8000000
def a3c :Option o7 :=
    some (⟨[(⟨[110,111,116,101],[(⟨[110,97,109,101],2,1,1,0,0,[],false⟩:y7),(⟨[97,98,111,117,116],4,0,4,0,0,[112,111,114,116],false⟩:y7)],[],true⟩:o6),(⟨[112,111,114,116],[(⟨[110,97,109,101],2,1,1,0,0,[],false⟩:y7),(⟨[116,97,103],1,0,1,0,99,[],false⟩:y7),(⟨[117,112],3,1,1,0,0,[],false⟩:y7)],[(0:Int)],false⟩:o6),(⟨[115,119,105,116,99,104],[(⟨[110,97,109,101],2,1,1,0,0,[],false⟩:y7),(⟨[99,111,117,110,116],1,1,1,(-1000),1000,[],false⟩:y7),(⟨[112,111,114,116,115],4,0,8,0,0,[112,111,114,116],true⟩:y7)],[(0:Int)],true⟩:o6)]⟩:o7)
def c0o :List o6 → (List (List o8)) → Option (List (List o8))
  | [],A =>
    some A
  | E :: xs,A =>
    if (A ++ [[]]).length ≤ 2 ^ 30 then
    c0o xs  (A ++ [[]])
    else none
def b7m (D:o7):Option x9 :=
    (c0o D.Tables []).bind fun B =>
    some (⟨B,1⟩:x9)
def b2d (A:o5):List o5 → Option (Fl Bool Unit)
  | [] =>
    some (.go ())
  | B :: xs =>
    if (B.Kind == A.Kind && (B.N == A.N && (B.T == A.T && true))) then
    some (.ret true)
    else
    b2d A xs 
def b0i (D:(List o5)) (A:o5):Option Bool :=
    (b2d A D ).bind fun q => (match q with
    | .ret r => some r
    | .go _ =>
    some false)
def a8e (A:Bool):Option Int :=
    if A then
    some 1
    else
    some 0
def a7b (A:o5) (B:o5):Option Int :=
    if (A.Kind != B.Kind) then
    (a8e (decide (A.Kind < B.Kind))).bind fun E =>
    some (w64 (1 - (w64 (2 * E))))
    else
    if (A.N != B.N) then
    (a8e (decide (A.N < B.N))).bind fun F =>
    some (w64 (1 - (w64 (2 * F))))
    else
    if (!(A.T == B.T)) then
    (a8e (Op.bytesLess A.T B.T)).bind fun D =>
    some (w64 (1 - (w64 (2 * D))))
    else
    some 0
def a3b (A:(List o5)) (D:o5):Nat → Int → Option Int
  | 0,_ => none
  | k + 1,E =>
    ((if (decide (E > 0)) then
    (idx A (w64 (E - 1))).bind fun G =>
    (a7b G D).bind fun H =>
    some (decide (H > 0))
    else
    some false:Option Bool)).bind fun F =>
    if F then
    a3b A D k (w64 (E - 1))
    else
    some E
def b0j (A:(List o5)) (D:o5):Option (List o5) :=
    (b0i A D).bind fun I =>
    if I then
    some A
    else
    (a3b A D FUEL (A.length:Int)).bind fun B =>
    if (0:Int) ≤ B ∧ B ≤ (A.length:Int) then
    if (0:Int) ≤ B ∧ B ≤ (A.length:Int) then
    if ([] ++ (A.take B.toNat)).length ≤ 2 ^ 30 then
    if (([] ++ (A.take B.toNat)) ++ [D]).length ≤ 2 ^ 30 then
    if ((([] ++ (A.take B.toNat)) ++ [D]) ++ (A.drop B.toNat)).length ≤ 2 ^ 30 then
    some ((([] ++ (A.take B.toNat)) ++ [D]) ++ (A.drop B.toNat))
    else none
    else none
    else none
    else none
    else none
def a3f (A:(List o5)) (E:o5):Nat → Int → Option Int
  | 0,_ => none
  | k + 1,D =>
    ((if (decide (D > 0)) then
    if (0:Int) ≤ w64 (D - 1) ∧ w64 (D - 1) < (A.length:Int) then
    (A[(0 + (w64 (D - 1)).toNat)]?).bind fun G =>
    (a7b G E).bind fun H =>
    some (decide (H > 0))
    else none
    else
    some false:Option Bool)).bind fun F =>
    if F then
    a3f A E k (w64 (D - 1))
    else
    some D
def a9j (A:(List o5)) (E:o5):Option (List o5) :=
    (b0i A E).bind fun I =>
    if I then
    some A
    else
    (a3f A E FUEL (A.length:Int)).bind fun B =>
    if (0:Int) ≤ B ∧ B ≤ (A.length:Int) then
    if (0:Int) ≤ B ∧ B ≤ (A.length:Int) then
    if ([] ++ (A.take B.toNat)).length ≤ 2 ^ 30 then
    if (([] ++ (A.take B.toNat)) ++ [E]).length ≤ 2 ^ 30 then
    if ((([] ++ (A.take B.toNat)) ++ [E]) ++ ((A.drop B.toNat).take (A.length - B.toNat))).length ≤ 2 ^ 30 then
    some ((([] ++ (A.take B.toNat)) ++ [E]) ++ ((A.drop B.toNat).take (A.length - B.toNat)))
    else none
    else none
    else none
    else none
    else none
def a1o (D:Int) (B:Int) (A:Int):Option Bool :=
    if (decide (B ≤ D)) then
    some (decide (D ≤ A))
    else
    some false
def a9k :List GOp → Int → (List Int) → Option (List Int)
  | [],A,B =>
    some B
  | G :: xs,A,B =>
    if (G.Kind == 1) then
    if (B ++ [A]).length ≤ 2 ^ 30 then
    a9k xs (w64 (A + 1))  (B ++ [A])
    else none
    else
    if (B ++ [(0:Int)]).length ≤ 2 ^ 30 then
    a9k xs A  (B ++ [(0:Int)])
    else none
def b7n (F:(List GOp)) (D:Int):Option (List Int) :=
    (a9k F D []).bind fun E =>
    some E
def a9l (A:Int):Option Bool :=
    some (bif (bif (bif (decide (A ≥ 97)) then (decide (A ≤ 122)) else false) then true else (bif (decide (A ≥ 65)) then (decide (A ≤ 90)) else false)) then true else (A == 95))
def b3h (A:Int):Option Bool :=
    if (decide (A ≥ 48)) then
    some (decide (A ≤ 57))
    else
    some false
def b0q :List UInt8 → Option (Fl Bool Unit)
  | [] =>
    some (.go ())
  | D :: xs =>
    (((a9l (D.toNat:Int)).bind fun E =>
    if (!E) then
    (b3h (D.toNat:Int)).bind fun F =>
    some (!F)
    else
    some false:Option Bool)).bind fun B =>
    if B then
    some (.ret false)
    else
    b0q xs 
def b4j (A:Str):Option Bool :=
    ((if (bif (decide ((A.length:Int) < 1)) then true else (decide ((A.length:Int) > 40))) then
    some true
    else
    (idx A 0).bind fun H =>
    (a9l (H.toNat:Int)).bind fun I =>
    some (!I):Option Bool)).bind fun G =>
    if G then
    some false
    else
    (b0q (A.drop 1) ).bind fun q => (match q with
    | .ret r => some r
    | .go _ =>
    some true)
def a8f (A:Str):Option Bool :=
    (b4j A).bind fun B =>
    some B
def b0r (A:Str):List o6 → Nat → Option (Fl Int Unit)
  | [],B =>
    some (.go ())
  | D :: xs,B =>
    if (D.Name == A) then
    some (.ret (B:Int))
    else
    b0r A xs (B + 1)
def a4h (E:o7) (A:Str):Option Int :=
    (b0r A E.Tables 0).bind fun q => (match q with
    | .ret r => some r
    | .go _ =>
    some (-1))
def a8g (A:Str):List y7 → Nat → Option (Fl Int Unit)
  | [],B =>
    some (.go ())
  | D :: xs,B =>
    if (D.Name == A) then
    some (.ret (B:Int))
    else
    a8g A xs (B + 1)
def a2g (E:o6) (A:Str):Option Int :=
    (a8g A E.Columns 0).bind fun q => (match q with
    | .ret r => some r
    | .go _ =>
    some (-1))
def b4k (D:o6) (A:a3p):Option Int :=
    (a2g D A.Column).bind fun E =>
    ((if (decide (E ≥ 0)) then
    (idx D.Columns E).bind fun H =>
    some (.go H.Kind)
    else
    if (!(A.Column == [95,117,117,105,100])) then
    some (.ret 11)
    else
    some (.go 4):Option (Fl Int Int))).bind fun q => (match q with
    | .ret r => some r
    | .go B =>
    ((if (decide ((A.Value.length:Int) > 0)) then
    (idx A.Value 0).bind fun I =>
    some (I.Kind != B)
    else
    some false:Option Bool)).bind fun F =>
    if F then
    some 9
    else
    (((a1o A.Func 3 6).bind fun J =>
    if J then
    if (B != 1) then
    some true
    else
    (idx D.Columns E).bind fun K =>
    if (K.Max != 1) then
    some true
    else
    some ((A.Value.length:Int) != 1)
    else
    some false:Option Bool)).bind fun G =>
    if G then
    some 9
    else
    some 0)
def a9m (A:o6):List a3p → Option (Fl Int Unit)
  | [] =>
    some (.go ())
  | E :: xs =>
    (b4k A E).bind fun B =>
    if (B != 0) then
    some (.ret B)
    else
    a9m A xs 
def b3i (A:o6) (D:(List a3p)):Option Int :=
    (a9m A D ).bind fun q => (match q with
    | .ret r => some r
    | .go _ =>
    some 0)
def a7y (D:Nat) (A:(List a2c)) (B:a2c):Nat → Int → Option (Fl Int Unit)
  | 0,_ => none
  | k + 1,E =>
    if (decide (E < (D:Int))) then
    (idx A E).bind fun J =>
    if (J.Column == B.Column) then
    some (.ret 8)
    else
    a7y D A B k (w64 (E + 1))
    else
    some (.go ())
def b0s (G:o6) (A:(List a2c)):List a2c → Nat → Option (Fl Int Unit)
  | [],D =>
    some (.go ())
  | B :: xs,D =>
    (a2g G B.Column).bind fun H =>
    if (decide (H < 0)) then
    some (.ret 11)
    else
    (a7y D A B FUEL 0).bind fun q => (match q with
    | .ret r => some (.ret r)
    | .go _ =>
    (idx G.Columns H).bind fun F =>
    ((if (decide ((B.Value.length:Int) > 0)) then
    (idx B.Value 0).bind fun K =>
    if (K.Kind != F.Kind) then
    some true
    else
    if (decide ((B.Names.length:Int) > 0)) then
    some (F.Kind != 4)
    else
    some false
    else
    if (decide ((B.Names.length:Int) > 0)) then
    some (F.Kind != 4)
    else
    some false:Option Bool)).bind fun I =>
    if I then
    some (.ret 9)
    else
    b0s G A xs (D + 1))
def b4l (G:o6) (A:(List a2c)):Option Int :=
    (b0s G A A 0).bind fun q => (match q with
    | .ret r => some r
    | .go _ =>
    some 0)
def b4m (D:o6) (A:b1v):Option Int :=
    (a2g D A.Column).bind fun E =>
    if (decide (E < 0)) then
    some 11
    else
    (idx D.Columns E).bind fun F =>
    ((if (decide ((A.Value.length:Int) > 0)) then
    (idx A.Value 0).bind fun G =>
    some (G.Kind != F.Kind)
    else
    some false:Option Bool)).bind fun B =>
    if B then
    some 9
    else
    ((some ():Option Unit)).bind fun _ =>
    if (bif (decide (A.Func ≤ 5)) then (bif (F.Kind != 1) then true else ((A.Value.length:Int) != 1)) else false) then
    some 9
    else
    some 0
def a9n (A:o6):List b1v → Option (Fl Int Unit)
  | [] =>
    some (.go ())
  | E :: xs =>
    (b4m A E).bind fun B =>
    if (B != 0) then
    some (.ret B)
    else
    a9n A xs 
def b3j (A:o6) (D:(List b1v)):Option Int :=
    (a9n A D ).bind fun q => (match q with
    | .ret r => some r
    | .go _ =>
    some 0)
def b0t (B:o6):List Str → Option (Fl Int Unit)
  | [] =>
    some (.go ())
  | G :: xs =>
    ((if (!(G == [95,117,117,105,100])) then
    (a2g B G).bind fun J =>
    some (decide (J < 0))
    else
    some false:Option Bool)).bind fun F =>
    if F then
    some (.ret 11)
    else
    b0t B xs 
def b4n (M:o7) (A:GOp):Option Int :=
    if (decide (A.Kind > 6)) then
    ((if (A.Kind == 10) then
    (a8f A.Name).bind fun N =>
    some (!N)
    else
    some false:Option Bool)).bind fun K =>
    if K then
    some 3
    else
    some 0
    else
    (a4h M A.Table).bind fun H =>
    if (decide (H < 0)) then
    some 10
    else
    ((if (bif (A.Kind == 1) then (!(A.Name == [])) else false) then
    (a8f A.Name).bind fun O =>
    some (!O)
    else
    some false:Option Bool)).bind fun I =>
    if I then
    some 3
    else
    (idx M.Tables H).bind fun B =>
    (b0t B A.Columns ).bind fun q => (match q with
    | .ret r => some r
    | .go _ =>
    (b3i B A.Where).bind fun D =>
    if (D != 0) then
    some D
    else
    (b4l B A.Row).bind fun E =>
    if (E != 0) then
    some E
    else
    (b3j B A.Muts).bind fun L =>
    some L)
def a3l (D:Str) (A:a0g):List GOp → Nat → Option (Fl (Int × a0g) Unit)
  | [],B =>
    some (.go ())
  | E :: xs,B =>
    ((if (E.Kind == 1) then
    some (E.Name == D)
    else
    some false:Option Bool)).bind fun F =>
    if F then
    (idx A.Ids (B:Int)).bind fun G =>
    some (.ret (G,A))
    else
    a3l D A xs (B + 1)
def a5y (D:Str) (A:a0g):Option (Int × a0g) :=
    (a3l D A A.Ops 0).bind fun q => (match q with
    | .ret r => some r
    | .go _ =>
    some (0,A))
end Go.R
namespace Go.R
open Go Go.Proofs
set_option maxHeartbeats 8000000
def a1r (A:(List a2c)):List Str → (List o6) → (List (List o8)) → Int → (List GOp) → (List Int) → (List Str) → (List o5) → Option (Fl ((List a2c) × Int × a0g) ((List o6) × (List (List o8)) × Int × (List GOp) × (List Int) × (List Str) × (List o5)))
  | [],F,G,H,I,J,K,L =>
    some (.go (F,G,H,I,J,K,L))
  | Aa :: xs,F,G,H,I,J,K,L =>
    (a5y Aa (⟨(⟨F⟩:o7),(⟨G,H⟩:x9),I,J,K⟩:a0g)).bind fun B =>
    if (B.1 == 0) then
    some (.ret (A,13,B.2))
    else
    (b0j L (⟨4,B.1,[]⟩:o5)).bind fun Ab =>
    a1r A xs  B.2.S.Tables B.2.X.Tables B.2.X.Next B.2.Ops B.2.Ids B.2.Owned Ab
def a3m :List a2c → (List o6) → (List (List o8)) → Int → (List GOp) → (List Int) → (List Str) → (List a2c) → Option (Fl ((List a2c) × Int × a0g) ((List o6) × (List (List o8)) × Int × (List GOp) × (List Int) × (List Str) × (List a2c)))
  | [],M,N,O,P,R,T,A =>
    some (.go (M,N,O,P,R,T,A))
  | D :: xs,M,N,O,P,R,T,A =>
    (a1r A D.Names M N O P R T D.Value).bind fun q => (match q with
    | .ret r => some (.ret r)
    | .go (Ac,Ad,Ae,Af,Ag,Ah,U) =>
    if (A ++ [(⟨D.Column,U,[]⟩:a2c)]).length ≤ 2 ^ 30 then
    a3m xs  Ac Ad Ae Af Ag Ah (A ++ [(⟨D.Column,U,[]⟩:a2c)])
    else none)
def a5z (Y:(List a2c)) (E:a0g):Option ((List a2c) × Int × a0g) :=
    (a3m Y E.S.Tables E.X.Tables E.X.Next E.Ops E.Ids E.Owned []).bind fun q => (match q with
    | .ret r => some r
    | .go (Ai,Aj,Ak,Al,Am,Ao,V) =>
    some (V,0,(⟨(⟨Ai⟩:o7),(⟨Aj,Ak⟩:x9),Al,Am,Ao⟩:a0g)))
def b0u (A:y7):Option (List o5) :=
    if (A.Min == 0) then
    some []
    else
    ((if (A.Kind == 1) then
    some (if (if 0 < A.High then 0 else A.High) > A.Low then (if 0 < A.High then 0 else A.High) else A.Low)
    else
    some 0:Option Int)).bind fun B =>
    some [(⟨A.Kind,B,[]⟩:o5)]
def a9o :List y7 → (List (List o5)) → Option (List (List o5))
  | [],A =>
    some A
  | D :: xs,A =>
    (b0u D).bind fun B =>
    if (A ++ [B]).length ≤ 2 ^ 30 then
    a9o xs  (A ++ [B])
    else none
def b3k (G:o6) (E:Int):Option o8 :=
    (a9o G.Columns []).bind fun F =>
    some (⟨E,F⟩:o8)
def a8h :List (List o5) → (List (List o5)) → Option (List (List o5))
  | [],A =>
    some A
  | B :: xs,A =>
    if ([] ++ B).length ≤ 2 ^ 30 then
    if (A ++ [[] ++ B]).length ≤ 2 ^ 30 then
    a8h xs  (A ++ [[] ++ B])
    else none
    else none
def a4y (D:o8):Option o8 :=
    (a8h D.Cells []).bind fun E =>
    some (⟨D.Id,E⟩:o8)
def b0v (A:y7):List o5 → Option (Fl Int Unit)
  | [] =>
    some (.go ())
  | F :: xs =>
    ((if (A.Kind == 1) then
    (a1o F.N A.Low A.High).bind fun G =>
    some (!G)
    else
    some false:Option Bool)).bind fun D =>
    if D then
    some (.ret 4)
    else
    b0v A xs 
def a8i (A:y7) (B:(List o5)):Option Int :=
    ((if (decide ((B.length:Int) > 0)) then
    (idx B 0).bind fun H =>
    some (H.Kind != A.Kind)
    else
    some false:Option Bool)).bind fun E =>
    if E then
    some 9
    else
    (a1o (B.length:Int) A.Min A.Max).bind fun I =>
    if (!I) then
    some 6
    else
    (b0v A B ).bind fun q => (match q with
    | .ret r => some r
    | .go _ =>
    some 0)
def a8j (E:o6):List a2c → (List (List o5)) → Option (Fl (o8 × Int) (List (List o5)))
  | [],A =>
    some (.go A)
  | D :: xs,A =>
    (a2g E D.Column).bind fun B =>
    (idx E.Columns B).bind fun I =>
    (a8i I D.Value).bind fun F =>
    if (F != 0) then
    some (.ret ((⟨0,[]⟩:o8),F))
    else
    if ([] ++ D.Value).length ≤ 2 ^ 30 then
    if (0:Int) ≤ B ∧ B < (A.length:Int) then
    (A[(0 + B.toNat)]?).bind fun L =>
    a8j E xs  (A.set (0 + B.toNat) ([] ++ D.Value))
    else none
    else none
def a9p (E:o6) (K:o8) (G:(List a2c)):Option (o8 × Int) :=
    (a4y K).bind fun H =>
    (a8j E G H.Cells).bind fun q => (match q with
    | .ret r => some r
    | .go J =>
    some ((⟨H.Id,J⟩:o8),0))
def b2e :List o8 → (List o8) → Option (List o8)
  | [],A =>
    some A
  | F :: xs,A =>
    (a4y F).bind fun E =>
    if (A ++ [E]).length ≤ 2 ^ 30 then
    b2e xs  (A ++ [E])
    else none
def b2f :List (List o8) → (List (List o8)) → Option (List (List o8))
  | [],B =>
    some B
  | G :: xs,B =>
    (b2e G []).bind fun D =>
    if (B ++ [D]).length ≤ 2 ^ 30 then
    b2f xs  (B ++ [D])
    else none
def a7c (I:x9):Option x9 :=
    (b2f I.Tables []).bind fun H =>
    some (⟨H,I.Next⟩:x9)
def a7i (B:(List o8)) (E:o8):Nat → Int → Option Int
  | 0,_ => none
  | k + 1,G =>
    ((if (decide (G < (B.length:Int))) then
    (idx B G).bind fun L =>
    some (decide (L.Id < E.Id))
    else
    some false:Option Bool)).bind fun J =>
    if J then
    a7i B E k (w64 (G + 1))
    else
    some G
def b2g (N:x9) (D:Int) (E:o8):Option x9 :=
    (a7c N).bind fun H =>
    if (0:Int) ≤ D ∧ D < (H.Tables.length:Int) then
    (H.Tables[(0 + D.toNat)]?).bind fun B =>
    (a7i B E FUEL 0).bind fun A =>
    if (0:Int) ≤ A ∧ A ≤ (B.length:Int) then
    ((((if (decide (A < (B.length:Int))) then
    (idx B A).bind fun M =>
    some (M.Id == E.Id)
    else
    some false:Option Bool)).bind fun K =>
    if K then
    if (0:Int) ≤ w64 (A + 1) ∧ w64 (A + 1) ≤ (B.length:Int) then
    some (B.drop ((w64 (A + 1)).toNat))
    else none
    else
    some (B.drop A.toNat):Option (List o8))).bind fun F =>
    if (0:Int) ≤ A ∧ A ≤ (B.length:Int) then
    if ([] ++ (B.take A.toNat)).length ≤ 2 ^ 30 then
    (a4y E).bind fun I =>
    if (([] ++ (B.take A.toNat)) ++ [I]).length ≤ 2 ^ 30 then
    if ((([] ++ (B.take A.toNat)) ++ [I]) ++ F).length ≤ 2 ^ 30 then
    if (0:Int) ≤ D ∧ D < (H.Tables.length:Int) then
    some (⟨H.Tables.set (0 + D.toNat) ((([] ++ (B.take A.toNat)) ++ [I]) ++ F),H.Next⟩:x9)
    else none
    else none
    else none
    else none
    else none
    else none
    else none
def a4z (B:Int) (G:GOp) (A:a0g):Nat → Int → Option (Fl (a1l × a0g) Unit)
  | 0,_ => none
  | k + 1,E =>
    ((if (decide (E < B)) then
    some (!(G.Name == []))
    else
    some false:Option Bool)).bind fun I =>
    if I then
    (((idx A.Ops E).bind fun T =>
    if (T.Kind == 1) then
    (idx A.Ops E).bind fun U =>
    some (U.Name == G.Name)
    else
    some false:Option Bool)).bind fun J =>
    if J then
    some (.ret ((⟨8,0,0,[],[]⟩:a1l),A))
    else
    a4z B G A k (w64 (E + 1))
    else
    some (.go ())
def a6r (B:Int) (H:Int) (K:(List a2c)) (A:a0g):Option (a1l × a0g) :=
    (idx A.Ops B).bind fun G =>
    (a4z B G A FUEL 0).bind fun q => (match q with
    | .ret r => some r
    | .go _ =>
    (idx A.X.Tables H).bind fun V =>
    if ((V.length:Int) == 12) then
    some ((⟨7,0,0,[],[]⟩:a1l),A)
    else
    (((idx A.S.Tables H).bind fun L =>
    (idx A.S.Tables H).bind fun M =>
    (idx A.Ids B).bind fun N =>
    (b3k M N).bind fun O =>
    (a9p L O K).bind fun F =>
    some (F.2,F.1.Id,F.1.Cells):Option (Int × Int × (List (List o5))))).bind fun p99 =>
    (match p99 with
    | (D,Y,Aa) =>
    if (D != 0) then
    some ((⟨D,0,0,[],[]⟩:a1l),A)
    else
    (b2g A.X H (⟨Y,Aa⟩:o8)).bind fun P =>
    (idx A.Ids B).bind fun R =>
    some ((⟨0,0,R,[],[]⟩:a1l),(⟨A.S,P,A.Ops,A.Ids,A.Owned⟩:a0g))))
def b2v (E:o6) (B:o8) (A:Str):Option (List o5) :=
    (a2g E A).bind fun D =>
    if (decide (D < 0)) then
    some [(⟨4,B.Id,[]⟩:o5)]
    else
    (idx B.Cells D).bind fun F =>
    some F
def b0w (A:(List o5)):List o5 → Nat → Option (Fl Bool Unit)
  | [],B =>
    some (.go ())
  | D :: xs,B =>
    (idx A (B:Int)).bind fun E =>
    if (!(D.Kind == E.Kind && (D.N == E.N && (D.T == E.T && true)))) then
    some (.ret false)
    else
    b0w A xs (B + 1)
def a8k (F:(List o5)) (A:(List o5)):Option Bool :=
    if ((F.length:Int) != (A.length:Int)) then
    some false
    else
    (b0w A F 0).bind fun q => (match q with
    | .ret r => some r
    | .go _ =>
    some true)
def a7e (B:(List o5)):List o5 → (List o5) → Option (List o5)
  | [],A =>
    some A
  | D :: xs,A =>
    (b0i B D).bind fun F =>
    if (!F) then
    if (A ++ [D]).length ≤ 2 ^ 30 then
    a7e B xs  (A ++ [D])
    else none
    else
    a7e B xs  A
def a9b (G:(List o5)) (B:(List o5)):Option (List o5) :=
    (a7e B G []).bind fun E =>
    some E
def b0x (I:o6) (J:o8) (A:a3p):Option Bool :=
    (b2v I J A.Column).bind fun B =>
    if (A.Func == 1) then
    (a8k B A.Value).bind fun K =>
    some K
    else
    if (A.Func == 2) then
    (a8k B A.Value).bind fun F =>
    some (!F)
    else
    if (A.Func == 7) then
    (a9b A.Value B).bind fun G =>
    some ((G.length:Int) == 0)
    else
    if (A.Func == 8) then
    (a9b A.Value B).bind fun H =>
    some ((H.length:Int) == (A.Value.length:Int))
    else
    if ((B.length:Int) == 0) then
    some false
    else
    (idx B 0).bind fun D =>
    (idx A.Value 0).bind fun E =>
    if (A.Func == 3) then
    some (decide (D.N < E.N))
    else
    if (A.Func == 4) then
    some (decide (D.N ≤ E.N))
    else
    if (A.Func == 5) then
    some (decide (D.N > E.N))
    else
    some (decide (D.N ≥ E.N))
def a9q (A:o6) (B:o8):List a3p → Option (Fl Bool Unit)
  | [] =>
    some (.go ())
  | E :: xs =>
    (b0x A B E).bind fun F =>
    if (!F) then
    some (.ret false)
    else
    a9q A B xs 
def a8l (A:o6) (B:o8) (D:(List a3p)):Option Bool :=
    (a9q A B D ).bind fun q => (match q with
    | .ret r => some r
    | .go _ =>
    some true)
def b0y (E:o6) (B:o8):List Str → (List (List o5)) → Option (List (List o5))
  | [],A =>
    some A
  | G :: xs,A =>
    (b2v E B G).bind fun D =>
    if ([] ++ D).length ≤ 2 ^ 30 then
    if (A ++ [[] ++ D]).length ≤ 2 ^ 30 then
    b0y E B xs  (A ++ [[] ++ D])
    else none
    else none
def b4o (E:o6) (B:o8) (F:(List Str)):Option o8 :=
    (b0y E B F []).bind fun H =>
    some (⟨B.Id,H⟩:o8)
end Go.R
namespace Go.R
open Go Go.Proofs
set_option maxHeartbeats 8000000
def a2u (A:a0g) (B:Int):Nat → Int → (List Str) → Option (List Str)
  | 0,_,_ => none
  | k + 1,H,I =>
    (idx A.S.Tables B).bind fun M =>
    if (decide (H < (M.Columns.length:Int))) then
    (idx A.S.Tables B).bind fun N =>
    (idx N.Columns H).bind fun J =>
    if (I ++ [J.Name]).length ≤ 2 ^ 30 then
    a2u A B k (w64 (H + 1)) (I ++ [J.Name])
    else none
    else
    some I
def a2v (A:a0g) (B:Int) (D:GOp) (E:(List Str)):Nat → Int → (List o8) → Option (List o8)
  | 0,_,_ => none
  | k + 1,F,G =>
    (idx A.X.Tables B).bind fun O =>
    if (decide (F < (O.length:Int))) then
    (idx A.X.Tables B).bind fun P =>
    (idx P F).bind fun K =>
    (idx A.S.Tables B).bind fun R =>
    (a8l R K D.Where).bind fun T =>
    if T then
    (idx A.S.Tables B).bind fun U =>
    (b4o U K E).bind fun L =>
    if (G ++ [L]).length ≤ 2 ^ 30 then
    a2v A B D E k (w64 (F + 1)) (G ++ [L])
    else none
    else
    a2v A B D E k (w64 (F + 1)) G
    else
    some G
def a4l (D:GOp) (B:Int) (A:a0g):Option (a1l × a0g) :=
    if ([] ++ D.Columns).length ≤ 2 ^ 30 then
    ((if ((([] ++ D.Columns).length:Int) == 0) then
    a2u A B FUEL 0 ([] ++ D.Columns)
    else
    some ([] ++ D.Columns):Option (List Str))).bind fun E =>
    (a2v A B D E FUEL 0 []).bind fun V =>
    some ((⟨0,0,0,E,V⟩:a1l),A)
    else none
def a2h (A:a0g) (B:Int) (E:o8):List a2c → Bool → Option Bool
  | [],F =>
    some F
  | K :: xs,F =>
    if F then
    (idx A.S.Tables B).bind fun O =>
    (a2g O K.Column).bind fun P =>
    (idx E.Cells P).bind fun R =>
    (a8k R K.Value).bind fun T =>
    a2h A B E xs T 
    else
    a2h A B E xs false 
def a2i (A:a0g) (B:Int) (I:GOp) (D:(List a2c)):Nat → Int → Bool → Int → Option (Int × Bool)
  | 0,_,_,_ => none
  | k + 1,J,G,H =>
    (idx A.X.Tables B).bind fun U =>
    if (decide (H < (U.length:Int))) then
    (idx A.X.Tables B).bind fun V =>
    (idx V H).bind fun E =>
    (idx A.S.Tables B).bind fun Y =>
    (a8l Y E I.Where).bind fun Aa =>
    if (!Aa) then
    a2i A B I D k J G (w64 (H + 1))
    else
    (a2h A B E D G).bind fun L =>
    a2i A B I D k (w64 (J + 1)) L (w64 (H + 1))
    else
    some (J,G)
def a8m (I:GOp) (B:Int) (D:(List a2c)) (A:a0g):Option (a1l × a0g) :=
    (a2i A B I D FUEL 0 true 0).bind fun p518 =>
    (match p518 with
    | (Ab,M) =>
    ((if (decide (Ab > 0)) then
    some (!(M == I.Until))
    else
    some (!(false == I.Until)):Option Bool)).bind fun N =>
    if N then
    some ((⟨15,0,0,[],[]⟩:a1l),A)
    else
    some ((⟨0,0,0,[],[]⟩:a1l),A))
def a6i (D:o6) (A:(List a3p)):List o8 → (List Int) → Option (List Int)
  | [],B =>
    some B
  | E :: xs,B =>
    (a8l D E A).bind fun H =>
    if H then
    if (B ++ [E.Id]).length ≤ 2 ^ 30 then
    a6i D A xs  (B ++ [E.Id])
    else none
    else
    a6i D A xs  B
def b4p (D:o6) (F:(List o8)) (A:(List a3p)):Option (List Int) :=
    (a6i D A F []).bind fun G =>
    some G
def a9r (A:Int):List o8 → Nat → Option (Fl Int Unit)
  | [],B =>
    some (.go ())
  | E :: xs,B =>
    if (E.Id == A) then
    some (.ret (B:Int))
    else
    a9r A xs (B + 1)
def a4w (D:(List o8)) (A:Int):Option Int :=
    (a9r A D 0).bind fun q => (match q with
    | .ret r => some r
    | .go _ =>
    some (-1))
def b4q (x:x9) (t k:Int):Option x9 :=
    (a7c x).bind fun y =>
    (idx y.Tables t).bind fun l =>
    if (0 ≤ k ∧ k < (l.length:Int)) ∧ l.length ≤ 1073741824 ∧ t < 1073741824 then
    some ⟨y.Tables.set t.toNat (l.take k.toNat ++ l.drop (k.toNat + 1)),y.Next⟩
    else none
def b0z :List o5 → (List o5) → Option (List o5)
  | [],A =>
    some A
  | E :: xs,A =>
    (a9j A E).bind fun F =>
    b0z xs  F
def b6n (D:(List o5)) (G:(List o5)):Option (List o5) :=
    if ([] ++ D).length ≤ 2 ^ 30 then
    (b0z G ([] ++ D)).bind fun B =>
    some B
    else none
def b2h (D:Int) (B:Int) (A:Int):Option (Int × Bool) :=
    ((if (D == 1) then
    some (.go (w64 (B + A)))
    else
    if (D == 2) then
    some (.go (w64 (B - A)))
    else
    if (D == 3) then
    some (.go (w64 (B * A)))
    else
    if (A == 0) then
    some (.ret (0,false))
    else
    if A ≠ 0 then
    if (D == 5) then
    if A ≠ 0 then
    some (.go (B.tmod A))
    else none
    else
    some (.go (w64 (B.tdiv A)))
    else none:Option (Fl (Int × Bool) Int))).bind fun q => (match q with
    | .ret r => some r
    | .go E =>
    (a1o E (-1000000000) 1000000000).bind fun F =>
    some (E,F))
def a6j (A:b1v):List o5 → (List o5) → Option (Fl ((List o5) × Int) (List o5))
  | [],B =>
    some (.go B)
  | H :: xs,B =>
    (idx A.Value 0).bind fun I =>
    (b2h A.Func H.N I.N).bind fun E =>
    if (!E.2) then
    some (.ret ([],4))
    else
    (a9j B (⟨1,E.1,[]⟩:o5)).bind fun J =>
    a6j A xs  J
def b2i (M:y7) (G:(List o5)) (A:b1v):Option ((List o5) × Int) :=
    ((if (A.Func == 6) then
    (b6n G A.Value).bind fun K =>
    some (.go K)
    else
    if (A.Func == 7) then
    (a9b G A.Value).bind fun L =>
    some (.go L)
    else
    a6j A G []:Option (Fl ((List o5) × Int) (List o5)))).bind fun q => (match q with
    | .ret r => some r
    | .go D =>
    (a8i M D).bind fun F =>
    if (F != 0) then
    some ([],F)
    else
    some (D,0))
def a9s (D:o6):List b1v → (List (List o5)) → Option (Fl (o8 × Int) (List (List o5)))
  | [],B =>
    some (.go B)
  | F :: xs,B =>
    (a2g D F.Column).bind fun A =>
    (idx D.Columns A).bind fun I =>
    if (0:Int) ≤ A ∧ A < (B.length:Int) then
    (B[(0 + A.toNat)]?).bind fun J =>
    (b2i I J F).bind fun E =>
    if (E.2 != 0) then
    some (.ret ((⟨0,[]⟩:o8),E.2))
    else
    if (0:Int) ≤ A ∧ A < (B.length:Int) then
    a9s D xs  (B.set (0 + A.toNat) E.1)
    else none
    else none
def b5u (D:o6) (L:o8) (G:(List b1v)):Option (o8 × Int) :=
    (a4y L).bind fun H =>
    (a9s D G H.Cells).bind fun q => (match q with
    | .ret r => some r
    | .go K =>
    some ((⟨H.Id,K⟩:o8),0))
def a2j (D:Int) (I:(List Int)) (G:GOp) (A:a0g) (E:(List a2c)):List Int → Nat → (List (List o8)) → Int → Option (Fl (a1l × a0g) ((List (List o8)) × Int))
  | [],H,B,F =>
    some (.go (B,F))
  | R :: xs,H,B,F =>
    (idx B D).bind fun T =>
    if H < I.length then
    (a4w T R).bind fun K =>
    if (G.Kind == 5) then
    (b4q (⟨B,F⟩:x9) D K).bind fun O =>
    a2j D I G A E xs (H + 1) O.Tables O.Next
    else
    (((idx A.S.Tables D).bind fun U =>
    (idx B D).bind fun V =>
    (idx V K).bind fun Y =>
    (a9p U Y E).bind fun L =>
    some (L.2,L.1.Id,L.1.Cells):Option (Int × Int × (List (List o5))))).bind fun p220 =>
    (match p220 with
    | (N,Aa,Ab) =>
    ((if (G.Kind == 4) then
    (idx A.S.Tables D).bind fun Ac =>
    (idx B D).bind fun Ad =>
    (idx Ad K).bind fun Ae =>
    (b5u Ac Ae G.Muts).bind fun M =>
    some (M.2,M.1.Id,M.1.Cells)
    else
    some (N,Aa,Ab):Option (Int × Int × (List (List o5))))).bind fun p241 =>
    (match p241 with
    | (J,Af,Ag) =>
    if (J != 0) then
    some (.ret ((⟨J,0,0,[],[]⟩:a1l),(⟨A.S,(⟨B,F⟩:x9),A.Ops,A.Ids,A.Owned⟩:a0g)))
    else
    (b2g (⟨B,F⟩:x9) D (⟨Af,Ag⟩:o8)).bind fun P =>
    a2j D I G A E xs (H + 1) P.Tables P.Next))
    else none
def a6s (G:GOp) (D:Int) (E:(List a2c)) (A:a0g):Option (a1l × a0g) :=
    (idx A.S.Tables D).bind fun Aj =>
    (idx A.X.Tables D).bind fun Ak =>
    (b4p Aj Ak G.Where).bind fun I =>
    (a2j D I G A E I 0 A.X.Tables A.X.Next).bind fun q => (match q with
    | .ret r => some r
    | .go (Ah,Ai) =>
    some ((⟨0,(I.length:Int),0,[],[]⟩:a1l),(⟨A.S,(⟨Ah,Ai⟩:x9),A.Ops,A.Ids,A.Owned⟩:a0g)))
def a4b (A:GOp) (D:a0g):List Str → Option (Fl (a1l × a0g) Unit)
  | [] =>
    some (.go ())
  | M :: xs =>
    if (M == A.Name) then
    some (.ret ((⟨0,0,0,[],[]⟩:a1l),D))
    else
    a4b A D xs 
def a7j (K:Int) (D:a0g):Option (a1l × a0g) :=
    (idx D.Ops K).bind fun A =>
    (b4n D.S A).bind fun L =>
    if (L != 0) then
    some ((⟨L,0,0,[],[]⟩:a1l),D)
    else
    ((if (A.Kind == 7) then
    some true
    else
    some (A.Kind == 9):Option Bool)).bind fun J =>
    if J then
    some ((⟨0,0,0,[],[]⟩:a1l),D)
    else
    if (A.Kind == 8) then
    some ((⟨16,0,0,[],[]⟩:a1l),D)
    else
    if (A.Kind == 10) then
    (a4b A D D.Owned ).bind fun q => (match q with
    | .ret r => some r
    | .go _ =>
    some ((⟨14,0,0,[],[]⟩:a1l),D))
    else
    (a4h D.S A.Table).bind fun E =>
    (a5z A.Row D).bind fun B =>
    if (B.2.1 != 0) then
    some ((⟨B.2.1,0,0,[],[]⟩:a1l),B.2.2)
    else
    if (A.Kind == 1) then
    (a6r K E B.1 B.2.2).bind fun F =>
    some (F.1,F.2)
    else
    if (A.Kind == 2) then
    (a4l A E B.2.2).bind fun G =>
    some (G.1,G.2)
    else
    if (A.Kind == 6) then
    (a8m A E B.1 B.2.2).bind fun H =>
    some (H.1,H.2)
    else
    (a6s A E B.1 B.2.2).bind fun I =>
    some (I.1,I.2)
def a8n (B:Int) (E:Int):List o8 → Int → Option Int
  | [],H =>
    some H
  | M :: xs,H =>
    (idx M.Cells B).bind fun N =>
    (b0i N (⟨4,E,[]⟩:o5)).bind fun O =>
    (a8e O).bind fun P =>
    a8n B E xs (w64 (H + P)) 
def a8o (G:o7) (D:Nat) (A:Int) (E:Int) (F:(List o8)):Nat → Int → Int → Option Int
  | 0,_,_ => none
  | k + 1,I,B =>
    (idx G.Tables (D:Int)).bind fun R =>
    if (decide (B < (R.Columns.length:Int))) then
    (idx G.Tables (D:Int)).bind fun S =>
    (idx S.Columns B).bind fun K =>
    ((if (!K.Strong) then
    some true
    else
    (idx G.Tables A).bind fun T =>
    some (!(K.Ref == T.Name)):Option Bool)).bind fun L =>
    if L then
    a8o G D A E F k I (w64 (B + 1))
    else
    (a8n B E F I).bind fun U =>
    a8o G D A E F k U (w64 (B + 1))
    else
    some I
def a8p (G:o7) (A:Int) (E:Int):List (List o8) → Int → Nat → Option Int
  | [],J,D =>
    some J
  | F :: xs,J,D =>
    (a8o G D A E F FUEL J 0).bind fun V =>
    a8p G A E xs V (D + 1)
def a5a (G:o7) (Aa:x9) (A:Int) (E:Int):Option Int :=
    (a8p G A E Aa.Tables 0 0).bind fun Y =>
    some Y
def d4b (a:o5):b3b:=(a.Kind,a.N,a.T)
def c8b (a:b3b):o5:=⟨a.1,a.2.1,a.2.2⟩
def gRow (r:a1n):o8:=⟨r.1,r.2.map (List.map c8b)⟩
def b9l (r:o8):a1n:=(r.Id,r.Cells.map (List.map d4b))
def c2g (t:o6):b7i:=⟨t.Name,t.Columns.map (fun c => ⟨c.Name,c.Kind,c.Min,c.Max,c.Low,c.High,c.Ref,c.Strong⟩),t.Unique,t.Root⟩
def b3l (s:o7) (x:x9):Option x9 :=
    (c5g (s.Tables.map c2g) (fun ts i id => a5a s ⟨ts.map (List.map gRow),x.Next⟩ (i:Int) id) (fun ts => (a7c ⟨ts.map (List.map gRow),x.Next⟩).bind fun y => if y.Next = x.Next then some (y.Tables.map (List.map b9l)) else none) (fun rf => a4h s rf) (fun rows n => a4w (rows.map gRow) n) (x.Tables.map (List.map b9l))).bind fun r =>
    some (⟨r.map (List.map gRow),x.Next⟩:x9)
theorem e7z (t:List a1n):b6b t = .lst 2 ((t.map gRow).map y8):=by
  simp [b6b,a2m,d1c,y8,gRow,b8e,eA,l9,c8b,Function.comp_def]
theorem e1r (ts:List (List a1n)) (n:Int):a0o ⟨ts.map (List.map gRow),n⟩ = .agg [a3t ts,.I n]:=by
  simp [a0o,a3t,a2m,e7z,Function.comp_def]
theorem e8a (T:List (List o8)) (n:Int):a0o ⟨T,n⟩ = .agg [a3t (T.map (List.map b9l)),.I n]:=by
  simp [a0o,a3t,b6b,a2m,d1c,y8,b9l,b8e,eA,l9,d4b,Function.comp_def]
theorem e1s (s:o7):a0s s = c2f (s.Tables.map c2g):=by
  simp [a0s,c2f,eTb,eCol,c2g,a0c,a0n,encI,Function.comp_def]
end Go.R
namespace Go.R
open Go Go.Proofs
set_option maxHeartbeats 8000000
def b1a (D:(List o8)):List o5 → Option (Fl Bool Unit)
  | [] =>
    some (.go ())
  | I :: xs =>
    (a4w D I.N).bind fun J =>
    if (decide (J < 0)) then
    some (.ret false)
    else
    b1a D xs 
def b1b (A:Int) (D:(List o8)):List o8 → Option (Fl Bool Unit)
  | [] =>
    some (.go ())
  | K :: xs =>
    (idx K.Cells A).bind fun L =>
    (b1a D L ).bind fun q => (match q with
    | .ret r => some (.ret r)
    | .go _ =>
    b1b A D xs )
def a7z (F:o7) (B:Nat) (G:x9) (E:(List o8)):Nat → Int → Option (Fl Bool Unit)
  | 0,_ => none
  | k + 1,A =>
    (idx F.Tables (B:Int)).bind fun M =>
    if (decide (A < (M.Columns.length:Int))) then
    (idx F.Tables (B:Int)).bind fun O =>
    (idx O.Columns A).bind fun H =>
    if (H.Kind != 4) then
    a7z F B G E k (w64 (A + 1))
    else
    (a4h F H.Ref).bind fun P =>
    (idx G.Tables P).bind fun D =>
    (b1b A D E ).bind fun q => (match q with
    | .ret r => some (.ret r)
    | .go _ =>
    a7z F B G E k (w64 (A + 1)))
    else
    some (.go ())
def b1c (F:o7) (G:x9):List (List o8) → Nat → Option (Fl Bool Unit)
  | [],B =>
    some (.go ())
  | E :: xs,B =>
    (a7z F B G E FUEL 0).bind fun q => (match q with
    | .ret r => some (.ret r)
    | .go _ =>
    b1c F G xs (B + 1))
def b6o (F:o7) (G:x9):Option Bool :=
    (b1c F G G.Tables 0).bind fun q => (match q with
    | .ret r => some r
    | .go _ =>
    some true)
def a3g (A:(List o8)) (B:Int) (E:Int):List Int → Bool → Option Bool
  | [],F =>
    some F
  | H :: xs,F =>
    if F then
    (idx A B).bind fun K =>
    (idx K.Cells H).bind fun L =>
    (idx A E).bind fun M =>
    (idx M.Cells H).bind fun N =>
    (a8k L N).bind fun O =>
    a3g A B E xs O 
    else
    a3g A B E xs false 
def a3y (B:Int) (A:(List o8)) (D:o6):Nat → Int → Option (Fl Bool Unit)
  | 0,_ => none
  | k + 1,E =>
    if (decide (E < B)) then
    (a3g A B E D.Unique true).bind fun I =>
    if I then
    some (.ret false)
    else
    a3y B A D k (w64 (E + 1))
    else
    some (.go ())
def a2w (A:(List o8)) (D:o6):Nat → Int → Option (Fl Bool Unit)
  | 0,_ => none
  | k + 1,B =>
    ((some ():Option Unit)).bind fun _ =>
    if (bif (decide (B < (A.length:Int))) then (decide ((D.Unique.length:Int) > 0)) else false) then
    (a3y B A D FUEL 0).bind fun q => (match q with
    | .ret r => some (.ret r)
    | .go _ =>
    a2w A D k (w64 (B + 1)))
    else
    some (.go ())
def a3z (J:o7):List (List o8) → Nat → Option (Fl Bool Unit)
  | [],G =>
    some (.go ())
  | A :: xs,G =>
    (idx J.Tables (G:Int)).bind fun D =>
    (a2w A D FUEL 0).bind fun q => (match q with
    | .ret r => some (.ret r)
    | .go _ =>
    a3z J xs (G + 1))
def b4r (J:o7) (P:x9):Option Bool :=
    (a3z J P.Tables 0).bind fun q => (match q with
    | .ret r => some r
    | .go _ =>
    some true)
def b2j (A:o7) (B:x9):Option Int :=
    (b6o A B).bind fun D =>
    if (!D) then
    some 13
    else
    (b4r A B).bind fun E =>
    if (!E) then
    some 12
    else
    some 0
def a5f (D:x9):List GOp → Nat → (List o6) → (List (List o8)) → Int → (List GOp) → (List Int) → (List Str) → (List a1l) → Option (Fl (x9 × (List a1l) × Bool) ((List o6) × (List (List o8)) × Int × (List GOp) × (List Int) × (List Str) × (List a1l)))
  | [],H,I,J,K,L,M,N,B =>
    some (.go (I,J,K,L,M,N,B))
  | Af :: xs,H,I,J,K,L,M,N,B =>
    (a7j (H:Int) (⟨(⟨I⟩:o7),(⟨J,K⟩:x9),L,M,N⟩:a0g)).bind fun A =>
    if (B ++ [A.1]).length ≤ 2 ^ 30 then
    if (A.1.Code != 0) then
    some (.ret (D,B ++ [A.1],false))
    else
    a5f D xs (H + 1) A.2.S.Tables A.2.X.Tables A.2.X.Next A.2.Ops A.2.Ids A.2.Owned (B ++ [A.1])
    else none
def a6t :List Int → Int → Option Int
  | [],F =>
    some F
  | R :: xs,F =>
    a6t xs  (if w64 (R + 1) > F then w64 (R + 1) else F)
def a7f (T:o7) (D:x9) (G:(List GOp)) (P:(List Str)):Option (x9 × (List a1l) × Bool) :=
    (b7n G D.Next).bind fun Ae =>
    (a5f D G 0 T.Tables D.Tables D.Next G Ae P []).bind fun q => (match q with
    | .ret r => some r
    | .go (Ag,Aa,Ab,Ah,Ac,Ai,E) =>
    (((b3l T (⟨Aa,Ab⟩:x9)).bind fun U =>
    some (U.Tables,U.Next):Option ((List (List o8)) × Int))).bind fun p67 =>
    (match p67 with
    | (V,Ad) =>
    (a6t Ac Ad).bind fun Y =>
    (b2j T (⟨V,Y⟩:x9)).bind fun O =>
    if (O != 0) then
    if (E ++ [(⟨O,0,0,[],[]⟩:a1l)]).length ≤ 2 ^ 30 then
    some (D,E ++ [(⟨O,0,0,[],[]⟩:a1l)],false)
    else none
    else
    some ((⟨V,Y⟩:x9),E,true)))
def a3h (A:(List Int)):Option x8 :=
    some (⟨A,0,(A.length:Int).tmod 1000⟩:x8)
def a9g (A:Int) (B:x8):Option (Int × x8) :=
    some ((if A < w64 (1 + (w64 ((B.Code.length:Int).tdiv 12))) then A else w64 (1 + (w64 ((B.Code.length:Int).tdiv 12)))),B)
def a1k (A:x8):Option (Int × x8) :=
    if (decide (w64 (A.At + 1) ≤ (A.Code.length:Int))) then
    (idx A.Code (w64 ((w64 (A.At + 1)) - 1))).bind fun B =>
    (idx A.Code (w64 ((w64 (A.At + 1)) - 1))).bind fun D =>
    some (w64 D,(⟨A.Code,w64 (A.At + 1),(w64 ((w64 ((w64 (A.Seed * 31)) + (w64 B))) + 7)).tmod 2147483648⟩:x8))
    else
    if (decide (w64 (A.At + 1) > 3000)) then
    some (0,(⟨A.Code,w64 (A.At + 1),A.Seed⟩:x8))
    else
    some ((w64 (((w64 ((w64 (A.Seed * 1103515245)) + 12345)).tmod 2147483648).tdiv 65536)).tmod 256,(⟨A.Code,w64 (A.At + 1),(w64 ((w64 (A.Seed * 1103515245)) + 12345)).tmod 2147483648⟩:x8))
def y9 (A:Int) (B:x8):Option (Int × x8) :=
    if (decide (A ≤ 1)) then
    some (0,B)
    else
    if (decide (A ≤ 256)) then
    (a1k B).bind fun F =>
    if A ≠ 0 then
    some (F.1.tmod A,F.2)
    else none
    else
    (a1k B).bind fun G =>
    (a1k G.2).bind fun D =>
    (a1k D.2).bind fun E =>
    if A ≠ 0 then
    some ((w64 ((w64 ((w64 (G.1 * 65536)) + (w64 (D.1 * 256)))) + E.1)).tmod A,E.2)
    else none
def a0e (A:Int) (D:x8):Option (Bool × x8) :=
    (y9 A D).bind fun B =>
    some ((B.1 == w64 (A - 1)),B.2)
def a1c (A:(List Str)) (B:x8):Option (Str × x8) :=
    if ((A.length:Int) == 0) then
    some ([],B)
    else
    (y9 (A.length:Int) B).bind fun D =>
    (idx A D.1).bind fun E =>
    some (E,D.2)
def a1d (A:Int) (B:x8):Option (o5 × x8) :=
    if (A == 1) then
    (y9 12 B).bind fun F =>
    some ((⟨A,w64 (F.1 - 4),[]⟩:o5),F.2)
    else
    if (A == 2) then
    (a1c [[],[97],[98],[99],[110,101,116]] B).bind fun G =>
    some ((⟨A,0,G.1⟩:o5),G.2)
    else
    if (A == 3) then
    (y9 2 B).bind fun D =>
    some ((⟨A,D.1,[]⟩:o5),D.2)
    else
    (y9 6 B).bind fun E =>
    some ((⟨4,w64 (1 + E.1),[]⟩:o5),E.2)
def a4m (A:Int):Nat → (List o5) → Int → (List Int) → Int → Int → Option ((List o5) × (List Int) × Int × Int)
  | 0,_,_,_,_,_ => none
  | k + 1,D,F,G,H,I =>
    if (decide (F > 0)) then
    (a1d A (⟨G,H,I⟩:x8)).bind fun B =>
    (b0j D B.1).bind fun K =>
    a4m A k K (w64 (F - 1)) B.2.Code B.2.At B.2.Seed
    else
    some (D,G,H,I)
def a2x (A:Int) (O:x8):Option ((List o5) × x8) :=
    (y9 5 O).bind fun E =>
    (a4m A FUEL [] E.1 E.2.Code E.2.At E.2.Seed).bind fun p34 =>
    (match p34 with
    | (J,L,M,N) =>
    some (J,(⟨L,M,N⟩:x8)))
def a2k :List y7 → Nat → (List Int) → Int → Int → (List a2c) → Option ((List Int) × Int × Int × (List a2c))
  | [],F,K,L,M,A =>
    some (K,L,M,A)
  | G :: xs,F,K,L,M,A =>
    (((a0e 2 (⟨K,L,M⟩:x8)).bind fun B =>
    if (!B.1) then
    some ((decide ((F:Int) > 0)),B.2.Code,B.2.At,B.2.Seed)
    else
    some (false,B.2.Code,B.2.At,B.2.Seed):Option (Bool × (List Int) × Int × Int))).bind fun p200 =>
    (match p200 with
    | (Ab,O,P,S) =>
    if Ab then
    a2k xs (F + 1) O P S A
    else
    (((a1d G.Kind (⟨O,P,S⟩:x8)).bind fun H =>
    some (H.2.Code,H.2.At,H.2.Seed,[H.1]):Option ((List Int) × Int × Int × (List o5)))).bind fun p211 =>
    (match p211 with
    | (T,U,V,Ae) =>
    ((if (G.Kind == 4) then
    (a0e 2 (⟨T,U,V⟩:x8)).bind fun N =>
    if N.1 then
    (a1c [[112],[113]] N.2).bind fun I =>
    some (I.2.Code,I.2.At,I.2.Seed,[],[I.1])
    else
    (a0e 2 N.2).bind fun D =>
    if D.1 then
    (a2x 4 D.2).bind fun J =>
    some (J.2.Code,J.2.At,J.2.Seed,J.1,[])
    else
    some (D.2.Code,D.2.At,D.2.Seed,[],[])
    else
    some (T,U,V,Ae,[]):Option ((List Int) × Int × Int × (List o5) × (List Str)))).bind fun p230 =>
    (match p230 with
    | (Af,Ag,Ah,Y,Aa) =>
    if (A ++ [(⟨G.Name,Y,Aa⟩:a2c)]).length ≤ 2 ^ 30 then
    a2k xs (F + 1) Af Ag Ah (A ++ [(⟨G.Name,Y,Aa⟩:a2c)])
    else none)))
def a2a (E:Int) (Ad:x8):Option ((List a2c) × x8) :=
    (a3c).bind fun Al =>
    if (0:Int) ≤ E ∧ E < (Al.Tables.length:Int) then
    (Al.Tables[(0 + E.toNat)]?).bind fun Am =>
    (a2k Am.Columns 0 Ad.Code Ad.At Ad.Seed []).bind fun p183 =>
    (match p183 with
    | (Ai,Aj,Ak,Ac) =>
    some (Ac,(⟨Ai,Aj,Ak⟩:x8)))
    else none
end Go.R
namespace Go.R
open Go Go.Proofs
set_option maxHeartbeats 8000000
def a6u (O:Int) (Av:x8):Option (a3p × x8) :=
    (a3c).bind fun Aw =>
    (idx Aw.Tables O).bind fun Ai =>
    (a0e 8 Av).bind fun R =>
    if R.1 then
    (y9 4 R.2).bind fun E =>
    if (0:Int) ≤ E.1 ∧ E.1 < (4:Int) then
    ([(1:Int),(2:Int),(7:Int),(8:Int)][(0 + E.1.toNat)]?).bind fun Aj =>
    (a1d 4 E.2).bind fun S =>
    some ((⟨[95,117,117,105,100],Aj,[S.1]⟩:a3p),S.2)
    else none
    else
    (((y9 (Ai.Columns.length:Int) R.2).bind fun F =>
    (idx Ai.Columns F.1).bind fun A =>
    some (F.2.Code,F.2.At,F.2.Seed,A.Name,A.Kind,A.Min,A.Max,A.Low,A.High,A.Ref,A.Strong):Option ((List Int) × Int × Int × Str × Int × Int × Int × Int × Int × Str × Bool))).bind fun p33 =>
    (match p33 with
    | (Ak,Al,Am,T,G,Ax,Ay,Az,A0,A1,A2) =>
    (((y9 4 (⟨Ak,Al,Am⟩:x8)).bind fun H =>
    if (0:Int) ≤ H.1 ∧ H.1 < (4:Int) then
    ([(1:Int),(2:Int),(7:Int),(8:Int)][(0 + H.1.toNat)]?).bind fun Ao =>
    (a2x G H.2).bind fun I =>
    some (I.2.Code,I.2.At,I.2.Seed,Ao,I.1)
    else none:Option ((List Int) × Int × Int × Int × (List o5)))).bind fun p51 =>
    (match p51 with
    | (U,V,Y,Ap,Aq) =>
    ((((if (G == 1) then
    (a0e 2 (⟨U,V,Y⟩:x8)).bind fun J =>
    some (J.1,J.2.Code,J.2.At,J.2.Seed)
    else
    some (false,U,V,Y):Option (Bool × (List Int) × Int × Int))).bind fun p85 =>
    (match p85 with
    | (Aa,Ab,Ac,Ad) =>
    if Aa then
    (y9 4 (⟨Ab,Ac,Ad⟩:x8)).bind fun K =>
    some (K.2.Code,K.2.At,K.2.Seed,w64 (3 + K.1))
    else
    some (Ab,Ac,Ad,Ap)):Option ((List Int) × Int × Int × Int))).bind fun p77 =>
    (match p77 with
    | (Ar,As,Au,L) =>
    (((a0e 2 (⟨Ar,As,Au⟩:x8)).bind fun B =>
    if B.1 then
    (a1d G B.2).bind fun D =>
    some (D.2.Code,D.2.At,D.2.Seed,[D.1])
    else
    some (B.2.Code,B.2.At,B.2.Seed,Aq):Option ((List Int) × Int × Int × (List o5)))).bind fun p101 =>
    (match p101 with
    | (Ae,Af,Ag,M) =>
    (((a1o L 3 6).bind fun Ah =>
    if Ah then
    some ((M.length:Int) != 1)
    else
    some false:Option Bool)).bind fun P =>
    if P then
    (a1d G (⟨Ae,Af,Ag⟩:x8)).bind fun N =>
    some ((⟨T,L,[N.1]⟩:a3p),N.2)
    else
    some ((⟨T,L,M⟩:a3p),(⟨Ae,Af,Ag⟩:x8))))))
def a4n (A:Int):Nat → Int → (List Int) → Int → Int → (List a3p) → Option ((List Int) × Int × Int × (List a3p))
  | 0,_,_,_,_,_ => none
  | k + 1,F,G,H,I,B =>
    if (decide (F > 0)) then
    (a6u A (⟨G,H,I⟩:x8)).bind fun D =>
    if (B ++ [D.1]).length ≤ 2 ^ 30 then
    a4n A k (w64 (F - 1)) D.2.Code D.2.At D.2.Seed (B ++ [D.1])
    else none
    else
    some (G,H,I,B)
def a4o (A:Int) (N:x8):Option ((List a3p) × x8) :=
    (y9 3 N).bind fun E =>
    (a4n A FUEL E.1 E.2.Code E.2.At E.2.Seed []).bind fun p31 =>
    (match p31 with
    | (K,L,M,J) =>
    some (J,(⟨K,L,M⟩:x8)))
def a7k (J:Int) (Ar:x8):Option (b1v × x8) :=
    (a3c).bind fun As =>
    (idx As.Tables J).bind fun I =>
    (((y9 (I.Columns.length:Int) Ar).bind fun E =>
    (idx I.Columns E.1).bind fun A =>
    some (E.2.Code,E.2.At,E.2.Seed,A.Name,A.Kind,A.Min,A.Max,A.Low,A.High,A.Ref,A.Strong):Option ((List Int) × Int × Int × Str × Int × Int × Int × Int × Int × Str × Bool))).bind fun p23 =>
    (match p23 with
    | (Aa,Ab,Ac,Ad,Ae,Af,Ag,Ah,Ai,Aj,Ak) =>
    (((a0e 2 (⟨Aa,Ab,Ac⟩:x8)).bind fun D =>
    if D.1 then
    (y9 2 D.2).bind fun F =>
    (idx I.Columns (w64 ((w64 ((I.Columns.length:Int) - 1)) - F.1))).bind fun B =>
    some (F.2.Code,F.2.At,F.2.Seed,B.Name,B.Kind,B.Min,B.Max,B.Low,B.High,B.Ref,B.Strong)
    else
    some (D.2.Code,D.2.At,D.2.Seed,Ad,Ae,Af,Ag,Ah,Ai,Aj,Ak):Option ((List Int) × Int × Int × Str × Int × Int × Int × Int × Int × Str × Bool))).bind fun p48 =>
    (match p48 with
    | (Al,Am,Ao,K,L,Au,Av,Aw,Ax,Ay,Az) =>
    (((y9 2 (⟨Al,Am,Ao⟩:x8)).bind fun M =>
    (a2x L M.2).bind fun G =>
    some (G.2.Code,G.2.At,G.2.Seed,w64 (6 + M.1),G.1):Option ((List Int) × Int × Int × Int × (List o5)))).bind fun p66 =>
    (match p66 with
    | (N,O,P,Ap,Aq) =>
    ((if (L == 1) then
    (a0e 4 (⟨N,O,P⟩:x8)).bind fun H =>
    some ((!H.1),H.2.Code,H.2.At,H.2.Seed)
    else
    some (false,N,O,P):Option (Bool × (List Int) × Int × Int))).bind fun p78 =>
    (match p78 with
    | (R,S,T,U) =>
    if R then
    (y9 5 (⟨S,T,U⟩:x8)).bind fun V =>
    (y9 9 V.2).bind fun Y =>
    some ((⟨K,w64 (1 + V.1),[(⟨1,w64 (Y.1 - 3),[]⟩:o5)]⟩:b1v),Y.2)
    else
    some ((⟨K,Ap,Aq⟩:b1v),(⟨S,T,U⟩:x8))))))
def a2n :List y7 → (List Int) → Int → Int → (List Str) → Option ((List Int) × Int × Int × (List Str))
  | [],F,G,H,A =>
    some (F,G,H,A)
  | J :: xs,F,G,H,A =>
    (a0e 2 (⟨F,G,H⟩:x8)).bind fun B =>
    if B.1 then
    if (A ++ [J.Name]).length ≤ 2 ^ 30 then
    a2n xs  B.2.Code B.2.At B.2.Seed (A ++ [J.Name])
    else none
    else
    a2n xs  B.2.Code B.2.At B.2.Seed A
def a4d (D:Int) (K:x8):Option ((List Str) × x8) :=
    (a3c).bind fun L =>
    if (0:Int) ≤ D ∧ D < (L.Tables.length:Int) then
    (L.Tables[(0 + D.toNat)]?).bind fun P =>
    (a2n P.Columns K.Code K.At K.Seed []).bind fun p47 =>
    (match p47 with
    | (M,N,O,E) =>
    (a0e 3 (⟨M,N,O⟩:x8)).bind fun I =>
    if I.1 then
    if (E ++ [[95,117,117,105,100]]).length ≤ 2 ^ 30 then
    some (E ++ [[95,117,117,105,100]],I.2)
    else none
    else
    some (E,I.2))
    else none
def a6a (B:(Int × x8)):Nat → Int → (List Int) → Int → Int → (List b1v) → Option ((List Int) × Int × Int × (List b1v))
  | 0,_,_,_,_,_ => none
  | k + 1,O,P,R,S,N =>
    if (decide (O > 0)) then
    (a7k B.1 (⟨P,R,S⟩:x8)).bind fun I =>
    if (N ++ [I.1]).length ≤ 2 ^ 30 then
    a6a B k (w64 (O - 1)) I.2.Code I.2.At I.2.Seed (N ++ [I.1])
    else none
    else
    some (P,R,S,N)
def a8q (Ak:x8):Option (GOp × x8) :=
    (y9 3 Ak).bind fun B =>
    (y9 10 B.2).bind fun Ac =>
    (y9 7 Ac.2).bind fun J =>
    if (0:Int) ≤ J.1 ∧ J.1 < (7:Int) then
    ([(1:Int),(1:Int),(3:Int),(4:Int),(2:Int),(5:Int),w64 (1 + Ac.1)][(0 + J.1.toNat)]?).bind fun A =>
    (((a1o A 1 6).bind fun Ad =>
    if Ad then
    if (0:Int) ≤ B.1 ∧ B.1 < (3:Int) then
    ([[110,111,116,101],[112,111,114,116],[115,119,105,116,99,104]][(0 + B.1.toNat)]?).bind fun Ae =>
    some Ae
    else none
    else
    some []:Option Str)).bind fun D =>
    (((a1o A 2 6).bind fun Af =>
    if Af then
    (a4o B.1 J.2).bind fun K =>
    some (K.2.Code,K.2.At,K.2.Seed,K.1)
    else
    some (J.2.Code,J.2.At,J.2.Seed,[]):Option ((List Int) × Int × Int × (List a3p)))).bind fun p34 =>
    (match p34 with
    | (F,G,H,E) =>
    if (A == 1) then
    (a2a B.1 (⟨F,G,H⟩:x8)).bind fun T =>
    (a1c [[],[112],[113]] T.2).bind fun U =>
    some ((⟨A,D,U.1,E,T.1,[],[],false⟩:GOp),U.2)
    else
    ((if (A == 3) then
    some true
    else
    some (A == 6):Option Bool)).bind fun V =>
    if V then
    (a2a B.1 (⟨F,G,H⟩:x8)).bind fun L =>
    if (A == 6) then
    (a0e 2 L.2).bind fun Y =>
    some ((⟨A,D,[],E,L.1,[],[],Y.1⟩:GOp),Y.2)
    else
    some ((⟨A,D,[],E,L.1,[],[],false⟩:GOp),L.2)
    else
    if (A == 4) then
    (y9 2 (⟨F,G,H⟩:x8)).bind fun M =>
    (a6a B FUEL (w64 (1 + M.1)) M.2.Code M.2.At M.2.Seed []).bind fun p84 =>
    (match p84 with
    | (Ag,Ah,Ai,Aj) =>
    some ((⟨A,D,[],E,[],Aj,[],false⟩:GOp),(⟨Ag,Ah,Ai⟩:x8)))
    else
    if (A == 2) then
    (a4d B.1 (⟨F,G,H⟩:x8)).bind fun Aa =>
    some ((⟨A,D,[],E,[],[],Aa.1,false⟩:GOp),Aa.2)
    else
    if (A == 9) then
    some ((⟨A,D,[115,97,105,100],E,[],[],[],false⟩:GOp),(⟨F,G,H⟩:x8))
    else
    if (A == 10) then
    (a1c [[108,111,99,107],[111,116,104,101,114]] (⟨F,G,H⟩:x8)).bind fun Ab =>
    some ((⟨A,D,Ab.1,E,[],[],[],false⟩:GOp),Ab.2)
    else
    some ((⟨A,D,[],E,[],[],[],false⟩:GOp),(⟨F,G,H⟩:x8)))
    else none
def a2q :Nat → Int → (List Int) → Int → Int → (List GOp) → Option ((List Int) × Int × Int × (List GOp))
  | 0,_,_,_,_,_ => none
  | k + 1,H,I,J,K,B =>
    if (decide (H > 0)) then
    (a8q (⟨I,J,K⟩:x8)).bind fun D =>
    if (B ++ [D.1]).length ≤ 2 ^ 30 then
    a2q k (w64 (H - 1)) D.2.Code D.2.At D.2.Seed (B ++ [D.1])
    else none
    else
    some (I,J,K,B)
def a7l (V:x8):Option ((List GOp) × x8) :=
    (((a0e 2 V).bind fun E =>
    if E.1 then
    (a2a 1 E.2).bind fun F =>
    if ([] ++ [(⟨1,[112,111,114,116],[112],[],F.1,[],[],false⟩:GOp)]).length ≤ 2 ^ 30 then
    (a2a 2 F.2).bind fun A =>
    if (0:Int) ≤ 1 ∧ 1 ≤ (A.1.length:Int) then
    if ((A.1.take 1) ++ [(⟨[112,111,114,116,115],[],[[112]]⟩:a2c)]).length ≤ 2 ^ 30 then
    if (([] ++ [(⟨1,[112,111,114,116],[112],[],F.1,[],[],false⟩:GOp)]) ++ [(⟨1,[115,119,105,116,99,104],[],[],(A.1.take 1) ++ [(⟨[112,111,114,116,115],[],[[112]]⟩:a2c)],[],[],false⟩:GOp)]).length ≤ 2 ^ 30 then
    some (A.2.Code,A.2.At,A.2.Seed,([] ++ [(⟨1,[112,111,114,116],[112],[],F.1,[],[],false⟩:GOp)]) ++ [(⟨1,[115,119,105,116,99,104],[],[],(A.1.take 1) ++ [(⟨[112,111,114,116,115],[],[[112]]⟩:a2c)],[],[],false⟩:GOp)])
    else none
    else none
    else none
    else none
    else
    some (E.2.Code,E.2.At,E.2.Seed,[]):Option ((List Int) × Int × Int × (List GOp)))).bind fun p17 =>
    (match p17 with
    | (N,O,P,L) =>
    (y9 4 (⟨N,O,P⟩:x8)).bind fun G =>
    (a2q FUEL G.1 G.2.Code G.2.At G.2.Seed L).bind fun p57 =>
    (match p57 with
    | (S,T,U,M) =>
    some (M,(⟨S,T,U⟩:x8))))
end Go.R
namespace Go.R
open Go Go.Proofs
set_option maxHeartbeats 8000000
def a4p :Nat → Int → (List Int) → Int → Int → (List (List o8)) → Int → Option ((List Int) × Int × Int × (List (List o8)) × Int)
  | 0,_,_,_,_,_,_ => none
  | k + 1,D,E,F,G,H,I =>
    if (decide (D > 0)) then
    (a3c).bind fun M =>
    (a7l (⟨E,F,G⟩:x8)).bind fun A =>
    (a7f M (⟨H,I⟩:x9) A.1 []).bind fun J =>
    a4p k (w64 (D - 1)) A.2.Code A.2.At A.2.Seed J.1.Tables J.1.Next
    else
    some (E,F,G,H,I)
def a8r (U:x8):Option (x9 × x8) :=
    (a3c).bind fun V =>
    (b7m V).bind fun K =>
    (a9g 8 U).bind fun L =>
    (y9 (w64 (L.1 + 5)) L.2).bind fun B =>
    (a4p FUEL B.1 B.2.Code B.2.At B.2.Seed K.Tables K.Next).bind fun p48 =>
    (match p48 with
    | (N,O,P,R,S) =>
    (a7c (⟨R,S⟩:x9)).bind fun T =>
    some (T,(⟨N,O,P⟩:x8)))
def b4s (A:(List Int)):Option x9 :=
    (a3h A).bind fun B =>
    (a8r B).bind fun D =>
    some D.1
def a2r (D:Int) (B:Int) (A:Int):Option Bool :=
    if (decide (D ≥ B)) then
    some (decide (D ≤ A))
    else
    some false
def b4t (A:Int):Option Bool :=
    if (decide (A ≥ 48)) then
    some (decide (A ≤ 57))
    else
    some false
def a5b :List UInt8 → Nat → Option (Fl Bool Unit)
  | [],B =>
    some (.go ())
  | A :: xs,B =>
    ((some ():Option Unit)).bind fun _ =>
    ((if (!(bif (bif (bif (decide ((A.toNat:Int) ≥ 97)) then (decide ((A.toNat:Int) ≤ 122)) else false) then true else (bif (decide ((A.toNat:Int) ≥ 65)) then (decide ((A.toNat:Int) ≤ 90)) else false)) then true else ((A.toNat:Int) == 95))) then
    if ((B:Int) == 0) then
    some true
    else
    (b4t (A.toNat:Int)).bind fun F =>
    some (!F)
    else
    some false:Option Bool)).bind fun D =>
    if D then
    some (.ret false)
    else
    a5b xs (B + 1)
def b2k (E:Str):Option Bool :=
    (a5b E 0).bind fun q => (match q with
    | .ret r => some r
    | .go _ =>
    (a2r (E.length:Int) 1 40).bind fun G =>
    some G)
def a9c (A:Int):Option Bool :=
    (a2r A (-1000000000) 1000000000).bind fun B =>
    some B
def b3m (A:y7):Option Bool :=
    (((b2k A.Name).bind fun E =>
    if (!E) then
    some true
    else
    (a2r A.Min 0 1).bind fun F =>
    if (!F) then
    some true
    else
    (a2r A.Max 1 8).bind fun G =>
    some (!G):Option Bool)).bind fun B =>
    if B then
    some false
    else
    if (A.Kind == 1) then
    (a9c A.Low).bind fun H =>
    if H then
    (a9c A.High).bind fun I =>
    some (bif (bif (bif I then (decide (A.Low ≤ A.High)) else false) then (A.Ref == []) else false) then (!A.Strong) else false)
    else
    some false
    else
    ((if (A.Kind == 2) then
    some true
    else
    some (A.Kind == 3):Option Bool)).bind fun D =>
    if D then
    some (bif (bif (bif (A.Low == 0) then (A.High == 0) else false) then (A.Ref == []) else false) then (!A.Strong) else false)
    else
    if (A.Kind == 4) then
    if (bif (A.Low == 0) then (A.High == 0) else false) then
    (b2k A.Ref).bind fun J =>
    some (bif J then (A.Min == 0) else false)
    else
    some false
    else
    some false
def a0z (B:(y7 → Option Bool)):List y7 → Nat → Option (Fl Int Unit)
  | [],A =>
    some (.go ())
  | D :: xs,A =>
    (B D).bind fun E =>
    if E then
    some (.ret (A:Int))
    else
    a0z B xs (A + 1)
def a0u (F:(List y7)) (B:(y7 → Option Bool)):Option Int :=
    (a0z B F 0).bind fun q => (match q with
    | .ret r => some r
    | .go _ =>
    some (-1))
def a5i (B:y7) (A:Str):Option Bool :=
    some (B.Name == A)
def a6v (B:o6) (A:Str):Option Int :=
    (a0u B.Columns (fun a0 => a5i a0 A)).bind fun D =>
    some D
def b1d (A:o6):List y7 → Nat → Option (Fl Bool Unit)
  | [],D =>
    some (.go ())
  | G :: xs,D =>
    (((b3m G).bind fun L =>
    if (!L) then
    some true
    else
    (a6v A G.Name).bind fun M =>
    some (M != (D:Int)):Option Bool)).bind fun H =>
    if H then
    some (.ret false)
    else
    b1d A xs (D + 1)
def b1e (A:o6):List Int → Nat → Option (Fl Bool Unit)
  | [],B =>
    some (.go ())
  | E :: xs,B =>
    (((a2r E 0 (w64 ((A.Columns.length:Int) - 1))).bind fun J =>
    if (!J) then
    some true
    else
    if (decide ((B:Int) > 0)) then
    (idx A.Unique (w64 ((B:Int) - 1))).bind fun K =>
    some (decide (K ≥ E))
    else
    some false:Option Bool)).bind fun F =>
    if F then
    some (.ret false)
    else
    b1e A xs (B + 1)
def b0o (A:o6):Option Bool :=
    (((b2k A.Name).bind fun N =>
    if (!N) then
    some true
    else
    (a2r (A.Columns.length:Int) 1 6).bind fun O =>
    some (bif (!O) then true else (decide ((A.Unique.length:Int) > (A.Columns.length:Int)))):Option Bool)).bind fun I =>
    if I then
    some false
    else
    (b1d A A.Columns 0).bind fun q => (match q with
    | .ret r => some r
    | .go _ =>
    (b1e A A.Unique 0).bind fun q => (match q with
    | .ret r => some r
    | .go _ =>
    some true))
def a1f (B:(o6 → Option Bool)):List o6 → Nat → Option (Fl Int Unit)
  | [],A =>
    some (.go ())
  | D :: xs,A =>
    (B D).bind fun E =>
    if E then
    some (.ret (A:Int))
    else
    a1f B xs (A + 1)
def a0y (F:(List o6)) (B:(o6 → Option Bool)):Option Int :=
    (a1f B F 0).bind fun q => (match q with
    | .ret r => some r
    | .go _ =>
    some (-1))
def a1g (A:(List o6)) (B:(o6 → Option Bool)):Option Bool :=
    (a0y A B).bind fun D =>
    some (decide (D ≥ 0))
def a1a (A:(List y7)) (B:(y7 → Option Bool)):Option Bool :=
    (a0u A B).bind fun D =>
    some (decide (D ≥ 0))
def a5j (B:o6) (A:Str):Option Bool :=
    some (B.Name == A)
def a3u (B:o7) (A:Str):Option Int :=
    (a0y B.Tables (fun a0 => a5j a0 A)).bind fun D =>
    some D
def a6k (B:y7) (A:o7):Option Bool :=
    if (B.Kind == 4) then
    (a3u A B.Ref).bind fun D =>
    some (decide (D < 0))
    else
    some false
def a8a (B:o6) (A:o7):Option Bool :=
    (a1a B.Columns (fun a0 => a6k a0 A)).bind fun D =>
    some D
def a9t (B:o7):List o6 → Nat → Option (Fl Bool Unit)
  | [],A =>
    some (.go ())
  | D :: xs,A =>
    (((b0o D).bind fun F =>
    if (!F) then
    some true
    else
    if (decide ((A:Int) > 0)) then
    (idx B.Tables (w64 ((A:Int) - 1))).bind fun G =>
    some (!Op.bytesLess G.Name D.Name)
    else
    some false:Option Bool)).bind fun E =>
    if E then
    some (.ret false)
    else
    a9t B xs (A + 1)
def b1s (B:o7):Option Bool :=
    (a2r (B.Tables.length:Int) 1 4).bind fun I =>
    if (!I) then
    some false
    else
    (a9t B B.Tables 0).bind fun q => (match q with
    | .ret r => some r
    | .go _ =>
    (a1g B.Tables (fun a0 => a8a a0 B)).bind fun H =>
    some (!H))
def b3n (A:o7):Option (x9 × Int) :=
    (b1s A).bind fun B =>
    if (!B) then
    some ((⟨[],0⟩:x9),1)
    else
    if (A.Tables.length:Int) ≤ 2 ^ 30 then
    some ((⟨List.replicate A.Tables.length [],1⟩:x9),0)
    else none
def b4a (A:Int):Option Bool :=
    (a2r A 1 1000000).bind fun B =>
    some B
def a8s (A:(List o8)):List o8 → Nat → Option (Fl Bool Unit)
  | [],B =>
    some (.go ())
  | D :: xs,B =>
    (idx A (w64 ((B:Int) - 1))).bind fun E =>
    if (decide (E.Id ≥ D.Id)) then
    some (.ret false)
    else
    a8s A xs (B + 1)
def b2l (A:(List o8)):Option Bool :=
    (a8s A (A.drop 1) 1).bind fun q => (match q with
    | .ret r => some r
    | .go _ =>
    some true)
def b1f :List UInt8 → Option (Fl Bool Unit)
  | [] =>
    some (.go ())
  | A :: xs =>
    ((if (decide ((A.toNat:Int) < 32)) then
    some true
    else
    some (decide ((A.toNat:Int) > 126)):Option Bool)).bind fun B =>
    if B then
    some (.ret false)
    else
    b1f xs 
def b4u (D:Str):Option Bool :=
    (b1f D ).bind fun q => (match q with
    | .ret r => some r
    | .go _ =>
    some (decide ((D.length:Int) ≤ 200)))
def b4b (A:o5):Option Bool :=
    if (A.Kind == 1) then
    (a9c A.N).bind fun E =>
    if E then
    some (A.T == [])
    else
    some false
    else
    if (A.Kind == 2) then
    if (A.N == 0) then
    (b4u A.T).bind fun F =>
    some F
    else
    some false
    else
    if (A.Kind == 3) then
    (a2r A.N 0 1).bind fun B =>
    if B then
    some (A.T == [])
    else
    some false
    else
    if (A.Kind == 4) then
    (b4a A.N).bind fun D =>
    if D then
    some (A.T == [])
    else
    some false
    else
    some false
def cmp_isNaN_int (A:Int):Option Bool :=
    some (A != A)
def cmp_Compare_int (A:Int) (B:Int):Option Int :=
    (cmp_isNaN_int A).bind fun E =>
    (cmp_isNaN_int B).bind fun D =>
    if E then
    if D then
    some 0
    else
    some (-1)
    else
    if D then
    some 1
    else
    if (decide (A < B)) then
    some (-1)
    else
    if (decide (A > B)) then
    some 1
    else
    some 0
def a3q (a b:Str):Option Int:=some (Lib.compareBytes a b)
set_option maxRecDepth 100000 in
open Go.RowKit in
open Go.RowKit in
def strings_Compare (A:Str) (B:Str):Option Int :=
    (a3q A B).bind fun D =>
    some D
def a9d :List Int → Option (Fl Int Unit)
  | [] =>
    some (.go ())
  | A :: xs =>
    if (A != 0) then
    some (.ret A)
    else
    a9d xs 
def b8u (B:(List Int)):Option Int :=
    (a9d B ).bind fun q => (match q with
    | .ret r => some r
    | .go _ =>
    some 0)
def a6l (A:o5) (B:o5):Option Int :=
    (cmp_Compare_int A.Kind B.Kind).bind fun D =>
    (cmp_Compare_int A.N B.N).bind fun E =>
    (strings_Compare A.T B.T).bind fun F =>
    (b8u [D,E,F]).bind fun G =>
    some G
end Go.R
namespace Go.R
open Go Go.Proofs
set_option maxHeartbeats 8000000
def b1g (B:(List o5)):List o5 → Nat → Option (Fl Bool Unit)
  | [],A =>
    some (.go ())
  | D :: xs,A =>
    (((b4b D).bind fun F =>
    if (!F) then
    some true
    else
    (idx B 0).bind fun G =>
    if (D.Kind != G.Kind) then
    some true
    else
    if (decide ((A:Int) > 0)) then
    (idx B (w64 ((A:Int) - 1))).bind fun H =>
    (a6l H D).bind fun I =>
    some (decide (I ≥ 0))
    else
    some false:Option Bool)).bind fun E =>
    if E then
    some (.ret false)
    else
    b1g B xs (A + 1)
def b4v (B:(List o5)):Option Bool :=
    (b1g B B 0).bind fun q => (match q with
    | .ret r => some r
    | .go _ =>
    some (decide ((B.length:Int) ≤ 8)))
def a0i (B:(o5 → Option Bool)):List o5 → Nat → Option (Fl Int Unit)
  | [],A =>
    some (.go ())
  | D :: xs,A =>
    (B D).bind fun E =>
    if E then
    some (.ret (A:Int))
    else
    a0i B xs (A + 1)
def a1e (F:(List o5)) (B:(o5 → Option Bool)):Option Int :=
    (a0i B F 0).bind fun q => (match q with
    | .ret r => some r
    | .go _ =>
    some (-1))
def a0j (A:(List o5)) (B:(o5 → Option Bool)):Option Bool :=
    (a1e A B).bind fun D =>
    some (decide (D ≥ 0))
def a2y (B:o5) (A:y7):Option Bool :=
    (a2r B.N A.Low A.High).bind fun D =>
    some (!D)
def a9u (A:y7) (B:(List o5)):Option Int :=
    ((if (decide ((B.length:Int) > 0)) then
    (idx B 0).bind fun E =>
    some (E.Kind != A.Kind)
    else
    some false:Option Bool)).bind fun F =>
    if F then
    some 9
    else
    (a2r (B.length:Int) A.Min A.Max).bind fun G =>
    if (!G) then
    some 6
    else
    ((if (A.Kind == 1) then
    (a0j B (fun a0 => a2y a0 A)).bind fun H =>
    some H
    else
    some false:Option Bool)).bind fun D =>
    if D then
    some 4
    else
    some 0
def b1h (B:o6):List (List o5) → Nat → Option (Fl Bool Unit)
  | [],A =>
    some (.go ())
  | D :: xs,A =>
    (((b4v D).bind fun G =>
    if (!G) then
    some true
    else
    (idx B.Columns (A:Int)).bind fun H =>
    (a9u H D).bind fun I =>
    some (I != 0):Option Bool)).bind fun E =>
    if E then
    some (.ret false)
    else
    b1h B xs (A + 1)
def b2w (B:o6) (F:o8):Option Bool :=
    if ((F.Cells.length:Int) != (B.Columns.length:Int)) then
    some false
    else
    (b1h B F.Cells 0).bind fun q => (match q with
    | .ret r => some r
    | .go _ =>
    some true)
def a8t (B:x9) (D:o7) (A:Nat):List o8 → Option (Fl Bool Unit)
  | [] =>
    some (.go ())
  | F :: xs =>
    (((a2r F.Id 1 (w64 (B.Next - 1))).bind fun J =>
    if (!J) then
    some true
    else
    (idx D.Tables (A:Int)).bind fun K =>
    (b2w K F).bind fun L =>
    some (!L):Option Bool)).bind fun G =>
    if G then
    some (.ret false)
    else
    a8t B D A xs 
def a8u (B:x9) (D:o7):List (List o8) → Nat → Option (Fl Bool Unit)
  | [],A =>
    some (.go ())
  | E :: xs,A =>
    ((if (decide ((E.length:Int) > 12)) then
    some true
    else
    (b2l E).bind fun M =>
    some (!M):Option Bool)).bind fun H =>
    if H then
    some (.ret false)
    else
    (a8t B D A E ).bind fun q => (match q with
    | .ret r => some (.ret r)
    | .go _ =>
    a8u B D xs (A + 1))
def a9v (D:o7) (B:x9):Option Bool :=
    (((b1s D).bind fun N =>
    if (bif (!N) then true else ((B.Tables.length:Int) != (D.Tables.length:Int))) then
    some true
    else
    (b4a B.Next).bind fun O =>
    some (!O):Option Bool)).bind fun I =>
    if I then
    some false
    else
    (a8u B D B.Tables 0).bind fun q => (match q with
    | .ret r => some r
    | .go _ =>
    some true)
def a1s (B:(o8 → Option Bool)):List o8 → Nat → Option (Fl Int Unit)
  | [],A =>
    some (.go ())
  | D :: xs,A =>
    (B D).bind fun E =>
    if E then
    some (.ret (A:Int))
    else
    a1s B xs (A + 1)
def a1x (F:(List o8)) (B:(o8 → Option Bool)):Option Int :=
    (a1s B F 0).bind fun q => (match q with
    | .ret r => some r
    | .go _ =>
    some (-1))
def a1b (A:(List o8)) (B:(o8 → Option Bool)):Option Bool :=
    (a1x A B).bind fun D =>
    some (decide (D ≥ 0))
def a0k (E:(List o8)) (B:(o8 → Int → Option Int)) (A:Int):Nat → Int → Int → Option Int
  | 0,_,_ => none
  | k + 1,D,F =>
    if (decide (D < F)) then
    (idx E (w64 (Int.fdiv (IntKind.u64.wrap (w64 (D + F))) (2 ^ (min (Int.toNat 1) (IntKind.bits .u64)))))).bind fun H =>
    (B H A).bind fun I =>
    if (decide (I < 0)) then
    a0k E B A k (w64 ((w64 (Int.fdiv (IntKind.u64.wrap (w64 (D + F))) (2 ^ (min (Int.toNat 1) (IntKind.bits .u64))))) + 1)) F
    else
    a0k E B A k D (w64 (Int.fdiv (IntKind.u64.wrap (w64 (D + F))) (2 ^ (min (Int.toNat 1) (IntKind.bits .u64)))))
    else
    some D
def a1q (E:(List o8)) (A:Int) (B:(o8 → Int → Option Int)):Option (Int × Bool) :=
    (a0k E B A FUEL 0 (E.length:Int)).bind fun G =>
    if (decide (G < (E.length:Int))) then
    (idx E G).bind fun J =>
    (B J A).bind fun K =>
    some (G,(K == 0))
    else
    some (G,false)
def a8v (B:o8) (A:Int):Option Int :=
    (cmp_Compare_int B.Id A).bind fun D =>
    some D
def b7c (A:(List o8)) (D:Int):Option (Int × Bool) :=
    (a1q A D a8v).bind fun B =>
    some (B.1,B.2)
def a4a (D:x9) (A:Int) (B:Int):Option Bool :=
    (idx D.Tables A).bind fun E =>
    (b7c E B).bind fun F =>
    some F.2
def a5c (D:o8) (A:x9) (B:Int):Option Bool :=
    (a4a A B D.Id).bind fun E =>
    some E
def a4q (A:Nat) (E:(List o8)) (D:x9):Nat → Int → Option (Fl Bool Unit)
  | 0,_ => none
  | k + 1,B =>
    if (decide (B < (A:Int))) then
    (a1b E (fun a0 => a5c a0 D B)).bind fun F =>
    if F then
    some (.ret true)
    else
    a4q A E D k (w64 (B + 1))
    else
    some (.go ())
def a4r (D:x9):List (List o8) → Nat → Option (Fl Bool Unit)
  | [],A =>
    some (.go ())
  | E :: xs,A =>
    (a4q A E D FUEL 0).bind fun q => (match q with
    | .ret r => some (.ret r)
    | .go _ =>
    a4r D xs (A + 1))
def a6b (D:x9):Option Bool :=
    (a4r D D.Tables 0).bind fun q => (match q with
    | .ret r => some r
    | .go _ =>
    some false)
def a4s (D:o5) (A:x9) (B:Int):Option Bool :=
    (a4a A B D.N).bind fun E =>
    some (!E)
def a4c (B:x9) (A:Int) (D:(List o5)):Option Bool :=
    (a0j D (fun a0 => a4s a0 B A)).bind fun E =>
    some E
def a8w (I:y7) (A:Int) (F:(List o5)) (D:Bool) (B:x9) (J:Int):Option (Bool × x9 × Int) :=
    ((if D then
    (a4c B A F).bind fun G =>
    some G
    else
    if I.Strong then
    (a4c B A F).bind fun H =>
    some H
    else
    some false:Option Bool)).bind fun E =>
    if E then
    some (D,B,13)
    else
    some (D,B,J)
def a7m (A:Nat) (E:o7) (D:y7):List o8 → Bool → (List (List o8)) → Int → Int → Option (Bool × (List (List o8)) × Int × Int)
  | [],L,M,N,O =>
    some (L,M,N,O)
  | U :: xs,L,M,N,O =>
    (idx U.Cells (A:Int)).bind fun V =>
    (a3u E D.Ref).bind fun Y =>
    (a8w D Y V L (⟨M,N⟩:x9) O).bind fun F =>
    a7m A E D xs  F.1 F.2.1.Tables F.2.1.Next F.2.2
def a5o (G:x9) (B:Nat) (E:o7):List y7 → Nat → Bool → (List (List o8)) → Int → Int → Option (Bool × (List (List o8)) × Int × Int)
  | [],A,H,I,J,K =>
    some (H,I,J,K)
  | D :: xs,A,H,I,J,K =>
    if (D.Kind != 4) then
    a5o G B E xs (A + 1) H I J K
    else
    (idx G.Tables (B:Int)).bind fun Aa =>
    (a7m A E D Aa H I J K).bind fun p1092 =>
    (match p1092 with
    | (Ab,Ac,Ad,Ae) =>
    a5o G B E xs (A + 1) Ab Ac Ad Ae)
def a7n (G:x9) (E:o7):List o6 → Nat → Bool → (List (List o8)) → Int → Int → Option (Bool × x9 × Int)
  | [],B,P,R,S,T =>
    some (P,(⟨R,S⟩:x9),T)
  | Aj :: xs,B,P,R,S,T =>
    (a5o G B E Aj.Columns 0 P R S T).bind fun p1039 =>
    (match p1039 with
    | (Af,Ag,Ah,Ai) =>
    a7n G E xs (B + 1) Af Ag Ah Ai)
def b3s (E:o7) (G:x9) (Al:Bool) (Ak:x9) (Am:Int):Option (Bool × x9 × Int) :=
    a7n G E E.Tables 0 Al Ak.Tables Ak.Next Am
def a3i (B:(Int → Option Bool)):List Int → Nat → Option (Fl Int Unit)
  | [],A =>
    some (.go ())
  | D :: xs,A =>
    (B D).bind fun E =>
    if E then
    some (.ret (A:Int))
    else
    a3i B xs (A + 1)
def a4e (F:(List Int)) (B:(Int → Option Bool)):Option Int :=
    (a3i B F 0).bind fun q => (match q with
    | .ret r => some r
    | .go _ =>
    some (-1))
def a2o (A:(List Int)) (B:(Int → Option Bool)):Option Bool :=
    (a4e A B).bind fun D =>
    some (decide (D ≥ 0))
def a1u (A:(List o5)):List o5 → Nat → Option (Fl Bool Unit)
  | [],B =>
    some (.go ())
  | D :: xs,B =>
    (idx A (B:Int)).bind fun E =>
    if (!(D.Kind == E.Kind && (D.N == E.N && (D.T == E.T && true)))) then
    some (.ret false)
    else
    a1u A xs (B + 1)
def a2l (F:(List o5)) (A:(List o5)):Option Bool :=
    if ((F.length:Int) != (A.length:Int)) then
    some false
    else
    (a1u A F 0).bind fun q => (match q with
    | .ret r => some r
    | .go _ =>
    some true)
def a8b (D:Int) (A:o8) (B:o8):Option Bool :=
    (idx A.Cells D).bind fun E =>
    (idx B.Cells D).bind fun F =>
    (a2l E F).bind fun G =>
    some (!G)
def a3r (A:(List o8)) (B:Nat) (E:o6) (F:o8):List o8 → Nat → Option (Fl Bool Unit)
  | [],D =>
    some (.go ())
  | I :: xs,D =>
    (idx (A.take B) (D:Int)).bind fun G =>
    (a2o E.Unique (fun a0 => a8b a0 F G)).bind fun H =>
    if (!H) then
    some (.ret true)
    else
    a3r A B E F xs (D + 1)
def a3s (A:(List o8)) (E:o6):List o8 → Nat → Option (Fl Bool Unit)
  | [],B =>
    some (.go ())
  | F :: xs,B =>
    if (0:Int) ≤ (B:Int) ∧ (B:Int) ≤ (A.length:Int) then
    (a3r A B E F (A.take B) 0).bind fun q => (match q with
    | .ret r => some (.ret r)
    | .go _ =>
    a3s A E xs (B + 1))
    else none
def b3o (E:o6) (A:(List o8)):Option Bool :=
    if ((E.Unique.length:Int) == 0) then
    some false
    else
    (a3s A E A 0).bind fun q => (match q with
    | .ret r => some r
    | .go _ =>
    some false)
def a5p (B:(Bool × x9 × Int)):List o6 → Nat → Int → Option Int
  | [],A,D =>
    some D
  | I :: xs,A,D =>
    ((if (D == 0) then
    (idx B.2.1.Tables (A:Int)).bind fun J =>
    (b3o I J).bind fun K =>
    some K
    else
    some false:Option Bool)).bind fun E =>
    if E then
    a5p B xs (A + 1) 12
    else
    a5p B xs (A + 1) D
def b1i (G:o7) (H:x9) (F:Bool):Option Int :=
    (b3s G H F H 0).bind fun B =>
    (a5p B G.Tables 0 B.2.2).bind fun L =>
    some L
def a1i (A:o5):List o5 → Nat → Option (Fl Int Unit)
  | [],B =>
    some (.go ())
  | D :: xs,B =>
    if (A.Kind == D.Kind && (A.N == D.N && (A.T == D.T && true))) then
    some (.ret (B:Int))
    else
    a1i A xs (B + 1)
def a3j (E:(List o5)) (A:o5):Option Int :=
    (a1i A E 0).bind fun q => (match q with
    | .ret r => some r
    | .go _ =>
    some (-1))
def a1v (A:(List o5)) (B:o5):Option Bool :=
    (a3j A B).bind fun D =>
    some (decide (D ≥ 0))
def a5k (H:y7) (E:Int) (I:(List o5)) (A:Int) (B:Int) (F:Int):Option (Int × Int × Int) :=
    ((if (bif H.Strong then (E == A) else false) then
    (a1v I (⟨4,B,[]⟩:o5)).bind fun G =>
    some G
    else
    some false:Option Bool)).bind fun D =>
    if D then
    some (A,B,w64 (F + 1))
    else
    some (A,B,F)
end Go.R
namespace Go.R
open Go Go.Proofs
set_option maxHeartbeats 8000000
def a7o (A:Nat) (D:o7) (E:y7):List o8 → Int → Int → Int → Option (Int × Int × Int)
  | [],J,K,L =>
    some (J,K,L)
  | R :: xs,J,K,L =>
    (idx R.Cells (A:Int)).bind fun S =>
    (a3u D E.Ref).bind fun T =>
    (a5k E T S J K L).bind fun M =>
    a7o A D E xs  M.1 M.2.1 M.2.2
def a5q (F:x9) (B:Nat) (D:o7):List y7 → Nat → Int → Int → Int → Option (Int × Int × Int)
  | [],A,G,H,I =>
    some (G,H,I)
  | E :: xs,A,G,H,I =>
    if (E.Kind != 4) then
    a5q F B D xs (A + 1) G H I
    else
    (idx F.Tables (B:Int)).bind fun Aa =>
    (a7o A D E Aa G H I).bind fun p1030 =>
    (match p1030 with
    | (U,V,Y) =>
    a5q F B D xs (A + 1) U V Y)
def a7p (F:x9) (D:o7):List o6 → Nat → Int → Int → Int → Option (Int × Int × Int)
  | [],B,N,O,P =>
    some (N,O,P)
  | Ab :: xs,B,N,O,P =>
    (a5q F B D Ab.Columns 0 N O P).bind fun p980 =>
    (match p980 with
    | (Ac,Ad,Ae) =>
    a7p F D xs (B + 1) Ac Ad Ae)
def b3t (D:o7) (F:x9) (Af:Int) (Ag:Int) (Ah:Int):Option (Int × Int × Int) :=
    a7p F D D.Tables 0 Af Ag Ah
def a5r (D:o7) (E:x9) (A:Int) (B:Int):Option Int :=
    (b3t D E A B 0).bind fun F =>
    some F.2.2
def b2m (E:o8) (A:o7) (B:x9) (D:Int):Option Bool :=
    (a5r A B D E.Id).bind fun F =>
    some (F == 0)
def b1j (B:x9) (D:o7):List o6 → Nat → Option (Fl Bool Unit)
  | [],A =>
    some (.go ())
  | G :: xs,A =>
    ((if (!G.Root) then
    (idx B.Tables (A:Int)).bind fun H =>
    (a1b H (fun a0 => b2m a0 D B (A:Int))).bind fun I =>
    some I
    else
    some false:Option Bool)).bind fun E =>
    if E then
    some (.ret false)
    else
    b1j B D xs (A + 1)
def b2x (D:o7) (B:x9):Option Bool :=
    (((a9v D B).bind fun J =>
    if (!J) then
    some true
    else
    (a6b B).bind fun K =>
    if K then
    some true
    else
    (b1i D B true).bind fun L =>
    some (L != 0):Option Bool)).bind fun F =>
    if F then
    some false
    else
    (b1j B D D.Tables 0).bind fun q => (match q with
    | .ret r => some r
    | .go _ =>
    some true)
def a9w (E:o7) (B:x9) (A:Int) (D:Int):Option (Int × Int) :=
    (a9v E B).bind fun H =>
    if (!H) then
    some (0,1)
    else
    (a2r A 0 (w64 ((B.Tables.length:Int) - 1))).bind fun I =>
    if (!I) then
    some (0,10)
    else
    (a4a B A D).bind fun F =>
    if (!F) then
    some (0,5)
    else
    (a5r E B A D).bind fun G =>
    some (G,0)
def b3p (A:y7):Option Bool :=
    (((a8f A.Name).bind fun E =>
    if (!E) then
    some true
    else
    (a1o A.Kind 1 4).bind fun F =>
    if (!F) then
    some true
    else
    (a1o A.Min 0 1).bind fun G =>
    if (!G) then
    some true
    else
    (a1o A.Max 1 8).bind fun H =>
    some (!H):Option Bool)).bind fun B =>
    if B then
    some false
    else
    if (A.Kind == 1) then
    (a1o A.Low (-1000000000) A.High).bind fun I =>
    if I then
    (a1o A.High A.Low 1000000000).bind fun J =>
    some (bif (bif J then (A.Ref == []) else false) then (!A.Strong) else false)
    else
    some false
    else
    ((if (A.Low != 0) then
    some true
    else
    some (A.High != 0):Option Bool)).bind fun D =>
    if D then
    some false
    else
    if (A.Kind == 4) then
    (a8f A.Ref).bind fun K =>
    if K then
    some (A.Min == 0)
    else
    some false
    else
    if (A.Ref == []) then
    some (!A.Strong)
    else
    some false
def a7g (D:Nat) (A:o6) (B:y7):Nat → Int → Option (Fl Bool Unit)
  | 0,_ => none
  | k + 1,F =>
    if (decide (F < (D:Int))) then
    (idx A.Columns F).bind fun J =>
    if (J.Name == B.Name) then
    some (.ret false)
    else
    a7g D A B k (w64 (F + 1))
    else
    some (.go ())
def a9x (A:o6):List y7 → Nat → Option (Fl Bool Unit)
  | [],D =>
    some (.go ())
  | B :: xs,D =>
    (b3p B).bind fun K =>
    if (!K) then
    some (.ret false)
    else
    (a7g D A B FUEL 0).bind fun q => (match q with
    | .ret r => some (.ret r)
    | .go _ =>
    a9x A xs (D + 1))
def a9y (A:o6):List Int → Nat → Option (Fl Bool Unit)
  | [],E =>
    some (.go ())
  | G :: xs,E =>
    (((a1o G 0 (w64 ((A.Columns.length:Int) - 1))).bind fun L =>
    if (!L) then
    some true
    else
    if (decide ((E:Int) > 0)) then
    (idx A.Unique (w64 ((E:Int) - 1))).bind fun M =>
    some (decide (M ≥ G))
    else
    some false:Option Bool)).bind fun H =>
    if H then
    some (.ret false)
    else
    a9y A xs (E + 1)
def b1t (A:o6):Option Bool :=
    (((a8f A.Name).bind fun N =>
    if (!N) then
    some true
    else
    (a1o (A.Columns.length:Int) 1 6).bind fun O =>
    some (bif (!O) then true else (decide ((A.Unique.length:Int) > 6))):Option Bool)).bind fun I =>
    if I then
    some false
    else
    (a9x A A.Columns 0).bind fun q => (match q with
    | .ret r => some r
    | .go _ =>
    (a9y A A.Unique 0).bind fun q => (match q with
    | .ret r => some r
    | .go _ =>
    some true))
def a9z (A:o7):List y7 → Option (Fl Bool Unit)
  | [] =>
    some (.go ())
  | E :: xs =>
    ((if (!(E.Ref == [])) then
    (a4h A E.Ref).bind fun H =>
    some (decide (H < 0))
    else
    some false:Option Bool)).bind fun F =>
    if F then
    some (.ret false)
    else
    a9z A xs 
def b0a (A:o7):List o6 → Nat → Option (Fl Bool Unit)
  | [],B =>
    some (.go ())
  | D :: xs,B =>
    (((b1t D).bind fun I =>
    if (!I) then
    some true
    else
    if (decide ((B:Int) > 0)) then
    (idx A.Tables (w64 ((B:Int) - 1))).bind fun J =>
    some (!Op.bytesLess J.Name D.Name)
    else
    some false:Option Bool)).bind fun G =>
    if G then
    some (.ret false)
    else
    (a9z A D.Columns ).bind fun q => (match q with
    | .ret r => some (.ret r)
    | .go _ =>
    b0a A xs (B + 1))
def b1u (A:o7):Option Bool :=
    (a1o (A.Tables.length:Int) 1 4).bind fun K =>
    if (!K) then
    some false
    else
    (b0a A A.Tables 0).bind fun q => (match q with
    | .ret r => some r
    | .go _ =>
    some true)
def b1k :List UInt8 → Option (Fl Bool Unit)
  | [] =>
    some (.go ())
  | A :: xs =>
    ((if (decide ((A.toNat:Int) < 32)) then
    some true
    else
    some (decide ((A.toNat:Int) > 126)):Option Bool)).bind fun B =>
    if B then
    some (.ret false)
    else
    b1k xs 
def b4w (D:Str):Option Bool :=
    (b1k D ).bind fun q => (match q with
    | .ret r => some r
    | .go _ =>
    some (decide ((D.length:Int) ≤ 200)))
def b4c (A:o5):Option Bool :=
    if (A.Kind == 1) then
    (a1o A.N (-1000000000) 1000000000).bind fun E =>
    if E then
    some (A.T == [])
    else
    some false
    else
    if (A.Kind == 2) then
    if (A.N == 0) then
    (b4w A.T).bind fun F =>
    some F
    else
    some false
    else
    if (A.Kind == 3) then
    (a1o A.N 0 1).bind fun B =>
    if B then
    some (A.T == [])
    else
    some false
    else
    if (A.Kind == 4) then
    (a1o A.N 1 1000000).bind fun D =>
    if D then
    some (A.T == [])
    else
    some false
    else
    some false
def b1l (A:(List o5)):List o5 → Nat → Option (Fl Bool Unit)
  | [],B =>
    some (.go ())
  | D :: xs,B =>
    (((b4c D).bind fun F =>
    if (!F) then
    some true
    else
    (idx A 0).bind fun G =>
    if (D.Kind != G.Kind) then
    some true
    else
    if (decide ((B:Int) > 0)) then
    (idx A (w64 ((B:Int) - 1))).bind fun H =>
    (a7b H D).bind fun I =>
    some (decide (I ≥ 0))
    else
    some false:Option Bool)).bind fun E =>
    if E then
    some (.ret false)
    else
    b1l A xs (B + 1)
def b4x (A:(List o5)):Option Bool :=
    if (decide ((A.length:Int) > 4096)) then
    some false
    else
    (b1l A A 0).bind fun q => (match q with
    | .ret r => some r
    | .go _ =>
    some (decide ((A.length:Int) ≤ 8)))
def b2n (A:o6):List (List o5) → Nat → Option (Fl Bool Unit)
  | [],B =>
    some (.go ())
  | D :: xs,B =>
    (((b4x D).bind fun G =>
    if (!G) then
    some true
    else
    (idx A.Columns (B:Int)).bind fun H =>
    (a8i H D).bind fun I =>
    some (I != 0):Option Bool)).bind fun E =>
    if E then
    some (.ret false)
    else
    b2n A xs (B + 1)
def b5v (A:o6) (F:o8):Option Bool :=
    (((a1o F.Id 1 1000000).bind fun K =>
    some (bif (!K) then true else ((F.Cells.length:Int) != (A.Columns.length:Int))):Option Bool)).bind fun J =>
    if J then
    some false
    else
    (b2n A F.Cells 0).bind fun q => (match q with
    | .ret r => some r
    | .go _ =>
    some true)
def b1m (E:o7) (A:Nat) (D:x9) (B:(List o8)):List o8 → Nat → Option (Fl Bool Unit)
  | [],F =>
    some (.go ())
  | G :: xs,F =>
    (((idx E.Tables (A:Int)).bind fun I =>
    (b5v I G).bind fun J =>
    if (bif (!J) then true else (decide (G.Id ≥ D.Next))) then
    some true
    else
    if (decide ((F:Int) > 0)) then
    (idx B (w64 ((F:Int) - 1))).bind fun K =>
    some (decide (K.Id ≥ G.Id))
    else
    some false:Option Bool)).bind fun H =>
    if H then
    some (.ret false)
    else
    b1m E A D B xs (F + 1)
def b1n (E:o7) (D:x9):List (List o8) → Nat → Option (Fl Bool Unit)
  | [],A =>
    some (.go ())
  | B :: xs,A =>
    if (decide ((B.length:Int) > 12)) then
    some (.ret false)
    else
    (b1m E A D B B 0).bind fun q => (match q with
    | .ret r => some (.ret r)
    | .go _ =>
    b1n E D xs (A + 1))
def b2y (E:o7) (D:x9):Option Bool :=
    ((if ((D.Tables.length:Int) != (E.Tables.length:Int)) then
    some true
    else
    (a1o D.Next 1 1000000).bind fun M =>
    some (!M):Option Bool)).bind fun L =>
    if L then
    some false
    else
    (b1n E D D.Tables 0).bind fun q => (match q with
    | .ret r => some r
    | .go _ =>
    some true)
def b0b (B:o7) (D:x9) (A:Int) (E:Int):Option (Int × Int) :=
    (((b1u B).bind fun G =>
    if (!G) then
    some true
    else
    (b2y B D).bind fun H =>
    some (!H):Option Bool)).bind fun F =>
    if F then
    some (0,1)
    else
    (a1o A 0 (w64 ((B.Tables.length:Int) - 1))).bind fun I =>
    if (!I) then
    some (0,10)
    else
    (idx D.Tables A).bind fun J =>
    (a4w J E).bind fun K =>
    if (decide (K < 0)) then
    some (0,5)
    else
    (a5a B D A E).bind fun L =>
    some (L,0)
def b5g (A:o6) (B:o8):Option Bool :=
    (b0o A).bind fun D =>
    if D then
    (b4a B.Id).bind fun E =>
    if E then
    (b2w A B).bind fun F =>
    some F
    else
    some false
    else
    some false
def b0c (A:x9) (B:o7):Nat → Int → Option (Fl Bool Unit)
  | 0,_ => none
  | k + 1,D =>
    (idx A.Tables 1).bind fun I =>
    if (decide (D < (I.length:Int))) then
    (idx A.Tables 1).bind fun J =>
    (idx J D).bind fun K =>
    (a9w B A 1 K.Id).bind fun E =>
    (idx A.Tables 1).bind fun L =>
    (idx L D).bind fun M =>
    (b0b B A 1 M.Id).bind fun N =>
    ((if (bif (bif (E.2 != 0) then true else (E.1 != N.1)) then true else (decide (E.1 < 1))) then
    some true
    else
    (idx B.Tables 1).bind fun O =>
    (idx A.Tables 1).bind fun P =>
    (idx P D).bind fun S =>
    (b5g O S).bind fun T =>
    some (!T):Option Bool)).bind fun G =>
    if G then
    some (.ret false)
    else
    b0c A B k (w64 (D + 1))
    else
    some (.go ())
def b5n (F:(List Int)):Option Bool :=
    if (decide ((F.length:Int) > 1048576)) then
    some true
    else
    (a3c).bind fun B =>
    (b4s F).bind fun A =>
    (b3n B).bind fun U =>
    (((b2x B A).bind fun V =>
    if (bif (!V) then true else (U.2 != 0)) then
    some true
    else
    (b2x B U.1).bind fun Y =>
    some (!Y):Option Bool)).bind fun H =>
    if H then
    some false
    else
    (b0c A B FUEL 0).bind fun q => (match q with
    | .ret r => some r
    | .go _ =>
    some true)
end Go.R
end
