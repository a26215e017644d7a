/- Part of the proof. -/
import Derived.Test.YtldahjcikmpifaaGreatG6
import Derived.Deep.LoopGhost
import Derived.Shelf.Small.Strs
import Derived.Test.YtldahjcikmpifaaGreatRows
section
set_option linter.all false
namespace Go.R
open Go Go.Proofs
set_option maxHeartbeats 8000000
theorem mixed:Tryz.prog.follows .mixedOrders = true:=by kernel_rfl
structure o7 where
  Kind:Int
  N:Int
  T:Str
deriving Inhabited,DecidableEq
def l9 (x:o7):AV:=.agg [(.int .i64 x.Kind),(.int .i64 x.N),(.str x.T)]
theorem encGAtom_eq (x:o7):l9 x = .agg [(.int .i64 x.Kind),(.int .i64 x.N),(.str x.T)]:=rfl
structure o5 where
  Id:Int
  Cells:(List (List o7))
deriving Inhabited,DecidableEq
def o6 (x:o5):AV:=.agg [(.int .i64 x.Id),(.lst 1 (x.Cells.map (a1f 3 l9)))]
theorem c8m (x:o5):o6 x = .agg [(.int .i64 x.Id),(.lst 1 (x.Cells.map (a1f 3 l9)))]:=rfl
structure x9 where
  Tables:(List (List o5))
  Next:Int
deriving Inhabited,DecidableEq
def a0u (x:x9):AV:=.agg [(.lst 1 (x.Tables.map (a1f 2 o6))),(.int .i64 x.Next)]
theorem b6x (x:x9):a0u x = .agg [(.lst 1 (x.Tables.map (a1f 2 o6))),(.int .i64 x.Next)]:=rfl
structure o8 where
  Code:(List Int)
  At:Int
  Seed:Int
deriving Inhabited,DecidableEq
def c1c (x:o8):AV:=.agg [(.lst 1 (x.Code.map a0h)),(.int .i64 x.At),(.int .i64 x.Seed)]
theorem encGL00Src_eq (x:o8):c1c x = .agg [(.lst 1 (x.Code.map a0h)),(.int .i64 x.At),(.int .i64 x.Seed)]:=rfl
structure a0d where
  Name:Str
  Kind:Int
  Min:Int
  Max:Int
  Low:Int
  High:Int
  Ref:Str
  Strong:Bool
deriving Inhabited,DecidableEq
def a3h (x:a0d):AV:=.agg [(.str x.Name),(.int .i64 x.Kind),(.int .i64 x.Min),(.int .i64 x.Max),(.int .i64 x.Low),(.int .i64 x.High),(.str x.Ref),(.bool x.Strong)]
theorem encGColumn_eq (x:a0d):a3h x = .agg [(.str x.Name),(.int .i64 x.Kind),(.int .i64 x.Min),(.int .i64 x.Max),(.int .i64 x.Low),(.int .i64 x.High),(.str x.Ref),(.bool x.Strong)]:=rfl
structure x8 where
  Name:Str
  Columns:(List a0d)
  Unique:(List Int)
  Root:Bool
deriving Inhabited,DecidableEq
def a0f (x:x8):AV:=.agg [(.str x.Name),(.lst 8 (x.Columns.map a3h)),(.lst 1 (x.Unique.map encI)),(.bool x.Root)]
theorem encGTable_eq (x:x8):a0f x = .agg [(.str x.Name),(.lst 8 (x.Columns.map a3h)),(.lst 1 (x.Unique.map encI)),(.bool x.Root)]:=rfl
structure a0b where
  Tables:(List x8)
deriving Inhabited,DecidableEq
def a3w (x:a0b):AV:=.agg [(.lst 4 (x.Tables.map a0f))]
theorem c9w (x:a0b):a3w x = .agg [(.lst 4 (x.Tables.map a0f))]:=rfl
structure a3k where
  Column:Str
  Func:Int
  Value:(List o7)
deriving Inhabited,DecidableEq
def a3i (x:a3k):AV:=.agg [(.str x.Column),(.int .i64 x.Func),(.lst 3 (x.Value.map l9))]
theorem encGCond_eq (x:a3k):a3i x = .agg [(.str x.Column),(.int .i64 x.Func),(.lst 3 (x.Value.map l9))]:=rfl
structure a2c where
  Column:Str
  Value:(List o7)
  Names:(List Str)
deriving Inhabited,DecidableEq
def a2d (x:a2c):AV:=.agg [(.str x.Column),(.lst 3 (x.Value.map l9)),(.lst 1 (x.Names.map AV.str))]
theorem encGSet_eq (x:a2c):a2d x = .agg [(.str x.Column),(.lst 3 (x.Value.map l9)),(.lst 1 (x.Names.map AV.str))]:=rfl
structure b0b where
  Column:Str
  Func:Int
  Value:(List o7)
deriving Inhabited,DecidableEq
def a5j (x:b0b):AV:=.agg [(.str x.Column),(.int .i64 x.Func),(.lst 3 (x.Value.map l9))]
theorem encGMut_eq (x:b0b):a5j x = .agg [(.str x.Column),(.int .i64 x.Func),(.lst 3 (x.Value.map l9))]:=rfl
structure GOp where
  Kind:Int
  Table:Str
  Name:Str
  Where:(List a3k)
  Row:(List a2c)
  Muts:(List b0b)
  Columns:(List Str)
  Until:Bool
deriving Inhabited,DecidableEq
def a1i (x:GOp):AV:=.agg [(.int .i64 x.Kind),(.str x.Table),(.str x.Name),(.lst 3 (x.Where.map a3i)),(.lst 3 (x.Row.map a2d)),(.lst 3 (x.Muts.map a5j)),(.lst 1 (x.Columns.map AV.str)),(.bool x.Until)]
theorem encGOp_eq (x:GOp):a1i x = .agg [(.int .i64 x.Kind),(.str x.Table),(.str x.Name),(.lst 3 (x.Where.map a3i)),(.lst 3 (x.Row.map a2d)),(.lst 3 (x.Muts.map a5j)),(.lst 1 (x.Columns.map AV.str)),(.bool x.Until)]:=rfl
structure a1m where
  Code:Int
  Count:Int
  Id:Int
  Columns:(List Str)
  Rows:(List o5)
deriving Inhabited,DecidableEq
def b3i (x:a1m):AV:=.agg [(.int .i64 x.Code),(.int .i64 x.Count),(.int .i64 x.Id),(.lst 1 (x.Columns.map AV.str)),(.lst 2 (x.Rows.map o6))]
theorem encGResult_eq (x:a1m):b3i x = .agg [(.int .i64 x.Code),(.int .i64 x.Count),(.int .i64 x.Id),(.lst 1 (x.Columns.map AV.str)),(.lst 2 (x.Rows.map o6))]:=rfl
structure a0g where
  S:a0b
  X:x9
  Ops:(List GOp)
  Ids:(List Int)
  Owned:(List Str)
deriving Inhabited,DecidableEq
def b8k (x:a0g):AV:=.agg [(.lst 4 (x.S.Tables.map a0f)),(.lst 1 (x.X.Tables.map (a1f 2 o6))),(.int .i64 x.X.Next),(.lst 8 (x.Ops.map a1i)),(.lst 1 (x.Ids.map encI)),(.lst 1 (x.Owned.map AV.str))]
theorem encGL09Work_eq (x:a0g):b8k x = .agg [(.lst 4 (x.S.Tables.map a0f)),(.lst 1 (x.X.Tables.map (a1f 2 o6))),(.int .i64 x.X.Next),(.lst 8 (x.Ops.map a1i)),(.lst 1 (x.Ids.map encI)),(.lst 1 (x.Owned.map AV.str))]:=rfl
end Go.R
end
section
set_option linter.all false
namespace Go.R
open Go Go.Proofs
set_option maxHeartbeats 8000000
def a7x (A:(List Int)):Option o8 :=
    some (⟨A,0,(A.length:Int).tmod 1000⟩:o8)
def a2u :Option a0b :=
    some (⟨[(⟨[110,111,116,101],[(⟨[110,97,109,101],2,1,1,0,0,[],false⟩:a0d),(⟨[97,98,111,117,116],4,0,4,0,0,[112,111,114,116],false⟩:a0d)],[],true⟩:x8),(⟨[112,111,114,116],[(⟨[110,97,109,101],2,1,1,0,0,[],false⟩:a0d),(⟨[116,97,103],1,0,1,0,99,[],false⟩:a0d),(⟨[117,112],3,1,1,0,0,[],false⟩:a0d)],[(0:Int)],false⟩:x8),(⟨[115,119,105,116,99,104],[(⟨[110,97,109,101],2,1,1,0,0,[],false⟩:a0d),(⟨[99,111,117,110,116],1,1,1,(-1000),1000,[],false⟩:a0d),(⟨[112,111,114,116,115],4,0,8,0,0,[112,111,114,116],true⟩:a0d)],[(0:Int)],true⟩:x8)]⟩:a0b)
def b8l :List x8 → (List (List o5)) → Option (List (List o5))
  | [],A =>
    some A
  | E :: xs,A =>
    if (A ++ [[]]).length ≤ 2 ^ 30 then
    b8l xs  (A ++ [[]])
    else none
def b5p (D:a0b):Option x9 :=
    (b8l D.Tables []).bind fun B =>
    some (⟨B,1⟩:x9)
def a2v (A:o8):Option (Int × o8) :=
    if (decide (w64 (A.At + 1) ≤ (A.Code.length:Int))) then
    (idx A.Code (w64 ((w64 (A.At + 1)) - 1))).bind fun B =>
    (idx A.Code (w64 ((w64 (A.At + 1)) - 1))).bind fun D =>
    some (w64 D,(⟨A.Code,w64 (A.At + 1),(w64 ((w64 ((w64 (A.Seed * 31)) + (w64 B))) + 7)).tmod 2147483648⟩:o8))
    else
    if (decide (w64 (A.At + 1) > 3000)) then
    some (0,(⟨A.Code,w64 (A.At + 1),A.Seed⟩:o8))
    else
    some ((w64 (((w64 ((w64 (A.Seed * 1103515245)) + 12345)).tmod 2147483648).tdiv 65536)).tmod 256,(⟨A.Code,w64 (A.At + 1),(w64 ((w64 (A.Seed * 1103515245)) + 12345)).tmod 2147483648⟩:o8))
def a1e (A:Int) (B:o8):Option (Int × o8) :=
    if (decide (A ≤ 1)) then
    some (0,B)
    else
    if (decide (A ≤ 256)) then
    (a2v B).bind fun F =>
    if A ≠ 0 then
    some (F.1.tmod A,F.2)
    else none
    else
    (a2v B).bind fun G =>
    (a2v G.2).bind fun D =>
    (a2v D.2).bind fun E =>
    if A ≠ 0 then
    some ((w64 ((w64 ((w64 (G.1 * 65536)) + (w64 (D.1 * 256)))) + E.1)).tmod A,E.2)
    else none
def a1g (A:Int) (D:o8):Option (Bool × o8) :=
    (a1e A D).bind fun B =>
    some ((B.1 == w64 (A - 1)),B.2)
def a3z (A:(List Str)) (B:o8):Option (Str × o8) :=
    if ((A.length:Int) == 0) then
    some ([],B)
    else
    (a1e (A.length:Int) B).bind fun D =>
    (idx A D.1).bind fun E =>
    some (E,D.2)
def a6e (A:Int) (B:o8):Option (o7 × o8) :=
    if (A == 1) then
    (a1e 12 B).bind fun F =>
    some ((⟨A,w64 (F.1 - 4),[]⟩:o7),F.2)
    else
    if (A == 2) then
    (a3z [[],[97],[98],[99],[110,101,116]] B).bind fun G =>
    some ((⟨A,0,G.1⟩:o7),G.2)
    else
    if (A == 3) then
    (a1e 2 B).bind fun D =>
    some ((⟨A,D.1,[]⟩:o7),D.2)
    else
    (a1e 6 B).bind fun E =>
    some ((⟨4,w64 (1 + E.1),[]⟩:o7),E.2)
def b0i (A:o7):List o7 → Option (Fl Bool Unit)
  | [] =>
    some (.go ())
  | B :: xs =>
    if (B.Kind == A.Kind && (B.N == A.N && (B.T == A.T && true))) then
    some (.ret true)
    else
    b0i A xs 
def a8t (D:(List o7)) (A:o7):Option Bool :=
    (b0i A D ).bind fun q => (match q with
    | .ret r => some r
    | .go _ =>
    some false)
def a7b (A:Bool):Option Int :=
    if A then
    some 1
    else
    some 0
def a9s (A:o7) (B:o7):Option Int :=
    if (A.Kind != B.Kind) then
    (a7b (decide (A.Kind < B.Kind))).bind fun E =>
    some (w64 (1 - (w64 (2 * E))))
    else
    if (A.N != B.N) then
    (a7b (decide (A.N < B.N))).bind fun F =>
    some (w64 (1 - (w64 (2 * F))))
    else
    if (!(A.T == B.T)) then
    (a7b (Op.bytesLess A.T B.T)).bind fun D =>
    some (w64 (1 - (w64 (2 * D))))
    else
    some 0
def a2t (A:(List o7)) (D:o7):Nat → Int → Option Int
  | 0,_ => none
  | k + 1,E =>
    ((if (decide (E > 0)) then
    (idx A (w64 (E - 1))).bind fun G =>
    (a9s G D).bind fun H =>
    some (decide (H > 0))
    else
    some false:Option Bool)).bind fun F =>
    if F then
    a2t A D k (w64 (E - 1))
    else
    some E
def a8u (A:(List o7)) (D:o7):Option (List o7) :=
    (a8t A D).bind fun I =>
    if I then
    some A
    else
    (a2t A D FUEL (A.length:Int)).bind fun B =>
    if (0:Int) ≤ B ∧ B ≤ (A.length:Int) then
    if (0:Int) ≤ B ∧ B ≤ (A.length:Int) then
    if ([] ++ (A.take B.toNat)).length ≤ 2 ^ 30 then
    if (([] ++ (A.take B.toNat)) ++ [D]).length ≤ 2 ^ 30 then
    if ((([] ++ (A.take B.toNat)) ++ [D]) ++ (A.drop B.toNat)).length ≤ 2 ^ 30 then
    some ((([] ++ (A.take B.toNat)) ++ [D]) ++ (A.drop B.toNat))
    else none
    else none
    else none
    else none
    else none
def a3a (A:(List o7)) (E:o7):Nat → Int → Option Int
  | 0,_ => none
  | k + 1,D =>
    ((if (decide (D > 0)) then
    if (0:Int) ≤ w64 (D - 1) ∧ w64 (D - 1) < (A.length:Int) then
    (A[(0 + (w64 (D - 1)).toNat)]?).bind fun G =>
    (a9s G E).bind fun H =>
    some (decide (H > 0))
    else none
    else
    some false:Option Bool)).bind fun F =>
    if F then
    a3a A E k (w64 (D - 1))
    else
    some D
def a7y (A:(List o7)) (E:o7):Option (List o7) :=
    (a8t A E).bind fun I =>
    if I then
    some A
    else
    (a3a A E FUEL (A.length:Int)).bind fun B =>
    if (0:Int) ≤ B ∧ B ≤ (A.length:Int) then
    if (0:Int) ≤ B ∧ B ≤ (A.length:Int) then
    if ([] ++ (A.take B.toNat)).length ≤ 2 ^ 30 then
    if (([] ++ (A.take B.toNat)) ++ [E]).length ≤ 2 ^ 30 then
    if ((([] ++ (A.take B.toNat)) ++ [E]) ++ ((A.drop B.toNat).take (A.length - B.toNat))).length ≤ 2 ^ 30 then
    some ((([] ++ (A.take B.toNat)) ++ [E]) ++ ((A.drop B.toNat).take (A.length - B.toNat)))
    else none
    else none
    else none
    else none
    else none
def a5r (D:Int) (B:Int) (A:Int):Option Bool :=
    if (decide (B ≤ D)) then
    some (decide (D ≤ A))
    else
    some false
def a7z :List GOp → Int → (List Int) → Option (List Int)
  | [],A,B =>
    some B
  | G :: xs,A,B =>
    if (G.Kind == 1) then
    if (B ++ [A]).length ≤ 2 ^ 30 then
    a7z xs (w64 (A + 1))  (B ++ [A])
    else none
    else
    if (B ++ [(0:Int)]).length ≤ 2 ^ 30 then
    a7z xs A  (B ++ [(0:Int)])
    else none
def b5q (F:(List GOp)) (D:Int):Option (List Int) :=
    (a7z F D []).bind fun E =>
    some E
def a8a (A:Int):Option Bool :=
    some (bif (bif (bif (decide (A ≥ 97)) then (decide (A ≤ 122)) else false) then true else (bif (decide (A ≥ 65)) then (decide (A ≤ 90)) else false)) then true else (A == 95))
def b1f (A:Int):Option Bool :=
    if (decide (A ≥ 48)) then
    some (decide (A ≤ 57))
    else
    some false
def a9c :List UInt8 → Option (Fl Bool Unit)
  | [] =>
    some (.go ())
  | D :: xs =>
    (((a8a (D.toNat:Int)).bind fun E =>
    if (!E) then
    (b1f (D.toNat:Int)).bind fun F =>
    some (!F)
    else
    some false:Option Bool)).bind fun B =>
    if B then
    some (.ret false)
    else
    a9c xs 
def b2n (A:Str):Option Bool :=
    ((if (bif (decide ((A.length:Int) < 1)) then true else (decide ((A.length:Int) > 40))) then
    some true
    else
    (idx A 0).bind fun H =>
    (a8a (H.toNat:Int)).bind fun I =>
    some (!I):Option Bool)).bind fun G =>
    if G then
    some false
    else
    (a9c (A.drop 1) ).bind fun q => (match q with
    | .ret r => some r
    | .go _ =>
    some true)
def b2i (A:Str):Option Bool :=
    (b2n A).bind fun B =>
    some B
def a9d (A:Str):List x8 → Nat → Option (Fl Int Unit)
  | [],B =>
    some (.go ())
  | D :: xs,B =>
    if (D.Name == A) then
    some (.ret (B:Int))
    else
    a9d A xs (B + 1)
def a4k (E:a0b) (A:Str):Option Int :=
    (a9d A E.Tables 0).bind fun q => (match q with
    | .ret r => some r
    | .go _ =>
    some (-1))
def a7c (A:Str):List a0d → Nat → Option (Fl Int Unit)
  | [],B =>
    some (.go ())
  | D :: xs,B =>
    if (D.Name == A) then
    some (.ret (B:Int))
    else
    a7c A xs (B + 1)
def a2e (E:x8) (A:Str):Option Int :=
    (a7c A E.Columns 0).bind fun q => (match q with
    | .ret r => some r
    | .go _ =>
    some (-1))
def b2o (D:x8) (A:a3k):Option Int :=
    (a2e D A.Column).bind fun E =>
    ((if (decide (E ≥ 0)) then
    (idx D.Columns E).bind fun H =>
    some (.go H.Kind)
    else
    if (!(A.Column == [95,117,117,105,100])) then
    some (.ret 11)
    else
    some (.go 4):Option (Fl Int Int))).bind fun q => (match q with
    | .ret r => some r
    | .go B =>
    ((if (decide ((A.Value.length:Int) > 0)) then
    (idx A.Value 0).bind fun I =>
    some (I.Kind != B)
    else
    some false:Option Bool)).bind fun F =>
    if F then
    some 9
    else
    (((a5r A.Func 3 6).bind fun J =>
    if J then
    if (B != 1) then
    some true
    else
    (idx D.Columns E).bind fun K =>
    if (K.Max != 1) then
    some true
    else
    some ((A.Value.length:Int) != 1)
    else
    some false:Option Bool)).bind fun G =>
    if G then
    some 9
    else
    some 0)
def a8b (A:x8):List a3k → Option (Fl Int Unit)
  | [] =>
    some (.go ())
  | E :: xs =>
    (b2o A E).bind fun B =>
    if (B != 0) then
    some (.ret B)
    else
    a8b A xs 
def b1g (A:x8) (D:(List a3k)):Option Int :=
    (a8b A D ).bind fun q => (match q with
    | .ret r => some r
    | .go _ =>
    some 0)
def a6v (D:Nat) (A:(List a2c)) (B:a2c):Nat → Int → Option (Fl Int Unit)
  | 0,_ => none
  | k + 1,E =>
    if (decide (E < (D:Int))) then
    (idx A E).bind fun J =>
    if (J.Column == B.Column) then
    some (.ret 8)
    else
    a6v D A B k (w64 (E + 1))
    else
    some (.go ())
def a9e (G:x8) (A:(List a2c)):List a2c → Nat → Option (Fl Int Unit)
  | [],D =>
    some (.go ())
  | B :: xs,D =>
    (a2e G B.Column).bind fun H =>
    if (decide (H < 0)) then
    some (.ret 11)
    else
    (a6v D A B FUEL 0).bind fun q => (match q with
    | .ret r => some (.ret r)
    | .go _ =>
    (idx G.Columns H).bind fun F =>
    ((if (decide ((B.Value.length:Int) > 0)) then
    (idx B.Value 0).bind fun K =>
    if (K.Kind != F.Kind) then
    some true
    else
    if (decide ((B.Names.length:Int) > 0)) then
    some (F.Kind != 4)
    else
    some false
    else
    if (decide ((B.Names.length:Int) > 0)) then
    some (F.Kind != 4)
    else
    some false:Option Bool)).bind fun I =>
    if I then
    some (.ret 9)
    else
    a9e G A xs (D + 1))
def b2p (G:x8) (A:(List a2c)):Option Int :=
    (a9e G A A 0).bind fun q => (match q with
    | .ret r => some r
    | .go _ =>
    some 0)
def b2q (D:x8) (A:b0b):Option Int :=
    (a2e D A.Column).bind fun E =>
    if (decide (E < 0)) then
    some 11
    else
    (idx D.Columns E).bind fun F =>
    ((if (decide ((A.Value.length:Int) > 0)) then
    (idx A.Value 0).bind fun G =>
    some (G.Kind != F.Kind)
    else
    some false:Option Bool)).bind fun B =>
    if B then
    some 9
    else
    ((some ():Option Unit)).bind fun _ =>
    if (bif (decide (A.Func ≤ 5)) then (bif (F.Kind != 1) then true else ((A.Value.length:Int) != 1)) else false) then
    some 9
    else
    some 0
def a8c (A:x8):List b0b → Option (Fl Int Unit)
  | [] =>
    some (.go ())
  | E :: xs =>
    (b2q A E).bind fun B =>
    if (B != 0) then
    some (.ret B)
    else
    a8c A xs 
def b1h (A:x8) (D:(List b0b)):Option Int :=
    (a8c A D ).bind fun q => (match q with
    | .ret r => some r
    | .go _ =>
    some 0)
end Go.R
namespace Go.R
open Go Go.Proofs
set_option maxHeartbeats 8000000
def a9f (B:x8):List Str → Option (Fl Int Unit)
  | [] =>
    some (.go ())
  | G :: xs =>
    ((if (!(G == [95,117,117,105,100])) then
    (a2e B G).bind fun J =>
    some (decide (J < 0))
    else
    some false:Option Bool)).bind fun F =>
    if F then
    some (.ret 11)
    else
    a9f B xs 
def b2r (M:a0b) (A:GOp):Option Int :=
    if (decide (A.Kind > 6)) then
    ((if (A.Kind == 10) then
    (b2i A.Name).bind fun N =>
    some (!N)
    else
    some false:Option Bool)).bind fun K =>
    if K then
    some 3
    else
    some 0
    else
    (a4k M A.Table).bind fun H =>
    if (decide (H < 0)) then
    some 10
    else
    ((if (bif (A.Kind == 1) then (!(A.Name == [])) else false) then
    (b2i A.Name).bind fun O =>
    some (!O)
    else
    some false:Option Bool)).bind fun I =>
    if I then
    some 3
    else
    (idx M.Tables H).bind fun B =>
    (a9f B A.Columns ).bind fun q => (match q with
    | .ret r => some r
    | .go _ =>
    (b1g B A.Where).bind fun D =>
    if (D != 0) then
    some D
    else
    (b2p B A.Row).bind fun E =>
    if (E != 0) then
    some E
    else
    (b1h B A.Muts).bind fun L =>
    some L)
def a3f (D:Str) (A:a0g):List GOp → Nat → Option (Fl (Int × a0g) Unit)
  | [],B =>
    some (.go ())
  | E :: xs,B =>
    ((if (E.Kind == 1) then
    some (E.Name == D)
    else
    some false:Option Bool)).bind fun F =>
    if F then
    (idx A.Ids (B:Int)).bind fun G =>
    some (.ret (G,A))
    else
    a3f D A xs (B + 1)
def a5c (D:Str) (A:a0g):Option (Int × a0g) :=
    (a3f D A A.Ops 0).bind fun q => (match q with
    | .ret r => some r
    | .go _ =>
    some (0,A))
def a1r (A:(List a2c)):List Str → (List x8) → (List (List o5)) → Int → (List GOp) → (List Int) → (List Str) → (List o7) → Option (Fl ((List a2c) × Int × a0g) ((List x8) × (List (List o5)) × Int × (List GOp) × (List Int) × (List Str) × (List o7)))
  | [],F,G,H,I,J,K,L =>
    some (.go (F,G,H,I,J,K,L))
  | Aa :: xs,F,G,H,I,J,K,L =>
    (a5c Aa (⟨(⟨F⟩:a0b),(⟨G,H⟩:x9),I,J,K⟩:a0g)).bind fun B =>
    if (B.1 == 0) then
    some (.ret (A,13,B.2))
    else
    (a8u L (⟨4,B.1,[]⟩:o7)).bind fun Ab =>
    a1r A xs  B.2.S.Tables B.2.X.Tables B.2.X.Next B.2.Ops B.2.Ids B.2.Owned Ab
def a3g :List a2c → (List x8) → (List (List o5)) → Int → (List GOp) → (List Int) → (List Str) → (List a2c) → Option (Fl ((List a2c) × Int × a0g) ((List x8) × (List (List o5)) × Int × (List GOp) × (List Int) × (List Str) × (List a2c)))
  | [],M,N,O,P,R,T,A =>
    some (.go (M,N,O,P,R,T,A))
  | D :: xs,M,N,O,P,R,T,A =>
    (a1r A D.Names M N O P R T D.Value).bind fun q => (match q with
    | .ret r => some (.ret r)
    | .go (Ac,Ad,Ae,Af,Ag,Ah,U) =>
    if (A ++ [(⟨D.Column,U,[]⟩:a2c)]).length ≤ 2 ^ 30 then
    a3g xs  Ac Ad Ae Af Ag Ah (A ++ [(⟨D.Column,U,[]⟩:a2c)])
    else none)
def a5d (Y:(List a2c)) (E:a0g):Option ((List a2c) × Int × a0g) :=
    (a3g Y E.S.Tables E.X.Tables E.X.Next E.Ops E.Ids E.Owned []).bind fun q => (match q with
    | .ret r => some r
    | .go (Ai,Aj,Ak,Al,Am,Ao,V) =>
    some (V,0,(⟨(⟨Ai⟩:a0b),(⟨Aj,Ak⟩:x9),Al,Am,Ao⟩:a0g)))
def a6w (A:a0d):Option (List o7) :=
    if (A.Min == 0) then
    some []
    else
    ((if (A.Kind == 1) then
    some (if (if 0 < A.High then 0 else A.High) > A.Low then (if 0 < A.High then 0 else A.High) else A.Low)
    else
    some 0:Option Int)).bind fun B =>
    some [(⟨A.Kind,B,[]⟩:o7)]
def a8d :List a0d → (List (List o7)) → Option (List (List o7))
  | [],A =>
    some A
  | D :: xs,A =>
    (a6w D).bind fun B =>
    if (A ++ [B]).length ≤ 2 ^ 30 then
    a8d xs  (A ++ [B])
    else none
def b1i (G:x8) (E:Int):Option o5 :=
    (a8d G.Columns []).bind fun F =>
    some (⟨E,F⟩:o5)
def a7d :List (List o7) → (List (List o7)) → Option (List (List o7))
  | [],A =>
    some A
  | B :: xs,A =>
    if ([] ++ B).length ≤ 2 ^ 30 then
    if (A ++ [[] ++ B]).length ≤ 2 ^ 30 then
    a7d xs  (A ++ [[] ++ B])
    else none
    else none
def a4l (D:o5):Option o5 :=
    (a7d D.Cells []).bind fun E =>
    some (⟨D.Id,E⟩:o5)
def a9g (A:a0d):List o7 → Option (Fl Int Unit)
  | [] =>
    some (.go ())
  | F :: xs =>
    ((if (A.Kind == 1) then
    (a5r F.N A.Low A.High).bind fun G =>
    some (!G)
    else
    some false:Option Bool)).bind fun D =>
    if D then
    some (.ret 4)
    else
    a9g A xs 
def a8z (A:a0d) (B:(List o7)):Option Int :=
    ((if (decide ((B.length:Int) > 0)) then
    (idx B 0).bind fun H =>
    some (H.Kind != A.Kind)
    else
    some false:Option Bool)).bind fun E =>
    if E then
    some 9
    else
    (a5r (B.length:Int) A.Min A.Max).bind fun I =>
    if (!I) then
    some 6
    else
    (a9g A B ).bind fun q => (match q with
    | .ret r => some r
    | .go _ =>
    some 0)
def a7e (E:x8):List a2c → (List (List o7)) → Option (Fl (o5 × Int) (List (List o7)))
  | [],A =>
    some (.go A)
  | D :: xs,A =>
    (a2e E D.Column).bind fun B =>
    (idx E.Columns B).bind fun I =>
    (a8z I D.Value).bind fun F =>
    if (F != 0) then
    some (.ret ((⟨0,[]⟩:o5),F))
    else
    if ([] ++ D.Value).length ≤ 2 ^ 30 then
    if (0:Int) ≤ B ∧ B < (A.length:Int) then
    (A[(0 + B.toNat)]?).bind fun L =>
    a7e E xs  (A.set (0 + B.toNat) ([] ++ D.Value))
    else none
    else none
def a8e (E:x8) (K:o5) (G:(List a2c)):Option (o5 × Int) :=
    (a4l K).bind fun H =>
    (a7e E G H.Cells).bind fun q => (match q with
    | .ret r => some r
    | .go J =>
    some ((⟨H.Id,J⟩:o5),0))
def b0j :List o5 → (List o5) → Option (List o5)
  | [],A =>
    some A
  | F :: xs,A =>
    (a4l F).bind fun E =>
    if (A ++ [E]).length ≤ 2 ^ 30 then
    b0j xs  (A ++ [E])
    else none
def b0k :List (List o5) → (List (List o5)) → Option (List (List o5))
  | [],B =>
    some B
  | G :: xs,B =>
    (b0j G []).bind fun D =>
    if (B ++ [D]).length ≤ 2 ^ 30 then
    b0k xs  (B ++ [D])
    else none
def a5e (I:x9):Option x9 :=
    (b0k I.Tables []).bind fun H =>
    some (⟨H,I.Next⟩:x9)
def a6j (B:(List o5)) (E:o5):Nat → Int → Option Int
  | 0,_ => none
  | k + 1,G =>
    ((if (decide (G < (B.length:Int))) then
    (idx B G).bind fun L =>
    some (decide (L.Id < E.Id))
    else
    some false:Option Bool)).bind fun J =>
    if J then
    a6j B E k (w64 (G + 1))
    else
    some G
def a8v (N:x9) (D:Int) (E:o5):Option x9 :=
    (a5e N).bind fun H =>
    if (0:Int) ≤ D ∧ D < (H.Tables.length:Int) then
    (H.Tables[(0 + D.toNat)]?).bind fun B =>
    (a6j B E FUEL 0).bind fun A =>
    if (0:Int) ≤ A ∧ A ≤ (B.length:Int) then
    ((((if (decide (A < (B.length:Int))) then
    (idx B A).bind fun M =>
    some (M.Id == E.Id)
    else
    some false:Option Bool)).bind fun K =>
    if K then
    if (0:Int) ≤ w64 (A + 1) ∧ w64 (A + 1) ≤ (B.length:Int) then
    some (B.drop ((w64 (A + 1)).toNat))
    else none
    else
    some (B.drop A.toNat):Option (List o5))).bind fun F =>
    if (0:Int) ≤ A ∧ A ≤ (B.length:Int) then
    if ([] ++ (B.take A.toNat)).length ≤ 2 ^ 30 then
    (a4l E).bind fun I =>
    if (([] ++ (B.take A.toNat)) ++ [I]).length ≤ 2 ^ 30 then
    if ((([] ++ (B.take A.toNat)) ++ [I]) ++ F).length ≤ 2 ^ 30 then
    if (0:Int) ≤ D ∧ D < (H.Tables.length:Int) then
    some (⟨H.Tables.set (0 + D.toNat) ((([] ++ (B.take A.toNat)) ++ [I]) ++ F),H.Next⟩:x9)
    else none
    else none
    else none
    else none
    else none
    else none
    else none
def a4m (B:Int) (G:GOp) (A:a0g):Nat → Int → Option (Fl (a1m × a0g) Unit)
  | 0,_ => none
  | k + 1,E =>
    ((if (decide (E < B)) then
    some (!(G.Name == []))
    else
    some false:Option Bool)).bind fun I =>
    if I then
    (((idx A.Ops E).bind fun T =>
    if (T.Kind == 1) then
    (idx A.Ops E).bind fun U =>
    some (U.Name == G.Name)
    else
    some false:Option Bool)).bind fun J =>
    if J then
    some (.ret ((⟨8,0,0,[],[]⟩:a1m),A))
    else
    a4m B G A k (w64 (E + 1))
    else
    some (.go ())
def a5u (B:Int) (H:Int) (K:(List a2c)) (A:a0g):Option (a1m × a0g) :=
    (idx A.Ops B).bind fun G =>
    (a4m B G A FUEL 0).bind fun q => (match q with
    | .ret r => some r
    | .go _ =>
    (idx A.X.Tables H).bind fun V =>
    if ((V.length:Int) == 12) then
    some ((⟨7,0,0,[],[]⟩:a1m),A)
    else
    (((idx A.S.Tables H).bind fun L =>
    (idx A.S.Tables H).bind fun M =>
    (idx A.Ids B).bind fun N =>
    (b1i M N).bind fun O =>
    (a8e L O K).bind fun F =>
    some (F.2,F.1.Id,F.1.Cells):Option (Int × Int × (List (List o7))))).bind fun p99 =>
    (match p99 with
    | (D,Y,Aa) =>
    if (D != 0) then
    some ((⟨D,0,0,[],[]⟩:a1m),A)
    else
    (a8v A.X H (⟨Y,Aa⟩:o5)).bind fun P =>
    (idx A.Ids B).bind fun R =>
    some ((⟨0,0,R,[],[]⟩:a1m),(⟨A.S,P,A.Ops,A.Ids,A.Owned⟩:a0g))))
def b0v (E:x8) (B:o5) (A:Str):Option (List o7) :=
    (a2e E A).bind fun D =>
    if (decide (D < 0)) then
    some [(⟨4,B.Id,[]⟩:o7)]
    else
    (idx B.Cells D).bind fun F =>
    some F
def a9h (A:(List o7)):List o7 → Nat → Option (Fl Bool Unit)
  | [],B =>
    some (.go ())
  | D :: xs,B =>
    (idx A (B:Int)).bind fun E =>
    if (!(D.Kind == E.Kind && (D.N == E.N && (D.T == E.T && true)))) then
    some (.ret false)
    else
    a9h A xs (B + 1)
def a7f (F:(List o7)) (A:(List o7)):Option Bool :=
    if ((F.length:Int) != (A.length:Int)) then
    some false
    else
    (a9h A F 0).bind fun q => (match q with
    | .ret r => some r
    | .go _ =>
    some true)
def a6f (B:(List o7)):List o7 → (List o7) → Option (List o7)
  | [],A =>
    some A
  | D :: xs,A =>
    (a8t B D).bind fun F =>
    if (!F) then
    if (A ++ [D]).length ≤ 2 ^ 30 then
    a6f B xs  (A ++ [D])
    else none
    else
    a6f B xs  A
def a7t (G:(List o7)) (B:(List o7)):Option (List o7) :=
    (a6f B G []).bind fun E =>
    some E
def a9i (I:x8) (J:o5) (A:a3k):Option Bool :=
    (b0v I J A.Column).bind fun B =>
    if (A.Func == 1) then
    (a7f B A.Value).bind fun K =>
    some K
    else
    if (A.Func == 2) then
    (a7f B A.Value).bind fun F =>
    some (!F)
    else
    if (A.Func == 7) then
    (a7t A.Value B).bind fun G =>
    some ((G.length:Int) == 0)
    else
    if (A.Func == 8) then
    (a7t A.Value B).bind fun H =>
    some ((H.length:Int) == (A.Value.length:Int))
    else
    if ((B.length:Int) == 0) then
    some false
    else
    (idx B 0).bind fun D =>
    (idx A.Value 0).bind fun E =>
    if (A.Func == 3) then
    some (decide (D.N < E.N))
    else
    if (A.Func == 4) then
    some (decide (D.N ≤ E.N))
    else
    if (A.Func == 5) then
    some (decide (D.N > E.N))
    else
    some (decide (D.N ≥ E.N))
end Go.R
namespace Go.R
open Go Go.Proofs
set_option maxHeartbeats 8000000
def a8f (A:x8) (B:o5):List a3k → Option (Fl Bool Unit)
  | [] =>
    some (.go ())
  | E :: xs =>
    (a9i A B E).bind fun F =>
    if (!F) then
    some (.ret false)
    else
    a8f A B xs 
def a7g (A:x8) (B:o5) (D:(List a3k)):Option Bool :=
    (a8f A B D ).bind fun q => (match q with
    | .ret r => some r
    | .go _ =>
    some true)
def a9j (E:x8) (B:o5):List Str → (List (List o7)) → Option (List (List o7))
  | [],A =>
    some A
  | G :: xs,A =>
    (b0v E B G).bind fun D =>
    if ([] ++ D).length ≤ 2 ^ 30 then
    if (A ++ [[] ++ D]).length ≤ 2 ^ 30 then
    a9j E B xs  (A ++ [[] ++ D])
    else none
    else none
def b2s (E:x8) (B:o5) (F:(List Str)):Option o5 :=
    (a9j E B F []).bind fun H =>
    some (⟨B.Id,H⟩:o5)
def a2n (A:a0g) (B:Int):Nat → Int → (List Str) → Option (List Str)
  | 0,_,_ => none
  | k + 1,H,I =>
    (idx A.S.Tables B).bind fun M =>
    if (decide (H < (M.Columns.length:Int))) then
    (idx A.S.Tables B).bind fun N =>
    (idx N.Columns H).bind fun J =>
    if (I ++ [J.Name]).length ≤ 2 ^ 30 then
    a2n A B k (w64 (H + 1)) (I ++ [J.Name])
    else none
    else
    some I
def a2o (A:a0g) (B:Int) (D:GOp) (E:(List Str)):Nat → Int → (List o5) → Option (List o5)
  | 0,_,_ => none
  | k + 1,F,G =>
    (idx A.X.Tables B).bind fun O =>
    if (decide (F < (O.length:Int))) then
    (idx A.X.Tables B).bind fun P =>
    (idx P F).bind fun K =>
    (idx A.S.Tables B).bind fun R =>
    (a7g R K D.Where).bind fun T =>
    if T then
    (idx A.S.Tables B).bind fun U =>
    (b2s U K E).bind fun L =>
    if (G ++ [L]).length ≤ 2 ^ 30 then
    a2o A B D E k (w64 (F + 1)) (G ++ [L])
    else none
    else
    a2o A B D E k (w64 (F + 1)) G
    else
    some G
def a4a (D:GOp) (B:Int) (A:a0g):Option (a1m × a0g) :=
    if ([] ++ D.Columns).length ≤ 2 ^ 30 then
    ((if ((([] ++ D.Columns).length:Int) == 0) then
    a2n A B FUEL 0 ([] ++ D.Columns)
    else
    some ([] ++ D.Columns):Option (List Str))).bind fun E =>
    (a2o A B D E FUEL 0 []).bind fun V =>
    some ((⟨0,0,0,E,V⟩:a1m),A)
    else none
def a2f (A:a0g) (B:Int) (E:o5):List a2c → Bool → Option Bool
  | [],F =>
    some F
  | K :: xs,F =>
    if F then
    (idx A.S.Tables B).bind fun O =>
    (a2e O K.Column).bind fun P =>
    (idx E.Cells P).bind fun R =>
    (a7f R K.Value).bind fun T =>
    a2f A B E xs T 
    else
    a2f A B E xs false 
def a2g (A:a0g) (B:Int) (I:GOp) (D:(List a2c)):Nat → Int → Bool → Int → Option (Int × Bool)
  | 0,_,_,_ => none
  | k + 1,J,G,H =>
    (idx A.X.Tables B).bind fun U =>
    if (decide (H < (U.length:Int))) then
    (idx A.X.Tables B).bind fun V =>
    (idx V H).bind fun E =>
    (idx A.S.Tables B).bind fun Y =>
    (a7g Y E I.Where).bind fun Aa =>
    if (!Aa) then
    a2g A B I D k J G (w64 (H + 1))
    else
    (a2f A B E D G).bind fun L =>
    a2g A B I D k (w64 (J + 1)) L (w64 (H + 1))
    else
    some (J,G)
def a7h (I:GOp) (B:Int) (D:(List a2c)) (A:a0g):Option (a1m × a0g) :=
    (a2g A B I D FUEL 0 true 0).bind fun p518 =>
    (match p518 with
    | (Ab,M) =>
    ((if (decide (Ab > 0)) then
    some (!(M == I.Until))
    else
    some (!(false == I.Until)):Option Bool)).bind fun N =>
    if N then
    some ((⟨15,0,0,[],[]⟩:a1m),A)
    else
    some ((⟨0,0,0,[],[]⟩:a1m),A))
def a5k (D:x8) (A:(List a3k)):List o5 → (List Int) → Option (List Int)
  | [],B =>
    some B
  | E :: xs,B =>
    (a7g D E A).bind fun H =>
    if H then
    if (B ++ [E.Id]).length ≤ 2 ^ 30 then
    a5k D A xs  (B ++ [E.Id])
    else none
    else
    a5k D A xs  B
def b2t (D:x8) (F:(List o5)) (A:(List a3k)):Option (List Int) :=
    (a5k D A F []).bind fun G =>
    some G
def a8g (A:Int):List o5 → Nat → Option (Fl Int Unit)
  | [],B =>
    some (.go ())
  | E :: xs,B =>
    if (E.Id == A) then
    some (.ret (B:Int))
    else
    a8g A xs (B + 1)
def a4h (D:(List o5)) (A:Int):Option Int :=
    (a8g A D 0).bind fun q => (match q with
    | .ret r => some r
    | .go _ =>
    some (-1))
def b2u (x:x9) (t k:Int):Option x9 :=
    (a5e x).bind fun y =>
    (idx y.Tables t).bind fun l =>
    if (0 ≤ k ∧ k < (l.length:Int)) ∧ l.length ≤ 1073741824 ∧ t < 1073741824 then
    some ⟨y.Tables.set t.toNat (l.take k.toNat ++ l.drop (k.toNat + 1)),y.Next⟩
    else none
def a9k :List o7 → (List o7) → Option (List o7)
  | [],A =>
    some A
  | E :: xs,A =>
    (a7y A E).bind fun F =>
    a9k xs  F
def b4r (D:(List o7)) (G:(List o7)):Option (List o7) :=
    if ([] ++ D).length ≤ 2 ^ 30 then
    (a9k G ([] ++ D)).bind fun B =>
    some B
    else none
def b0l (D:Int) (B:Int) (A:Int):Option (Int × Bool) :=
    ((if (D == 1) then
    some (.go (w64 (B + A)))
    else
    if (D == 2) then
    some (.go (w64 (B - A)))
    else
    if (D == 3) then
    some (.go (w64 (B * A)))
    else
    if (A == 0) then
    some (.ret (0,false))
    else
    if A ≠ 0 then
    if (D == 5) then
    if A ≠ 0 then
    some (.go (B.tmod A))
    else none
    else
    some (.go (w64 (B.tdiv A)))
    else none:Option (Fl (Int × Bool) Int))).bind fun q => (match q with
    | .ret r => some r
    | .go E =>
    (a5r E (-1000000000) 1000000000).bind fun F =>
    some (E,F))
def a5l (A:b0b):List o7 → (List o7) → Option (Fl ((List o7) × Int) (List o7))
  | [],B =>
    some (.go B)
  | H :: xs,B =>
    (idx A.Value 0).bind fun I =>
    (b0l A.Func H.N I.N).bind fun E =>
    if (!E.2) then
    some (.ret ([],4))
    else
    (a7y B (⟨1,E.1,[]⟩:o7)).bind fun J =>
    a5l A xs  J
def b0m (M:a0d) (G:(List o7)) (A:b0b):Option ((List o7) × Int) :=
    ((if (A.Func == 6) then
    (b4r G A.Value).bind fun K =>
    some (.go K)
    else
    if (A.Func == 7) then
    (a7t G A.Value).bind fun L =>
    some (.go L)
    else
    a5l A G []:Option (Fl ((List o7) × Int) (List o7)))).bind fun q => (match q with
    | .ret r => some r
    | .go D =>
    (a8z M D).bind fun F =>
    if (F != 0) then
    some ([],F)
    else
    some (D,0))
def a8h (D:x8):List b0b → (List (List o7)) → Option (Fl (o5 × Int) (List (List o7)))
  | [],B =>
    some (.go B)
  | F :: xs,B =>
    (a2e D F.Column).bind fun A =>
    (idx D.Columns A).bind fun I =>
    if (0:Int) ≤ A ∧ A < (B.length:Int) then
    (B[(0 + A.toNat)]?).bind fun J =>
    (b0m I J F).bind fun E =>
    if (E.2 != 0) then
    some (.ret ((⟨0,[]⟩:o5),E.2))
    else
    if (0:Int) ≤ A ∧ A < (B.length:Int) then
    a8h D xs  (B.set (0 + A.toNat) E.1)
    else none
    else none
def b3y (D:x8) (L:o5) (G:(List b0b)):Option (o5 × Int) :=
    (a4l L).bind fun H =>
    (a8h D G H.Cells).bind fun q => (match q with
    | .ret r => some r
    | .go K =>
    some ((⟨H.Id,K⟩:o5),0))
def a2h (D:Int) (I:(List Int)) (G:GOp) (A:a0g) (E:(List a2c)):List Int → Nat → (List (List o5)) → Int → Option (Fl (a1m × a0g) ((List (List o5)) × Int))
  | [],H,B,F =>
    some (.go (B,F))
  | R :: xs,H,B,F =>
    (idx B D).bind fun T =>
    if H < I.length then
    (a4h T R).bind fun K =>
    if (G.Kind == 5) then
    (b2u (⟨B,F⟩:x9) D K).bind fun O =>
    a2h D I G A E xs (H + 1) O.Tables O.Next
    else
    (((idx A.S.Tables D).bind fun U =>
    (idx B D).bind fun V =>
    (idx V K).bind fun Y =>
    (a8e U Y E).bind fun L =>
    some (L.2,L.1.Id,L.1.Cells):Option (Int × Int × (List (List o7))))).bind fun p220 =>
    (match p220 with
    | (N,Aa,Ab) =>
    ((if (G.Kind == 4) then
    (idx A.S.Tables D).bind fun Ac =>
    (idx B D).bind fun Ad =>
    (idx Ad K).bind fun Ae =>
    (b3y Ac Ae G.Muts).bind fun M =>
    some (M.2,M.1.Id,M.1.Cells)
    else
    some (N,Aa,Ab):Option (Int × Int × (List (List o7))))).bind fun p241 =>
    (match p241 with
    | (J,Af,Ag) =>
    if (J != 0) then
    some (.ret ((⟨J,0,0,[],[]⟩:a1m),(⟨A.S,(⟨B,F⟩:x9),A.Ops,A.Ids,A.Owned⟩:a0g)))
    else
    (a8v (⟨B,F⟩:x9) D (⟨Af,Ag⟩:o5)).bind fun P =>
    a2h D I G A E xs (H + 1) P.Tables P.Next))
    else none
def a5v (G:GOp) (D:Int) (E:(List a2c)) (A:a0g):Option (a1m × a0g) :=
    (idx A.S.Tables D).bind fun Aj =>
    (idx A.X.Tables D).bind fun Ak =>
    (b2t Aj Ak G.Where).bind fun I =>
    (a2h D I G A E I 0 A.X.Tables A.X.Next).bind fun q => (match q with
    | .ret r => some r
    | .go (Ah,Ai) =>
    some ((⟨0,(I.length:Int),0,[],[]⟩:a1m),(⟨A.S,(⟨Ah,Ai⟩:x9),A.Ops,A.Ids,A.Owned⟩:a0g)))
def a3t (A:GOp) (D:a0g):List Str → Option (Fl (a1m × a0g) Unit)
  | [] =>
    some (.go ())
  | M :: xs =>
    if (M == A.Name) then
    some (.ret ((⟨0,0,0,[],[]⟩:a1m),D))
    else
    a3t A D xs 
def a6k (K:Int) (D:a0g):Option (a1m × a0g) :=
    (idx D.Ops K).bind fun A =>
    (b2r D.S A).bind fun L =>
    if (L != 0) then
    some ((⟨L,0,0,[],[]⟩:a1m),D)
    else
    ((if (A.Kind == 7) then
    some true
    else
    some (A.Kind == 9):Option Bool)).bind fun J =>
    if J then
    some ((⟨0,0,0,[],[]⟩:a1m),D)
    else
    if (A.Kind == 8) then
    some ((⟨16,0,0,[],[]⟩:a1m),D)
    else
    if (A.Kind == 10) then
    (a3t A D D.Owned ).bind fun q => (match q with
    | .ret r => some r
    | .go _ =>
    some ((⟨14,0,0,[],[]⟩:a1m),D))
    else
    (a4k D.S A.Table).bind fun E =>
    (a5d A.Row D).bind fun B =>
    if (B.2.1 != 0) then
    some ((⟨B.2.1,0,0,[],[]⟩:a1m),B.2.2)
    else
    if (A.Kind == 1) then
    (a5u K E B.1 B.2.2).bind fun F =>
    some (F.1,F.2)
    else
    if (A.Kind == 2) then
    (a4a A E B.2.2).bind fun G =>
    some (G.1,G.2)
    else
    if (A.Kind == 6) then
    (a7h A E B.1 B.2.2).bind fun H =>
    some (H.1,H.2)
    else
    (a5v A E B.1 B.2.2).bind fun I =>
    some (I.1,I.2)
end Go.R
namespace Go.R
open Go Go.Proofs
set_option maxHeartbeats 8000000
def a7i (B:Int) (E:Int):List o5 → Int → Option Int
  | [],H =>
    some H
  | M :: xs,H =>
    (idx M.Cells B).bind fun N =>
    (a8t N (⟨4,E,[]⟩:o7)).bind fun O =>
    (a7b O).bind fun P =>
    a7i B E xs (w64 (H + P)) 
def a7j (G:a0b) (D:Nat) (A:Int) (E:Int) (F:(List o5)):Nat → Int → Int → Option Int
  | 0,_,_ => none
  | k + 1,I,B =>
    (idx G.Tables (D:Int)).bind fun R =>
    if (decide (B < (R.Columns.length:Int))) then
    (idx G.Tables (D:Int)).bind fun S =>
    (idx S.Columns B).bind fun K =>
    ((if (!K.Strong) then
    some true
    else
    (idx G.Tables A).bind fun T =>
    some (!(K.Ref == T.Name)):Option Bool)).bind fun L =>
    if L then
    a7j G D A E F k I (w64 (B + 1))
    else
    (a7i B E F I).bind fun U =>
    a7j G D A E F k U (w64 (B + 1))
    else
    some I
def a7k (G:a0b) (A:Int) (E:Int):List (List o5) → Int → Nat → Option Int
  | [],J,D =>
    some J
  | F :: xs,J,D =>
    (a7j G D A E F FUEL J 0).bind fun V =>
    a7k G A E xs V (D + 1)
def a6l (G:a0b) (Aa:x9) (A:Int) (E:Int):Option Int :=
    (a7k G A E Aa.Tables 0 0).bind fun Y =>
    some Y
def d1b (a:o7):b1c:=(a.Kind,a.N,a.T)
def c5e (a:b1c):o7:=⟨a.1,a.2.1,a.2.2⟩
def gRow (r:a1n):o5:=⟨r.1,r.2.map (List.map c5e)⟩
def b7m (r:o5):a1n:=(r.Id,r.Cells.map (List.map d1b))
def b9s (t:x8):b5j:=⟨t.Name,t.Columns.map (fun c => ⟨c.Name,c.Kind,c.Min,c.Max,c.Low,c.High,c.Ref,c.Strong⟩),t.Unique,t.Root⟩
def b1j (s:a0b) (x:x9):Option x9 :=
    (c2k (s.Tables.map b9s) (fun ts i id => a6l s ⟨ts.map (List.map gRow),x.Next⟩ (i:Int) id) (fun ts => (a5e ⟨ts.map (List.map gRow),x.Next⟩).bind fun y => if y.Next = x.Next then some (y.Tables.map (List.map b7m)) else none) (fun rf => a4k s rf) (fun rows n => a4h (rows.map gRow) n) (x.Tables.map (List.map b7m))).bind fun r =>
    some (⟨r.map (List.map gRow),x.Next⟩:x9)
theorem e4x (t:List a1n):b4f t = .lst 2 ((t.map gRow).map o6):=by
  simp [b4f,a1f,c8j,o6,gRow,b6f,eA,l9,c5e,Function.comp_def]
theorem d8e (ts:List (List a1n)) (n:Int):a0u ⟨ts.map (List.map gRow),n⟩ = .agg [a3n ts,.I n]:=by
  simp [a0u,a3n,a1f,e4x,Function.comp_def]
theorem e4y (T:List (List o5)) (n:Int):a0u ⟨T,n⟩ = .agg [a3n (T.map (List.map b7m)),.I n]:=by
  simp [a0u,a3n,b4f,a1f,c8j,o6,b7m,b6f,eA,l9,d1b,Function.comp_def]
theorem d8f (s:a0b):a3w s = b9r (s.Tables.map b9s):=by
  simp [a3w,b9r,eTb,eCol,b9s,a0f,a3h,encI,Function.comp_def]
def a9l (D:(List o5)):List o7 → Option (Fl Bool Unit)
  | [] =>
    some (.go ())
  | I :: xs =>
    (a4h D I.N).bind fun J =>
    if (decide (J < 0)) then
    some (.ret false)
    else
    a9l D xs 
def a9m (A:Int) (D:(List o5)):List o5 → Option (Fl Bool Unit)
  | [] =>
    some (.go ())
  | K :: xs =>
    (idx K.Cells A).bind fun L =>
    (a9l D L ).bind fun q => (match q with
    | .ret r => some (.ret r)
    | .go _ =>
    a9m A D xs )
def a6x (F:a0b) (B:Nat) (G:x9) (E:(List o5)):Nat → Int → Option (Fl Bool Unit)
  | 0,_ => none
  | k + 1,A =>
    (idx F.Tables (B:Int)).bind fun M =>
    if (decide (A < (M.Columns.length:Int))) then
    (idx F.Tables (B:Int)).bind fun O =>
    (idx O.Columns A).bind fun H =>
    if (H.Kind != 4) then
    a6x F B G E k (w64 (A + 1))
    else
    (a4k F H.Ref).bind fun P =>
    (idx G.Tables P).bind fun D =>
    (a9m A D E ).bind fun q => (match q with
    | .ret r => some (.ret r)
    | .go _ =>
    a6x F B G E k (w64 (A + 1)))
    else
    some (.go ())
def a9n (F:a0b) (G:x9):List (List o5) → Nat → Option (Fl Bool Unit)
  | [],B =>
    some (.go ())
  | E :: xs,B =>
    (a6x F B G E FUEL 0).bind fun q => (match q with
    | .ret r => some (.ret r)
    | .go _ =>
    a9n F G xs (B + 1))
def b4s (F:a0b) (G:x9):Option Bool :=
    (a9n F G G.Tables 0).bind fun q => (match q with
    | .ret r => some r
    | .go _ =>
    some true)
def a3b (A:(List o5)) (B:Int) (E:Int):List Int → Bool → Option Bool
  | [],F =>
    some F
  | H :: xs,F =>
    if F then
    (idx A B).bind fun K =>
    (idx K.Cells H).bind fun L =>
    (idx A E).bind fun M =>
    (idx M.Cells H).bind fun N =>
    (a7f L N).bind fun O =>
    a3b A B E xs O 
    else
    a3b A B E xs false 
def a3r (B:Int) (A:(List o5)) (D:x8):Nat → Int → Option (Fl Bool Unit)
  | 0,_ => none
  | k + 1,E =>
    if (decide (E < B)) then
    (a3b A B E D.Unique true).bind fun I =>
    if I then
    some (.ret false)
    else
    a3r B A D k (w64 (E + 1))
    else
    some (.go ())
def a2p (A:(List o5)) (D:x8):Nat → Int → Option (Fl Bool Unit)
  | 0,_ => none
  | k + 1,B =>
    ((some ():Option Unit)).bind fun _ =>
    if (bif (decide (B < (A.length:Int))) then (decide ((D.Unique.length:Int) > 0)) else false) then
    (a3r B A D FUEL 0).bind fun q => (match q with
    | .ret r => some (.ret r)
    | .go _ =>
    a2p A D k (w64 (B + 1)))
    else
    some (.go ())
def a3s (J:a0b):List (List o5) → Nat → Option (Fl Bool Unit)
  | [],G =>
    some (.go ())
  | A :: xs,G =>
    (idx J.Tables (G:Int)).bind fun D =>
    (a2p A D FUEL 0).bind fun q => (match q with
    | .ret r => some (.ret r)
    | .go _ =>
    a3s J xs (G + 1))
def b2v (J:a0b) (P:x9):Option Bool :=
    (a3s J P.Tables 0).bind fun q => (match q with
    | .ret r => some r
    | .go _ =>
    some true)
def b0n (A:a0b) (B:x9):Option Int :=
    (b4s A B).bind fun D =>
    if (!D) then
    some 13
    else
    (b2v A B).bind fun E =>
    if (!E) then
    some 12
    else
    some 0
def a4p (D:x9):List GOp → Nat → (List x8) → (List (List o5)) → Int → (List GOp) → (List Int) → (List Str) → (List a1m) → Option (Fl (x9 × (List a1m) × Bool) ((List x8) × (List (List o5)) × Int × (List GOp) × (List Int) × (List Str) × (List a1m)))
  | [],H,I,J,K,L,M,N,B =>
    some (.go (I,J,K,L,M,N,B))
  | Af :: xs,H,I,J,K,L,M,N,B =>
    (a6k (H:Int) (⟨(⟨I⟩:a0b),(⟨J,K⟩:x9),L,M,N⟩:a0g)).bind fun A =>
    if (B ++ [A.1]).length ≤ 2 ^ 30 then
    if (A.1.Code != 0) then
    some (.ret (D,B ++ [A.1],false))
    else
    a4p D xs (H + 1) A.2.S.Tables A.2.X.Tables A.2.X.Next A.2.Ops A.2.Ids A.2.Owned (B ++ [A.1])
    else none
def a5w :List Int → Int → Option Int
  | [],F =>
    some F
  | R :: xs,F =>
    a5w xs  (if w64 (R + 1) > F then w64 (R + 1) else F)
def a6g (T:a0b) (D:x9) (G:(List GOp)) (P:(List Str)):Option (x9 × (List a1m) × Bool) :=
    (b5q G D.Next).bind fun Ae =>
    (a4p D G 0 T.Tables D.Tables D.Next G Ae P []).bind fun q => (match q with
    | .ret r => some r
    | .go (Ag,Aa,Ab,Ah,Ac,Ai,E) =>
    (((b1j T (⟨Aa,Ab⟩:x9)).bind fun U =>
    some (U.Tables,U.Next):Option ((List (List o5)) × Int))).bind fun p67 =>
    (match p67 with
    | (V,Ad) =>
    (a5w Ac Ad).bind fun Y =>
    (b0n T (⟨V,Y⟩:x9)).bind fun O =>
    if (O != 0) then
    if (E ++ [(⟨O,0,0,[],[]⟩:a1m)]).length ≤ 2 ^ 30 then
    some (D,E ++ [(⟨O,0,0,[],[]⟩:a1m)],false)
    else none
    else
    some ((⟨V,Y⟩:x9),E,true)))
def a5m (A:(List Int)):Option o8 :=
    some (⟨A,0,(A.length:Int).tmod 1000⟩:o8)
def a7v (A:Int) (B:o8):Option (Int × o8) :=
    some ((if A < w64 (1 + (w64 ((B.Code.length:Int).tdiv 12))) then A else w64 (1 + (w64 ((B.Code.length:Int).tdiv 12)))),B)
def a2x (A:o8):Option (Int × o8) :=
    if (decide (w64 (A.At + 1) ≤ (A.Code.length:Int))) then
    (idx A.Code (w64 ((w64 (A.At + 1)) - 1))).bind fun B =>
    (idx A.Code (w64 ((w64 (A.At + 1)) - 1))).bind fun D =>
    some (w64 D,(⟨A.Code,w64 (A.At + 1),(w64 ((w64 ((w64 (A.Seed * 31)) + (w64 B))) + 7)).tmod 2147483648⟩:o8))
    else
    if (decide (w64 (A.At + 1) > 3000)) then
    some (0,(⟨A.Code,w64 (A.At + 1),A.Seed⟩:o8))
    else
    some ((w64 (((w64 ((w64 (A.Seed * 1103515245)) + 12345)).tmod 2147483648).tdiv 65536)).tmod 256,(⟨A.Code,w64 (A.At + 1),(w64 ((w64 (A.Seed * 1103515245)) + 12345)).tmod 2147483648⟩:o8))
def a0c (A:Int) (B:o8):Option (Int × o8) :=
    if (decide (A ≤ 1)) then
    some (0,B)
    else
    if (decide (A ≤ 256)) then
    (a2x B).bind fun F =>
    if A ≠ 0 then
    some (F.1.tmod A,F.2)
    else none
    else
    (a2x B).bind fun G =>
    (a2x G.2).bind fun D =>
    (a2x D.2).bind fun E =>
    if A ≠ 0 then
    some ((w64 ((w64 ((w64 (G.1 * 65536)) + (w64 (D.1 * 256)))) + E.1)).tmod A,E.2)
    else none
def a0r (A:Int) (D:o8):Option (Bool × o8) :=
    (a0c A D).bind fun B =>
    some ((B.1 == w64 (A - 1)),B.2)
def a2y (A:(List Str)) (B:o8):Option (Str × o8) :=
    if ((A.length:Int) == 0) then
    some ([],B)
    else
    (a0c (A.length:Int) B).bind fun D =>
    (idx A D.1).bind fun E =>
    some (E,D.2)
def a1a (A:Int) (B:o8):Option (o7 × o8) :=
    if (A == 1) then
    (a0c 12 B).bind fun F =>
    some ((⟨A,w64 (F.1 - 4),[]⟩:o7),F.2)
    else
    if (A == 2) then
    (a2y [[],[97],[98],[99],[110,101,116]] B).bind fun G =>
    some ((⟨A,0,G.1⟩:o7),G.2)
    else
    if (A == 3) then
    (a0c 2 B).bind fun D =>
    some ((⟨A,D.1,[]⟩:o7),D.2)
    else
    (a0c 6 B).bind fun E =>
    some ((⟨4,w64 (1 + E.1),[]⟩:o7),E.2)
def a4b (A:Int):Nat → (List o7) → Int → (List Int) → Int → Int → Option ((List o7) × (List Int) × Int × Int)
  | 0,_,_,_,_,_ => none
  | k + 1,D,F,G,H,I =>
    if (decide (F > 0)) then
    (a1a A (⟨G,H,I⟩:o8)).bind fun B =>
    (a8u D B.1).bind fun K =>
    a4b A k K (w64 (F - 1)) B.2.Code B.2.At B.2.Seed
    else
    some (D,G,H,I)
def a2r (A:Int) (O:o8):Option ((List o7) × o8) :=
    (a0c 5 O).bind fun E =>
    (a4b A FUEL [] E.1 E.2.Code E.2.At E.2.Seed).bind fun p34 =>
    (match p34 with
    | (J,L,M,N) =>
    some (J,(⟨L,M,N⟩:o8)))
def a2i :List a0d → Nat → (List Int) → Int → Int → (List a2c) → Option ((List Int) × Int × Int × (List a2c))
  | [],F,K,L,M,A =>
    some (K,L,M,A)
  | G :: xs,F,K,L,M,A =>
    (((a0r 2 (⟨K,L,M⟩:o8)).bind fun B =>
    if (!B.1) then
    some ((decide ((F:Int) > 0)),B.2.Code,B.2.At,B.2.Seed)
    else
    some (false,B.2.Code,B.2.At,B.2.Seed):Option (Bool × (List Int) × Int × Int))).bind fun p200 =>
    (match p200 with
    | (Ab,O,P,S) =>
    if Ab then
    a2i xs (F + 1) O P S A
    else
    (((a1a G.Kind (⟨O,P,S⟩:o8)).bind fun H =>
    some (H.2.Code,H.2.At,H.2.Seed,[H.1]):Option ((List Int) × Int × Int × (List o7)))).bind fun p211 =>
    (match p211 with
    | (T,U,V,Ae) =>
    ((if (G.Kind == 4) then
    (a0r 2 (⟨T,U,V⟩:o8)).bind fun N =>
    if N.1 then
    (a2y [[112],[113]] N.2).bind fun I =>
    some (I.2.Code,I.2.At,I.2.Seed,[],[I.1])
    else
    (a0r 2 N.2).bind fun D =>
    if D.1 then
    (a2r 4 D.2).bind fun J =>
    some (J.2.Code,J.2.At,J.2.Seed,J.1,[])
    else
    some (D.2.Code,D.2.At,D.2.Seed,[],[])
    else
    some (T,U,V,Ae,[]):Option ((List Int) × Int × Int × (List o7) × (List Str)))).bind fun p230 =>
    (match p230 with
    | (Af,Ag,Ah,Y,Aa) =>
    if (A ++ [(⟨G.Name,Y,Aa⟩:a2c)]).length ≤ 2 ^ 30 then
    a2i xs (F + 1) Af Ag Ah (A ++ [(⟨G.Name,Y,Aa⟩:a2c)])
    else none)))
def a1z (E:Int) (Ad:o8):Option ((List a2c) × o8) :=
    (a2u).bind fun Al =>
    if (0:Int) ≤ E ∧ E < (Al.Tables.length:Int) then
    (Al.Tables[(0 + E.toNat)]?).bind fun Am =>
    (a2i Am.Columns 0 Ad.Code Ad.At Ad.Seed []).bind fun p183 =>
    (match p183 with
    | (Ai,Aj,Ak,Ac) =>
    some (Ac,(⟨Ai,Aj,Ak⟩:o8)))
    else none
end Go.R
namespace Go.R
open Go Go.Proofs
set_option maxHeartbeats 8000000
def a5x (O:Int) (Av:o8):Option (a3k × o8) :=
    (a2u).bind fun Aw =>
    (idx Aw.Tables O).bind fun Ai =>
    (a0r 8 Av).bind fun R =>
    if R.1 then
    (a0c 4 R.2).bind fun E =>
    if (0:Int) ≤ E.1 ∧ E.1 < (4:Int) then
    ([(1:Int),(2:Int),(7:Int),(8:Int)][(0 + E.1.toNat)]?).bind fun Aj =>
    (a1a 4 E.2).bind fun S =>
    some ((⟨[95,117,117,105,100],Aj,[S.1]⟩:a3k),S.2)
    else none
    else
    (((a0c (Ai.Columns.length:Int) R.2).bind fun F =>
    (idx Ai.Columns F.1).bind fun A =>
    some (F.2.Code,F.2.At,F.2.Seed,A.Name,A.Kind,A.Min,A.Max,A.Low,A.High,A.Ref,A.Strong):Option ((List Int) × Int × Int × Str × Int × Int × Int × Int × Int × Str × Bool))).bind fun p33 =>
    (match p33 with
    | (Ak,Al,Am,T,G,Ax,Ay,Az,A0,A1,A2) =>
    (((a0c 4 (⟨Ak,Al,Am⟩:o8)).bind fun H =>
    if (0:Int) ≤ H.1 ∧ H.1 < (4:Int) then
    ([(1:Int),(2:Int),(7:Int),(8:Int)][(0 + H.1.toNat)]?).bind fun Ao =>
    (a2r G H.2).bind fun I =>
    some (I.2.Code,I.2.At,I.2.Seed,Ao,I.1)
    else none:Option ((List Int) × Int × Int × Int × (List o7)))).bind fun p51 =>
    (match p51 with
    | (U,V,Y,Ap,Aq) =>
    ((((if (G == 1) then
    (a0r 2 (⟨U,V,Y⟩:o8)).bind fun J =>
    some (J.1,J.2.Code,J.2.At,J.2.Seed)
    else
    some (false,U,V,Y):Option (Bool × (List Int) × Int × Int))).bind fun p85 =>
    (match p85 with
    | (Aa,Ab,Ac,Ad) =>
    if Aa then
    (a0c 4 (⟨Ab,Ac,Ad⟩:o8)).bind fun K =>
    some (K.2.Code,K.2.At,K.2.Seed,w64 (3 + K.1))
    else
    some (Ab,Ac,Ad,Ap)):Option ((List Int) × Int × Int × Int))).bind fun p77 =>
    (match p77 with
    | (Ar,As,Au,L) =>
    (((a0r 2 (⟨Ar,As,Au⟩:o8)).bind fun B =>
    if B.1 then
    (a1a G B.2).bind fun D =>
    some (D.2.Code,D.2.At,D.2.Seed,[D.1])
    else
    some (B.2.Code,B.2.At,B.2.Seed,Aq):Option ((List Int) × Int × Int × (List o7)))).bind fun p101 =>
    (match p101 with
    | (Ae,Af,Ag,M) =>
    (((a5r L 3 6).bind fun Ah =>
    if Ah then
    some ((M.length:Int) != 1)
    else
    some false:Option Bool)).bind fun P =>
    if P then
    (a1a G (⟨Ae,Af,Ag⟩:o8)).bind fun N =>
    some ((⟨T,L,[N.1]⟩:a3k),N.2)
    else
    some ((⟨T,L,M⟩:a3k),(⟨Ae,Af,Ag⟩:o8))))))
def a4c (A:Int):Nat → Int → (List Int) → Int → Int → (List a3k) → Option ((List Int) × Int × Int × (List a3k))
  | 0,_,_,_,_,_ => none
  | k + 1,F,G,H,I,B =>
    if (decide (F > 0)) then
    (a5x A (⟨G,H,I⟩:o8)).bind fun D =>
    if (B ++ [D.1]).length ≤ 2 ^ 30 then
    a4c A k (w64 (F - 1)) D.2.Code D.2.At D.2.Seed (B ++ [D.1])
    else none
    else
    some (G,H,I,B)
def a4d (A:Int) (N:o8):Option ((List a3k) × o8) :=
    (a0c 3 N).bind fun E =>
    (a4c A FUEL E.1 E.2.Code E.2.At E.2.Seed []).bind fun p31 =>
    (match p31 with
    | (K,L,M,J) =>
    some (J,(⟨K,L,M⟩:o8)))
def a6m (J:Int) (Ar:o8):Option (b0b × o8) :=
    (a2u).bind fun As =>
    (idx As.Tables J).bind fun I =>
    (((a0c (I.Columns.length:Int) Ar).bind fun E =>
    (idx I.Columns E.1).bind fun A =>
    some (E.2.Code,E.2.At,E.2.Seed,A.Name,A.Kind,A.Min,A.Max,A.Low,A.High,A.Ref,A.Strong):Option ((List Int) × Int × Int × Str × Int × Int × Int × Int × Int × Str × Bool))).bind fun p23 =>
    (match p23 with
    | (Aa,Ab,Ac,Ad,Ae,Af,Ag,Ah,Ai,Aj,Ak) =>
    (((a0r 2 (⟨Aa,Ab,Ac⟩:o8)).bind fun D =>
    if D.1 then
    (a0c 2 D.2).bind fun F =>
    (idx I.Columns (w64 ((w64 ((I.Columns.length:Int) - 1)) - F.1))).bind fun B =>
    some (F.2.Code,F.2.At,F.2.Seed,B.Name,B.Kind,B.Min,B.Max,B.Low,B.High,B.Ref,B.Strong)
    else
    some (D.2.Code,D.2.At,D.2.Seed,Ad,Ae,Af,Ag,Ah,Ai,Aj,Ak):Option ((List Int) × Int × Int × Str × Int × Int × Int × Int × Int × Str × Bool))).bind fun p48 =>
    (match p48 with
    | (Al,Am,Ao,K,L,Au,Av,Aw,Ax,Ay,Az) =>
    (((a0c 2 (⟨Al,Am,Ao⟩:o8)).bind fun M =>
    (a2r L M.2).bind fun G =>
    some (G.2.Code,G.2.At,G.2.Seed,w64 (6 + M.1),G.1):Option ((List Int) × Int × Int × Int × (List o7)))).bind fun p66 =>
    (match p66 with
    | (N,O,P,Ap,Aq) =>
    ((if (L == 1) then
    (a0r 4 (⟨N,O,P⟩:o8)).bind fun H =>
    some ((!H.1),H.2.Code,H.2.At,H.2.Seed)
    else
    some (false,N,O,P):Option (Bool × (List Int) × Int × Int))).bind fun p78 =>
    (match p78 with
    | (R,S,T,U) =>
    if R then
    (a0c 5 (⟨S,T,U⟩:o8)).bind fun V =>
    (a0c 9 V.2).bind fun Y =>
    some ((⟨K,w64 (1 + V.1),[(⟨1,w64 (Y.1 - 3),[]⟩:o7)]⟩:b0b),Y.2)
    else
    some ((⟨K,Ap,Aq⟩:b0b),(⟨S,T,U⟩:o8))))))
def a2j :List a0d → (List Int) → Int → Int → (List Str) → Option ((List Int) × Int × Int × (List Str))
  | [],F,G,H,A =>
    some (F,G,H,A)
  | J :: xs,F,G,H,A =>
    (a0r 2 (⟨F,G,H⟩:o8)).bind fun B =>
    if B.1 then
    if (A ++ [J.Name]).length ≤ 2 ^ 30 then
    a2j xs  B.2.Code B.2.At B.2.Seed (A ++ [J.Name])
    else none
    else
    a2j xs  B.2.Code B.2.At B.2.Seed A
def a3u (D:Int) (K:o8):Option ((List Str) × o8) :=
    (a2u).bind fun L =>
    if (0:Int) ≤ D ∧ D < (L.Tables.length:Int) then
    (L.Tables[(0 + D.toNat)]?).bind fun P =>
    (a2j P.Columns K.Code K.At K.Seed []).bind fun p47 =>
    (match p47 with
    | (M,N,O,E) =>
    (a0r 3 (⟨M,N,O⟩:o8)).bind fun I =>
    if I.1 then
    if (E ++ [[95,117,117,105,100]]).length ≤ 2 ^ 30 then
    some (E ++ [[95,117,117,105,100]],I.2)
    else none
    else
    some (E,I.2))
    else none
def a5f (B:(Int × o8)):Nat → Int → (List Int) → Int → Int → (List b0b) → Option ((List Int) × Int × Int × (List b0b))
  | 0,_,_,_,_,_ => none
  | k + 1,O,P,R,S,N =>
    if (decide (O > 0)) then
    (a6m B.1 (⟨P,R,S⟩:o8)).bind fun I =>
    if (N ++ [I.1]).length ≤ 2 ^ 30 then
    a5f B k (w64 (O - 1)) I.2.Code I.2.At I.2.Seed (N ++ [I.1])
    else none
    else
    some (P,R,S,N)
def a7l (Ak:o8):Option (GOp × o8) :=
    (a0c 3 Ak).bind fun B =>
    (a0c 10 B.2).bind fun Ac =>
    (a0c 7 Ac.2).bind fun J =>
    if (0:Int) ≤ J.1 ∧ J.1 < (7:Int) then
    ([(1:Int),(1:Int),(3:Int),(4:Int),(2:Int),(5:Int),w64 (1 + Ac.1)][(0 + J.1.toNat)]?).bind fun A =>
    (((a5r A 1 6).bind fun Ad =>
    if Ad then
    if (0:Int) ≤ B.1 ∧ B.1 < (3:Int) then
    ([[110,111,116,101],[112,111,114,116],[115,119,105,116,99,104]][(0 + B.1.toNat)]?).bind fun Ae =>
    some Ae
    else none
    else
    some []:Option Str)).bind fun D =>
    (((a5r A 2 6).bind fun Af =>
    if Af then
    (a4d B.1 J.2).bind fun K =>
    some (K.2.Code,K.2.At,K.2.Seed,K.1)
    else
    some (J.2.Code,J.2.At,J.2.Seed,[]):Option ((List Int) × Int × Int × (List a3k)))).bind fun p34 =>
    (match p34 with
    | (F,G,H,E) =>
    if (A == 1) then
    (a1z B.1 (⟨F,G,H⟩:o8)).bind fun T =>
    (a2y [[],[112],[113]] T.2).bind fun U =>
    some ((⟨A,D,U.1,E,T.1,[],[],false⟩:GOp),U.2)
    else
    ((if (A == 3) then
    some true
    else
    some (A == 6):Option Bool)).bind fun V =>
    if V then
    (a1z B.1 (⟨F,G,H⟩:o8)).bind fun L =>
    if (A == 6) then
    (a0r 2 L.2).bind fun Y =>
    some ((⟨A,D,[],E,L.1,[],[],Y.1⟩:GOp),Y.2)
    else
    some ((⟨A,D,[],E,L.1,[],[],false⟩:GOp),L.2)
    else
    if (A == 4) then
    (a0c 2 (⟨F,G,H⟩:o8)).bind fun M =>
    (a5f B FUEL (w64 (1 + M.1)) M.2.Code M.2.At M.2.Seed []).bind fun p84 =>
    (match p84 with
    | (Ag,Ah,Ai,Aj) =>
    some ((⟨A,D,[],E,[],Aj,[],false⟩:GOp),(⟨Ag,Ah,Ai⟩:o8)))
    else
    if (A == 2) then
    (a3u B.1 (⟨F,G,H⟩:o8)).bind fun Aa =>
    some ((⟨A,D,[],E,[],[],Aa.1,false⟩:GOp),Aa.2)
    else
    if (A == 9) then
    some ((⟨A,D,[115,97,105,100],E,[],[],[],false⟩:GOp),(⟨F,G,H⟩:o8))
    else
    if (A == 10) then
    (a2y [[108,111,99,107],[111,116,104,101,114]] (⟨F,G,H⟩:o8)).bind fun Ab =>
    some ((⟨A,D,Ab.1,E,[],[],[],false⟩:GOp),Ab.2)
    else
    some ((⟨A,D,[],E,[],[],[],false⟩:GOp),(⟨F,G,H⟩:o8)))
    else none
def a2k :Nat → Int → (List Int) → Int → Int → (List GOp) → Option ((List Int) × Int × Int × (List GOp))
  | 0,_,_,_,_,_ => none
  | k + 1,H,I,J,K,B =>
    if (decide (H > 0)) then
    (a7l (⟨I,J,K⟩:o8)).bind fun D =>
    if (B ++ [D.1]).length ≤ 2 ^ 30 then
    a2k k (w64 (H - 1)) D.2.Code D.2.At D.2.Seed (B ++ [D.1])
    else none
    else
    some (I,J,K,B)
def a6n (V:o8):Option ((List GOp) × o8) :=
    (((a0r 2 V).bind fun E =>
    if E.1 then
    (a1z 1 E.2).bind fun F =>
    if ([] ++ [(⟨1,[112,111,114,116],[112],[],F.1,[],[],false⟩:GOp)]).length ≤ 2 ^ 30 then
    (a1z 2 F.2).bind fun A =>
    if (0:Int) ≤ 1 ∧ 1 ≤ (A.1.length:Int) then
    if ((A.1.take 1) ++ [(⟨[112,111,114,116,115],[],[[112]]⟩:a2c)]).length ≤ 2 ^ 30 then
    if (([] ++ [(⟨1,[112,111,114,116],[112],[],F.1,[],[],false⟩:GOp)]) ++ [(⟨1,[115,119,105,116,99,104],[],[],(A.1.take 1) ++ [(⟨[112,111,114,116,115],[],[[112]]⟩:a2c)],[],[],false⟩:GOp)]).length ≤ 2 ^ 30 then
    some (A.2.Code,A.2.At,A.2.Seed,([] ++ [(⟨1,[112,111,114,116],[112],[],F.1,[],[],false⟩:GOp)]) ++ [(⟨1,[115,119,105,116,99,104],[],[],(A.1.take 1) ++ [(⟨[112,111,114,116,115],[],[[112]]⟩:a2c)],[],[],false⟩:GOp)])
    else none
    else none
    else none
    else none
    else
    some (E.2.Code,E.2.At,E.2.Seed,[]):Option ((List Int) × Int × Int × (List GOp)))).bind fun p17 =>
    (match p17 with
    | (N,O,P,L) =>
    (a0c 4 (⟨N,O,P⟩:o8)).bind fun G =>
    (a2k FUEL G.1 G.2.Code G.2.At G.2.Seed L).bind fun p57 =>
    (match p57 with
    | (S,T,U,M) =>
    some (M,(⟨S,T,U⟩:o8))))
end Go.R
namespace Go.R
open Go Go.Proofs
set_option maxHeartbeats 8000000
def a4e :Nat → Int → (List Int) → Int → Int → (List (List o5)) → Int → Option ((List Int) × Int × Int × (List (List o5)) × Int)
  | 0,_,_,_,_,_,_ => none
  | k + 1,D,E,F,G,H,I =>
    if (decide (D > 0)) then
    (a2u).bind fun M =>
    (a6n (⟨E,F,G⟩:o8)).bind fun A =>
    (a6g M (⟨H,I⟩:x9) A.1 []).bind fun J =>
    a4e k (w64 (D - 1)) A.2.Code A.2.At A.2.Seed J.1.Tables J.1.Next
    else
    some (E,F,G,H,I)
def a7m (U:o8):Option (x9 × o8) :=
    (a2u).bind fun V =>
    (b5p V).bind fun K =>
    (a7v 8 U).bind fun L =>
    (a0c (w64 (L.1 + 5)) L.2).bind fun B =>
    (a4e FUEL B.1 B.2.Code B.2.At B.2.Seed K.Tables K.Next).bind fun p48 =>
    (match p48 with
    | (N,O,P,R,S) =>
    (a5e (⟨R,S⟩:x9)).bind fun T =>
    some (T,(⟨N,O,P⟩:o8)))
def b2w (A:(List Int)):Option x9 :=
    (a5m A).bind fun B =>
    (a7m B).bind fun D =>
    some D.1
def c2l (A:(List Int)) (D:Int) (B:Int):Option Int :=
    if (decide (B ≤ 1)) then
    some 0
    else
    if ((A.length:Int) == 0) then
    if B ≠ 0 then
    some ((w64 (D * 7)).tmod B)
    else none
    else
    if (A.length:Int) ≠ 0 then
    (idx A (D.tmod (A.length:Int))).bind fun E =>
    if (A.length:Int) ≠ 0 then
    (idx A ((w64 (D + 1)).tmod (A.length:Int))).bind fun F =>
    if (A.length:Int) ≠ 0 then
    if B ≠ 0 then
    some ((w64 ((w64 ((w64 ((w64 E) * 31)) + (w64 F))) + (w64 (D.tdiv (A.length:Int))))).tmod B)
    else none
    else none
    else none
    else none
def a6o :List a0d → (List Int) → Int → Int → (List (List o7)) → Option ((List Int) × Int × Int × (List (List o7)))
  | [],F,G,H,E =>
    some (F,G,H,E)
  | I :: xs,F,G,H,E =>
    (a6w I).bind fun L =>
    (((a1g 2 (⟨F,G,H⟩:o8)).bind fun A =>
    if A.1 then
    (a6e I.Kind A.2).bind fun D =>
    some (D.2.Code,D.2.At,D.2.Seed,[D.1])
    else
    some (A.2.Code,A.2.At,A.2.Seed,L):Option ((List Int) × Int × Int × (List o7)))).bind fun p124 =>
    (match p124 with
    | (M,N,O,J) =>
    if (E ++ [J]).length ≤ 2 ^ 30 then
    a6o xs  M N O (E ++ [J])
    else none)
def b1t (B:Int) (V:o8):Option (o5 × o8) :=
    (a2u).bind fun T =>
    if (0:Int) ≤ B ∧ B < (T.Tables.length:Int) then
    (T.Tables[(0 + B.toNat)]?).bind fun Y =>
    (a1e 9 V).bind fun K =>
    (a6o Y.Columns K.2.Code K.2.At K.2.Seed []).bind fun p103 =>
    (match p103 with
    | (U,P,R,S) =>
    some ((⟨w64 (1 + K.1),S⟩:o5),(⟨U,P,R⟩:o8)))
    else none
def b1k (B:(List Int)) (A:Int):Option o5 :=
    (a7x B).bind fun D =>
    (b1t A D).bind fun E =>
    some E.1
def a1o (B:((List o5) → Option Bool)):List (List o5) → Nat → Option (Fl Int Unit)
  | [],A =>
    some (.go ())
  | D :: xs,A =>
    (B D).bind fun E =>
    if E then
    some (.ret (A:Int))
    else
    a1o B xs (A + 1)
def a1u (F:(List (List o5))) (B:((List o5) → Option Bool)):Option Int :=
    (a1o B F 0).bind fun q => (match q with
    | .ret r => some r
    | .go _ =>
    some (-1))
def a1p (A:(List (List o5))) (B:((List o5) → Option Bool)):Option Bool :=
    (a1u A B).bind fun D =>
    some (decide (D ≥ 0))
def a7n (A:(List o5)):List o5 → Nat → Option (Fl Bool Unit)
  | [],B =>
    some (.go ())
  | D :: xs,B =>
    (idx A (w64 ((B:Int) - 1))).bind fun E =>
    if (decide (E.Id ≥ D.Id)) then
    some (.ret false)
    else
    a7n A xs (B + 1)
def b0o (A:(List o5)):Option Bool :=
    (a7n A (A.drop 1) 1).bind fun q => (match q with
    | .ret r => some r
    | .go _ =>
    some true)
def a3m (A:(List o5)):Option Bool :=
    (b0o A).bind fun B =>
    some (!B)
def b5r (D:Int) (B:Int) (A:Int):Option Bool :=
    if (decide (D ≥ B)) then
    some (decide (D ≤ A))
    else
    some false
def a3j (B:x9) (A:Int):Option Int :=
    (a1p B.Tables a3m).bind fun D =>
    if D then
    some 1
    else
    (b5r A 0 (w64 ((B.Tables.length:Int) - 1))).bind fun E =>
    if (!E) then
    some 10
    else
    some 0
def a3c (A:(List o7)):Option (List o7) :=
    if ([] ++ A).length ≤ 2 ^ 30 then
    some ([] ++ A)
    else none
def a9o :List (List o7) → (List (List o7)) → Option (List (List o7))
  | [],A =>
    some A
  | F :: xs,A =>
    (a3c F).bind fun D =>
    if (A ++ [D]).length ≤ 2 ^ 30 then
    a9o xs  (A ++ [D])
    else none
def a9a (E:o5):Option o5 :=
    (a9o E.Cells []).bind fun B =>
    if (decide ((B.length:Int) > 0)) then
    some (⟨E.Id,B⟩:o5)
    else
    some (⟨E.Id,[]⟩:o5)
def a8i :List o5 → (List o5) → Option (List o5)
  | [],A =>
    some A
  | F :: xs,A =>
    (a9a F).bind fun B =>
    if (A ++ [B]).length ≤ 2 ^ 30 then
    a8i xs  (A ++ [B])
    else none
def b1l (D:(List o5)):Option (List o5) :=
    (a8i D []).bind fun E =>
    some E
def a7o :List (List o5) → (List (List o5)) → Option (List (List o5))
  | [],A =>
    some A
  | F :: xs,A =>
    (b1l F).bind fun D =>
    if (A ++ [D]).length ≤ 2 ^ 30 then
    a7o xs  (A ++ [D])
    else none
def a8j (E:x9):Option x9 :=
    (a7o E.Tables []).bind fun B =>
    some (⟨B,E.Next⟩:x9)
def a0s (E:(List o5)) (B:(o5 → Int → Option Int)) (A:Int):Nat → Int → Int → Option Int
  | 0,_,_ => none
  | k + 1,D,F =>
    if (decide (D < F)) then
    (idx E (w64 (Int.fdiv (IntKind.u64.wrap (w64 (D + F))) (2 ^ (min (Int.toNat 1) (IntKind.bits .u64)))))).bind fun H =>
    (B H A).bind fun I =>
    if (decide (I < 0)) then
    a0s E B A k (w64 ((w64 (Int.fdiv (IntKind.u64.wrap (w64 (D + F))) (2 ^ (min (Int.toNat 1) (IntKind.bits .u64))))) + 1)) F
    else
    a0s E B A k D (w64 (Int.fdiv (IntKind.u64.wrap (w64 (D + F))) (2 ^ (min (Int.toNat 1) (IntKind.bits .u64)))))
    else
    some D
def a1q (E:(List o5)) (A:Int) (B:(o5 → Int → Option Int)):Option (Int × Bool) :=
    (a0s E B A FUEL 0 (E.length:Int)).bind fun G =>
    if (decide (G < (E.length:Int))) then
    (idx E G).bind fun J =>
    (B J A).bind fun K =>
    some (G,(K == 0))
    else
    some (G,false)
def cmp_isNaN_int (A:Int):Option Bool :=
    some (A != A)
def cmp_Compare_int (A:Int) (B:Int):Option Int :=
    (cmp_isNaN_int A).bind fun E =>
    (cmp_isNaN_int B).bind fun D =>
    if E then
    if D then
    some 0
    else
    some (-1)
    else
    if D then
    some 1
    else
    if (decide (A < B)) then
    some (-1)
    else
    if (decide (A > B)) then
    some 1
    else
    some 0
def a7p (B:o5) (A:Int):Option Int :=
    (cmp_Compare_int B.Id A).bind fun D =>
    some D
def b1y (A:(List o5)) (D:Int):Option (Int × Bool) :=
    (a1q A D a7p).bind fun B =>
    some (B.1,B.2)
def a5n (D:x9) (A:Int) (B:Int):Option Bool :=
    (idx D.Tables A).bind fun E =>
    (b1y E B).bind fun F =>
    some F.2
def a6y (B:Int) (E:(List (List o7))) (A:Int):Option Int :=
    (cmp_Compare_int B A).bind fun D =>
    some D
def a0a (D:(List o5)) (A:Int):Nat → Int → Int → Option Int
  | 0,_,_ => none
  | k + 1,E,F =>
    if (decide (E < F)) then
    ((D[(0 + (w64 (Int.fdiv (IntKind.u64.wrap (w64 (E + F))) (2 ^ (min (Int.toNat 1) (IntKind.bits .u64))))).toNat)]?)).bind fun G =>
    if (0:Int) ≤ w64 (Int.fdiv (IntKind.u64.wrap (w64 (E + F))) (2 ^ (min (Int.toNat 1) (IntKind.bits .u64)))) ∧ w64 (Int.fdiv (IntKind.u64.wrap (w64 (E + F))) (2 ^ (min (Int.toNat 1) (IntKind.bits .u64)))) < (D.length:Int) then
    (a6y G.Id G.Cells A).bind fun I =>
    if (decide (I < 0)) then
    a0a D A k (w64 ((w64 (Int.fdiv (IntKind.u64.wrap (w64 (E + F))) (2 ^ (min (Int.toNat 1) (IntKind.bits .u64))))) + 1)) F
    else
    a0a D A k E (w64 (Int.fdiv (IntKind.u64.wrap (w64 (E + F))) (2 ^ (min (Int.toNat 1) (IntKind.bits .u64)))))
    else none
    else
    some E
def a1j (D:(List o5)) (A:Int):Option (Int × Bool) :=
    (a0a D A FUEL 0 (D.length:Int)).bind fun B =>
    d9o (D[(0 + B.toNat)]?) (fun H =>
    if (decide (B < (D.length:Int))) then
    if (0:Int) ≤ B ∧ B < (D.length:Int) then
    (a6y H.Id H.Cells A).bind fun J =>
    some (B,(J == 0))
    else none
    else
    some (B,false)) (
    if (decide (B < (D.length:Int))) then
    if (0:Int) ≤ B ∧ B < (D.length:Int) then
    none
    else none
    else
    some (B,false))
def a9t (A:(List o5)) (D:Int):Option (Int × Bool) :=
    (a1j A D).bind fun B =>
    some (B.1,B.2)
def a2s (a0:List o5) (a1:Int) (a2:List o5):Option (List o5) :=
    if (0 ≤ a1 ∧ a1 ≤ (a0.length:Int)) ∧ 0 < a2.length ∧ a0.length + a2.length ≤ 2 ^ 30 then
    some (a0.take a1.toNat ++ a2 ++ a0.drop a1.toNat)
    else none
open Go.RowKit
set_option maxRecDepth 100000 in
set_option maxRecDepth 100000 in
set_option maxRecDepth 100000 in
def b3z (A:(List o5)) (D:Int) (E:(List (List o7))):Option (List o5) :=
    (a9t A D).bind fun B =>
    if B.2 then
    ((A[(0 + B.1.toNat)]?)).bind fun G =>
    if (0:Int) ≤ B.1 ∧ B.1 < (A.length:Int) then
    some (A.set (0 + B.1.toNat) (⟨D,E⟩:o5))
    else none
    else
    (a2s A B.1 [(⟨D,E⟩:o5)]).bind fun F =>
    some F
end Go.R
namespace Go.R
open Go Go.Proofs
set_option maxHeartbeats 8000000
def b4a (D:x9) (A:Int) (G:o5):Option (x9 × Int) :=
    (a3j D A).bind fun H =>
    if (H != 0) then
    some ((⟨[],0⟩:x9),H)
    else
    (a8j D).bind fun B =>
    (((a5n D A G.Id).bind fun I =>
    if (!I) then
    (idx D.Tables A).bind fun J =>
    some (decide ((J.length:Int) ≥ 12))
    else
    some false:Option Bool)).bind fun E =>
    if E then
    some (B,7)
    else
    ((B.Tables[(0 + A.toNat)]?)).bind fun K =>
    if (0:Int) ≤ A ∧ A < (B.Tables.length:Int) then
    (a9a G).bind fun F =>
    (b3z K F.Id F.Cells).bind fun L =>
    if (0:Int) ≤ A ∧ A < (B.Tables.length:Int) then
    some ((⟨B.Tables.set (0 + A.toNat) L,B.Next⟩:x9),0)
    else none
    else none
def a4x (A:(List o5)):List o5 → Nat → Option (Fl Bool Unit)
  | [],B =>
    some (.go ())
  | E :: xs,B =>
    ((if (decide ((B:Int) > 0)) then
    (idx A (w64 ((B:Int) - 1))).bind fun F =>
    some (decide (F.Id ≥ E.Id))
    else
    some false:Option Bool)).bind fun D =>
    if D then
    some (.ret false)
    else
    a4x A xs (B + 1)
def a8k :List (List o5) → Option (Fl Bool Unit)
  | [] =>
    some (.go ())
  | A :: xs =>
    (a4x A A 0).bind fun q => (match q with
    | .ret r => some (.ret r)
    | .go _ =>
    a8k xs )
def b1m (G:x9):Option Bool :=
    (a8k G.Tables ).bind fun q => (match q with
    | .ret r => some r
    | .go _ =>
    some true)
def b4b (B:x9) (A:Int) (E:o5):Option (x9 × Int) :=
    (b1m B).bind fun K =>
    if (!K) then
    some ((⟨[],0⟩:x9),1)
    else
    (a5r A 0 (w64 ((B.Tables.length:Int) - 1))).bind fun L =>
    if (!L) then
    some ((⟨[],0⟩:x9),10)
    else
    (((idx B.Tables A).bind fun F =>
    (a4h F E.Id).bind fun G =>
    if (decide (G < 0)) then
    (idx B.Tables A).bind fun H =>
    some (decide ((H.length:Int) ≥ 12))
    else
    some false:Option Bool)).bind fun D =>
    if D then
    (a5e B).bind fun I =>
    some (I,7)
    else
    (a8v B A E).bind fun J =>
    some (J,0)
def a7q (A:(List o7)):List o7 → Nat → Option (Fl Bool Unit)
  | [],B =>
    some (.go ())
  | D :: xs,B =>
    (idx A (B:Int)).bind fun E =>
    if (!(D.Kind == E.Kind && (D.N == E.N && (D.T == E.T && true)))) then
    some (.ret false)
    else
    a7q A xs (B + 1)
def b0p (F:(List o7)) (A:(List o7)):Option Bool :=
    if ((F.length:Int) != (A.length:Int)) then
    some false
    else
    (a7q A F 0).bind fun q => (match q with
    | .ret r => some r
    | .go _ =>
    some true)
def a9p (A:o5):List (List o7) → Nat → Option (Fl Bool Unit)
  | [],B =>
    some (.go ())
  | E :: xs,B =>
    (idx A.Cells (B:Int)).bind fun F =>
    (b0p E F).bind fun G =>
    if (!G) then
    some (.ret false)
    else
    a9p A xs (B + 1)
def b0w (D:o5) (A:o5):Option Bool :=
    ((some ():Option Unit)).bind fun _ =>
    if (bif (D.Id != A.Id) then true else ((D.Cells.length:Int) != (A.Cells.length:Int))) then
    some false
    else
    (a9p A D.Cells 0).bind fun q => (match q with
    | .ret r => some r
    | .go _ =>
    some true)
def a8l (A:(List o5)):List o5 → Nat → Option (Fl Bool Unit)
  | [],B =>
    some (.go ())
  | E :: xs,B =>
    (idx A (B:Int)).bind fun F =>
    (b0w E F).bind fun G =>
    if (!G) then
    some (.ret false)
    else
    a8l A xs (B + 1)
def b1n (D:(List o5)) (A:(List o5)):Option Bool :=
    if ((D.length:Int) != (A.length:Int)) then
    some false
    else
    (a8l A D 0).bind fun q => (match q with
    | .ret r => some r
    | .go _ =>
    some true)
def a6p (A:x9):List (List o5) → Nat → Option (Fl Bool Unit)
  | [],B =>
    some (.go ())
  | E :: xs,B =>
    (idx A.Tables (B:Int)).bind fun F =>
    (b1n E F).bind fun G =>
    if (!G) then
    some (.ret false)
    else
    a6p A xs (B + 1)
def a9q (D:x9) (A:x9):Option Bool :=
    if ((D.Tables.length:Int) != (A.Tables.length:Int)) then
    some false
    else
    (a6p A D.Tables 0).bind fun q => (match q with
    | .ret r => some r
    | .go _ =>
    some true)
def a8m (A:x9) (B:x9):Option Bool :=
    if (A.Next == B.Next) then
    (a9q A B).bind fun D =>
    some D
    else
    some false
def b1z (B:x9) (A:Int) (F:Int):Option (o5 × Int) :=
    (a3j B A).bind fun D =>
    if (D != 0) then
    some ((⟨0,[]⟩:o5),D)
    else
    (idx B.Tables A).bind fun J =>
    (b1y J F).bind fun E =>
    if (!E.2) then
    some ((⟨0,[]⟩:o5),5)
    else
    (idx B.Tables A).bind fun G =>
    (idx G E.1).bind fun H =>
    (a9a H).bind fun I =>
    some (I,0)
def a0t (B:(o5 → Option Bool)):List o5 → Nat → Option (Fl Int Unit)
  | [],A =>
    some (.go ())
  | D :: xs,A =>
    (B D).bind fun E =>
    if E then
    some (.ret (A:Int))
    else
    a0t B xs (A + 1)
def a1y (F:(List o5)) (B:(o5 → Option Bool)):Option Int :=
    (a0t B F 0).bind fun q => (match q with
    | .ret r => some r
    | .go _ =>
    some (-1))
def a5g (B:o5) (A:Int):Option Bool :=
    some (B.Id == A)
def b4t (a0:List o5) (a1:Int):Option (List o5) :=
    some (a0.filter fun x => !(x.Id == a1))
section
open Go.RowKit Go.Lib
set_option maxHeartbeats 4000000 in
set_option maxRecDepth 100000 in
set_option maxHeartbeats 4000000 in
set_option maxRecDepth 100000 in
theorem b4j (id:Int):∀ (xs:List o5) (s:Nat),(a0t (fun x => a5g x id) xs s = some (.go ()) ∧ ∀ x ∈ xs,(x.Id == id) = false) ∨
    ∃ k,k < xs.length ∧ a0t (fun x => a5g x id) xs s = some (.ret ((s + k:Nat):Int)) ∧ (∀ (j:Nat) x,j < k → xs[j]? = some x → (x.Id == id) = false) ∧ ∀ x,xs[k]? = some x → (x.Id == id) = true
  | [],s => .inl ⟨rfl,by simp⟩
  | x :: xs,s => by
    cases hx:(x.Id == id) with
    | true =>
      refine .inr ⟨0,by simp,?_,fun j y hj => by omega,fun y hy => by simp at hy;rw [← hy];exact hx⟩
      rw [a0t]
      simp only [a5g,Option.bind_some,hx,if_true]
      rfl
    | false =>
      have e:a0t (fun x => a5g x id) (x :: xs) s = a0t (fun x => a5g x id) xs (s + 1):=by
        rw [a0t]
        simp only [a5g,Option.bind_some,hx]
        rfl
      rw [e]
      rcases b4j id xs (s + 1) with ⟨h1,h2⟩ | ⟨k,h1,h2,h3,h4⟩
      · refine .inl ⟨h1,fun y hy => ?_⟩
        rcases List.mem_cons.1 hy with rfl | hy
        · exact hx
        · exact h2 y hy
      · refine .inr ⟨k + 1,by simpa using h1,by rw [h2];congr 2;omega,?_,fun y hy => h4 y (by simpa using hy)⟩
        intro j y hj hy
        rcases j with _ | j
        · simp at hy;rw [← hy];exact hx
        · exact h3 j y (by omega) (by simpa using hy)
set_option maxHeartbeats 4000000 in
set_option maxRecDepth 100000 in
set_option maxHeartbeats 4000000 in
set_option maxRecDepth 100000 in
end
def b0x (D:x9) (A:Int) (E:Int):Option (x9 × Int) :=
    (a3j D A).bind fun F =>
    if (F != 0) then
    some ((⟨[],0⟩:x9),F)
    else
    (a8j D).bind fun B =>
    (a5n D A E).bind fun I =>
    if (!I) then
    some (B,5)
    else
    ((B.Tables[(0 + A.toNat)]?)).bind fun G =>
    if (0:Int) ≤ A ∧ A < (B.Tables.length:Int) then
    (b4t G E).bind fun H =>
    if (0:Int) ≤ A ∧ A < (B.Tables.length:Int) then
    some ((⟨B.Tables.set (0 + A.toNat) H,B.Next⟩:x9),0)
    else none
    else none
def a0q (A:(List (List o5))) (D:((List o5) → (List o5) → Option Bool)):List (List o5) → Nat → Option (Fl Bool Unit)
  | [],B =>
    some (.go ())
  | F :: xs,B =>
    (idx A (B:Int)).bind fun G =>
    (D F G).bind fun H =>
    if (!H) then
    some (.ret false)
    else
    a0q A D xs (B + 1)
def a0v (E:(List (List o5))) (A:(List (List o5))) (D:((List o5) → (List o5) → Option Bool)):Option Bool :=
    if ((E.length:Int) != (A.length:Int)) then
    some false
    else
    (a0q A D E 0).bind fun q => (match q with
    | .ret r => some r
    | .go _ =>
    some true)
def a0j (A:(List o5)) (D:(o5 → o5 → Option Bool)):List o5 → Nat → Option (Fl Bool Unit)
  | [],B =>
    some (.go ())
  | F :: xs,B =>
    (idx A (B:Int)).bind fun G =>
    (D F G).bind fun H =>
    if (!H) then
    some (.ret false)
    else
    a0j A D xs (B + 1)
def a0o (E:(List o5)) (A:(List o5)) (D:(o5 → o5 → Option Bool)):Option Bool :=
    if ((E.length:Int) != (A.length:Int)) then
    some false
    else
    (a0j A D E 0).bind fun q => (match q with
    | .ret r => some r
    | .go _ =>
    some true)
def a0k (A:(List (List o7))) (D:((List o7) → (List o7) → Option Bool)):List (List o7) → Nat → Option (Fl Bool Unit)
  | [],B =>
    some (.go ())
  | F :: xs,B =>
    (idx A (B:Int)).bind fun G =>
    (D F G).bind fun H =>
    if (!H) then
    some (.ret false)
    else
    a0k A D xs (B + 1)
def a0p (E:(List (List o7))) (A:(List (List o7))) (D:((List o7) → (List o7) → Option Bool)):Option Bool :=
    if ((E.length:Int) != (A.length:Int)) then
    some false
    else
    (a0k A D E 0).bind fun q => (match q with
    | .ret r => some r
    | .go _ =>
    some true)
def a1v (A:(List o7)):List o7 → Nat → Option (Fl Bool Unit)
  | [],B =>
    some (.go ())
  | D :: xs,B =>
    (idx A (B:Int)).bind fun E =>
    if (!(D.Kind == E.Kind && (D.N == E.N && (D.T == E.T && true)))) then
    some (.ret false)
    else
    a1v A xs (B + 1)
def a1b (F:(List o7)) (A:(List o7)):Option Bool :=
    if ((F.length:Int) != (A.length:Int)) then
    some false
    else
    (a1v A F 0).bind fun q => (match q with
    | .ret r => some r
    | .go _ =>
    some true)
def a7r (A:o5) (B:o5):Option Bool :=
    if (A.Id == B.Id) then
    (a0p A.Cells B.Cells a1b).bind fun D =>
    some D
    else
    some false
def a6c (A:(List o5)) (B:(List o5)):Option Bool :=
    (a0o A B a7r).bind fun D =>
    some D
def a8n (A:x9) (B:x9):Option Bool :=
    if (A.Next == B.Next) then
    (a0v A.Tables B.Tables a6c).bind fun D =>
    some D
    else
    some false
def b5s (H:(List Int)) (G:(List Int)):Option Bool :=
    ((if (decide ((H.length:Int) > 1048576)) then
    some true
    else
    some (decide ((G.length:Int) > 1048576)):Option Bool)).bind fun M =>
    if M then
    some true
    else
    (b2w H).bind fun E =>
    (c2l G 0 3).bind fun A =>
    (b1k G A).bind fun D =>
    (b4a E A D).bind fun B =>
    (b4b E A D).bind fun J =>
    ((if (B.2 != J.2) then
    some true
    else
    (a8m B.1 J.1).bind fun N =>
    some (!N):Option Bool)).bind fun K =>
    if K then
    some false
    else
    if (B.2 != 0) then
    some (B.2 == 7)
    else
    (b1z B.1 A D.Id).bind fun L =>
    (b0x B.1 A D.Id).bind fun F =>
    (b1z F.1 A D.Id).bind fun O =>
    (b0x F.1 A D.Id).bind fun P =>
    ((if (L.2 != 0) then
    some true
    else
    (b0w L.1 D).bind fun S =>
    if (bif (bif (bif (!S) then true else (F.2 != 0)) then true else (O.2 != 5)) then true else (P.2 != 5)) then
    some true
    else
    (a8n B.1 B.1).bind fun T =>
    some (!T):Option Bool)).bind fun I =>
    if I then
    some false
    else
    (b1z E A D.Id).bind fun U =>
    if (U.2 == 5) then
    (a8m F.1 E).bind fun V =>
    if V then
    (a8n E B.1).bind fun Y =>
    some (!Y)
    else
    some false
    else
    if ((F.1.Tables.length:Int) == (E.Tables.length:Int)) then
    (idx F.1.Tables A).bind fun Aa =>
    (idx E.Tables A).bind fun Ab =>
    some ((Aa.length:Int) == w64 ((Ab.length:Int) - 1))
    else
    some false
end Go.R
end
